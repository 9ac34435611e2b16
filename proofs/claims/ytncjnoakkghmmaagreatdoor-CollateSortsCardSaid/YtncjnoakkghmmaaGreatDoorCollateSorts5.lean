/-
  Texts laid together: LcE, Ka, Kb, Qm, Kc, Kd, Ke, LcU, LcF, Kg, Kh, Ki, Kj, Kk, Kl, Km. Nothing is assumed.
-/
import Derived.Test.YtncjnoakkghmmaaGreatDoorCollateSorts4
import Derived.Test.YtncjnoakkghmmaaGreatDoorCollateSorts2
set_option maxRecDepth 100000
set_option maxHeartbeats 4000000
namespace Go.Proofs.YtncjnoakkghmmaaGreatDoor
open Go.RowKit Go.Lib
open Tryz
set_option linter.unusedVariables false
set_option linter.unusedSimpArgs false
open _root_.Array renaming toList_inj->gI,getElem?_toList->lC
open _root_.Bool renaming or_eq_true->ej,false_eq_true->bp,false_or->dK,true_and->gP,not_false->db,eq_iff_iff->eF,not_true->dm
open _root_.ByteArray renaming empty->af,size_append->aM,append_empty->bF,append_assoc->dE,empty_append->el
open _root_.Go.IntWalk renaming i64_in->ac
open _root_.Go.Lib renaming compareBytes->bL
open _root_.Go.Proofs.Tryz renaming underlying9->am,underlying67->iy,underlying99->dk,underlying21->bl,underlying22->ay,underlying57->cp,results27->gQ,results11->qi
open bM renaming nil->bB
open ce renaming here->fA,nil->fX
open Hd renaming nil->fe
open aH renaming nil->aC
open dM renaming broken->vh
open Vw renaming get->cq
open evL renaming cons->dN,nil->fR
open aP renaming one1->aL
open _root_.Go.Utf8 renaming encode->ae
open _root_.Go.Value renaming string->ad,int->az,bool->ap
open _root_.Int renaming fdiv_eq_ediv_of_nonneg->ke,le_refl->eV,toNat_natCast->cy
open _root_.List renaming nil_append->bj,append_nil->aE,length_cons->ab,length_append->aa,take_append_drop->bo,drop_succ_cons->mC,take_succ_cons->fb,map_cons->au,drop_left->jb,takeWhile_cons->aY,mem_cons_of_mem->ak,mem_cons_self->ar,any_cons->kq,dropWhile_cons->cS,length_nil->aB,takeWhile_map->uq,cons_append->aW,takeWhile_append_dropWhile->eR,length_map->ax,append_assoc->av,mem_singleton->bd,mem_cons->bg,not_mem_nil->dJ,getElem?_eq_getElem->aJ,drop_eq_getElem_cons->aQ,foldl_cons->bz,take_length->lL,take_of_length_le->ff,flatMap_cons->aK,mem_append->bv,mem_filter->cG,getElem?_eq_some_iff->aq,map_map->cF,map_congr_left->dW,mem_of_mem_take->sP,range->fg,all_eq_true->bm,mem_range->mc,flatMap_nil->ol,mem_map->aT,takeWhile_sublist->dU,getElem_mem->oq,length_drop->aR,mem_of_mem_drop->im,map_drop->lz,length_take->aZ,set_append_right->rV,all_takeWhile->uk,length->fS,drop_eq_nil_of_le->bD,filter_append->uo,map_append->dp
open _root_.Nat renaming le_of_not_lt->jT,add_assoc->gZ,add_sub_cancel_left->jh,zero_le->bT,le_refl->aS,sub_self->kB,lt_irrefl->gq,mod_lt->pz,pow_pos->o9,div_lt_of_lt_mul->tz,mul_le_mul_left->ur
open _root_.Option renaming getD_none->nL,getD_some->gg
open _root_.UInt8 renaming toNat_inj->gv,ofNat->jE,toNat_ofNat'->tx
def uP (o1:co) (f:V) (d:Int->Int->Int->Option Int) (x1:dq) (e:Int->Int->Bool->Option Int) (a:Int) (b:Int) (c:Bool):Option Int := grd (gJ x1.Rune) <|G (decide ((a:Int)<0)) (G (((ie x1.Broken x1.Rune):Int)==1) (grd (I64 (x1.At+x1.Width)) <|e x1.At (x1.At+x1.Width) c) (G (decide ((a:Int)<0)) (e a b c) (G (c) (G (((ie x1.Broken x1.Rune):Int)==1) (grd (I64 (x1.At+x1.Width)) <|e a (x1.At+x1.Width) c) (G (((ie x1.Broken x1.Rune):Int)==2) (grd (I64 (x1.At+x1.Width)) <|e a (x1.At+x1.Width) c) (G (((ie x1.Broken x1.Rune):Int)==1) (grd (0<=(a:Int)/\(a:Int)<=b/\(b:Int)<=(f.size:Int)) <|T (ri (c6 f a b)) λ(r2:V)=>G (((cf r2 o1.skips).getD false)) (d b a b) (d 0 a b)) (G (((ie x1.Broken x1.Rune):Int)==3) (grd (0<=(a:Int)/\(a:Int)<=b/\(b:Int)<=(f.size:Int)) <|T (ri (c6 f a b)) λ(r3:V)=>G (((cf r3 o1.skips).getD false)) (d b a b) (d 0 a b)) (e a b false))))) (G (((ie x1.Broken x1.Rune):Int)==1) (grd (0<=(a:Int)/\(a:Int)<=b/\(b:Int)<=(f.size:Int)) <|T (ri (c6 f a b)) λ(l:V)=>G (((cf l o1.skips).getD false)) (d b a b) (d 0 a b)) (G (((ie x1.Broken x1.Rune):Int)==3) (grd (0<=(a:Int)/\(a:Int)<=b/\(b:Int)<=(f.size:Int)) <|T (ri (c6 f a b)) λ(k:V)=>G (((cf k o1.skips).getD false)) (d b a b) (d 0 a b)) (e a b false)))))) (G (decide ((a:Int)<0)) (e a b c) (G (c) (G (((ie x1.Broken x1.Rune):Int)==1) (grd (I64 (x1.At+x1.Width)) <|e a (x1.At+x1.Width) c) (G (((ie x1.Broken x1.Rune):Int)==2) (grd (I64 (x1.At+x1.Width)) <|e a (x1.At+x1.Width) c) (G (((ie x1.Broken x1.Rune):Int)==1) (grd (0<=(a:Int)/\(a:Int)<=b/\(b:Int)<=(f.size:Int)) <|T (ri (c6 f a b)) λ(j:V)=>G (((cf j o1.skips).getD false)) (d b a b) (d 0 a b)) (G (((ie x1.Broken x1.Rune):Int)==3) (grd (0<=(a:Int)/\(a:Int)<=b/\(b:Int)<=(f.size:Int)) <|T (ri (c6 f a b)) λ(i:V)=>G (((cf i o1.skips).getD false)) (d b a b) (d 0 a b)) (e a b false))))) (G (((ie x1.Broken x1.Rune):Int)==1) (grd (0<=(a:Int)/\(a:Int)<=b/\(b:Int)<=(f.size:Int)) <|T (ri (c6 f a b)) λ(h:V)=>G (((cf h o1.skips).getD false)) (d b a b) (d 0 a b)) (G (((ie x1.Broken x1.Rune):Int)==3) (grd (0<=(a:Int)/\(a:Int)<=b/\(b:Int)<=(f.size:Int)) <|T (ri (c6 f a b)) λ(g:V)=>G (((cf g o1.skips).getD false)) (d b a b) (d 0 a b)) (e a b false)))))
def E7 (o1:co) (g:V):Option Int := cm (λ(j:Option Int)=>T (w6 g) λ(r1:V)=>T (uN r1) λ(a:(List dq))=>cm (λ(e:Int->Int->Int->Option Int)=>cm (λ(f:Int->Int->Bool->Option Int)=>jZ f (uP o1 g e) a (-1) 0 true) (λ(d:Int) (i:Int) (b:Bool)=>j)) (λ(x2:Int) (c:Int) (h:Int)=>some x2)) (some 0)
theorem XO (_p:Nat) (o1:co) (_g _c _d _f _q:Hd) {B:V} {r:Int} (h:E7 o1 B=some r):gu prog 58 [zP _p,.string B] [cells _p [_g.v,.map (some (bc _c)),.map (some (bc _d)),.map (some (bc _f)),_q.v] 69,bq _g.v o1.units,cH (λn:V=>ad n) (λn:Int=>az .i64 n) (bc _c) o1.place,dV (bc _d) o1.fors,cH (λn:V=>ad n) (λn:Bool=>ap n) (bc _f) o1.skips,bq _q.v o1.lines] [] (λ_:Unit=>(zI r)) (λ_=>[]):=by
 refine gu.intro func58 rfl ntmps58 (by simp) (λw0 K y=>vm (cJ (Nat×(List Nat)) h 3 rfl (λj1 b=>j1=some r) (λb=>qW b.2) (λb=>[(4,zP b.1)]) (λb=>[cells b.1 [zI 0] 3,iR ((b.2:List Nat).map iJ)]) (λj1 h cut=>?_) ?_))
 ·refine I (lE rfl dc rfl (λb2=>lE rfl dc rfl (λb3=>fZ xY rfl dc (λP=>cw (fZ xY rfl dc (λW=>fZ xY rfl dc (λS=>fJ 4 [zI (-1)] gL rfl rfl rfl rfl rfl (λ_ _=>rfl) rfl (fJ 5 [zI 0] gL rfl rfl rfl rfl rfl (λ_ _=>rfl) rfl (cw (fZ GK rfl dc (λQ=>fJ 6 [.bool true] qq rfl rfl rfl rfl rfl (λ_ _=>rfl) rfl (Y (cut (I (bW 2 eJ rfl dc rfl rfl rfl (aU h λr1 c4 h=>ir [.string B] rfl dc rfl rfl rfl Ay (BC c4) aC (λb8=>kL [iR ((([]:List Nat):List Nat).map iJ),cells b2 [zP _p] 24,cells b3 [.string B] 9,cells P [zI 0] 3,cells W [zI (-1)] 3,cells S [zI 0] 3,cells Q [.bool true] 4,cells b8 [.string r1] 9] (cO 8) (Y (ck (aU h λa0 c3 h=>tg h λN a9 h=>tg h λaw bb h=>wx dq (Int×Int×Bool) (Int×Int×Int) Nat [12] Ro.nil rfl AA (BB c3) (λpre b=>∀post,a0=pre++post->jZ aw (uP o1 B N) post b.1 b.2.1 b.2.2=some r) (λpre b=>[cells b2 [zP _p] 24,cells b3 [.string B] 9,cells P [zI 0] 3,cells W [zI b.1] 3,cells S [zI b.2.1] 3,cells Q [.bool b.2.2] 4]) (λc pre g=>(λg=>c=.ret/\N g.1 g.2.1 g.2.2=some r) g) (λc pre g=>(λg=>[cells b2 [zP _p] 24,cells b3 [.string B] 9,cells P [zI g.1] 3,cells W [zI g.2.1] 3,cells S [zI g.2.2] 3,cells Q [.bool false] 4]) g) (λpre x b j=>[(2,zP b2),(3,zP b3),(4,zP P),(5,zP W),(6,zP S),(7,zP Q),(11,.func (.func 135) #[] #[zP b8]),(8,zP j)]) (λpre x b j=>[cells b2 [zP _p] 24,cells b3 [.string B] 9,cells P [zI 0] 3,cells W [zI b.1] 3,cells S [zI b.2.1] 3,cells Q [.bool b.2.2] 4,cells j (fC x) 102]) ((-1),0,true) (λpost e=>by rw[bj] at e;subst e;exact h) (ct [1,2,3,4,5,6] kr rfl) ⟨.inl ⟨7,rfl⟩,trivial⟩ (λ_=>rfl) dc ?_ ?_ ?_ ?_))))))))))))))))))))
  ·rintro lp rc pre x1 post ⟨f,l,p⟩ w1 K1 t J bk F;have y:=y.ext J;exact bX (fZ rb rfl dc (λb9=>fI 6 (fC x1) (fC x1) mg rfl rfl rfl rfl rfl (show _<=_ by simp) rfl rfl (bC (λa w ha hw=>⟨b9,(gl rfl) _ _ _ ha,hw.weaken (cO 7)⟩))))
  ·rintro lp rc pre x1 H ⟨f,l,p⟩ M w1 K1 t J bk F;have y:=y.ext J;have h:=F (x1::H) t;obtain⟨dw,z⟩:∃ag,ag=jZ aw (uP o1 B N) H:=⟨_,rfl⟩;have h:uP o1 B N x1 dw f l p=some r:=by have h2:=h;rw[qn,<-z] at h2;exact h2
   refine ck (I (ju 6 (fC x1) nm rfl dc rfl rfl rfl rfl (bi h λa8 h=>dF (zI (ie x1.Broken x1.Rune)) [.agg (fC x1).toArray] rfl dc rfl rfl rfl yj (yr x1.At x1.Width x1.Rune x1.Broken a8.1 a8.2) (O 1 rfl (Y (ck (I (bW 3 ed rfl dc rfl rfl rfl (E rfl dL (O 1 rfl (du 35 rfl h (λh=>?_) (λh=>?_))))))))))))
   ·refine O 1 rfl (E rfl eZ (O 2 rfl (Y (bu rfl h (λh=>bi h λa2 h=>Dh Unit 8 7 _ [(0,39,zP M),(1,40,zI x1.At),(2,41,zP M),(3,42,zI x1.At),(4,43,.pointer (some ⟨M,1,none⟩)),(5,44,zI x1.Width),(6,45,zI (x1.At+x1.Width))] (λ_b=>[]) (λ_b=>[cells b2 [zP _p] 24,cells b3 [.string B] 9,cells P [zI 0] 3,cells W [zI x1.At] 3,cells S [zI l] 3,cells Q [.bool p] 4,cells M (fC x1) 102]) mixed kr kr rfl dc dc (by rfl) kr kr (fw (λD n d c u i=>ci nD rfl dc (eG (by rfl) rfl) (show _=0 from rfl) (bf 0 u i)) (fw (λD n d c u i=>bW 6 ed rfl dc (aX 0 u d) rfl rfl (bf 1 u i)) (fw (λD n d c u i=>ci nD rfl dc (eG (by rfl) rfl) (show _=0 from rfl) (bf 2 u i)) (fw (λD n d c u i=>bW 6 ed rfl dc (aX 2 u d) rfl rfl (bf 3 u i)) (fw (λD n d c u i=>ci s6 rfl dc (eG (by rfl) rfl) (show _=1 from rfl) (bf 4 u i)) (fw (λD n d c u i=>bW 6 ed rfl dc (aX 4 u d) rfl rfl (bf 5 u i)) (fw (λD n d c u i=>jX rfl dc (aX 3 u d) (aX 5 u d) (c8 (x1.At+x1.Width) (ac _ a2)) (bf 6 u i)) (fA fX)))))))) (λ_b=>(fw (λD n d c u i=>ci nD rfl dc (eG (by rfl) rfl) (show _=0 from rfl) (bf 0 u i)) (fw (λD n d c u i=>bW 6 ed rfl dc (aX 0 u d) rfl rfl (bf 1 u i)) (fw (λD n d c u i=>ci nD rfl dc (eG (by rfl) rfl) (show _=0 from rfl) (bf 2 u i)) (fw (λD n d c u i=>bW 6 ed rfl dc (aX 2 u d) rfl rfl (bf 3 u i)) (fw (λD n d c u i=>ci s6 rfl dc (eG (by rfl) rfl) (show _=1 from rfl) (bf 4 u i)) (fw (λD n d c u i=>bW 6 ed rfl dc (aX 4 u d) rfl rfl (bf 5 u i)) (fw (λD n d c u i=>jX rfl dc (aX 3 u d) (aX 5 u d) (c8 (x1.At+x1.Width) (ac _ a2)) (bf 6 u i)) (fA fX))))))))) (λD hn hd dA=>fJ 3 [zI x1.At] gL rfl (eG (by rfl) rfl) (jY 1 kr rfl (hd 1 dc)) rfl rfl (λ_ _=>rfl) rfl (λa w ha hw=>⟨(),ha,hw⟩)) (λ_b=>fJ 4 [zI (x1.At+x1.Width)] gL rfl rfl rfl rfl rfl (λ_ _=>rfl) rfl (bC (cg (cg (nz (x1.At,x1.At+x1.Width,p) (λq e2=>by have C:=nA t e2;subst C;subst z;exact h) (cO 6))))))) (λh=>I (bW 3 ed rfl dc rfl rfl rfl (E rfl dL (O 1 rfl (Y (bu rfl h (λh=>bw (cg (cg (nz (f,l,p) (λq e2=>by have C:=nA t e2;subst C;subst z;exact h) (cO 6))))) (λh=>I (bW 5 sW rfl dc rfl rfl rfl (O 1 rfl (du 51 rfl h (λh=>?_) (λh=>?_)))))))))))))))
    ·refine O 1 rfl (E rfl eZ (O 1 rfl (du 54 rfl h (λh=>O 5 rfl (Y (jy rfl (bX (ci nD rfl dc rfl (show _=0 from rfl) (bW 6 ed rfl dc rfl rfl rfl (ci s6 rfl dc rfl (show _=1 from rfl) (bW 6 ed rfl dc rfl rfl rfl (bi h λds h=>E rfl (c8 (x1.At+x1.Width) (ac _ ds)) (fJ 4 [zI (x1.At+x1.Width)] gL rfl rfl rfl rfl rfl (λ_ _=>rfl) rfl (bC (cg (cg (nz (f,x1.At+x1.Width,p) (λq e2=>by have C:=nA t e2;subst C;subst z;exact h) (cO 6))))))))))))))) (λh=>O 1 rfl (E rfl eZ (O 3 rfl (Y (bu rfl h (λh=>bX (ci nD rfl dc rfl (show _=0 from rfl) (bW 6 ed rfl dc rfl rfl rfl (ci s6 rfl dc rfl (show _=1 from rfl) (bW 6 ed rfl dc rfl rfl rfl (bi h λdj h=>E rfl (c8 (x1.At+x1.Width) (ac _ dj)) (fJ 4 [zI (x1.At+x1.Width)] gL rfl rfl rfl rfl rfl (λ_ _=>rfl) rfl (bC (cg (cg (nz (f,x1.At+x1.Width,p) (λq e2=>by have C:=nA t e2;subst C;subst z;exact h) (cO 6)))))))))))) (λh=>I (fJ 5 [.bool false] qq rfl rfl rfl rfl rfl (λ_ _=>rfl) rfl (cw (O 1 rfl (E rfl eZ (O 1 rfl (du 17 rfl h (λh=>O 3 rfl (Y (jy rfl (bV (bV (bi h λdi h=>aU h λr2 c2 h=>jU 9 [(0,21,zP _p),(1,22,zP _p),(2,23,.pointer (some ⟨_p,3,none⟩)),(3,24,.map (some (bc _f))),(4,25,.string B),(5,26,zI f),(6,27,zI l),(7,28,.string (c6 B f l)),(8,29,.string r2)] mixed kr kr dc (by rfl) kr kr (bQ (λD n d c u i=>bW 0 qF rfl dc (eG (by rfl) rfl) rfl rfl (bf 0 u i)) (bQ (λD n d c u i=>iS rfl dc (aX 0 u d) (bf 1 u i)) (bQ (λD n d c u i=>ci tL rfl dc (aX 1 u d) (show _=3 from rfl) (bf 2 u i)) (bQ (λD n d c u i=>ot 0 y rfl tK rfl dc (aX 2 u d) rfl (bf 3 u i)) (bQ (λD n d c u i=>bW 1 eJ rfl dc (eG (by rfl) rfl) rfl rfl (bf 4 u i)) (bQ (λD n d c u i=>bW 3 ed rfl dc (eG (by rfl) rfl) rfl rfl (bf 5 u i)) (bQ (λD n d c u i=>bW 4 ed rfl dc (eG (by rfl) rfl) rfl rfl (bf 6 u i)) (bQ (λD n d c u i=>jj rfl dc (aX 4 u d) (evO.some (aX 5 u d)) (evO.some (aX 6 u d)) (lP f l am (.inr rfl) (.inr rfl) di) (bf 7 u i)) (bQ (λD n d c u i=>dF (.string r2) [.string (c6 B f l)] rfl dc rfl (dN (aX 7 u d) fR) rfl tM (tV c2) (bf 8 u i)) bB))))))))) (tJ 4 (λn:V=>ad n) (λn:Bool=>ap n) r2 false (ou am) iy kr rfl dc rfl rfl y rfl (Y (bu rfl h (λh=>I (bW 4 ed rfl dc rfl rfl rfl (fJ 2 [zI l] gL rfl rfl rfl rfl rfl (λ_ _=>rfl) rfl (Y (bO (bZ (cK (cK (oK (l,f,l) (show _/\_ from ⟨rfl,h⟩) (cO 6)))))))))) (λh=>bw (cu (I (fJ 2 [zI 0] gL rfl rfl rfl rfl rfl (λ_ _=>rfl) rfl (Y (bO (cK (cK (oK (0,f,l) (show _/\_ from ⟨rfl,h⟩) (cO 6))))))))))))))))))) (λh=>O 1 rfl (E rfl eZ (O 1 rfl (Y (bu rfl h (λh=>?_) (λh=>?_)))))))))))))))))))))
     ·exact bV (bV (bi h λdg h=>aU h λr3 c0 h=>jU 9 [(0,21,zP _p),(1,22,zP _p),(2,23,.pointer (some ⟨_p,3,none⟩)),(3,24,.map (some (bc _f))),(4,25,.string B),(5,26,zI f),(6,27,zI l),(7,28,.string (c6 B f l)),(8,29,.string r3)] mixed kr kr dc (by rfl) kr kr (bQ (λD n d c u i=>bW 0 qF rfl dc (eG (by rfl) rfl) rfl rfl (bf 0 u i)) (bQ (λD n d c u i=>iS rfl dc (aX 0 u d) (bf 1 u i)) (bQ (λD n d c u i=>ci tL rfl dc (aX 1 u d) (show _=3 from rfl) (bf 2 u i)) (bQ (λD n d c u i=>ot 0 y rfl tK rfl dc (aX 2 u d) rfl (bf 3 u i)) (bQ (λD n d c u i=>bW 1 eJ rfl dc (eG (by rfl) rfl) rfl rfl (bf 4 u i)) (bQ (λD n d c u i=>bW 3 ed rfl dc (eG (by rfl) rfl) rfl rfl (bf 5 u i)) (bQ (λD n d c u i=>bW 4 ed rfl dc (eG (by rfl) rfl) rfl rfl (bf 6 u i)) (bQ (λD n d c u i=>jj rfl dc (aX 4 u d) (evO.some (aX 5 u d)) (evO.some (aX 6 u d)) (lP f l am (.inr rfl) (.inr rfl) dg) (bf 7 u i)) (bQ (λD n d c u i=>dF (.string r3) [.string (c6 B f l)] rfl dc rfl (dN (aX 7 u d) fR) rfl tM (tV c0) (bf 8 u i)) bB))))))))) (tJ 4 (λn:V=>ad n) (λn:Bool=>ap n) r3 false (ou am) iy kr rfl dc rfl rfl y rfl (Y (bu rfl h (λh=>I (bW 4 ed rfl dc rfl rfl rfl (fJ 2 [zI l] gL rfl rfl rfl rfl rfl (λ_ _=>rfl) rfl (Y (bO (bZ (cK (cK (oK (l,f,l) (show _/\_ from ⟨rfl,h⟩) (cO 6)))))))))) (λh=>bw (cu (I (fJ 2 [zI 0] gL rfl rfl rfl rfl rfl (λ_ _=>rfl) rfl (Y (bO (cK (cK (oK (0,f,l) (show _/\_ from ⟨rfl,h⟩) (cO 6)))))))))))))))
     exact bw (cg (cg (nz (f,l,false) (λq e2=>by have C:=nA t e2;subst C;subst z;exact h) (cO 6))))
    exact O 8 rfl (Y (eU rfl (I (fJ 5 [.bool false] qq rfl rfl rfl rfl rfl (λ_ _=>rfl) rfl (cw (O 1 rfl (E rfl eZ (O 1 rfl (du 17 rfl h (λh=>O 3 rfl (Y (jy rfl (bV (bV (bi h λdf h=>aU h λr4 cv h=>jU 9 [(0,21,zP _p),(1,22,zP _p),(2,23,.pointer (some ⟨_p,3,none⟩)),(3,24,.map (some (bc _f))),(4,25,.string B),(5,26,zI f),(6,27,zI l),(7,28,.string (c6 B f l)),(8,29,.string r4)] mixed kr kr dc (by rfl) kr kr (bQ (λD n d c u i=>bW 0 qF rfl dc (eG (by rfl) rfl) rfl rfl (bf 0 u i)) (bQ (λD n d c u i=>iS rfl dc (aX 0 u d) (bf 1 u i)) (bQ (λD n d c u i=>ci tL rfl dc (aX 1 u d) (show _=3 from rfl) (bf 2 u i)) (bQ (λD n d c u i=>ot 0 y rfl tK rfl dc (aX 2 u d) rfl (bf 3 u i)) (bQ (λD n d c u i=>bW 1 eJ rfl dc (eG (by rfl) rfl) rfl rfl (bf 4 u i)) (bQ (λD n d c u i=>bW 3 ed rfl dc (eG (by rfl) rfl) rfl rfl (bf 5 u i)) (bQ (λD n d c u i=>bW 4 ed rfl dc (eG (by rfl) rfl) rfl rfl (bf 6 u i)) (bQ (λD n d c u i=>jj rfl dc (aX 4 u d) (evO.some (aX 5 u d)) (evO.some (aX 6 u d)) (lP f l am (.inr rfl) (.inr rfl) df) (bf 7 u i)) (bQ (λD n d c u i=>dF (.string r4) [.string (c6 B f l)] rfl dc rfl (dN (aX 7 u d) fR) rfl tM (tV cv) (bf 8 u i)) bB))))))))) (tJ 4 (λn:V=>ad n) (λn:Bool=>ap n) r4 false (ou am) iy kr rfl dc rfl rfl y rfl (Y (bu rfl h (λh=>I (bW 4 ed rfl dc rfl rfl rfl (fJ 2 [zI l] gL rfl rfl rfl rfl rfl (λ_ _=>rfl) rfl (Y (bO (bZ (cK (cK (oK (l,f,l) (show _/\_ from ⟨rfl,h⟩) (cO 6)))))))))) (λh=>bw (cu (I (fJ 2 [zI 0] gL rfl rfl rfl rfl rfl (λ_ _=>rfl) rfl (Y (bO (cK (cK (oK (0,f,l) (show _/\_ from ⟨rfl,h⟩) (cO 6))))))))))))))))))) (λh=>O 1 rfl (E rfl eZ (O 1 rfl (Y (bu rfl h (λh=>bV (bV (bi h λdd h=>aU h λr5 ch h=>jU 9 [(0,21,zP _p),(1,22,zP _p),(2,23,.pointer (some ⟨_p,3,none⟩)),(3,24,.map (some (bc _f))),(4,25,.string B),(5,26,zI f),(6,27,zI l),(7,28,.string (c6 B f l)),(8,29,.string r5)] mixed kr kr dc (by rfl) kr kr (bQ (λD n d c u i=>bW 0 qF rfl dc (eG (by rfl) rfl) rfl rfl (bf 0 u i)) (bQ (λD n d c u i=>iS rfl dc (aX 0 u d) (bf 1 u i)) (bQ (λD n d c u i=>ci tL rfl dc (aX 1 u d) (show _=3 from rfl) (bf 2 u i)) (bQ (λD n d c u i=>ot 0 y rfl tK rfl dc (aX 2 u d) rfl (bf 3 u i)) (bQ (λD n d c u i=>bW 1 eJ rfl dc (eG (by rfl) rfl) rfl rfl (bf 4 u i)) (bQ (λD n d c u i=>bW 3 ed rfl dc (eG (by rfl) rfl) rfl rfl (bf 5 u i)) (bQ (λD n d c u i=>bW 4 ed rfl dc (eG (by rfl) rfl) rfl rfl (bf 6 u i)) (bQ (λD n d c u i=>jj rfl dc (aX 4 u d) (evO.some (aX 5 u d)) (evO.some (aX 6 u d)) (lP f l am (.inr rfl) (.inr rfl) dd) (bf 7 u i)) (bQ (λD n d c u i=>dF (.string r5) [.string (c6 B f l)] rfl dc rfl (dN (aX 7 u d) fR) rfl tM (tV ch) (bf 8 u i)) bB))))))))) (tJ 4 (λn:V=>ad n) (λn:Bool=>ap n) r5 false (ou am) iy kr rfl dc rfl rfl y rfl (Y (bu rfl h (λh=>I (bW 4 ed rfl dc rfl rfl rfl (fJ 2 [zI l] gL rfl rfl rfl rfl rfl (λ_ _=>rfl) rfl (Y (bO (bZ (cK (cK (oK (l,f,l) (show _/\_ from ⟨rfl,h⟩) (cO 6)))))))))) (λh=>bw (cu (I (fJ 2 [zI 0] gL rfl rfl rfl rfl rfl (λ_ _=>rfl) rfl (Y (bO (cK (cK (oK (0,f,l) (show _/\_ from ⟨rfl,h⟩) (cO 6)))))))))))))))) (λh=>bw (cg (cg (nz (f,l,false) (λq e2=>by have C:=nA t e2;subst C;subst z;exact h) (cO 6)))))))))))))))))))
   refine O 4 rfl (Y (eU rfl (I (bW 3 ed rfl dc rfl rfl rfl (E rfl dL (O 1 rfl (Y (bu rfl h (λh=>bw (cg (cg (nz (f,l,p) (λq e2=>by have C:=nA t e2;subst C;subst z;exact h) (cO 6))))) (λh=>I (bW 5 sW rfl dc rfl rfl rfl (O 1 rfl (du 51 rfl h (λh=>?_) (λh=>?_)))))))))))))
   ·refine O 1 rfl (E rfl eZ (O 1 rfl (du 54 rfl h (λh=>O 5 rfl (Y (jy rfl (bX (ci nD rfl dc rfl (show _=0 from rfl) (bW 6 ed rfl dc rfl rfl rfl (ci s6 rfl dc rfl (show _=1 from rfl) (bW 6 ed rfl dc rfl rfl rfl (bi h λc5 h=>E rfl (c8 (x1.At+x1.Width) (ac _ c5)) (fJ 4 [zI (x1.At+x1.Width)] gL rfl rfl rfl rfl rfl (λ_ _=>rfl) rfl (bC (cg (cg (nz (f,x1.At+x1.Width,p) (λq e2=>by have C:=nA t e2;subst C;subst z;exact h) (cO 6))))))))))))))) (λh=>O 1 rfl (E rfl eZ (O 3 rfl (Y (bu rfl h (λh=>bX (ci nD rfl dc rfl (show _=0 from rfl) (bW 6 ed rfl dc rfl rfl rfl (ci s6 rfl dc rfl (show _=1 from rfl) (bW 6 ed rfl dc rfl rfl rfl (bi h λa7 h=>E rfl (c8 (x1.At+x1.Width) (ac _ a7)) (fJ 4 [zI (x1.At+x1.Width)] gL rfl rfl rfl rfl rfl (λ_ _=>rfl) rfl (bC (cg (cg (nz (f,x1.At+x1.Width,p) (λq e2=>by have C:=nA t e2;subst C;subst z;exact h) (cO 6)))))))))))) (λh=>I (fJ 5 [.bool false] qq rfl rfl rfl rfl rfl (λ_ _=>rfl) rfl (cw (O 1 rfl (E rfl eZ (O 1 rfl (du 17 rfl h (λh=>O 3 rfl (Y (jy rfl (bV (bV (bi h λa6 h=>aU h λr6 cc h=>jU 9 [(0,21,zP _p),(1,22,zP _p),(2,23,.pointer (some ⟨_p,3,none⟩)),(3,24,.map (some (bc _f))),(4,25,.string B),(5,26,zI f),(6,27,zI l),(7,28,.string (c6 B f l)),(8,29,.string r6)] mixed kr kr dc (by rfl) kr kr (bQ (λD n d c u i=>bW 0 qF rfl dc (eG (by rfl) rfl) rfl rfl (bf 0 u i)) (bQ (λD n d c u i=>iS rfl dc (aX 0 u d) (bf 1 u i)) (bQ (λD n d c u i=>ci tL rfl dc (aX 1 u d) (show _=3 from rfl) (bf 2 u i)) (bQ (λD n d c u i=>ot 0 y rfl tK rfl dc (aX 2 u d) rfl (bf 3 u i)) (bQ (λD n d c u i=>bW 1 eJ rfl dc (eG (by rfl) rfl) rfl rfl (bf 4 u i)) (bQ (λD n d c u i=>bW 3 ed rfl dc (eG (by rfl) rfl) rfl rfl (bf 5 u i)) (bQ (λD n d c u i=>bW 4 ed rfl dc (eG (by rfl) rfl) rfl rfl (bf 6 u i)) (bQ (λD n d c u i=>jj rfl dc (aX 4 u d) (evO.some (aX 5 u d)) (evO.some (aX 6 u d)) (lP f l am (.inr rfl) (.inr rfl) a6) (bf 7 u i)) (bQ (λD n d c u i=>dF (.string r6) [.string (c6 B f l)] rfl dc rfl (dN (aX 7 u d) fR) rfl tM (tV cc) (bf 8 u i)) bB))))))))) (tJ 4 (λn:V=>ad n) (λn:Bool=>ap n) r6 false (ou am) iy kr rfl dc rfl rfl y rfl (Y (bu rfl h (λh=>I (bW 4 ed rfl dc rfl rfl rfl (fJ 2 [zI l] gL rfl rfl rfl rfl rfl (λ_ _=>rfl) rfl (Y (bO (bZ (cK (cK (oK (l,f,l) (show _/\_ from ⟨rfl,h⟩) (cO 6)))))))))) (λh=>bw (cu (I (fJ 2 [zI 0] gL rfl rfl rfl rfl rfl (λ_ _=>rfl) rfl (Y (bO (cK (cK (oK (0,f,l) (show _/\_ from ⟨rfl,h⟩) (cO 6))))))))))))))))))) (λh=>O 1 rfl (E rfl eZ (O 1 rfl (Y (bu rfl h (λh=>?_) (λh=>?_)))))))))))))))))))))
    ·exact bV (bV (bi h λa5 h=>aU h λr7 b0 h=>jU 9 [(0,21,zP _p),(1,22,zP _p),(2,23,.pointer (some ⟨_p,3,none⟩)),(3,24,.map (some (bc _f))),(4,25,.string B),(5,26,zI f),(6,27,zI l),(7,28,.string (c6 B f l)),(8,29,.string r7)] mixed kr kr dc (by rfl) kr kr (bQ (λD n d c u i=>bW 0 qF rfl dc (eG (by rfl) rfl) rfl rfl (bf 0 u i)) (bQ (λD n d c u i=>iS rfl dc (aX 0 u d) (bf 1 u i)) (bQ (λD n d c u i=>ci tL rfl dc (aX 1 u d) (show _=3 from rfl) (bf 2 u i)) (bQ (λD n d c u i=>ot 0 y rfl tK rfl dc (aX 2 u d) rfl (bf 3 u i)) (bQ (λD n d c u i=>bW 1 eJ rfl dc (eG (by rfl) rfl) rfl rfl (bf 4 u i)) (bQ (λD n d c u i=>bW 3 ed rfl dc (eG (by rfl) rfl) rfl rfl (bf 5 u i)) (bQ (λD n d c u i=>bW 4 ed rfl dc (eG (by rfl) rfl) rfl rfl (bf 6 u i)) (bQ (λD n d c u i=>jj rfl dc (aX 4 u d) (evO.some (aX 5 u d)) (evO.some (aX 6 u d)) (lP f l am (.inr rfl) (.inr rfl) a5) (bf 7 u i)) (bQ (λD n d c u i=>dF (.string r7) [.string (c6 B f l)] rfl dc rfl (dN (aX 7 u d) fR) rfl tM (tV b0) (bf 8 u i)) bB))))))))) (tJ 4 (λn:V=>ad n) (λn:Bool=>ap n) r7 false (ou am) iy kr rfl dc rfl rfl y rfl (Y (bu rfl h (λh=>I (bW 4 ed rfl dc rfl rfl rfl (fJ 2 [zI l] gL rfl rfl rfl rfl rfl (λ_ _=>rfl) rfl (Y (bO (bZ (cK (cK (oK (l,f,l) (show _/\_ from ⟨rfl,h⟩) (cO 6)))))))))) (λh=>bw (cu (I (fJ 2 [zI 0] gL rfl rfl rfl rfl rfl (λ_ _=>rfl) rfl (Y (bO (cK (cK (oK (0,f,l) (show _/\_ from ⟨rfl,h⟩) (cO 6)))))))))))))))
    exact bw (cg (cg (nz (f,l,false) (λq e2=>by have C:=nA t e2;subst C;subst z;exact h) (cO 6))))
   exact O 8 rfl (Y (eU rfl (I (fJ 5 [.bool false] qq rfl rfl rfl rfl rfl (λ_ _=>rfl) rfl (cw (O 1 rfl (E rfl eZ (O 1 rfl (du 17 rfl h (λh=>O 3 rfl (Y (jy rfl (bV (bV (bi h λa4 h=>aU h λr8 bs h=>jU 9 [(0,21,zP _p),(1,22,zP _p),(2,23,.pointer (some ⟨_p,3,none⟩)),(3,24,.map (some (bc _f))),(4,25,.string B),(5,26,zI f),(6,27,zI l),(7,28,.string (c6 B f l)),(8,29,.string r8)] mixed kr kr dc (by rfl) kr kr (bQ (λD n d c u i=>bW 0 qF rfl dc (eG (by rfl) rfl) rfl rfl (bf 0 u i)) (bQ (λD n d c u i=>iS rfl dc (aX 0 u d) (bf 1 u i)) (bQ (λD n d c u i=>ci tL rfl dc (aX 1 u d) (show _=3 from rfl) (bf 2 u i)) (bQ (λD n d c u i=>ot 0 y rfl tK rfl dc (aX 2 u d) rfl (bf 3 u i)) (bQ (λD n d c u i=>bW 1 eJ rfl dc (eG (by rfl) rfl) rfl rfl (bf 4 u i)) (bQ (λD n d c u i=>bW 3 ed rfl dc (eG (by rfl) rfl) rfl rfl (bf 5 u i)) (bQ (λD n d c u i=>bW 4 ed rfl dc (eG (by rfl) rfl) rfl rfl (bf 6 u i)) (bQ (λD n d c u i=>jj rfl dc (aX 4 u d) (evO.some (aX 5 u d)) (evO.some (aX 6 u d)) (lP f l am (.inr rfl) (.inr rfl) a4) (bf 7 u i)) (bQ (λD n d c u i=>dF (.string r8) [.string (c6 B f l)] rfl dc rfl (dN (aX 7 u d) fR) rfl tM (tV bs) (bf 8 u i)) bB))))))))) (tJ 4 (λn:V=>ad n) (λn:Bool=>ap n) r8 false (ou am) iy kr rfl dc rfl rfl y rfl (Y (bu rfl h (λh=>I (bW 4 ed rfl dc rfl rfl rfl (fJ 2 [zI l] gL rfl rfl rfl rfl rfl (λ_ _=>rfl) rfl (Y (bO (bZ (cK (cK (oK (l,f,l) (show _/\_ from ⟨rfl,h⟩) (cO 6)))))))))) (λh=>bw (cu (I (fJ 2 [zI 0] gL rfl rfl rfl rfl rfl (λ_ _=>rfl) rfl (Y (bO (cK (cK (oK (0,f,l) (show _/\_ from ⟨rfl,h⟩) (cO 6))))))))))))))))))) (λh=>O 1 rfl (E rfl eZ (O 1 rfl (Y (bu rfl h (λh=>bV (bV (bi h λa3 h=>aU h λr9 a1 h=>jU 9 [(0,21,zP _p),(1,22,zP _p),(2,23,.pointer (some ⟨_p,3,none⟩)),(3,24,.map (some (bc _f))),(4,25,.string B),(5,26,zI f),(6,27,zI l),(7,28,.string (c6 B f l)),(8,29,.string r9)] mixed kr kr dc (by rfl) kr kr (bQ (λD n d c u i=>bW 0 qF rfl dc (eG (by rfl) rfl) rfl rfl (bf 0 u i)) (bQ (λD n d c u i=>iS rfl dc (aX 0 u d) (bf 1 u i)) (bQ (λD n d c u i=>ci tL rfl dc (aX 1 u d) (show _=3 from rfl) (bf 2 u i)) (bQ (λD n d c u i=>ot 0 y rfl tK rfl dc (aX 2 u d) rfl (bf 3 u i)) (bQ (λD n d c u i=>bW 1 eJ rfl dc (eG (by rfl) rfl) rfl rfl (bf 4 u i)) (bQ (λD n d c u i=>bW 3 ed rfl dc (eG (by rfl) rfl) rfl rfl (bf 5 u i)) (bQ (λD n d c u i=>bW 4 ed rfl dc (eG (by rfl) rfl) rfl rfl (bf 6 u i)) (bQ (λD n d c u i=>jj rfl dc (aX 4 u d) (evO.some (aX 5 u d)) (evO.some (aX 6 u d)) (lP f l am (.inr rfl) (.inr rfl) a3) (bf 7 u i)) (bQ (λD n d c u i=>dF (.string r9) [.string (c6 B f l)] rfl dc rfl (dN (aX 7 u d) fR) rfl tM (tV a1) (bf 8 u i)) bB))))))))) (tJ 4 (λn:V=>ad n) (λn:Bool=>ap n) r9 false (ou am) iy kr rfl dc rfl rfl y rfl (Y (bu rfl h (λh=>I (bW 4 ed rfl dc rfl rfl rfl (fJ 2 [zI l] gL rfl rfl rfl rfl rfl (λ_ _=>rfl) rfl (Y (bO (bZ (cK (cK (oK (l,f,l) (show _/\_ from ⟨rfl,h⟩) (cO 6)))))))))) (λh=>bw (cu (I (fJ 2 [zI 0] gL rfl rfl rfl rfl rfl (λ_ _=>rfl) rfl (Y (bO (cK (cK (oK (0,f,l) (show _/\_ from ⟨rfl,h⟩) (cO 6)))))))))))))))) (λh=>bw (cg (cg (nz (f,l,false) (λq e2=>by have C:=nA t e2;subst C;subst z;exact h) (cO 6)))))))))))))))))))
  ·rintro L ⟨f,l,p⟩ F;have h:aw f l p=some r:=F [] (aE _).symm;rw[bb] at h;show TX _ _ _ _ _ _ _ [iR ((([]:List Nat):List Nat).map iJ),cT,cT,cT,cT,cT,cT,cells b8 [.string r1] 9,cells b2 [zP _p] 24,cells b3 [.string B] 9,cells P [zI 0] 3,cells W [zI f] 3,cells S [zI l] 3,cells Q [.bool p] 4,iJ L];exact vl 14 0 rfl rfl dc (cg (iW (P,L::([]:List Nat)) h rfl (gl rfl) (ct [10,0] kr rfl)))
  rintro L c pre x1 post g dz hX;obtain⟨rfl,h⟩:=(show _/\_ from hX);obtain⟨x2,ao,bh⟩:=g;rw[a9] at h;show TC _ _ _ _ _ _ _ _ _ [iR ((([]:List Nat):List Nat).map iJ),cT,cT,cT,cT,cT,cT,cells b8 [.string r1] 9,cells b2 [zP _p] 24,cells b3 [.string B] 9,cells P [zI x2] 3,cells W [zI ao] 3,cells S [zI bh] 3,cells Q [.bool false] 4,iJ L];refine Gu 0 (k:=14) rfl rfl dc (bO (cK (bZ ?_)));cases h;exact sw [.cell 4 3] (L::([]:List Nat)) () (.inl rfl) (sq 0 rfl) results58 (.cons (.cell ed (k:=10) rfl rfl) .nil) rfl aC
 rintro⟨b1,ds1⟩ h;refine I (fJ 0 [zI 0] gL rfl rfl rfl rfl rfl (λ_ _=>rfl) rfl (Y (bO ?_)));cases h;exact sw [.cell 4 3] ds1 () (.inl rfl) (sq 1 rfl) results58 (.cons (.cell ed (k:=0) rfl rfl) .nil) rfl aC
def E8 (a:V):Option (List dq) := T (w6 a) λ(r1:V)=>T (IG r1) λ(r2:(List dq))=>some r2
theorem XP {a:V} {r:(List dq)} (h:E8 a=some r):Fn prog 60 [.string a] [] (λv0:Value=>v0) (λv0=>[rh v0 r]):=by
 refine Fn.intro func60 rfl ntmps60 (by simp) (λw0 K=>I (O 1 rfl (cw (O 1 rfl (aU h λr1 c h=>ir [.string a] rfl dc rfl rfl rfl Ay (BC c) aC (λb1=>aU h λr2 b h=>ir [.func (.func 135) #[] #[zP b1]] rfl dc rfl rfl rfl TH (XL b1 b) (cO 1) (λv1=>O 1 rfl (Y (bO ?_)))))))));cases h;exact eW [.tmp 2] v1 (.inl rfl) results60 (.cons (.tmp rfl) .nil) rfl (ct [2] kr rfl)
def BV (o1:co) (i:List dq) (n:Int->Nat->(List V)->Option (Int×(List V))) (m:Int->V->Nat->(List V)->Int->Option (Int×(List V))) (c:Int) (a:V) (f:Nat) (b:List V) (e:Int):Option (Int×(List V)) := G (decide ((e:Int)<((ee i 0 (min (i.length:Int) 8)).length:Int))) (cm (λ(l:Int->V->Nat->(List V)->Option (Int×(List V)))=>T (cj (ee i 0 (min (i.length:Int) 8)) e) λ(q1:dq)=>G (q1.Broken) (n c f b) (grd (gJ q1.Rune) <|grd (a.size+(ae (cP q1.Rune)).size<=9223372036854775807) <|G ((cf (a++(ae (cP q1.Rune))) o1.place).isSome) (grd (I64 (e+1)) <|l (e+1) (a++(ae (cP q1.Rune))) 1 ([a++(ae (cP q1.Rune))]:List V)) (G ((cf (a++(ae (cP q1.Rune))) o1.fors).isSome) (grd (I64 (e+1)) <|T ((cf (a++(ae (cP q1.Rune))) o1.fors)) λ(j:List V)=>l (e+1) (a++(ae (cP q1.Rune))) 2 j) (l c (a++(ae (cP q1.Rune))) f b)))) (λ(h:Int) (g:V) (k:Nat) (d:List V)=>grd (I64 (e+1)) <|m h g k d (e+1))) (n c f b)
def xh (d:(List V)->Option (Int×(List V))) (r1:V) (c:(List V)->Nat->Option (Int×(List V))) (a:List V) (b:Nat):Option (Int×(List V)) := G (decide (b<(fK r1.data.toList).length)) (T ((fK r1.data.toList)[b]?) λ(p1:Pc)=>grd (a.length+1<=2147483648) <|c (a++[ae (p1.r:Int)]) (b+1)) (d a)
def E9 (o1:co) (d:List dq):Option (Int×(List V)) := cm (λ(g:Int->Nat->(List V)->Option (Int×(List V)))=>grd (0<=(0:Int)/\(0:Int)<=(min (d.length:Int) 8)/\(min (d.length:Int) 8:Int)<=(d.length:Int)) <|bP (λ_ _ _ _ _=>none) (BV o1 d g) bN 0 (⟨#[]⟩:V) 0 ([]:List V) 0) (λ(c:Int) (e:Nat) (b:List V)=>G (decide ((0:Int)<c)) (some (c,b)) (cm (λ(f:(List V)->Option (Int×(List V)))=>grd (e=0) <|T (cj d 0) λ(q2:dq)=>grd (gJ q2.Rune) <|T (EI (cP q2.Rune)) λ(r1:V)=>bP (λ_ _=>none) (xh f r1) bN ([]:List V) 0) (λ(a:List V)=>some (1,a))))
theorem XQ (_p:Nat) (o1:co) (_g _c _d _f _q:Hd) {x y:Value} {S:List dq} {u:Nat} {F:List dq} (t:Vw x S 4 u y F) {r:(Int×(List V))} (h:E9 o1 F=some r):AL prog 62 [zP _p,y] [cells _p [_g.v,.map (some (bc _c)),.map (some (bc _d)),.map (some (bc _f)),_q.v] 69,bq _g.v o1.units,cH (λn:V=>ad n) (λn:Int=>az .i64 n) (bc _c) o1.place,dV (bc _d) o1.fors,cH (λn:V=>ad n) (λn:Bool=>ap n) (bc _f) o1.skips,bq _q.v o1.lines,iM qs 4 x u S] (λv0:Hd=>.tuple #[zI r.1,v0.v]) (λv0=>[nO gK 1 v0 r.2]):=by
 refine AL.intro func62 rfl ntmps62 (by simp) (λw0 K d=>?_);obtain⟨Lf,c2,d⟩:=d.fors (i:=3) rfl
 replace d:Rd _ _ [cells _p [_g.v,.map (some (bc _c)),.map (some (bc _d)),.map (some (bc _f)),_q.v] 69,bq _g.v o1.units,cH (λn:V=>ad n) (λn:Int=>az .i64 n) (bc _c) o1.place,dV (bc _d) o1.fors,cH (λn:V=>ad n) (λn:Bool=>ap n) (bc _f) o1.skips,bq _q.v o1.lines,iM qs 4 x u S,rB (bc _d) Lf,qY Lf]:=d
 refine cJ (Int×Nat×(List V)×Hd) h 3 rfl (λj1 b=>j1 b.1 b.2.1 b.2.2.1=some r/\pI b.2.1 b.2.2.2 b.2.2.1 Lf) (λb=>[]) (λb=>[(1,y),(6,zI b.1),(8,b.2.2.2.v)]) (λb=>[qK b.2.1 b.2.2.2 b.2.2.1,wR w0 K]) (λj1 h cut=>?_) ?_
 ·refine I (O 2 rfl (cw (O 2 rfl (cw (O 1 rfl (xJ gK 9 1 (su 1 rfl (UL 9) (Y (cut (I (O 2 rfl (jl t rfl dc rfl dk (Dt rfl dc rfl rfl (bi h λcc h=>?_))))))))))))));obtain⟨v1,M,a9⟩:=pf none (some (zI (min (F.length:Int) 8))) t dk mg (.inl ⟨rfl,rfl⟩) (.inr rfl) cc;refine jj rfl dc rfl rfl rfl a9 (jl M rfl dc rfl dk (O 1 rfl (Y (ck (n9 (Int×V×Nat×(List V)×Int×Hd) (BV o1 F j1) (λa b=>a b.1 b.2.1 b.2.2.1 b.2.2.2.1 b.2.2.2.2.1=some r/\pI b.2.2.1 b.2.2.2.2.2 b.2.2.2.1 Lf) (λb=>[]) (λb=>[(0,zP _p),(1,y),(6,zI b.1),(7,.string b.2.1),(8,b.2.2.2.2.2.v),(21,v1),(22,zI ((ee F 0 (min (F.length:Int) 8)).length:Int)),(23,zI b.2.2.2.2.1)]) (λb=>[qK b.2.2.1 b.2.2.2.2.2 b.2.2.2.1,wR w0 K]) (0,(⟨#[]⟩:V),0,([]:List V),0,fe) ⟨h,pI.nil⟩ rfl (gl rfl) (ct [1,0] kr rfl) ?_)))));rintro dd ⟨l,c,J,f,D,N⟩ ⟨h,L⟩;refine I (E rfl dL (Y (bV (bu rfl h (λh=>?_) (λh=>?_)))))
  ·refine bw (cu (cJ (Int×V×Nat×(List V)×Hd) h 0 rfl (λj2 b=>j2 b.1 b.2.1 b.2.2.1 b.2.2.2.1=some r/\pI b.2.2.1 b.2.2.2.2 b.2.2.2.1 Lf) (λb=>[]) (λb=>[(0,zP _p),(1,y),(6,zI b.1),(7,.string b.2.1),(8,b.2.2.2.2.v),(21,v1),(22,zI ((ee F 0 (min (F.length:Int) 8)).length:Int)),(23,zI D)]) (λb=>[qK b.2.2.1 b.2.2.2.2 b.2.2.2.1,wR w0 K]) (λj2 h cut=>cut (ck (I (O 1 rfl (aU h λq1 aw h=>gm M aw dk mg rfl dc rfl rfl rfl (rz 6 (u+(D:Int).toNat) 0 q1 (fC q1) d rfl z1 nm rfl dc rfl (cq M aw) rfl rfl rfl (fZ rb rfl dc (λb1=>O 1 rfl (fI 2 (fC q1) (fC q1) mg rfl rfl rfl rfl rfl (show _<=_ by simp) rfl rfl (Y (bV (I (ci DI rfl dc rfl (show _=3 from rfl) (bW 2 sW rfl dc rfl rfl rfl (Y (bu rfl h (λh=>dG (bS (Da dc (bS (bS (dH (mD (l,J,f,N) ⟨h,L⟩ 2))))))) (λh=>bw (cu (I (O 1 rfl (ci sy rfl dc rfl (show _=2 from rfl) (bW 2 fU rfl dc rfl rfl rfl (bi h λa1 h=>dF (.int .i32 (cP q1.Rune)) [.int .i32 q1.Rune] rfl dc rfl rfl rfl DU (pc λw=>AH q1.Rune w a1.1 a1.2) (jI rfl dc rfl (nM bl am) (bi h λb9 h=>E rfl (ni b9) (O 1 rfl (cw (O 1 rfl (iS rfl dc rfl (ci yd rfl dc rfl (show _=1 from rfl) (ot 0 d rfl ya rfl dc rfl rfl (O 1 rfl (DA 2 (λn:V=>ad n) (λn:Int=>az .i64 n) (c++(ae (cP q1.Rune))) 0 (ou am) underlying65 kr rfl dc rfl rfl d rfl (O 1 rfl (fF rfl dc rfl rfl (fF rfl dc rfl rfl (O 2 rfl (cw (O 1 rfl (Y (bu rfl h (λh=>bX (O 1 rfl (bi h λb8 h=>E rfl (c8 (D+1) (ac _ b8)) (O 1 rfl (hQ [(0,.tmp 48)] 9 [.string (c++(ae (cP q1.Rune)))] rfl dc rfl (λ_=>by kernel_rfl) (λb2=>O 2 rfl (pd 3 ([c++(ae (cP q1.Rune))]:List V) rfl gG rfl (show 1<=maxLen by decide) (su 3 rfl (Hy (⟨some ⟨b2,0,none⟩,1,1⟩:Hd)) (bC (cg (iW (D+1,c++(ae (cP q1.Rune)),1,([c++(ae (cP q1.Rune))]:List V),(⟨some ⟨b2,0,none⟩,1,1⟩:Hd)) ⟨h,pI.own⟩ rfl (gl rfl) (ct [3,1] kr rfl)))))))))))) (λh=>I (O 1 rfl (iS rfl dc rfl (ci GU rfl dc rfl (show _=2 from rfl) (ot 0 d rfl yb rfl dc rfl rfl (O 1 rfl (UN (c++(ae (cP q1.Rune))) 7 c2 am underlying66 kr rfl dc rfl rfl d rfl (λa3 a7=>O 1 rfl (fF rfl dc rfl rfl (fF rfl dc rfl rfl (O 2 rfl (cw (O 1 rfl (Y (bu rfl h (λh=>bX (O 1 rfl (bi h λb7 h=>E rfl (c8 (D+1) (ac _ b7)) (O 3 rfl (aU h λH bk h=>Le (su 3 rfl (MW a3 H) (bC (cg (iW (D+1,c++(ae (cP q1.Rune)),2,H,a3) ⟨h,(pI.map (a7 H bk))⟩ rfl (gl rfl) (ct [3,1] kr rfl)))))))))) (λh=>bw (cg (mD (l,c++(ae (cP q1.Rune)),J,f,N) ⟨h,L⟩ 2))))))))))))))))))))))))))))))))))))))))))))))))))))))))))) ?_));rintro⟨Q,P,a6,B,cv⟩ ⟨h,a8⟩;exact bX (bi h λb6 h=>E rfl (c8 (D+1) (ac _ b6)) (O 1 rfl (bC (mD (Q,P,a6,B,D+1,cv) ⟨h,a8⟩ 2))))
  exact dG (bS (bS (dH (mD (l,J,f,N) ⟨h,L⟩ 2))))
 rintro⟨c3,c4,W,c0⟩ ⟨h,ag⟩;refine bV (I (O 1 rfl (E rfl kF (Y (bu rfl h (λh=>?_) (λh=>?_))))))
 ·refine I (O 4 rfl (Y (bO (bZ ?_))));cases h;exact MU [.tmp 4,.tmp 5] c0 d (.inl rfl) results62 (.cons (.tmp rfl) (.cons (.tmp rfl) .nil)) rfl (ct [1,0] kr rfl) (MX ag (i:=8) rfl)
 refine bw (cu (cJ ((List V)×Hd) h 0 rfl (λj3 b=>j3 b.1=some r) (λb=>[]) (λb=>[(8,b.2.v)]) (λb=>[bq b.2.v b.1,wR w0 K]) (λj3 h cut=>?_) ?_))
 ·refine cut (bV (bi h λb5 h=>?_));have bs:=h;obtain⟨rfl,rfl⟩:=ag.1 b5;have h:=bs;refine bX (O 1 rfl (aU h λq2 ao h=>gm t ao dk mg rfl dc rfl rfl rfl (ci sy rfl dc rfl (show _=(u+(0:Int).toNat)*4+2 from rfl) (km 6 (u+(0:Int).toNat) 2 q2 d rfl z1 fU rfl dc rfl (cq t ao) rfl rfl (bi h λa0 h=>dF (.int .i32 (cP q2.Rune)) [.int .i32 q2.Rune] rfl dc rfl rfl rfl DU (pc λw=>AH q2.Rune w a0.1 a0.2) (aU h λr1 bh h=>dF (.string r1) [.int .i32 (cP q2.Rune)] rfl dc rfl rfl rfl Ma (NM bh) (wO am rfl dc rfl (λb3=>Y (ck (oL gK 9 1 (n9 ((List V)×Nat×Hd) (xh j3 r1) (λa b=>a b.1 b.2.1=some r) (λb=>[]) (λb=>[(8,b.2.2.v),(74,zP b3)]) (λb=>[bq b.2.2.v b.1,obj b3 (.stringIter r1 (n8 r1 b.2.1)),wR w0 K]) (([]:List V),0,fe) (by exact h) rfl (gl rfl) (ct [3,2,1] kr rfl) ?_)))))))))));rintro c5 ⟨g,m3,a5⟩ h;unfold xh at h;refine I (vx (decide (m3<(fK r1.data.toList).length)) (λC=>?_) (λC=>?_))
  ·have h:=pY C h;refine aU h λp1 bb h=>wP 1 m3 p1 rfl dc rfl rfl bb (fF rfl dc rfl rfl (Y (bV (jy rfl (bw (cu (ck (I (fF rfl dc rfl rfl (O 1 rfl (bC (cu (bX (O 2 rfl (jI rfl dc rfl (nM bl am) (hQ [(0,.tmp 80)] 9 [.string (ae (p1.r:Int))] rfl dc rfl (λ_=>by kernel_rfl) (λb4=>bi h λb0 h=>jJ 0 3 [ae (p1.r:Int)] ay oR gG pE rfl dc rfl rfl rfl rfl rfl rfl b0 (λv2=>jk 0 rfl (λa4 ch=>?_)))))))))))))))))));subst ch;exact O 1 rfl (bC (cg (mD (g++[ae (p1.r:Int)],m3+1,a4) h 3)))
  have h:=pZ C h;exact wQ 1 m3 rfl dc rfl rfl (jT (of_decide_eq_false C)) (fF rfl dc rfl rfl (Y (bV (eU rfl (dG (bS (bS (dH (iW (g,a5) h rfl (gl rfl) (ct [0,2] kr rfl))))))))))
 rintro⟨z,a2⟩ h;refine I (O 3 rfl (Y (bO ?_)));cases h;exact MU [.tmp 4,.tmp 5] a2 d (.inl rfl) results62 (.cons (.tmp rfl) (.cons (.tmp rfl) .nil)) rfl (ct [1,0] kr rfl) (UM 9 a2 z)
def zb (e1:dS) (c0:Bool) (c1:List dS):Option (Bool×(List dS)) := cm (λ(a:(List dS)->Option (Bool×(List dS)))=>G (c0) (G (decide ((0:Int)<(c1.length:Int))) (grd (c1.length+1<=2147483648) <|a (c1++[(⟨1,0,af,af,0⟩:dS)])) (a c1)) (a c1)) (λ(b:List dS)=>grd (b.length+1<=2147483648) <|some (false,b++[e1]))
theorem II (e1:dS) (_A:Nat) (c0:Bool) (_H:Nat) (c1:List dS) (_G:Hd) {r:(Bool×(List dS))} (h:zb e1 c0 c1=some r):Fn prog 59 [.agg (jP e1).toArray,zP _A,zP _H] [cells _A [.bool c0] 4,cells _H [_G.v] 57,mi _G.v c1] (λv0:Hd=>.tuple #[]) (λv0=>[cells _A [.bool r.1] 4,cells _H [v0.v] 57,mi v0.v r.2]):=by
 refine Fn.intro func59 rfl ntmps59 (by simp) (λw0 K=>cJ ((List dS)×Hd×Nat) h 1 rfl (λi b=>i b.1=some r) (λb=>[]) (λb=>[(1,zP _A),(2,zP _H),(3,zP b.2.2)]) (λb=>[cells _H [b.2.1.v] 57,mi b.2.1.v b.1,cells _A [.bool c0] 4,cells b.2.2 (jP e1) 61]) (λi h cut=>?_) ?_)
 ·refine I (lE rfl dc rfl (λg=>Y (cut (I (bW 0 sW rfl dc rfl rfl rfl (O 1 rfl (du 5 rfl h (λh=>?_) (λh=>?_))))))))
  ·refine bW 1 x8 rfl dc rfl rfl rfl (io 2 rfl dc rfl rfl cp (E rfl kF (O 1 rfl (Y (bu rfl h (λh=>?_) (λh=>?_))))))
   ·refine bX (bW 1 x8 rfl dc rfl rfl rfl (fH (.agg #[zI 1,zI 0,.string af,.string af,zI 0]) [(0,.const (zI 1))] rfl dc rfl (λ_=>by kernel_rfl) (hQ [(0,.tmp 11)] 61 [zI 1,zI 0,.string af,.string af,zI 0] rfl dc rfl (λ_=>by kernel_rfl) (λn=>bi h λd h=>jJ 2 4 [(⟨1,0,af,af,0⟩:dS)] cp LF tN Mx rfl dc rfl rfl rfl rfl rfl rfl d (λv1=>jk 2 rfl (λhd2 f=>?_))))));subst f;exact fJ 1 [hd2.v] LC rfl rfl rfl rfl rfl (λ_ _=>rfl) rfl (bC (iW (c1++[(⟨1,0,af,af,0⟩:dS)],hd2,g) h rfl (gl rfl) (ct [1,2,0,3] kr rfl)))
   exact bw (iW (c1,_G,g) h rfl (gl rfl) (ct [1,2,0,3] kr rfl))
  exact O 4 rfl (Y (eU rfl (bw (iW (c1,_G,g) h rfl (gl rfl) (ct [1,2,0,3] kr rfl)))))
 rintro⟨l,j,b1⟩ h;refine I (fJ 2 [.bool false] qq rfl rfl rfl rfl rfl (λ_ _=>rfl) rfl (Y (bX (bW 0 x8 rfl dc rfl rfl rfl (ju 3 (jP e1) qZ rfl dc rfl rfl rfl rfl (hQ [(0,.tmp 15)] 61 (jP e1) rfl dc rfl (λ_=>by kernel_rfl) (λm=>bi h λc h=>jJ 1 4 [e1] cp LF tN Mx rfl dc rfl rfl rfl rfl rfl rfl c (λv2=>jk 1 rfl (λa e=>?_)))))))));subst e;refine fJ 0 [a.v] LC rfl rfl rfl rfl rfl (λ_ _=>rfl) rfl (bC ?_);cases h;exact eW [] a (.inr rfl) results59 .nil rfl (ct [2,0,1] kr rfl)
def zc (f:List dq) (e:(Int×(List V))) (h:Int->Option (List dS)) (d:Int->Int->Option (List dS)) (a:Int) (c:Int):Option (List dS) := G (decide ((c:Int)<((ee f 0 e.1).length:Int))) (cm (λ(g:Int->Option (List dS))=>T (cj (ee f 0 e.1) c) λ(q2:dq)=>grd (gJ q2.Rune) <|G (great q2.Rune) (g 1) (g a)) (λ(b:Int)=>grd (I64 (c+1)) <|d b (c+1))) (h a)
def BW (c:List dq) (f:Int->V->Option (List dS)) (d:Int->V->Option (List dS)) (b:Int) (a:V):Option (List dS) := G (decide ((b:Int)<(c.length:Int))) (T (cj c b) λ(h:dq)=>T (y9 h) λ(g:Bool)=>G (g) (T (cj c b) λ(e:dq)=>grd (a.size+(ae e.Rune).size<=9223372036854775807) <|grd (I64 (b+1)) <|d (b+1) (a++(ae e.Rune))) (f b a)) (f b a)
def zd (o1:co) (g:(Int×(List V))) (b:Int) (i:(List dS)->Bool->Option (List dS)) (e:(List dS)->Bool->Int->Option (List dS)) (c:List dS) (a:Bool) (d:Int):Option (List dS) := G (decide ((d:Int)<(g.2.length:Int))) (T (cj g.2 d) λ(h:V)=>T (zb (⟨3,((cf h o1.place).getD 0),af,af,b⟩:dS) a c) λ(f:(Bool×(List dS)))=>grd (I64 (d+1)) <|e f.2 f.1 (d+1)) (i c a)
def BX (d:List dq) (e:Int->Option (List dS)) (c:Int->Option (List dS)) (a:Int):Option (List dS) := G (decide ((a:Int)<(d.length:Int))) (T (cj d a) λ(b:dq)=>grd (gJ b.Rune) <|G (((ie b.Broken b.Rune):Int)==3) (grd (I64 (a+1)) <|c (a+1)) (e a)) (e a)
def BZ (c:V->Option (List dS)) (b:V->Option (List dS)) (a:V):Option (List dS) := G (decide ((0:Int)<(a.size:Int))) (T (kY a 0) λ(c1:Int)=>G ((c1:Int)==48) (grd (0<=(1:Int)/\(1:Int)<=(a.size:Int)/\((a.size:Int):Int)<=(a.size:Int)) <|b (c6 a 1 (a.size:Int))) (c a)) (c a)
def B3 (o1:co) (F:(List dS)->Option (List dS)) (r1:V) (r2:Int) (r:(List dS)->Bool->(List dq)->Option (List dS)) (b:List dS) (a:Bool) (d:List dq):Option (List dS) := G (decide ((0:Int)<(d.length:Int))) (cm (λ(m:(List dS)->Bool->Int->Option (List dS))=>T (cj d 0) λ(q1:dq)=>grd (gJ q1.Rune) <|G (((ie q1.Broken q1.Rune):Int)==1) (T (E9 o1 d) λ(k:(Int×(List V)))=>cm (λ(D:Int->Option (List dS))=>grd (0<=(0:Int)/\(0:Int)<=k.1/\(k.1:Int)<=(d.length:Int)) <|bP (λ_ _=>none) (zc d k D) bN 0 0) (λ(j:Int)=>cm (λ(C:Int->V->Option (List dS))=>bP (λ_ _=>none) (BW d C) bN k.1 (⟨#[]⟩:V)) (λ(x:Int) (i:V)=>cm (λ(B:(List dS)->Bool->Option (List dS))=>bP (λ_ _ _=>none) (zd o1 k j B) bN b a 0) (λ(c:List dS) (g:Bool)=>grd (I64 ((c.length:Int)-1)) <|T (cj c ((c.length:Int)-1)) λ(n:dS)=>m (c.set ((c.length:Int)-1:Int).toNat (⟨n.sort,n.place,n.digits,i,n.great⟩:dS)) g x)))) (G (((ie q1.Broken q1.Rune):Int)==3) (cm (λ(z:Int->Option (List dS))=>bP (λ_=>none) (BX d z) bN 1) (λ(e:Int)=>cm (λ(y:V->Option (List dS))=>grd (I64 (q1.At+e)) <|grd (0<=(q1.At:Int)/\(q1.At:Int)<=(q1.At+e)/\(q1.At+e:Int)<=((c6 r1 r2 (r1.size:Int)).size:Int)) <|bP (λ_=>none) (BZ y) bN (c6 (c6 r1 r2 (r1.size:Int)) q1.At (q1.At+e))) (λ(f:V)=>T (zb (⟨2,0,f,af,0⟩:dS) a b) λ(u:(Bool×(List dS)))=>m u.2 u.1 e))) (cm (λ(q:Bool->Option (List dS))=>G (((ie q1.Broken q1.Rune):Int)==5) (q (((ie q1.Broken q1.Rune):Int)==5)) (G (((ie q1.Broken q1.Rune):Int)==4) (q (((ie q1.Broken q1.Rune):Int)==4)) (q (((ie q1.Broken q1.Rune):Int)==6)))) (λ(w:Bool)=>G (w) (m b true 1) (G (((ie q1.Broken q1.Rune):Int)==11) (T (kY (c6 r1 r2 (r1.size:Int)) q1.At) λ(v:Int)=>grd (I64 v) <|T (zb (⟨4,v,af,af,0⟩:dS) a b) λ(t:(Bool×(List dS)))=>m t.2 t.1 1) (m b a 1)))))) (λ(l:List dS) (h:Bool) (p:Int)=>grd (0<=(p:Int)/\(p:Int)<=(d.length:Int)/\((d.length:Int):Int)<=(d.length:Int)) <|r l h (ee d p (d.length:Int)))) (F b)
def ze (o1:co) (t1:V):Option (List dS) := cm (λ(b:(List dS)->Option (List dS))=>T (BH t1) λ(r1:V)=>T (E7 o1 r1) λ(r2:Int)=>grd (0<=(r2:Int)/\(r2:Int)<=(r1.size:Int)/\((r1.size:Int):Int)<=(r1.size:Int)) <|T (E8 (c6 r1 r2 (r1.size:Int))) λ(r3:(List dq))=>bP (λ_ _ _=>none) (B3 o1 b r1 r2) bN ([]:List dS) false r3) (λ(a:List dS)=>some a)
theorem IJ (_p:Nat) (o1:co) (_g _c _d _f _q:Hd) {t1:V} {r:(List dS)} (h:ze o1 t1=some r):gu prog 23 [zP _p,.string t1] [cells _p [_g.v,.map (some (bc _c)),.map (some (bc _d)),.map (some (bc _f)),_q.v] 69,bq _g.v o1.units,cH (λn:V=>ad n) (λn:Int=>az .i64 n) (bc _c) o1.place,dV (bc _d) o1.fors,cH (λn:V=>ad n) (λn:Bool=>ap n) (bc _f) o1.skips,bq _q.v o1.lines] [] (λv0:Value=>v0) (λv0=>[mi v0 r]):=by
 refine gu.intro func23 rfl ntmps23 (by simp) (λw0 K p=>cJ ((List dS)×Nat×Hd) h 6 rfl (λj1 b=>j1 b.1=some r) (λb=>[]) (λb=>[(6,zP b.2.1)]) (λb=>[cells b.2.1 [b.2.2.v] 57,mi b.2.2.v b.1]) (λj1 h cut=>?_) ?_)
 ·refine I (O 1 rfl (cw (O 1 rfl (aU h λr1 d0 h=>dF (.string r1) [.string t1] rfl dc rfl rfl rfl Md (N1 d0) (O 1 rfl (cw (O 3 rfl (aU h λr2 dY h=>kZ (zI r2) [zP _p,.string r1] p rfl dc rfl rfl rfl Ti (XO _p o1 _g _c _d _f _q dY) (.ro 0 rfl (.ro 1 rfl (.ro 2 rfl (.ro 3 rfl (.ro 4 rfl (.ro 5 rfl .nil)))))) (bi h λd7 h=>jj rfl dc rfl rfl rfl (lP r2 (r1.size:Int) am (.inr rfl) (.inl ⟨rfl,rfl⟩) d7) (O 1 rfl (cw (fZ Ss rfl dc (λg=>cw (fZ GK rfl dc (λl=>fJ 1 [.bool false] qq rfl rfl rfl rfl rfl (λ_ _=>rfl) rfl (cw (xC [] [.tmp 7,.tmp 6] rfl dc rfl rfl (O 1 rfl (Y (cut (I (O 1 rfl (aU h λr3 dX h=>ir [.string (c6 r1 r2 (r1.size:Int))] rfl dc rfl rfl rfl Tj (XP dX) aC (λv1=>jk 2 rfl (λhd2 d8=>?_)))))))))))))))))))))))));subst d8;refine O 1 rfl (lF 2 rfl (λds=>UK (B:=iM qs 4 hd2.v 0 r3) (As:=[rh hd2.v r3]) (ct [2] kr rfl) (λ_ _ h=>pF DX (aL.1 h)) p (λen eB bh p=>?_)))
  replace p:Rd _ _ [cells _p [_g.v,.map (some (bc _c)),.map (some (bc _d)),.map (some (bc _f)),_q.v] 69,bq _g.v o1.units,cH (λn:V=>ad n) (λn:Int=>az .i64 n) (bc _c) o1.place,dV (bc _d) o1.fors,cH (λn:V=>ad n) (λn:Bool=>ap n) (bc _f) o1.skips,bq _q.v o1.lines,iM qs 4 hd2.v 0 r3]:=p
  refine Y (ck (oL s8 61 5 (n9 ((List dS)×Bool×(List dq)×Hd×Value×Nat) (B3 o1 j1 r1 r2) (λa b=>a b.1 b.2.1 b.2.2.1=some r/\Vw hd2.v r3 4 b.2.2.2.2.2 b.2.2.2.2.1 b.2.2.1) (λb=>[]) (λb=>[(0,zP _p),(5,.string (c6 r1 r2 (r1.size:Int))),(6,zP g),(7,zP l),(8,.func (.func 59) #[] #[zP l,zP g]),(9,b.2.2.2.2.1)]) (λb=>[cells g [b.2.2.2.1.v] 57,mi b.2.2.2.1.v b.1,cells l [.bool b.2.1] 4]) (([]:List dS),false,r3,fe,hd2.v,0) ⟨h,ds⟩ rfl (gl rfl) (ct [0,3,1] kr rfl) ?_)));rintro ez ⟨f,c,l3,d,J,C⟩ ⟨h,x⟩;refine bV (I (O 1 rfl (jl x rfl dc rfl dk (E rfl kF (Y (bu rfl h (λh=>?_) (λh=>?_)))))))
  ·refine bw (cu (ck (cJ ((List dS)×Bool×Int×Hd) h 2 rfl (λj2 b=>j2 b.1 b.2.1 b.2.2.1=some r) (λb=>[]) (λb=>[(0,zP _p),(5,.string (c6 r1 r2 (r1.size:Int))),(6,zP g),(7,zP l),(8,.func (.func 59) #[] #[zP l,zP g]),(9,J),(11,zI b.2.2.1)]) (λb=>[cells g [b.2.2.2.v] 57,mi b.2.2.2.v b.1,cells l [.bool b.2.1] 4]) (λj2 h cut=>?_) ?_)))
   ·refine I (O 1 rfl (aU h λq1 b6 h=>gm x b6 dk mg rfl dc rfl rfl rfl (rz 6 (C+(0:Int).toNat) 0 q1 (fC q1) p rfl z1 nm rfl dc rfl (cq x b6) rfl rfl rfl (fZ rb rfl dc (λb4=>fI 3 (fC q1) (fC q1) mg rfl rfl rfl rfl rfl (show _<=_ by simp) rfl rfl (cw (O 1 rfl (Y (cut (I (ju 3 (fC q1) nm rfl dc rfl rfl rfl rfl (bi h λc3 h=>dF (zI (ie q1.Broken q1.Rune)) [.agg (fC q1).toArray] rfl dc rfl rfl rfl yj (yr q1.At q1.Width q1.Rune q1.Broken c3.1 c3.2) (Y (ck (I (E rfl eZ (O 1 rfl (Y (bu rfl h (λh=>?_) (λh=>?_))))))))))))))))))))
    ·refine I (O 1 rfl (cw (O 2 rfl ?_)));have p:Rd _ _ [cells _p [_g.v,.map (some (bc _c)),.map (some (bc _d)),.map (some (bc _f)),_q.v] 69,bq _g.v o1.units,cH (λn:V=>ad n) (λn:Int=>az .i64 n) (bc _c) o1.place,dV (bc _d) o1.fors,cH (λn:V=>ad n) (λn:Bool=>ap n) (bc _f) o1.skips,bq _q.v o1.lines,iM qs 4 hd2.v 0 r3,iM qs 4 hd2.v C r3]:=p.up0 (i:=6) rfl;refine aU h λP dT h=>UJ [zP _p,J] p rfl dc rfl rfl rfl Tm (XQ _p o1 _g _c _d _f _q x dT) (.ro 0 rfl (.ro 1 rfl (.ro 2 rfl (.ro 3 rfl (.ro 4 rfl (.ro 5 rfl (.ro 7 rfl .nil))))))) (λH em eA bb p=>?_)
     replace p:Rd _ _ [cells _p [_g.v,.map (some (bc _c)),.map (some (bc _d)),.map (some (bc _f)),_q.v] 69,bq _g.v o1.units,cH (λn:V=>ad n) (λn:Int=>az .i64 n) (bc _c) o1.place,dV (bc _d) o1.fors,cH (λn:V=>ad n) (λn:Bool=>ap n) (bc _f) o1.skips,bq _q.v o1.lines,iM qs 4 hd2.v 0 r3,iM qs 4 hd2.v C r3,nO gK 1 H P.2]:=p
     obtain⟨dj,k1,L1,a8,p⟩:=p.openSl (i:=8) rfl
     replace p:Rd _ _ [cells _p [_g.v,.map (some (bc _c)),.map (some (bc _d)),.map (some (bc _f)),_q.v] 69,bq _g.v o1.units,cH (λn:V=>ad n) (λn:Int=>az .i64 n) (bc _c) o1.place,dV (bc _d) o1.fors,cH (λn:V=>ad n) (λn:Bool=>ap n) (bc _f) o1.skips,bq _q.v o1.lines,iM qs 4 hd2.v 0 r3,iM qs 4 hd2.v C r3,nO gK 1 H P.2,iM gK 1 dj k1 L1]:=p
     refine O 1 rfl (fF rfl dc rfl rfl (fF rfl dc rfl rfl (O 2 rfl (Y (cJ Int h 1 rfl (λj3 b=>j3 b=some r) (λb=>[]) (λb=>[(0,zP _p),(5,.string (c6 r1 r2 (r1.size:Int))),(6,zP g),(7,zP l),(8,.func (.func 59) #[] #[zP l,zP g]),(9,J),(11,zI P.1),(12,H.v),(13,zI b)]) (λb=>[cells g [d.v] 57,mi d.v f,cells l [.bool c] 4]) (λj3 h cut=>?_) ?_)))))
     ·refine I (O 1 rfl (Y (cut (I (O 2 rfl (bi h λd6 h=>?_))))));obtain⟨v5,a7,dA⟩:=pf none (some (zI P.1)) x dk mg (.inl ⟨rfl,rfl⟩) (.inr rfl) d6;refine jj rfl dc rfl rfl rfl dA (jl a7 rfl dc rfl dk (O 1 rfl (Y (ck (fP (Int×Int) (zc l3 P j3) (λa b=>a b.1 b.2=some r) (λb=>[]) (λb=>[(0,zP _p),(5,.string (c6 r1 r2 (r1.size:Int))),(6,zP g),(7,zP l),(8,.func (.func 59) #[] #[zP l,zP g]),(9,J),(11,zI P.1),(12,H.v),(13,zI b.1),(48,v5),(49,zI ((ee l3 0 P.1).length:Int)),(50,zI b.2)]) (λb=>[cells g [d.v] 57,mi d.v f,cells l [.bool c] 4]) (0,0) h 3 ?_)))));rintro ey ⟨M,x3⟩ h;exact I (E rfl dL (Y (bV (bu rfl h (λh=>bw (cu (cJ Int h 0 rfl (λj4 b=>j4 b=some r) (λb=>[]) (λb=>[(0,zP _p),(5,.string (c6 r1 r2 (r1.size:Int))),(6,zP g),(7,zP l),(8,.func (.func 59) #[] #[zP l,zP g]),(9,J),(11,zI P.1),(12,H.v),(13,zI b),(48,v5),(49,zI ((ee l3 0 P.1).length:Int)),(50,zI x3)]) (λb=>[cells g [d.v] 57,mi d.v f,cells l [.bool c] 4]) (λj4 h cut=>cut (ck (I (aU h λq2 b0 h=>gm a7 b0 dk mg rfl dc rfl rfl rfl (rz 6 (C+(x3:Int).toNat) 0 q2 (fC q2) p rfl z1 nm rfl dc rfl (cq a7 b0) rfl rfl rfl (fZ rb rfl dc (λb5=>fI 3 (fC q2) (fC q2) mg rfl rfl rfl rfl rfl (show _<=_ by simp) rfl rfl (cw (ci sy rfl dc rfl (show _=2 from rfl) (bW 3 fU rfl dc rfl rfl rfl (bi h λcv h=>dF (.bool (great q2.Rune)) [.int .i32 q2.Rune] rfl dc rfl rfl rfl Tn (pc λw=>AG q2.Rune w cv.1 cv.2) (Y (bu rfl h (λh=>bX (O 1 rfl (bC (cg (mD 1 h 3))))) (λh=>bw (cg (mD M h 3)))))))))))))))) (λa0 h=>bX (bi h λd5 h=>E rfl (c8 (x3+1) (ac _ d5)) (O 1 rfl (bC (mD (a0,x3+1) h 3)))))))) (λh=>dG (bS (bS (dH (mD M h 3)))))))))
     refine λt h=>cJ (Int×V) h 1 rfl (λj5 b=>j5 b.1 b.2=some r) (λb=>[]) (λb=>[(0,zP _p),(5,.string (c6 r1 r2 (r1.size:Int))),(6,zP g),(7,zP l),(8,.func (.func 59) #[] #[zP l,zP g]),(9,J),(11,zI b.1),(12,H.v),(13,zI t),(16,.string b.2)]) (λb=>[cells g [d.v] 57,mi d.v f,cells l [.bool c] 4]) (λj5 h cut=>?_) ?_
     ·refine I (O 1 rfl (Y (cut (ck (fP (Int×V) (BW l3 j5) (λa b=>a b.1 b.2=some r) (λb=>[]) (λb=>[(0,zP _p),(5,.string (c6 r1 r2 (r1.size:Int))),(6,zP g),(7,zP l),(8,.func (.func 59) #[] #[zP l,zP g]),(9,J),(11,zI b.1),(12,H.v),(13,zI t),(16,.string b.2)]) (λb=>[cells g [d.v] 57,mi d.v f,cells l [.bool c] 4]) (P.1,(⟨#[]⟩:V)) (by exact h) 3 ?_)))));rintro ex ⟨n7,D⟩ h;exact bV (I (O 2 rfl (jl x rfl dc rfl dk (E rfl dL (O 1 rfl (du 62 rfl h (λh=>O 2 rfl (aU h λq3 bs h=>gm x bs dk mg rfl dc rfl rfl rfl (rz 6 (C+(n7:Int).toNat) 0 q3 (fC q3) p rfl z1 nm rfl dc rfl (cq x bs) rfl rfl rfl (aU h λr5 dB h=>dF (.bool r5) [.agg (fC q3).toArray] rfl dc rfl rfl rfl Me (OC q3 dB) (O 1 rfl (Y (bu rfl h (λh=>bw (cu (ck (I (O 3 rfl (aU h λq4 bk h=>gm x bk dk mg rfl dc rfl rfl rfl (ci sy rfl dc rfl (show _=(C+(n7:Int).toNat)*4+2 from rfl) (km 6 (C+(n7:Int).toNat) 2 q4 p rfl z1 fU rfl dc rfl (cq x bk) rfl rfl (jI rfl dc rfl (nM bl am) (bi h λd4 h=>E rfl (ni d4) (O 1 rfl (Y (bX (O 1 rfl (bi h λd3 h=>E rfl (c8 (n7+1) (ac _ d3)) (O 1 rfl (bC (cg (mD (n7+1,D++(ae q4.Rune)) h 3))))))))))))))))))) (λh=>dG (bS (bS (dH (mD (n7,D) h 3)))))))))))) (λh=>O 6 rfl (Y (eU rfl (dG (bS (bS (dH (mD (n7,D) h 3))))))))))))))
     rintro⟨n4,y⟩ h;refine cJ ((List dS)×Bool×Hd) h 0 rfl (λj6 b=>j6 b.1 b.2.1=some r) (λb=>[]) (λb=>[(0,zP _p),(5,.string (c6 r1 r2 (r1.size:Int))),(6,zP g),(7,zP l),(8,.func (.func 59) #[] #[zP l,zP g]),(9,J),(11,zI n4),(16,.string y)]) (λb=>[cells g [b.2.2.v] 57,mi b.2.2.v b.1,cells l [.bool b.2.1] 4]) (λj6 h cut=>?_) ?_
     ·refine cut (I (O 1 rfl (jl a8 rfl dc rfl ay (O 1 rfl (Y (ck (fP ((List dS)×Bool×Int×Hd) (zd o1 P t j6) (λa b=>a b.1 b.2.1 b.2.2.1=some r) (λb=>[]) (λb=>[(0,zP _p),(5,.string (c6 r1 r2 (r1.size:Int))),(6,zP g),(7,zP l),(8,.func (.func 59) #[] #[zP l,zP g]),(9,J),(11,zI n4),(13,zI t),(16,.string y),(79,H.v),(80,zI (P.2.length:Int)),(81,zI b.2.2.1)]) (λb=>[cells g [b.2.2.2.v] 57,mi b.2.2.2.v b.1,cells l [.bool b.2.1] 4]) (f,c,0,d) h 3 ?_)))))));rintro et ⟨a1,L,x6,a6⟩ h;exact I (E rfl dL (Y (bV (bu rfl h (λh=>bw (cu (bV (ck (I (aU h λq5 a4 h=>gm a8 a4 ay gV rfl dc rfl rfl rfl (km 9 (k1+(x6:Int).toNat) 0 q5 p rfl z1 eJ rfl dc rfl (cq a8 a4) rfl rfl (O 1 rfl (Y (bX (O 2 rfl (iS rfl dc rfl (ci yd rfl dc rfl (show _=1 from rfl) (ot 0 p rfl ya rfl dc rfl rfl (O 1 rfl (tJ 2 (λn:V=>ad n) (λn:Int=>az .i64 n) q5 0 (ou am) underlying65 kr rfl dc rfl rfl p rfl (O 1 rfl (fH (.agg #[zI 3,zI ((cf q5 o1.place).getD 0),.string af,.string af,zI t]) [(0,.const (zI 3)),(1,.tmp 91),(4,.tmp 92)] rfl dc rfl (λ_=>by kernel_rfl) (aU h λr6 ch h=>ir [.agg #[zI 3,zI ((cf q5 o1.place).getD 0),.string af,.string af,zI t]] rfl dc rfl rfl rfl G6 (II (⟨3,((cf q5 o1.place).getD 0),af,af,t⟩:dS) l L g a1 a6 ch) (ct [2,0,1] kr rfl) (λag=>kL [cells g [ag.v] 57,mi ag.v r6.2,cells l [.bool r6.1] 4] (ct [4,5,3] kr rfl) (bC (cg (cu (bX (bi h λd2 h=>E rfl (c8 (x6+1) (ac _ d2)) (O 1 rfl (bC (mD (r6.2,r6.1,x6+1,ag) h 3)))))))))))))))))))))))))))) (λh=>dG (bS (bS (dH (mD (a1,L,a6) h 3)))))))))
     rintro⟨F,ao,d9⟩ h;exact bX (bW 0 x8 rfl dc rfl rfl rfl (bW 0 x8 rfl dc rfl rfl rfl (io 1 rfl dc rfl rfl cp (bi h λd1 h=>E rfl (iV ((F.length:Int)-1) (ac _ d1)) (O 1 rfl (aU h λq6 a3 h=>eN 1 a3 cp qG rfl dc rfl rfl rfl rfl (ci GT rfl dc rfl (show _=(((F.length:Int)-1:Int).toNat)*5+3 from rfl) (oN 1 (((F.length:Int)-1:Int).toNat) 3 q6 (⟨q6.sort,q6.place,q6.digits,y,q6.great⟩:dS) gV tN rfl rfl rfl rfl (ei a3) rfl dc rfl (λ_ _=>rfl) (bC (cg (Hw bb (mD (F.set ((F.length:Int)-1:Int).toNat (⟨q6.sort,q6.place,q6.digits,y,q6.great⟩:dS),ao,n4,d9) h 3))))))))))))
    refine I (E rfl eZ (O 1 rfl (Y (bu rfl h (λh=>cJ Int h 0 rfl (λj7 b=>j7 b=some r) (λb=>[]) (λb=>[(0,zP _p),(5,.string (c6 r1 r2 (r1.size:Int))),(6,zP g),(7,zP l),(8,.func (.func 59) #[] #[zP l,zP g]),(9,J),(10,zP b4),(11,zI b)]) (λb=>[cells g [d.v] 57,mi d.v f,cells l [.bool c] 4,cells b4 (fC q1) 102]) (λj7 h cut=>cut (ck (fP Int (BX l3 j7) (λa b=>a b=some r) (λb=>[]) (λb=>[(0,zP _p),(5,.string (c6 r1 r2 (r1.size:Int))),(6,zP g),(7,zP l),(8,.func (.func 59) #[] #[zP l,zP g]),(9,J),(10,zP b4),(11,zI b)]) (λb=>[cells g [d.v] 57,mi d.v f,cells l [.bool c] 4,cells b4 (fC q1) 102]) 1 h 4 (λes Q h=>bV (I (O 2 rfl (jl x rfl dc rfl dk (E rfl dL (O 1 rfl (du 109 rfl h (λh=>O 2 rfl (aU h λq7 a2 h=>gm x a2 dk mg rfl dc rfl rfl rfl (rz 6 (C+(Q:Int).toNat) 0 q7 (fC q7) p rfl z1 nm rfl dc rfl (cq x a2) rfl rfl rfl (bi h λa5 h=>dF (zI (ie q7.Broken q7.Rune)) [.agg (fC q7).toArray] rfl dc rfl rfl rfl yj (yr q7.At q7.Width q7.Rune q7.Broken a5.1 a5.2) (E rfl eZ (O 1 rfl (Y (bu rfl h (λh=>bw (cu (ck (bX (O 1 rfl (bi h λdi h=>E rfl (c8 (Q+1) (ac _ di)) (O 1 rfl (bC (cg (mD (Q+1) h 4)))))))))) (λh=>dG (bS (bS (dH (mD Q h 4))))))))))))) (λh=>O 7 rfl (Y (eU rfl (dG (bS (bS (dH (mD Q h 4)))))))))))))))))) (λN h=>cJ V h 1 rfl (λj8 b=>j8 b=some r) (λb=>[]) (λb=>[(0,zP _p),(5,.string (c6 r1 r2 (r1.size:Int))),(6,zP g),(7,zP l),(8,.func (.func 59) #[] #[zP l,zP g]),(9,J),(11,zI N),(19,.string b)]) (λb=>[cells g [d.v] 57,mi d.v f,cells l [.bool c] 4]) (λj8 h cut=>I (O 1 rfl (ci nD rfl dc rfl (show _=0 from rfl) (bW 3 ed rfl dc rfl rfl rfl (ci nD rfl dc rfl (show _=0 from rfl) (bW 3 ed rfl dc rfl rfl rfl (O 1 rfl (bi h λdg h=>E rfl (c8 (q1.At+N) (ac _ dg)) (bi h λdf h=>jj rfl dc rfl rfl rfl (lP q1.At (q1.At+N) am (.inr rfl) (.inr rfl) df) (O 1 rfl (Y (cut (ck (fP V (BZ j8) (λa b=>a b=some r) (λb=>[]) (λb=>[(0,zP _p),(5,.string (c6 r1 r2 (r1.size:Int))),(6,zP g),(7,zP l),(8,.func (.func 59) #[] #[zP l,zP g]),(9,J),(11,zI N),(19,.string b)]) (λb=>[cells g [d.v] 57,mi d.v f,cells l [.bool c] 4]) (c6 (c6 r1 r2 (r1.size:Int)) q1.At (q1.At+N)) h 3 (λeq u h=>bV (I (O 1 rfl (mw rfl dc rfl am (E rfl kF (O 1 rfl (du 130 rfl h (λh=>O 1 rfl (aU h λc1 cc h=>oI rfl dc rfl rfl (qX am cc) (E rfl eZ (O 1 rfl (Y (bu rfl h (λh=>bw (cu (ck (bX (O 1 rfl (bi h λdd h=>jj rfl dc rfl rfl rfl (lP 1 (u.size:Int) am (.inr rfl) (.inl ⟨rfl,rfl⟩) dd) (O 1 rfl (bC (cg (mD (c6 u 1 (u.size:Int)) h 3)))))))))) (λh=>dG (bS (bS (dH (mD u h 3))))))))))) (λh=>O 4 rfl (Y (eU rfl (dG (bS (bS (dH (mD u h 3))))))))))))))))))))))))))))) (λz h=>bX (O 2 rfl (fH (.agg #[zI 2,zI 0,.string z,.string af,zI 0]) [(0,.const (zI 2)),(2,.tmp 138)] rfl dc rfl (λ_=>by kernel_rfl) (aU h λr7 b9 h=>ir [.agg #[zI 2,zI 0,.string z,.string af,zI 0]] rfl dc rfl rfl rfl G6 (II (⟨2,0,z,af,0⟩:dS) l c g f d b9) (ct [2,0,1] kr rfl) (λW=>kL [cells g [W.v] 57,mi W.v r7.2,cells l [.bool r7.1] 4] (ct [4,5,3] kr rfl) (bC (cg (mD (r7.2,r7.1,N,W) h 3)))))))))) (λh=>cJ Bool h 0 rfl (λj9 b=>j9 b=some r) (λb=>[]) (λb=>[(0,zP _p),(5,.string (c6 r1 r2 (r1.size:Int))),(6,zP g),(7,zP l),(8,.func (.func 59) #[] #[zP l,zP g]),(9,J),(10,zP b4),(11,zI 1),(37,zI (ie q1.Broken q1.Rune)),(141,.bool b)]) (λb=>[cells g [d.v] 57,mi d.v f,cells l [.bool c] 4,cells b4 (fC q1) 102]) (λj9 h cut=>?_) ?_)))))
    ·exact cut (I (E rfl eZ (O 1 rfl (Y (bu rfl h (λh=>bw (mD (((ie q1.Broken q1.Rune):Int)==5) h 4)) (λh=>I (E rfl eZ (O 1 rfl (Y (bu rfl h (λh=>bw (mD (((ie q1.Broken q1.Rune):Int)==4) h 4)) (λh=>bX (E rfl eZ (O 1 rfl (bC (mD (((ie q1.Broken q1.Rune):Int)==6) h 4)))))))))))))))
    exact λx7 h=>bu rfl h (λh=>bX (fJ 2 [.bool true] qq rfl rfl rfl rfl rfl (λ_ _=>rfl) rfl (bC (cg (mD (f,true,1,d) h 3))))) (λh=>I (E rfl eZ (O 1 rfl (Y (bu rfl h (λh=>bX (O 2 rfl (ci nD rfl dc rfl (show _=0 from rfl) (bW 3 ed rfl dc rfl rfl rfl (aU h λc2 b8 h=>oI rfl dc rfl rfl (qX am b8) (bi h λc5 h=>jI rfl dc rfl (xI c2 underlying5 underlying3 (ac _ c5)) (fH (.agg #[zI 4,zI c2,.string af,.string af,zI 0]) [(0,.const (zI 4)),(1,.tmp 152)] rfl dc rfl (λ_=>by kernel_rfl) (aU h λr8 b7 h=>ir [.agg #[zI 4,zI c2,.string af,.string af,zI 0]] rfl dc rfl rfl rfl G6 (II (⟨4,c2,af,af,0⟩:dS) l c g f d b7) (ct [2,0,1] kr rfl) (λS=>kL [cells g [S.v] 57,mi S.v r8.2,cells l [.bool r8.1] 4,cells b4 (fC q1) 102] (ct [5,6,4,3] kr rfl) (bC (cg (mD (r8.2,r8.1,1,S) h 3)))))))))))) (λh=>bw (cg (mD (f,c,1,d) h 3))))))))
   rintro⟨a9,aw,n2,eb⟩ h;refine bX (O 2 rfl (bi h λc4 h=>?_));obtain⟨v6,dw,dz⟩:=pf (some (zI n2)) none x dk mg (.inr rfl) (.inl ⟨rfl,rfl⟩) c4;exact jj rfl dc rfl rfl rfl dz (O 1 rfl (bC (cg (mD (a9,aw,ee l3 n2 (l3.length:Int),eb,v6,C+(n2:Int).toNat) ⟨h,dw⟩ 3))))
  exact dG (bS (bS (dH (Hw bh (mD (f,g,d) h 2)))))
 rintro⟨eg,b1,ec⟩ h;refine I (bW 0 x8 rfl dc rfl rfl rfl (O 1 rfl (Y (bO ?_))));cases h;exact eW [.tmp 4] ec.v (.inl rfl) results23 (.cons (.tmp rfl) .nil) rfl (ct [1] kr rfl)
abbrev Tk:=Int×V
def tkT (t:dM):Tk:=(if t.broken then -1 else (t.r:Int),⟨t.bs.toArray⟩)
def kT (x:Tk):Int:=if x.1<0 then 11 else kind x.1
def fi (x:Tk):Bool:=dx x.1
def jQ (x:Tk):Bool:=fV x.1
def gM (x:Tk):Bool:=decide (48<=x.1/\x.1<=57)
def kh (x:Tk):Bool:=fi x||jQ x
def jw (l:List Tk):V:=J (·.2) l
abbrev El:=dS
structure nS where
 p:V->Option Int
 f:V->Option (List V)
 s:V->Bool
def tq (l:List Tk):List Tk:=(l.dropWhile λx=>!fi x).dropWhile kh
def pp (l:List Tk):List Tk:=(l.dropWhile λx=>!fi x).takeWhile kh
def tr (o:nS) (l:List Tk):Nat :=
 if (tq l).any (λx=>fi x||gM x)&&o.s (jV (jw (pp l))) then (l.takeWhile λx=>!fi x).length+(pp l).length else 0
def rj (o:nS) (a:V×Nat×Option (Nat×List V)) (x:Tk):V×Nat×Option (Nat×List V) :=
 let f:=a.1++ae (cP x.1)
 (f,a.2.1+1,if (o.p f).isSome then some (a.2.1+1,[f]) else match o.f f with | some xs=>some (a.2.1+1,xs) | none=>a.2.2)
def xi (l:List Tk):List Tk:=(l.take 8).takeWhile λx=>!decide (x.1<0)
def vX (o:nS) (l:List Tk):Option (Nat×List V):=((xi l).foldl (rj o) (af,0,none)).2.2
def tY (r:Int):List V:=(fB (jV (ae (cP r)))).map ae
def lV (o:nS) (x:Tk) (l:List Tk):Nat×List V:=(vX o (x::l)).getD (1,tY x.1)
def jx (o:nS) (g:Int) (u:V):El:=⟨3,(o.p u).getD 0,af,af,g⟩
def qP (m:V):List El->List El
 |[]=>[]
 |[e]=>[⟨e.sort,e.place,e.digits,m,e.great⟩]
 |e::a::es=>e::qP m (a::es)
def sG (l:List Tk):Int:=if l.any (λx=>great x.1) then 1 else 0
def nU (l:List Tk):V:=J (λx=>ae x.1) l
def uQ:List UInt8->List UInt8:=List.dropWhile (· == 48)
def tZ (l:List Tk):V:=⟨(uQ (jw l).data.toList).toArray⟩
def mZ (o:nS) (x:Tk) (l:List Tk):Nat×Option (List El) :=
 if kT x=1 then
  let m:=lV o x l
  let a:=((x::l).drop m.1).takeWhile jQ
  (m.1+a.length,some (qP (nU a) (m.2.map (jx o (sG ((x::l).take m.1))))))
 else if kT x=3 then (1+(l.takeWhile gM).length,some [⟨2,0,tZ (x::l.takeWhile gM),af,0⟩])
 else if kT x=5\/kT x=4\/kT x=6 then (1,none)
 else if kT x=11 then (1,some [⟨4,mj x.2,af,af,0⟩])
 else (1,some [])
def oy (o:nS):Nat->List Tk->List (Option (List El))
 |0,_=>[]
 |_+1,[]=>[]
 |n+1,x::l=>(mZ o x l).2::oy o n ((x::l).drop (mZ o x l).1)
def nr:El:=⟨1,0,af,af,0⟩
def oz:List (Option (List El))->List El->Bool->List El
 |[],out,_=>out
 |none::cs,out,_=>oz cs out true
 |some []::cs,out,sp=>oz cs out sp
 |some (e::es)::cs,out,sp=>oz cs (out++(if sp&&!out.isEmpty then [nr] else [])++e::es) false
def xj (o:nS) (l:List Tk):List El:=oz (oy o l.length (l.drop (tr o l))) [] false
def oZ (t:V):List dM:=fO (iw t).data.toList
def iE (t:V):List Tk:=(oZ t).map tkT
def ef (o:co):nS:=⟨λu=>cf u o.place,λu=>cf u o.fors,λf=>(cf f o.skips).getD false⟩
def pT (i:Nat) (t:dM):dq:=⟨(i:Int),(t.bs.length:Int),(t.r:Int),t.broken⟩
def pL:Nat->List dM->List dq
 |_,[]=>[]
 |i,t::ts=>pT i t::pL (i+t.bs.length) ts
theorem OJ:∀ (ts:List dM) (i:Nat),(place i ts).map iH=pL i ts
 |[],_=>rfl
 |t::ts,i=>by
  show iH ⟨i,t.bs.length,t.r⟩::(place (i+t.bs.length) ts).map iH=_;rw[OJ ts];rfl
theorem zf (l:List UInt8):(fK l).map iH=pL 0 (fO l):=by
 show (oP 0 l).map iH=_;rw[MQ,OJ]
theorem rO:∀ (ts:List dM) (i:Nat),(pL i ts).length=ts.length
 |[],_=>rfl
 |t::ts,i=>by rw[pL,ab,ab,rO ts]
theorem XR (ts:List dM) (n:Nat):(c7 (ts.take n)).length+(c7 (ts.drop n)).length=(c7 ts).length:=by
 rw[<-aa,<-nQ,bo]
theorem OK:∀ (n:Nat) (ts:List dM) (i:Nat),(pL i ts).drop n=pL (i+(c7 (ts.take n)).length) (ts.drop n)
 |0,ts,i=>by simp[c7]
 |n+1,[],i=>by simp[pL,c7]
 |n+1,t::ts,i=>by
  rw[pL,mC,OK n ts,fb,nP,aa,mC,gZ]
theorem uR:∀ (ts:List dM) (i k:Nat) (t:dM),ts[k]?=some t->(pL i ts)[k]?=some (pT (i+(c7 (ts.take k)).length) t)
 |[],_,_,_,h=>by simp at h
 |t'::ts,i,0,t,h=>by simp at h;subst h;simp[pL,c7]
 |t'::ts,i,k+1,t,h=>by
  rw[pL,List.getElem?_cons_succ,uR ts _ k t (by simpa using h),fb,nP,aa,gZ]
theorem qQ {t:dM} (h:lI t):gJ (t.r:Int):=by
 rcases h with h|h
 ·obtain⟨h,_⟩:=h;exact⟨by omega,by omega⟩
 ·unfold vh at h;simp at h;exact⟨by omega,by omega⟩
theorem vY (t:dM):ie t.broken (t.r:Int)=kT (tkT t):=by
 have h1:∀r:Int,kT (r,(⟨t.bs.toArray⟩:V))=if r<0 then 11 else kind r:=λr=>rfl
 unfold tkT;cases hb:t.broken with
 |true=>rw[aj rfl,h1,aj z1];rfl
 |false=>
  rw[ai (by simp),h1];have h2:¬((t.r:Int)<0):=by omega
  have h3:ie false (t.r:Int)=kind (t.r:Int):=ai (by simp);rw[ai h2,h3]
theorem zg (x:Tk):((kT x:Int)==1)=fi x:=by
 unfold kT fi;split
 ·rename_i h;have:dx x.1=false:=by
   cases hL:dx x.1 with
   |false=>rfl
   |true=>have:=ov _ hL;omega
  rw[this];rfl
 ·exact qL x.1
theorem B4 (x:Tk):((kT x:Int)==2)=jQ x:=by
 unfold kT jQ;split
 ·have:fV x.1=false:=by unfold fV;exact ah z1
  rw[this];rfl
 ·exact Nj x.1
theorem XS (r:Int):((kind r:Int)==3)=decide (48<=r/\r<=57):=by
 by_cases h:48<=r/\r<=57
 ·have b:dx r=false:=by
   cases hL:dx r with
   |false=>rfl
   |true=>
    unfold dx great qJ at hL;simp only[ej,decide_eq_true_eq] at hL;unfold rG td at hL;omega
  have:kind r=3:=by
   unfold kind tQ;rw[ai z1,b];simp only[bp,if_false];rw[ai z1,aj h]
  rw[this,an h];rfl
 ·rw[ah h];have:kind r≠3:=by
   unfold kind tQ;intro a
   repeat' split at a
   all_goals first | omega | cases a
  exact aA.2 this
theorem xk (x:Tk):((kT x:Int)==3)=gM x:=by
 unfold kT gM;split
 ·have:decide (48<=x.1/\x.1<=57)=false:=ah z1;rw[this];rfl
 ·exact XS x.1
theorem IK (o:co) (s:V) (ek:Int->Int->Int->Option Int) (x:dq) (ag:Int->Int->Bool->Option Int) (f t:Int) (op:Bool) (a:gJ x.Rune) : uP o s ek x ag f t op=G (decide ((f:Int)<0)) (G (((ie x.Broken x.Rune):Int)==1) (grd (I64 (x.At+x.Width))<|ag x.At (x.At+x.Width) op) (ag f t op)) (G (op&&((((ie x.Broken x.Rune):Int)==1)||(((ie x.Broken x.Rune):Int)==2))) (grd (I64 (x.At+x.Width))<|ag f (x.At+x.Width) op) (G ((((ie x.Broken x.Rune):Int)==1)||(((ie x.Broken x.Rune):Int)==3)) (grd (0<=(f:Int)/\(f:Int)<=t/\(t:Int)<=(s.size:Int))<|T (ri (c6 s f t)) λ(r2:V)=>G (((cf r2 o.skips).getD false)) (ek t f t) (ek 0 f t)) (ag f t false))):=by
 unfold uP;rw[KP a];generalize (((ie x.Broken x.Rune):Int)==1)=b1;generalize (((ie x.Broken x.Rune):Int)==2)=b2;generalize (((ie x.Broken x.Rune):Int)==3)=b3;generalize decide ((f:Int)<0)=b0;cases b0<;>cases b1<;>cases b2<;>cases b3<;>cases op<;>rfl
theorem IL (a b:V):(a++b).data.toList=a.data.toList++b.data.toList:=by simp
theorem rP {a b:V} (h:a.data.toList=b.data.toList):a=b:=ByteArray.ext (gI.1 h)
theorem zh:∀ts:List dM,(jw (ts.map tkT)).data.toList=c7 ts
 |[]=>rfl
 |t::ts=>by
  rw[au,nP,<-zh ts];show (J (·.2) (tkT t::ts.map tkT)).data.toList=_;rw[kH,IL];rfl
theorem uS (s:V) (a b:Nat):(c6 s (a:Int) (b:Int)).data.toList=(s.data.toList.drop a).take (b-a):=by
 unfold c6;simp[ByteArray.data_extract]
theorem IM {s:V} (A W Z:List dM) (h:s.data.toList=c7 (A++(W++Z))) {a b:Nat} (ha:a=(c7 A).length) (hb:b=a+(c7 W).length):c6 s (a:Int) (b:Int)=jw (W.map tkT):=by
 apply rP;rw[uS,zh,h,nQ,nQ,ha,jb,hb,ha,jh,List.take_left]
theorem jK (s:V):s.size=s.data.toList.length:=by rw[Array.length_toList];rfl
theorem OL (s:V) (a b:Int):(c6 s a b).size<=s.size:=by
 unfold c6;rw[ByteArray.size_extract];omega
theorem OM {α:Type} (p:α->Bool):∀l:List α,l.take (l.takeWhile p).length=l.takeWhile p
 |[]=>rfl
 |x::l=>by
  rw[aY];cases p x with
  |true=>simp only[if_true,ab,fb];rw[OM p l]
  |false=>rfl
section
variable {o:co} {s:V} {ek:Int->Int->Int->Option Int} {dn:Int->Int->Bool->Option Int} {Z:Option Int}
abbrev rk (x:Tk):Bool:=fi x||gM x
def B5 (o:co) (s:V) (a b:Nat):Int:=if (ef o).s (jV (c6 s (a:Int) (b:Int))) then (b:Int) else 0
theorem ON (hz:∀a b c,dn a b c=some 0) (he:∀v a b,ek v a b=some v) (g:s.size<=65536) {a b:Nat} (e:a<=b) (d:b<=s.size):∀ (ts:List dM) (i:Nat),(∀t∈ts,lI t) ->
  jZ dn (uP o s ek) (pL i ts) (a:Int) (b:Int) false=if (ts.map tkT).any rk then some (B5 o s a b) else some 0
 |[],i,_=>hz _ _ _
 |t::ts,i,hok=>by
  have f:=ON hz he g e d ts (i+t.bs.length) (λx hx=>hok x (ak _ hx));rw[pL,qn,IK o s ek (pT i t) _ _ _ _ (qQ (hok t (ar ..)))];show G (decide ((a:Int)<0)) _ _=_;have hk:ie (pT i t).Broken (pT i t).Rune=kT (tkT t):=vY t;rw[hk,zg,B4,xk,au,kq];refine fc (bR (by simp) ?_);cases hb:(fi (tkT t)||gM (tkT t)) with
  |false=>
   refine bR rfl (f.trans ?_);show _=if (rk (tkT t)||_) then _ else _
   rw[show rk (tkT t)=false from hb,dK]
  |true=>
   refine ca rfl (gO ?_);have:(rk (tkT t)||(ts.map tkT).any rk)=true:=by rw[show rk (tkT t)=true from hb];rfl
   rw[this,aj rfl];refine aV (EN _ (by have:=OL s (a:Int) (b:Int);omega)) ?_;unfold B5;show G ((ef o).s (jV (c6 s (a:Int) (b:Int)))) _ _=_;cases h:(ef o).s (jV (c6 s (a:Int) (b:Int))) with
   |true=>exact ca rfl (by rw[he,aj rfl])
   |false=>exact bR rfl (by rw[he];rfl)
theorem OO (hz:∀a b c,dn a b c=some 0) (he:∀v a b,ek v a b=some v) (g:s.size<=65536) {a:Nat}:∀ (ts:List dM) (i:Nat),(∀t∈ts,lI t)->a<=i->i+(c7 ts).length=s.size ->
  jZ dn (uP o s ek) (pL i ts) (a:Int) (i:Int) true =
   if ((ts.map tkT).dropWhile kh).any rk then some (B5 o s a (i+(c7 (ts.takeWhile λt=>kh (tkT t))).length)) else some 0
 |[],i,_,_,_=>hz _ _ _
 |t::ts,i,hok,hai,hsz=>by
  have d:∀x∈ts,lI x:=λx hx=>hok x (ak _ hx);rw[nP,aa] at hsz;have h:=OO hz he g (a:=a) ts (i+t.bs.length) d z1 z1;rw[pL,qn,IK o s ek (pT i t) _ _ _ _ (qQ (hok t (ar ..)))];show G (decide ((a:Int)<0)) _ _=_;have hk:ie (pT i t).Broken (pT i t).Rune=kT (tkT t):=vY t;rw[hk,zg,B4,xk,au,aY,cS];refine fc ?_;cases hb:kh (tkT t) with
  |true=>
   refine ca (by rw[show (fi (tkT t)||jQ (tkT t))=true from hb];rfl) (dI ⟨?_,?_⟩ ?_)
   ·show (-9223372036854775808:Int)<=(i:Int)+(t.bs.length:Int);omega
   ·show (i:Int)+(t.bs.length:Int)<=(9223372036854775807:Int);omega
   ·simp only[if_true];rw[nP,aa,<-gZ];have e:(pT i t).At+(pT i t).Width=((i+t.bs.length:Nat):Int):=by show (i:Int)+(t.bs.length:Int)=_;push_cast;rfl
    rw[e];exact h
  |false=>
   refine bR (by rw[show (fi (tkT t)||jQ (tkT t))=false from hb];rfl) ?_;simp only[bp,if_false];rw[show c7 []=([]:List UInt8) from rfl,aB,Nat.add_zero,kq];have f:fi (tkT t)=false:=by
    have:(fi (tkT t)||jQ (tkT t))=false:=hb;revert this;cases fi (tkT t)<;>simp
   cases hd:gM (tkT t) with
   |true=>
    refine ca (by rw[f];rfl) (gO ?_);have:(rk (tkT t)||(ts.map tkT).any rk)=true:=by rw[show rk (tkT t)=true by unfold rk;rw[hd,Bool.or_true]];rfl
    rw[this,aj rfl];refine aV (EN _ (by have:=OL s (a:Int) (i:Int);omega)) ?_;unfold B5;show G ((ef o).s (jV (c6 s (a:Int) (i:Int)))) _ _=_;cases j:(ef o).s (jV (c6 s (a:Int) (i:Int))) with
    |true=>exact ca rfl (by rw[he,aj rfl])
    |false=>exact bR rfl (by rw[he];rfl)
   |false=>
    refine bR (by rw[f];rfl) ?_;rw[show rk (tkT t)=false by unfold rk;rw[hd,f];rfl,dK];exact ON hz he g hai z1 ts _ d
def B6 (o:nS) (l:List Tk):Bool:=(tq l).any (λx=>fi x||gM x)&&o.s (jV (jw (pp l)))
def Fa (l:List Tk):Nat:=(l.takeWhile λx=>!fi x).length+(pp l).length
theorem XT (o:nS) (l:List Tk):tr o l=if B6 o l then Fa l else 0:=rfl
theorem OP (hz:∀a b c,dn a b c=some 0) (he:∀v a b,ek v a b=some v) (h:s.size<=65536):∀ (ts A:List dM),(∀t∈ts,lI t)->s.data.toList=c7 (A++ts) ->
  jZ dn (uP o s ek) (pL (c7 A).length ts) (-1) 0 true=some (if B6 (ef o) (ts.map tkT) then (((c7 A).length+(c7 (ts.take (Fa (ts.map tkT)))).length:Nat):Int) else 0)
 |[],A,_,_=>by
  rw[pL,Gn,hz];rfl
 |t::ts,A,hok,hsz=>by
  have d:∀x∈ts,lI x:=λx hx=>hok x (ak _ hx);have j:(c7 A).length+(t.bs.length+(c7 ts).length)=s.size:=by rw[jK,hsz,nQ,nP,aa,aa]
  rw[pL,qn,IK o s ek (pT _ t) _ _ _ _ (qQ (hok t (ar ..)))];have hk:∀i,ie (pT i t).Broken (pT i t).Rune=kT (tkT t):=λ_=>vY t;rw[hk,zg,B4,xk];refine ca (by decide) ?_;cases f:fi (tkT t) with
  |true=>
   refine ca rfl (dI ⟨?_,?_⟩ ?_)
   ·show (-9223372036854775808:Int)<=((c7 A).length:Int)+(t.bs.length:Int);omega
   ·show ((c7 A).length:Int)+(t.bs.length:Int)<=(9223372036854775807:Int);omega
   ·have e:(pT (c7 A).length t).At+(pT (c7 A).length t).Width=(((c7 A).length+t.bs.length:Nat):Int):=by show ((c7 A).length:Int)+(t.bs.length:Int)=_;push_cast;rfl
    rw[e];refine (OO (o:=o) (ek:=ek) hz he h (a:=(c7 A).length) ts ((c7 A).length+t.bs.length) d z1 z1).trans ?_;have hd:((t::ts).map tkT).dropWhile (λx=>!fi x)=tkT t::ts.map tkT:=by rw[au,cS,f];rfl
    have ht:((t::ts).map tkT).takeWhile (λx=>!fi x)=[]:=by rw[au,aY,f];rfl
    have hm:kh (tkT t)=true:=by unfold kh;rw[f];rfl
    have e1:tq ((t::ts).map tkT)=(ts.map tkT).dropWhile kh:=by unfold tq;rw[hd,cS,hm];rfl
    have e2:pp ((t::ts).map tkT)=((t::ts).takeWhile λt=>kh (tkT t)).map tkT:=by
     unfold pp;rw[hd,<-au,uq];rfl
    have g:(t::ts).takeWhile (λt=>kh (tkT t))=t::ts.takeWhile λt=>kh (tkT t):=by rw[aY,hm];rfl
    unfold B6 Fa;rw[e1,e2,ht];have hB:∀W:List dM,W=ts.takeWhile (λt=>kh (tkT t))->c6 s (((c7 A).length:Nat):Int) ((((c7 A).length+t.bs.length)+(c7 W).length:Nat):Int)=jw (((t::ts).takeWhile λt=>kh (tkT t)).map tkT):=by
     intro W hW;rw[g,<-hW];refine IM A (t::W) (ts.dropWhile λt=>kh (tkT t)) ?_ rfl (by rw[nP,aa];omega);rw[hsz,aW,hW,eR]
    cases k:((ts.map tkT).dropWhile kh).any rk with
    |false=>rfl
    |true=>
     rw[aj rfl,gP];unfold B5;rw[hB _ rfl];cases l:(ef o).s (jV (jw (((t::ts).takeWhile λt=>kh (tkT t)).map tkT))) with
     |false=>rfl
     |true=>
      rw[aj rfl,aj rfl,aB,Nat.zero_add,ax];rw[g,ab,fb,nP,aa,OM,gZ]
  |false=>
   refine bR rfl ?_;have e:(c7 A).length+t.bs.length=(c7 (A++[t])).length:=by rw[nQ,aa];simp[c7]
   rw[e];refine (OP hz he h ts (A++[t]) d (by rw[hsz,av];rfl)).trans ?_;have e1:tq ((t::ts).map tkT)=tq (ts.map tkT):=by unfold tq;rw[au,cS,f];rfl
   have e2:pp ((t::ts).map tkT)=pp (ts.map tkT):=by unfold pp;rw[au,cS,f];rfl
   have g:(((t::ts).map tkT).takeWhile λx=>!fi x).length=((ts.map tkT).takeWhile λx=>!fi x).length+1:=by rw[au,aY,f];rfl
   unfold B6 Fa;rw[e1,e2,g,show ((ts.map tkT).takeWhile λx=>!fi x).length+1+(pp (ts.map tkT)).length=(((ts.map tkT).takeWhile λx=>!fi x).length+(pp (ts.map tkT)).length)+1 by omega,fb,nP,aa,<-e,gZ]
end
theorem XU (o:co) (s:V) (b:s.size<=65536):E7 o s=some ((c7 ((fO s.data.toList).take (tr (ef o) ((fO s.data.toList).map tkT)))).length:Int):=by
 unfold E7;refine cL (aV (a:=s) rfl (aV (BD s z1) (cL (cL ?_))));rw[zf];refine (OP (o:=o) (s:=s) (λ_ _ _=>rfl) (λ_ _ _=>rfl) b (fO s.data.toList) [] (rF _) (by rw[bj,vF])).trans ?_;rw[XT];cases B6 (ef o) ((fO s.data.toList).map tkT) with
 |true=>simp[c7]
 |false=>simp[c7]
theorem XV:∀n:Fin 256,Dk .u8 ((n.val:Nat):Int) 63=((n.val % 64:Nat):Int):=by decide +kernel
theorem XW:∀n:Fin 64,nk .u8 ((n.val:Nat):Int) 128=((n.val+128:Nat):Int):=by decide +kernel
theorem XX:∀n:Fin 32,nk .u8 192 ((n.val:Nat):Int)=((n.val+192:Nat):Int):=by decide +kernel
theorem XY:∀n:Fin 16,nk .u8 224 ((n.val:Nat):Int)=((n.val+224:Nat):Int):=by decide +kernel
theorem XZ:∀n:Fin 8,nk .u8 240 ((n.val:Nat):Int)=((n.val+240:Nat):Int):=by decide +kernel
theorem B7 (n:Nat):IntKind.u8.wrap (n:Int)=((n % 256:Nat):Int):=by
 simp[IntKind.wrap,IntKind.bits,IntKind.signed]
theorem zi (n:Nat):qt (n:Int)=some ((n % 64+128:Nat):Int):=by
 unfold qt;rw[B7];have h1:=XV ⟨n % 256,by omega⟩;simp only at h1;rw[h1];have h2:=XW ⟨n % 256 % 64,by omega⟩;simp only at h2;rw[h2,show n % 256 % 64=n % 64 by omega]
theorem IP (n:Nat):er .i32 (n:Int) 6=((n / 64:Nat):Int):=by
 show Int.fdiv (n:Int) 64=_;rw[ke _ (by decide)];omega
theorem OQ (n:Nat):er .i32 (n:Int) 12=((n / 4096:Nat):Int):=by
 show Int.fdiv (n:Int) 4096=_;rw[ke _ (by decide)];omega
theorem X0 (n:Nat):er .i32 (n:Int) 18=((n / 262144:Nat):Int):=by
 show Int.fdiv (n:Int) 262144=_;rw[ke _ (by decide)];omega
theorem OR (n:Nat) (hv:n<55296\/(57343<n/\n<=1114111)):(G (decide (((n:Int):Int)<128)) (grd (∀x∈([IntKind.u8.wrap (n:Int)]:List Int),U8 x)<|some (kK ([IntKind.u8.wrap (n:Int)]:List Int))) (G (decide (((n:Int):Int)<2048)) (T (qt (n:Int)) λ(i:Int)=>grd (∀x∈([nk .u8 192 (IntKind.u8.wrap (er .i32 (n:Int) 6)),i]:List Int),U8 x)<|some (kK ([nk .u8 192 (IntKind.u8.wrap (er .i32 (n:Int) 6)),i]:List Int))) (G (decide (((n:Int):Int)<65536)) (T (qt (er .i32 (n:Int) 6)) λ(g:Int)=>T (qt (n:Int)) λ(f:Int)=>grd (∀x∈([nk .u8 224 (IntKind.u8.wrap (er .i32 (n:Int) 12)),g,f]:List Int),U8 x)<|some (kK ([nk .u8 224 (IntKind.u8.wrap (er .i32 (n:Int) 12)),g,f]:List Int))) (T (qt (er .i32 (n:Int) 12)) λ(d:Int)=>T (qt (er .i32 (n:Int) 6)) λ(c:Int)=>T (qt (n:Int)) λ(b:Int)=>grd (∀x∈([nk .u8 240 (IntKind.u8.wrap (er .i32 (n:Int) 18)),d,c,b]:List Int),U8 x)<|some (kK ([nk .u8 240 (IntKind.u8.wrap (er .i32 (n:Int) 18)),d,c,b]:List Int))))))=some (ae (n:Int)):=by
 have a:encodeRune (n:Int)=(encodeRuneZ (n:Int)).map λx=>x.toNat.toUInt8:=rfl;rcases Hr n hv with⟨h,e⟩|⟨h,h',e⟩|⟨h,h',e⟩|⟨h,h',e⟩
 ·refine eQ ?_;rw[B7];refine dI (by intro x hx;simp only[bd] at hx;subst hx;exact⟨by omega,by omega⟩) (aI some (vM ?_));rw[pg,a,e,show n % 256=n by omega]
 ·refine fc (eQ (aV (zi n) ?_));have h1:=XX ⟨n / 64,by omega⟩;simp only at h1;rw[IP,B7,show n / 64 % 256=n / 64 by omega,h1];refine dI (by intro x hx;simp only[bg,dJ,or_false] at hx;rcases hx with rfl | rfl<;>exact⟨by omega,by omega⟩) (aI some (vM ?_))
  rw[pg,a,e,show ((n / 64+192:Nat):Int)=192+(n:Int) / 64 by omega,show ((n % 64+128:Nat):Int)=128+(n:Int) % 64 by omega]
 ·refine fc (fc (eQ ?_));have h1:=XY ⟨n / 4096,by omega⟩;simp only at h1;rw[IP,OQ,B7,show n / 4096 % 256=n / 4096 by omega,h1];refine aV (zi _) (aV (zi _) ?_);refine dI (by intro x hx;simp only[bg,dJ,or_false] at hx;rcases hx with rfl | rfl | rfl<;>exact⟨by omega,by omega⟩) (aI some (vM ?_))
  rw[pg,a,e,show ((n / 4096+224:Nat):Int)=224+(n:Int) / 4096 by omega,show ((n / 64 % 64+128:Nat):Int)=128+(n:Int) / 64 % 64 by omega,show ((n % 64+128:Nat):Int)=128+(n:Int) % 64 by omega]
 ·refine fc (fc (fc ?_));have h1:=XZ ⟨n / 262144,by omega⟩;simp only at h1;rw[IP,OQ,X0,B7,show n / 262144 % 256=n / 262144 by omega,h1];refine aV (zi _) (aV (zi _) (aV (zi _) ?_));refine dI (by intro x hx;simp only[bg,dJ,or_false] at hx;rcases hx with rfl | rfl | rfl | rfl<;>exact⟨by omega,by omega⟩) (aI some (vM ?_))
  rw[pg,a,e,show ((n / 262144+240:Nat):Int)=240+(n:Int) / 262144 by omega,show ((n / 4096 % 64+128:Nat):Int)=128+(n:Int) / 4096 % 64 by omega,show ((n / 64 % 64+128:Nat):Int)=128+(n:Int) / 64 % 64 by omega,show ((n % 64+128:Nat):Int)=128+(n:Int) % 64 by omega]
theorem OS {r:Int} (h:¬vr r):ae r=ae 65533:=by
 apply ByteArray.ext;apply gI.1;rw[pg,pg];unfold encodeRune;congr 1;unfold vr at h;unfold encodeRuneZ
 (repeat' split)<;>first | rfl | (exfalso;omega)
theorem X3 (r:Int):ED r=some (ae r):=by
 unfold ED;refine cL ?_;by_cases hv:vr r
 ·refine aV (ND r hv) ?_;have c:0<(ae r).size:=by rw[Ab];exact (Ac r).1
  refine bR (by rw[aA];omega) ?_;obtain⟨n,rfl⟩:∃n:Nat,r=n:=⟨r.toNat,by unfold vr at hv;omega⟩;exact OR n (by unfold vr at hv;omega)
 ·have b:r≠65533:=by intro e;subst e;exact hv (by unfold vr;omega)
  have d:ae r=(⟨#[239,191,189]⟩:V):=by rw[OS hv];decide
  refine aV (a:=0) ?_ (ca rfl ?_)
  ·unfold yU;exact cL (ca (cQ.2 b) (ca (an d) rfl))
  ·rw[OS hv];exact OR 65533 z1
theorem X4 (r:Int):EI r=some (jV (ae r)):=aV (X3 r) (aV (EN _ (by have:=oX r;omega)) rfl)
section
variable {R X A:Type} {xs:List X}
theorem OT (F:(A->Nat->Option R)->A->Nat->Option R) (bot:A->Nat->Option R) (f:A->X->A) (J:A->Option R) (Inv:Nat->A->Prop) (c:∀ag k x a,xs[k]?=some x->Inv k a->F ag a k=ag (f a x) (k+1)) (e:∀k x a,xs[k]?=some x->Inv k a->Inv (k+1) (f a x)) (he:∀ag a,Inv xs.length a->F ag a xs.length=J a) {n:Nat} (d:xs.length<n) {a:A} (h0:Inv 0 a):bP bot F n a 0=J (xs.foldl f a):=by
 have key:∀ (n k:Nat) (a:A),k<=xs.length->xs.length-k<n->Inv k a->bP bot F n a k=J ((xs.drop k).foldl f a):=by
  intro n
  induction n with
  |zero=>intro k a _ h;omega
  |succ n b=>
   intro k a hk d hi;rw[iB];by_cases h:k<xs.length
   ·have hx:xs[k]?=some xs[k]:=aJ h;rw[c _ k _ a hx hi,aQ h,bz];exact b (k+1) _ z1 z1 (e k _ a hx hi)
   ·have:k=xs.length:=by omega
    subst this;rw[he _ a hi,List.drop_length];rfl
 have:=key n 0 a (bT _) z1 h0;simpa using this
end
theorem Fb {α β:Type} (g:α->β):∀ (xs:List α) (a:List β),xs.foldl (λa x=>a++[g x]) a=a++xs.map g
 |[],a=>by simp
 |x::xs,a=>by rw[bz,Fb g xs];simp
theorem IQ:∀ (n:Nat) (ts:List dM) (i:Nat),(pL i ts).take n=pL i (ts.take n)
 |0,ts,i=>rfl
 |n+1,[],i=>rfl
 |n+1,t::ts,i=>by rw[pL,fb,fb,pL,IQ n ts]
theorem Fc {α:Type} (l:List α) (n:Nat):ee l 0 (n:Int)=l.take n:=by unfold ee;simp
theorem X5 {α:Type} (l:List α) (n:Nat):l.take (min l.length n)=l.take n:=by
 rcases Nat.le_total l.length n with h|h
 ·rw[Nat.min_eq_left h,lL,ff h]
 ·rw[Nat.min_eq_right h]
def okB (x:Tk):Bool:=!decide (x.1<0)
theorem X6 (t:dM):okB (tkT t)=!t.broken:=by
 unfold okB tkT;cases t.broken with
 |true=>rfl
 |false=>
  have:¬(((t.r:Int),(⟨t.bs.toArray⟩:V)).1<0):=by show ¬((t.r:Int)<0);omega
  rw[ai (by simp),ah this]
def Fe (b:Int) (k:Nat) (p:List V):Option (Nat×List V)->Prop
 |none=>b=0/\k=0/\p=[]
 |some (m,xs)=>b=(m:Int)/\0<m/\p=xs
theorem X7 (o:co) (C:List dq) (D:Int->Nat->List V->Option (Int×List V)) (i:Nat) (TT:List dM) (W:TT.length<=8) (hc:ee C 0 (min (C.length:Int) 8)=pL i TT) (K:∀t∈TT,lI t) : ∀ (n:Nat) (B A:List dM) (b:Int) (k:Nat) (p:List V) (f:V) (r:Option (Nat×List V)),TT=A++B->B.length<n->Fe b k p r->f.size<=4*A.length -> ∃w m l,Fe w m l (((B.map tkT).takeWhile okB).foldl (rj (ef o)) (f,A.length,r)).2.2/\bP (λ_ _ _ _ _=>none) (BV o C D) n b f k p (A.length:Int)=D w m l:=by
 intro n
 induction n with
 |zero=>intro B A b k p f r _ h;omega
 |succ n Q=>
  intro B A b k p f r x S hr hf;rw[iB];generalize N:bP (λ_ _ _ _ _=>none) (BV o C D) n=ag;unfold BV;rw[hc];have e:(pL i TT).length=A.length+B.length:=by rw[rO,x,aa]
  cases B with
  |nil=>
   refine⟨b,k,p,hr,bR (ah (by rw[e];simp)) rfl⟩
  |cons t B=>
   have g:TT[A.length]?=some t:=by rw[x];simp
   have hA:A.length<8:=by rw[x,aa,ab] at W;omega
   have j:=K t (by rw[x];simp);have P:TT=(A++[t])++B:=by rw[x,av];rfl
   have q:(A++[t]).length=A.length+1:=by simp
   have u:(A.length:Int)+1=((A++[t]).length:Int):=by rw[q];push_cast;rfl
   rw[au,aY,X6];cases hb:t.broken with
   |true=>
    refine⟨b,k,p,hr,ca (an (by rw[e];simp;omega)) (cL (aV (iu (uR _ _ _ _ g)) (ca hb rfl)))⟩
   |false=>
    simp only[db,if_true,bz];have e4:=oX (cP (t.r:Int));have hx:(tkT t).1=(t.r:Int):=by unfold tkT;rw[hb];rfl
    have F:rj (ef o) (f,A.length,r) (tkT t)=(f++ae (cP (t.r:Int)),A.length+1,if (cf (f++ae (cP (t.r:Int))) o.place).isSome then some (A.length+1,[f++ae (cP (t.r:Int))]) else match cf (f++ae (cP (t.r:Int))) o.fors with | some xs=>some (A.length+1,xs) | none=>r):=by
     unfold rj;rw[hx];rfl
    rw[F];have M:(f++ae (cP (t.r:Int))).size<=4*(A++[t]).length:=by rw[aM,q];omega
    have L:B.length<n:=by rw[ab] at S;omega
    have v:∀ (w:Int) (m:Nat) (l:List V) (z:Option (Nat×List V)),Fe w m l z->∃d c a,Fe d c a (((B.map tkT).takeWhile okB).foldl (rj (ef o)) (f++ae (cP (t.r:Int)),A.length+1,z)).2.2 /\
      (grd (I64 ((A.length:Int)+1))<|ag w (f++ae (cP (t.r:Int))) m l ((A.length:Int)+1))=D d c a:=by
     intro w m l z H;obtain⟨d,c,a,h1,h2⟩:=Q B (A++[t]) w m l _ z P L H M;rw[q] at h1;rw[<-u,N] at h2;exact⟨d,c,a,h1,gO h2⟩
    have y:I64 ((A.length:Int)+1):=⟨by omega,by omega⟩;cases hp:(cf (f++ae (cP (t.r:Int))) o.place).isSome with
    |true=>
     obtain⟨d,c,a,h1,h2⟩:=v ((A.length:Int)+1) 1 [f++ae (cP (t.r:Int))] (some (A.length+1,[f++ae (cP (t.r:Int))])) ⟨by push_cast;rfl,by omega,rfl⟩;refine⟨d,c,a,h1,ca (an (by rw[e];simp;omega)) (cL (aV (iu (uR _ _ _ _ g)) (bR hb (dI (qQ j) (dI (by show f.size+(ae (cP (t.r:Int))).size<=_;omega) (ca hp (dI y h2)))))))⟩
    |false=>
     simp only[bp,if_false];cases J:cf (f++ae (cP (t.r:Int))) o.fors with
     |some xs=>
      obtain⟨d,c,a,h1,h2⟩:=v ((A.length:Int)+1) 2 xs (some (A.length+1,xs)) ⟨by push_cast;rfl,by omega,rfl⟩;refine⟨d,c,a,h1,ca (an (by rw[e];simp;omega)) (cL (aV (iu (uR _ _ _ _ g)) (bR hb (dI (qQ j) (dI (by show f.size+(ae (cP (t.r:Int))).size<=_;omega) (bR hp (ca (by show (cf (f++ae (cP (t.r:Int))) o.fors).isSome=true;rw[J];rfl) (dI y (aV J h2)))))))))⟩
     |none=>
      obtain⟨d,c,a,h1,h2⟩:=v b k p r hr;refine⟨d,c,a,h1,ca (an (by rw[e];simp;omega)) (cL (aV (iu (uR _ _ _ _ g)) (bR hb (dI (qQ j) (dI (by show f.size+(ae (cP (t.r:Int))).size<=_;omega) (bR hp (bR (by show (cf (f++ae (cP (t.r:Int))) o.fors).isSome=false;rw[J];rfl) h2)))))))⟩
theorem B8 (f:bn×List bn->V):∀ {l:List (bn×List bn)},(∀c∈l,(f c).size<=4*(oc c).length)->(J f l).size<=4*(l.flatMap oc).length
 |[],_=>bT _
 |c::l,h=>by
  have:=B8 f (l:=l) λd hd=>h d (ak _ hd);have h1:=h c (ar ..);rw[kH,aM,aK,aa];omega
theorem X8 (s:V):((lS s).flatMap oc).length<=3*s.size:=by
 have h1:=vT (apL (ij s));have h2:=w3 (ij s);have h3:=sE s;have a:(ij s).length=(fK s.data.toList).length:=by unfold ij;rw[ax]
 show (nq (apL (ij s))).length<=_;omega
theorem IR (c:bn×List bn):(oc c).length=1+c.2.length:=by
 unfold oc;rw[ab,tU];omega
theorem uT (s:V) (d:s.size<=65536):(jV s).size<=12*s.size/\(iw s).size<=12*s.size/\(N3 s).size<=12*s.size/\(xd s).size<=12*s.size:=by
 obtain⟨g,hc⟩:=vS d;have f:=X8 s;refine⟨?_,?_,?_,?_⟩
 ·have:=B8 qO (l:=lS s) (λc a=>by have:=NV (hc c a).1;have:=IR c;show (ox c.1).Text.size<=_;omega);unfold jV;omega
 ·have:=B8 rM (l:=lS s) (λc a=>by
   obtain⟨h1,h2,_,e⟩:=hc c a;have:=Ic (λx:bn=>x.Text) 4 (l:=oc c) (λx hx=>by
    unfold oc at hx;rcases bg.1 hx with rfl|hx
    ·exact vU h1
    ·have b:x∈c.2:=by
      unfold loI hiI at hx;rw[bv,cG,cG] at hx;rcases hx with hx|hx<;>exact hx.1
     exact vU (h2 x b).2)
   unfold rM;omega)
  unfold iw;omega
 ·have:=B8 (λc:bn×List bn=>c.1.Text) (l:=lS s) (λc a=>by have:=vU (hc c a).1;have:=IR c;show c.1.Text.size<=_;omega);unfold N3;omega
 ·have:=B8 rN (l:=lS s) (λc a=>by
   obtain⟨h1,h2,_,e⟩:=hc c a;have h:=BJ c.2;have h5:=tU c.2;have i:=IR c;rw[aa] at h5;unfold rN;split
   ·have:=Iq c.1.Rune ((loI c.2).map (·.Rune)) ((hiI c.2).map (·.Rune)) (by simp;omega) (by simp;omega);simp only[ax] at this;omega
   ·have:=vU h1;omega)
  unfold xd;omega
theorem X9 (r:V) (hr:r.size<=1000) (J:List V->Option (Int×List V)):bP (λ_ _=>none) (xh J r) bN [] 0=J ((fB r).map ae):=by
 have b:=sE r;have:=OT (xh J r) (λ_ _=>none) (λa (p:Pc)=>a++[ae (p.r:Int)]) J (xs:=fK r.data.toList) (λk a=>a.length=k) (λag k x a hx hi=>by
   have hk:=(aq.1 hx).1;unfold xh;exact ca (an hk) (aV hx (gO rfl))) (λk x a _ hi=>by simp[hi]) (λag a _=>by unfold xh;exact fc rfl) (n:=bN) (jC z1) (a:=[]) rfl
 refine this.trans ?_;have e:(fK r.data.toList).map (λp=>ae (p.r:Int))=(fB r).map ae:=by
  unfold fB;rw[cF];exact dW λp _=>by rw[Function.comp_apply]
 rw[Fb,bj,e]
theorem Yb (o:co) (i:Nat) (t:dM) (ts:List dM) (hb:t.broken=false) (d:∀x∈t::ts,lI x) (l:(t::ts).length<=1000000000) : E9 o (pL i (t::ts))=some (((lV (ef o) (tkT t) (ts.map tkT)).1:Int),(lV (ef o) (tkT t) (ts.map tkT)).2):=by
 unfold E9;have e:min ((pL i (t::ts)).length:Int) 8=((min (pL i (t::ts)).length 8:Nat):Int):=by omega
 have g:ee (pL i (t::ts)) 0 (min ((pL i (t::ts)).length:Int) 8)=pL i ((t::ts).take 8):=by rw[e,Fc,X5,IQ]
 refine cL (dI ⟨eV _,by omega,by omega⟩ ?_);have c:∀x∈(t::ts).take 8,lI x:=λx hx=>d x (sP hx);have f:((t::ts).take 8).length<=8:=List.length_take_le _ _;obtain⟨m,k,h,h1,h2⟩:=X7 o (pL i (t::ts)) _ i ((t::ts).take 8) f g c bN ((t::ts).take 8) [] 0 0 [] ⟨#[]⟩ none rfl (by unfold bN;omega) ⟨rfl,rfl,rfl⟩ (by decide);refine h2.trans ?_;have b:(((((t::ts).take 8).map tkT).takeWhile okB).foldl (rj (ef o)) ((⟨#[]⟩:V),([]:List dM).length,none)).2.2=vX (ef o) (tkT t::ts.map tkT):=by
  unfold vX xi;rw[List.map_take];rfl
 rw[b] at h1;unfold lV;cases hB:vX (ef o) (tkT t::ts.map tkT) with
 |some j=>
  rw[hB] at h1;obtain⟨rfl,h0,rfl⟩:=h1;exact eQ rfl
 |none=>
  rw[hB] at h1;obtain⟨rfl,rfl,rfl⟩:=h1;refine bR (by decide) (cL (dI rfl (aV (a:=pT i t) rfl (dI (qQ (d t (ar ..))) ?_))));refine aV (X4 (cP (t.r:Int))) ?_;have hx:(tkT t).1=(t.r:Int):=by unfold tkT;rw[hb];rfl
  rw[X9 _ (by have h2:=oX (cP (t.r:Int));have h3:=(uT (ae (cP (t.r:Int))) z1).1;omega),hx,nL];unfold tY;generalize (fB (jV (ae (cP (t.r:Int))))).map ae=X;rfl
theorem OU {r:Int} (h:dx r=true):∃b,dx b=true/\cf b eP=none/\tY r=(fB (lT (cP b))).map ae:=by
 have hL:dx (cP r)=true:=by
  have h1:=ov r h;have key:((fg 1120).all λn=>!dx (n:Int)||dx (cP (n:Int)))=true:=by decide +kernel
  have:=bm.1 key r.toNat (mc.2 z1);rw[show ((r.toNat:Nat):Int)=r by omega,h] at this;simpa using this
 obtain⟨b,a,hp,hb,c,hm,_⟩:=vQ hL;refine⟨b,hb,c,?_⟩;unfold tY;have e:ae (cP r)=kl [cP r]:=by rw[tp,kH,tn,bF]
 rw[e,WZ (by intro x hx;rw[bd.1 hx];exact vV hL),aK,ol,aE,hp,au,yS (by exact hb)];have h1:(a.map kz).takeWhile isM=a.map kz:=IB (λx hx=>by obtain⟨y,hy,rfl⟩:=aT.1 hx;exact hm y hy);have h2:(a.map kz).dropWhile isM=[]:=IC (λx hx=>by obtain⟨y,hy,rfl⟩:=aT.1 hx;exact hm y hy);rw[h1,h2,HZ,kH,tn,bF,OA (by exact hb)];rfl
theorem Yc {r:Int} (h:dx r=true):tY r≠[]/\(tY r).length<=4:=by
 obtain⟨b,hb,a,e⟩:=OU h;rw[e];have h1:=(Oo hb).2.1;have h2:=Ih (cP b);have h3:=sE (lT (cP b));refine⟨by simpa using h1,?_⟩;rw[ax];unfold fB;rw[ax];omega
def vZ (o:nS):Prop:=∀u xs,o.f u=some xs->xs≠[]/\xs.length<=4
theorem OV (o:nS) (c:vZ o):∀ (l:List Tk) (a:V×Nat×Option (Nat×List V)),(∀m xs,a.2.2=some (m,xs)->1<=m/\m<=a.2.1/\xs≠[]/\xs.length<=4) ->
  (l.foldl (rj o) a).2.1=a.2.1+l.length/\∀m xs,(l.foldl (rj o) a).2.2=some (m,xs)->1<=m/\m<=a.2.1+l.length/\xs≠[]/\xs.length<=4
 |[],a,h=>⟨rfl,h⟩
 |x::l,a,h=>by
  rw[bz,ab];have b:(rj o a x).2.1=a.2.1+1:=rfl;obtain⟨h1,h2⟩:=OV o c l (rj o a x) (by
   intro m xs hm;rw[b];unfold rj at hm;simp only at hm;split at hm
   ·injection hm with hm;injection hm with e1 e2;subst e1;subst e2;exact⟨by omega,by omega,by simp,by simp⟩
   ·split at hm
    ·rename_i ys hy;injection hm with hm;injection hm with e1 e2;subst e1;subst e2;have:=c _ _ hy;exact⟨by omega,by omega,this.1,this.2⟩
    ·have:=h m xs hm;exact⟨this.1,by omega,this.2.2⟩)
  rw[b] at h1 h2;exact⟨by omega,λm xs hm=>by have:=h2 m xs hm;exact⟨this.1,by omega,this.2.2⟩⟩
theorem IU (o:nS) (b:vZ o) (x:Tk) (l:List Tk) (hx:dx x.1=true):1<=(lV o x l).1/\(lV o x l).1<=(x::l).length/\(lV o x l).2≠[]/\(lV o x l).2.length<=4:=by
 unfold lV;cases hb:vX o (x::l) with
 |none=>
  have:=Yc hx;rw[nL];generalize tY x.1=X at this;exact⟨aS 1,by rw[ab];omega,this.1,this.2⟩
 |some a=>
  obtain⟨m,xs⟩:=a;unfold vX at hb;have:=(OV o b (xi (x::l)) (af,0,none) (by intro m xs h;cases h)).2 m xs hb;have c:(xi (x::l)).length<=(x::l).length:=by
   unfold xi;exact Nat.le_trans (dU _).length_le (List.take_sublist _ _).length_le
  have h0:=this.2.1;rw[gg];have e0:((af,0,none):V×Nat×Option (Nat×List V)).2.1=0:=rfl;rw[e0] at h0;exact⟨this.1,by omega,this.2.2.1,this.2.2.2⟩
theorem OW (m:V):∀l:List El,(qP m l).length=l.length
 |[]=>rfl
 |[e]=>rfl
 |e::a::es=>by rw[qP,ab,OW m (a::es)];rfl
theorem IV (m:V):∀ (l:List El) (e:El),qP m (l++[e])=l++[⟨e.sort,e.place,e.digits,m,e.great⟩]
 |[],e=>rfl
 |[a],e=>rfl
 |a::b::l,e=>by
  have:=IV m (b::l) e;simp only[aW] at this |-
  rw[qP,this]
theorem Yd {a:List El} (h:a≠[]) (cs:List (Option (List El))) (out:List El) (sp:Bool):oz (some a::cs) out sp=oz cs (out++(if sp&&!out.isEmpty then [nr] else [])++a) false:=by
 cases a with
 |nil=>exact absurd rfl h
 |cons e b=>rfl
def ko (sp:Bool) (out:List El):List El:=if sp&&!out.isEmpty then [nr] else []
theorem B9 (sp:Bool) (out:List El):(ko sp out).length<=1:=by unfold ko;split<;>simp
theorem IW (e:El) (sp:Bool) (out:List El) (h:out.length<=2000000000):zb e sp out=some (false,out++ko sp out++[e]):=by
 unfold zb;refine cL ?_;have b:∀l:List El,l.length<=2000000001->(grd (l.length+1<=2147483648)<|some (false,l++[e]))=some (false,l++[e]):=λl c=>gO rfl;cases sp with
 |false=>
  refine bR rfl ((b out z1).trans ?_);unfold ko;simp
 |true=>
  refine ca rfl ?_;cases out with
  |nil=>exact bR rfl (b [] (by simp))
  |cons a out=>
   refine ca (an (by rw[ab];omega)) (gO ((b _ (by rw[aa];simp only[ab,aB] at h |-;omega)).trans ?_));rfl
theorem Ye (c:List dq) (b:Int×List V) (J:Int->Option (List El)) (TT:List dM) (i:Nat) (hc:ee c 0 b.1=pL i TT) (d:∀t∈TT,lI t) (hb:TT.length<=1000000000) (j:∀t∈TT,great (tkT t).1=great (t.r:Int)) : bP (λ_ _=>none) (zc c b J) bN 0 0=J (sG (TT.map tkT)):=by
 have hm:∀ (k:Nat) (x:dq),(pL i TT)[k]?=some x->gJ x.Rune/\k<TT.length:=λk x hx=>by
  have hk:=(aq.1 hx).1;rw[rO] at hk;have:=uR TT i k TT[k] (aJ hk);rw[this] at hx;injection hx with hx;subst hx;exact⟨qQ (d _ (oq _)),hk⟩
 have:=tj (pL i TT) (λ(g:Int) (p:dq)=>if great p.Rune then 1 else g) J (F:=zc c b J) (bot:=λ_ _=>none) (λ_ _=>True) (λag k x a hx hi=>by
   obtain⟨h1,h2⟩:=hm k x hx;unfold zc;rw[hc];refine ca (oa hx) (cL (aV (mY hx) (dI h1 ?_)));cases hg:great x.Rune with
   |true=>exact ca rfl (dI (kG z1) rfl)
   |false=>exact bR rfl (dI (kG z1) rfl)) (λ_ _ _ _ _=>trivial) (λag a _=>by unfold zc;rw[hc];exact bR nR rfl) (n:=bN) (by rw[rO];exact jC z1) (a:=0) trivial
 refine this.trans (aI J ?_);clear this hm;have key:∀ (TT:List dM) (i:Nat) (g:Int),(∀t∈TT,great (tkT t).1=great (t.r:Int))->(pL i TT).foldl (λ(g:Int) (p:dq)=>if great p.Rune then 1 else g) g=if (TT.map tkT).any (λx=>great x.1) then 1 else g:=by
  intro TT
  induction TT with
  |nil=>intro i g _;rfl
  |cons t TT e=>
   intro i g h;rw[pL,bz,e _ _ (λx hx=>h x (ak _ hx)),au,kq,h t (ar ..)];show (if _ then (1:Int) else if great (t.r:Int) then 1 else g)=_
   cases great (t.r:Int)<;>cases (TT.map tkT).any (λx=>great x.1)<;>rfl
 exact key TT i 0 j
theorem Yf {t:dM} (h:jQ (tkT t)=true):(tkT t).1=(t.r:Int)/\t.broken=false:=by
 unfold jQ tkT at h;unfold tkT;cases hb:t.broken with
 |true=>rw[hb,aj rfl] at h;exact absurd h (show ¬fV (-1)=true by decide)
 |false=>exact⟨rfl,rfl⟩
theorem Yg (i:Nat) (TT:List dM) (J:Int->V->Option (List El)) (g:∀t∈TT,lI t) (p:TT.length<=1000000000):∀ (n:Nat) (B A:List dM) (m:V),TT=A++B->B.length<n->m.size<=4*A.length -> bP (λ_ _=>none) (BW (pL i TT) J) n (A.length:Int) m=J ((A.length:Int)+(((B.map tkT).takeWhile jQ).length:Nat)) (m++nU ((B.map tkT).takeWhile jQ)):=by
 intro n
 induction n with
 |zero=>intro B A m _ h;omega
 |succ n k=>
  intro B A m f l hm;rw[iB];generalize j:bP (λ_ _=>none) (BW (pL i TT) J) n=ag;unfold BW;have c:(pL i TT).length=A.length+B.length:=by rw[rO,f,aa]
  cases B with
  |nil=>
   refine bR (ah (by rw[c];simp)) ?_;show J _ m=J _ (m++af);rw[bF];simp
  |cons t B=>
   have d:TT[A.length]?=some t:=by rw[f];simp
   have e:=g t (by rw[f];simp);have hA:A.length<=1000000000:=by rw[f,aa] at p;omega
   refine ca (an (by rw[c];simp;omega)) (aV (iu (uR _ _ _ _ d)) (aV (a:=jQ (tkT t)) ?_ ?_))
   ·unfold y9;refine dI (qQ e) ?_;show some ((ie t.broken (t.r:Int):Int)==2)=_;rw[vY,B4]
   ·rw[au,aY];cases hk:jQ (tkT t) with
    |false=>
     refine bR rfl ?_;show J _ m=J _ (m++af);rw[bF];simp
    |true=>
     have q:=oX (t.r:Int);refine ca rfl (aV (iu (uR _ _ _ _ d)) (dI (by show m.size+(ae (t.r:Int)).size<=_;omega) (gO ?_)));have:=k B (A++[t]) (m++ae (t.r:Int)) (by rw[f,av];rfl) (by rw[ab] at l;omega) (by rw[aM,aa];simp;omega);rw[j] at this;have b:(A.length:Int)+1=((A++[t]).length:Int):=by simp
     rw[b];refine this.trans ?_;simp only[if_true];unfold nU;rw[kH,(Yf hk).1,dE,ab,<-b];congr 1
     push_cast;omega
theorem Yh (o:co) (b:Int×List V) (g:Int) (J:List El->Bool->Option (List El)) (h:b.2.length<=4) (out:List El) (sp:Bool) (d:out.length<=1999999000) :
  bP (λ_ _ _=>none) (zd o b g J) bN out sp 0=if b.2=[] then J out sp else J (out++ko sp out++b.2.map (jx (ef o) g)) false:=by
 have:=M6 (zd o b g J) (λ(a:List El×Bool) u=>(a.1++ko a.2 a.1++[jx (ef o) g u],false)) J (xs:=b.2) (bot:=λ_ _ _=>none) (λk a=>a.1.length<=1999999000+2*k) (λag k x a hx hi=>by
   have hk:=pM hx;unfold zd;exact ca (oa hx) (aV (mY hx) (aV (IW _ a.2 a.1 z1) (dI (kG z1) rfl)))) (λk x a _ hi=>by
    have:=B9 a.2 a.1;simp only[aa,ab,aB];omega) (λag a _=>by unfold zd;exact bR nR rfl) (n:=bN) (jC z1) (a:=(out,sp)) (by simpa using d)
 refine this.trans ?_;have e:∀l:List El,ko false l=[]:=λ_=>rfl;have key:∀ (us:List V) (l:List El),us.foldl (λ(a:List El×Bool) u=>(a.1++ko a.2 a.1++[jx (ef o) g u],false)) (l,false)=(l++us.map (jx (ef o) g),false):=by
  intro us
  induction us with
  |nil=>intro l;simp
  |cons u us c=>intro l;rw[bz];simp only[e,aE];rw[c];simp
 cases hr:b.2 with
 |nil=>rw[aj rfl];rfl
 |cons u us=>
  rw[ai (by simp),bz,key];simp
theorem OX (t:dM) (h:0<=(tkT t).1):(tkT t).1=(t.r:Int)/\t.broken=false:=by
 unfold tkT at h |-
 cases hb:t.broken with
 |true=>rw[hb,aj rfl] at h;exact absurd h z1
 |false=>exact⟨rfl,rfl⟩
theorem OY {t:dM} (a:lI t) (h:gM (tkT t)=true):t.bs.length=1:=by
 have h:=of_decide_eq_true h;obtain⟨h1,h2⟩:=OX t z1;rcases a with hv|hb
 ·obtain⟨_,b⟩:=hv;rw[h1] at h;rw[b,<-Ab];have key:((fg 58).all λn=>decide ((ae (n:Int)).size=1))=true:=by decide +kernel
  exact of_decide_eq_true (bm.1 key t.r (mc.2 z1))
 ·rw[hb] at h2;cases h2
theorem Yi (i:Nat) (TT:List dM) (J:Int->Option (List El)) (f:∀t∈TT,lI t) (l:TT.length<=1000000000):∀ (n:Nat) (B A:List dM),TT=A++B->B.length<n -> bP (λ_=>none) (BX (pL i TT) J) n (A.length:Int)=J ((A.length:Int)+(((B.map tkT).takeWhile gM).length:Nat)):=by
 intro n
 induction n with
 |zero=>intro B A _ h;omega
 |succ n j=>
  intro B A e k;rw[iB];generalize g:bP (λ_=>none) (BX (pL i TT) J) n=ag;unfold BX;have b:(pL i TT).length=A.length+B.length:=by rw[rO,e,aa]
  cases B with
  |nil=>
   refine bR (ah (by rw[b];simp)) ?_;show J _=J _;congr 1
  |cons t B=>
   have d:TT[A.length]?=some t:=by rw[e];simp
   have c:=f t (by rw[e];simp);have hA:A.length<=1000000000:=by rw[e,aa] at l;omega
   refine ca (an (by rw[b];simp;omega)) (aV (iu (uR _ _ _ _ d)) (dI (qQ c) ?_));have hk:∀i,ie (pT i t).Broken (pT i t).Rune=kT (tkT t):=λ_=>vY t;rw[hk,xk,au,aY];cases hd:gM (tkT t) with
   |false=>
    refine bR rfl ?_;congr 1
   |true=>
    refine ca rfl (gO ?_);have:=j B (A++[t]) (by rw[e,av];rfl) (by rw[ab] at k;omega);rw[g] at this;have a:(A.length:Int)+1=((A++[t]).length:Int):=by simp
    rw[a];refine this.trans ?_;simp only[if_true];rw[ab,<-a];congr 1
    push_cast;omega
theorem Yj (J:V->Option (List El)):∀ (n:Nat) (d:V),d.size<n->d.size<=1000000000->bP (λ_=>none) (BZ J) n d=J ⟨(uQ d.data.toList).toArray⟩:=by
 intro n
 induction n with
 |zero=>intro d h;omega
 |succ n e=>
  intro d g hb;rw[iB];generalize b:bP (λ_=>none) (BZ J) n=ag;unfold BZ;cases hd:d.data.toList with
  |nil=>
   have h0:d.size=0:=by rw[jK,hd];rfl
   refine fc ?_;have:d=⟨([]:List UInt8).toArray⟩:=rP (by rw[hd]);rw[this];rfl
  |cons c l=>
   have h0:d.size=l.length+1:=by rw[jK,hd];rfl
   have hg:kY d 0=some (c.toNat:Int):=by
    unfold kY;rw[aj (eV 0)];have:d.data[(0:Int).toNat]?=some c:=by
     rw[<-lC,hd];rfl
    rw[this];rfl
   refine eQ (aV hg ?_);unfold uQ;rw[cS];have hc:(((c.toNat:Int):Int)==48)=(c==48):=by
    rw[eF,beq_iff_eq,beq_iff_eq];constructor
    ·intro h;exact gv.1 (by show c.toNat=48;omega)
    ·intro h;subst h;rfl
   rw[hc];cases hz:(c==48) with
   |false=>
    refine bR rfl ?_;simp only[bp,if_false];rw[<-hd]
   |true=>
    refine ca rfl (gO ?_);have a:(c6 d 1 (d.size:Int)).data.toList=l:=by
     have:=uS d 1 d.size;rw[hd,mC,List.drop_zero,h0,Nat.add_sub_cancel,lL] at this;rw[h0];exact this
    have f:(c6 d 1 (d.size:Int)).size=l.length:=by rw[jK,a]
    have:=e (c6 d 1 (d.size:Int)) z1 z1;rw[b] at this;rw[this,a];rfl
theorem Ca (x:Tk):(kT x=1↔fi x=true)/\(kT x=3↔gM x=true):=by
 constructor
 ·rw[<-zg,beq_iff_eq]
 ·rw[<-xk,beq_iff_eq]
theorem OZ {t:dM} (h:fi (tkT t)=true):(tkT t).1=(t.r:Int)/\t.broken=false/\dx (t.r:Int)=true:=by
 have h':dx (tkT t).1=true:=h;have:=ov _ h';obtain⟨h1,h2⟩:=OX t z1;rw[h1] at h';exact⟨h1,h2,h'⟩
theorem Yk (t:dM):great (tkT t).1=great (t.r:Int):=by
 unfold tkT;cases hb:t.broken with
 |true=>
  rw[aj rfl];have:t.r=65533:=by unfold vh at hb;simp at hb;exact hb.1
  rw[this];show great (-1)=great ((65533:Nat):Int);decide
 |false=>rfl
theorem Ym {S:V} {A ts:List dM} {t:dM} (a:lI t) (h:S.data.toList=c7 (A++t::ts)):kY S ((c7 A).length:Int)=some (mj (tkT t).2):=by
 have b:=DZ a;cases hb:t.bs with
 |nil=>exact absurd hb b
 |cons c l=>
  unfold kY;rw[aj z1,cy];have h1:S.data.toList[(c7 A).length]?=some c:=by
   rw[h,nQ,nP,hb];simp
  have h2:S.data[(c7 A).length]?=some c:=by rw[<-lC];exact h1
  rw[h2];unfold mj tkT;rw[hb];rfl
theorem IX {α:Type} (l:List α) (c:Nat):ee l (c:Int) (l.length:Int)=l.drop c:=by
 unfold ee;rw[cy,cy,ff (by rw[aR];exact aS _)]
theorem Yn {x:Tk} (h:fi x=true):kT x=1:=(Ca x).1.2 h
set_option maxHeartbeats 1000000 in
theorem Yo (o:co) (ho:vZ (ef o)) (r1:V) (r2:Int) (S:V) (hS:c6 r1 r2 (r1.size:Int)=S) (c0:S.size<=1000000000) (J:List El->Option (List El)) : ∀ (n:Nat) (ts A:List dM) (out:List El) (sp:Bool) (m:Nat),S.data.toList=c7 (A++ts)->(∀t∈ts,lI t)->ts.length<n->ts.length<=m->out.length+6*ts.length<=1999999000 -> bP (λ_ _ _=>none) (B3 o J r1 r2) n out sp (pL (c7 A).length ts)=J (oz (oy (ef o) m (ts.map tkT)) out sp):=by
 intro n
 induction n with
 |zero=>intro ts A out sp m _ _ h;omega
 |succ n ih=>
  intro ts A out sp m hd e hn hm hb;rw[iB];generalize b0:bP (λ_ _ _=>none) (B3 o J r1 r2) n=ag;unfold B3;rw[hS];cases ts with
  |nil=>
   refine bR (ah (by rw[rO];simp)) ?_;cases m<;>rfl
  |cons t ts=>
   obtain⟨m,rfl⟩:∃k,m=k+1:=⟨m-1,by rw[ab] at hm;omega⟩;have ht:=e t (ar ..);have bh:(c7 A).length+(t.bs.length+(c7 ts).length)=S.size:=by rw[jK,hd,nQ,nP,aa,aa]
   have w:(t::ts).length<=1000000000:=by omega
   have r:∀ (c:Nat) (a1:Option (List El)) (d:List El) (v:Bool),1<=c->c<=(t::ts).length->mZ (ef o) (tkT t) (ts.map tkT)=(c,a1)->(∀cs,oz (a1::cs) out sp=oz cs d v)->d.length<=out.length+5 ->
     (grd (0<=(c:Int)/\(c:Int)<=((pL (c7 A).length (t::ts)).length:Int)/\(((pL (c7 A).length (t::ts)).length:Int):Int)<=((pL (c7 A).length (t::ts)).length:Int))<|ag d v (ee (pL (c7 A).length (t::ts)) (c:Int) ((pL (c7 A).length (t::ts)).length:Int))) =
      J (oz (oy (ef o) (m+1) ((t::ts).map tkT)) out sp):=by
    intro c a1 d v h1 h2 h3 h4 h5;refine dI ⟨by omega,by rw[rO];omega,eV _⟩ ?_;rw[IX,OK];have hA:(c7 A).length+(c7 ((t::ts).take c)).length=(c7 (A++(t::ts).take c)).length:=by rw[nQ,aa]
    have ao:((t::ts).drop c).length+c=(t::ts).length:=by rw[aR];omega
    have:=ih ((t::ts).drop c) (A++(t::ts).take c) d v m (by rw[hd,av,bo]) (λx hx=>e x (im hx)) z1 z1 z1;rw[b0] at this;rw[hA,this,au];show _=J (oz ((mZ (ef o) (tkT t) (ts.map tkT)).2::oy (ef o) m ((tkT t::ts.map tkT).drop (mZ (ef o) (tkT t) (ts.map tkT)).1)) out sp);rw[h3,h4,<-au,lz]
   have hk:∀i,ie (pT i t).Broken (pT i t).Rune=kT (tkT t):=λ_=>vY t;refine ca (an (by rw[rO,ab];omega)) (cL (aV (a:=pT (c7 A).length t) rfl (dI (qQ ht) ?_)));rw[hk,zg,xk];cases hl:fi (tkT t) with
   |true=>
    obtain⟨b5,L,a2⟩:=OZ hl;have f:=IU (ef o) ho (tkT t) (ts.map tkT) hl;have b:mZ (ef o) (tkT t) (ts.map tkT)=((lV (ef o) (tkT t) (ts.map tkT)).1+(((tkT t::ts.map tkT).drop (lV (ef o) (tkT t) (ts.map tkT)).1).takeWhile jQ).length,some (qP (nU (((tkT t::ts.map tkT).drop (lV (ef o) (tkT t) (ts.map tkT)).1).takeWhile jQ)) ((lV (ef o) (tkT t) (ts.map tkT)).2.map (jx (ef o) (sG ((tkT t::ts.map tkT).take (lV (ef o) (tkT t) (ts.map tkT)).1)))))):=by
     unfold mZ;rw[aj (Yn hl)]
    refine ca rfl (aV (Yb o (c7 A).length t ts L e w) ?_);generalize hM:lV (ef o) (tkT t) (ts.map tkT)=M at f b |-
    rw[<-au,<-lz,<-List.map_take] at b;have b7:M.1<=(t::ts).length:=by have:=f.2.1;rw[ab,ax] at this;exact this
    refine cL (dI ⟨eV _,by show (0:Int)<=(M.1:Int);omega,by rw[rO];show (M.1:Int)<=_;omega⟩ ?_);refine (Ye _ (((M.1:Nat):Int),M.2) _ ((t::ts).take M.1) (c7 A).length (by show ee _ 0 (M.1:Int)=_;rw[Fc,IQ]) (λx hx=>e x (sP hx)) (by rw[aZ];omega) (λx _=>Yk x)).trans ?_;refine cL ?_;have a5:=λJm=>Yg (c7 A).length (t::ts) Jm e w bN ((t::ts).drop M.1) ((t::ts).take M.1) ⟨#[]⟩ (bo _ _).symm (by rw[aR];unfold bN;omega) (by show 0<=_;omega);have b3:((t::ts).take M.1).length=M.1:=by rw[aZ];omega
    simp only[b3] at a5;refine (a5 _).trans ?_;rw[show (⟨#[]⟩:V)=af from rfl,el];refine cL ?_;refine (Yh o (((M.1:Nat):Int),M.2) _ _ f.2.2.2 out sp z1).trans ?_;rw[ai f.2.2.1];generalize bb:(((t::ts).drop M.1).map tkT).takeWhile jQ=ms at b |-
    generalize b9:sG (((t::ts).take M.1).map tkT)=gr at b |-
    obtain⟨us,u,a3⟩:∃us u,M.2=us++[u]:=⟨M.2.dropLast,M.2.getLast f.2.2.1,(List.dropLast_concat_getLast f.2.2.1).symm⟩;have F:M.2.map (jx (ef o) gr)=us.map (jx (ef o) gr)++[jx (ef o) gr u]:=by rw[a3];simp
    have D:qP (nU ms) (M.2.map (jx (ef o) gr))=us.map (jx (ef o) gr)++[⟨3,((ef o).p u).getD 0,af,nU ms,gr⟩]:=by rw[F,IV];rfl
    have b6:us.length<=3:=by have:=f.2.2.2;rw[a3,aa,ab,aB] at this;omega
    have a6:=B9 sp out;generalize hP:out++ko sp out++us.map (jx (ef o) gr)=P at *;have c2:P.length<=out.length+4:=by rw[<-hP];simp only[aa,ax];omega
    have hall:out++ko sp out++M.2.map (jx (ef o) gr)=P++[jx (ef o) gr u]:=by rw[F,<-av,hP]
    rw[hall];have N:((P++[jx (ef o) gr u]).length:Int)-1=(P.length:Int):=by rw[aa,ab,aB];push_cast;omega
    rw[N];refine gO (aV (iu (show (P++[jx (ef o) gr u])[P.length]?=some (jx (ef o) gr u) by simp)) ?_);have a4:(P++[jx (ef o) gr u]).set ((P.length:Int)).toNat (⟨(jx (ef o) gr u).sort,(jx (ef o) gr u).place,(jx (ef o) gr u).digits,nU ms,(jx (ef o) gr u).great⟩:El)=P++[⟨3,((ef o).p u).getD 0,af,nU ms,gr⟩]:=by
     rw[cy,rV _ _ (aS _),kB];rfl
    have b4:ms.length+M.1<=(t::ts).length:=by
     rw[<-bb];have:=(dU jQ (l:=((t::ts).drop M.1).map tkT)).length_le;rw[ax,aR] at this;omega
    have:=r (M.1+ms.length) (some (qP (nU ms) (M.2.map (jx (ef o) gr)))) (P++[⟨3,((ef o).p u).getD 0,af,nU ms,gr⟩]) false z1 z1 b (λcs=>by
     rw[Yd (by rw[D];simp),D,<-av];show oz cs (out++ko sp out++us.map (jx (ef o) gr)++_) false=_;rw[hP]) (by rw[aa,ab,aB];omega)
    rw[a4];have g:((M.1:Nat):Int)+((ms.length:Nat):Int)=((M.1+ms.length:Nat):Int):=by push_cast;rfl
    rw[g];exact this
   |false=>
    refine bR rfl ?_;have z:¬kT (tkT t)=1:=λh=>by have:=(Ca (tkT t)).1.1 h;rw[hl] at this;cases this
    have H:=(Ca (tkT t)).2;cases aw:gM (tkT t) with
    |true=>
     have q:kT (tkT t)=3:=H.2 aw;have b:mZ (ef o) (tkT t) (ts.map tkT)=(1+((ts.map tkT).takeWhile gM).length,some [⟨2,0,tZ (tkT t::(ts.map tkT).takeWhile gM),af,0⟩]):=by
      unfold mZ;rw[ai z,aj q]
     refine ca rfl (cL ?_);have ao:=λJd=>Yi (c7 A).length (t::ts) Jd e w bN ts [t] rfl (by rw[ab] at w;unfold bN;omega);have e1:(([t]:List dM).length:Int)=1:=rfl;simp only[e1] at ao;refine (ao _).trans ?_;have b2:(ts.map tkT).takeWhile gM=(ts.takeWhile λx=>gM (tkT x)).map tkT:=by rw[uq];rfl
     rw[b2,ax] at b |-
     generalize hW:(ts.takeWhile λx=>gM (tkT x))=W at b |-
     have cv:W.length<=ts.length:=by rw[<-hW];exact (dU _).length_le
     have b1:∀x∈t::W,x.bs.length=1:=by
      intro x hx;rcases bg.1 hx with rfl|hx
      ·exact OY ht aw
      ·have L:x∈ts:=by rw[<-hW] at hx;exact (dU _).subset hx
       have a2:gM (tkT x)=true:=by
        rw[<-hW] at hx;exact bm.1 (uk (p:=λx=>gM (tkT x)) (l:=ts)) x hx
       exact OY (e x (ak _ L)) a2
     have bk:∀l:List dM,(∀x∈l,x.bs.length=1)->(c7 l).length=l.length:=by
      intro l
      induction l with
      |nil=>intro _;rfl
      |cons x l a8=>intro h;rw[nP,aa,ab,h x (ar ..),a8 (λy hy=>h y (ak _ hy))];omega
     have Q:(c7 (t::W)).length=1+W.length:=by rw[bk _ b1,ab];omega
     have C:t::ts=(t::W)++ts.dropWhile λx=>gM (tkT x):=by rw[aW,<-hW,eR]
     have a7:c6 S ((c7 A).length:Int) (((c7 A).length+(1+W.length):Nat):Int)=jw ((t::W).map tkT) :=
      IM A (t::W) (ts.dropWhile λx=>gM (tkT x)) (by rw[hd,C]) rfl (by rw[Q])
     have b8:(c7 A).length+(1+W.length)<=S.size:=by
      rw[jK,hd,C,nQ,nQ,aa,aa,Q];omega
     have hq:(pT (c7 A).length t).At+(1+((W.length:Nat):Int))=(((c7 A).length+(1+W.length):Nat):Int):=by
      show ((c7 A).length:Int)+(1+((W.length:Nat):Int))=_
      push_cast;omega
     refine cL ?_;rw[hq];refine gO (dI ⟨by show (0:Int)<=((c7 A).length:Int);omega,by show ((c7 A).length:Int)<=_;omega,by omega⟩ ?_);have a0:c6 S (pT (c7 A).length t).At (((c7 A).length+(1+W.length):Nat):Int)=jw ((t::W).map tkT):=a7;rw[a0];have cc:(jw ((t::W).map tkT)).size=1+W.length:=by rw[jK,zh,Q]
     refine (Yj _ bN (jw ((t::W).map tkT)) (by unfold bN;omega) z1).trans ?_;refine aV (IW _ sp out z1) ?_;have a6:=B9 sp out;have:=r (1+W.length) (some [⟨2,0,tZ (tkT t::W.map tkT),af,0⟩]) (out++ko sp out++[⟨2,0,tZ (tkT t::W.map tkT),af,0⟩]) false z1 (by rw[ab];omega) b (λcs=>rfl) (by simp only[aa,ab,aB];omega);have g:(1:Int)+((W.length:Nat):Int)=((1+W.length:Nat):Int):=by push_cast;rfl
     rw[g];exact this
    |false=>
     have q:¬kT (tkT t)=3:=λh=>by have:=H.1 h;rw[aw] at this;cases this
     refine bR rfl ?_;have a9:∀K:Bool->Option (List El),cm (λ(j9:Bool->Option (List El))=>G (((kT (tkT t)):Int)==5) (j9 (((kT (tkT t)):Int)==5)) (G (((kT (tkT t)):Int)==4) (j9 (((kT (tkT t)):Int)==4)) (j9 (((kT (tkT t)):Int)==6)))) K=K (decide (kT (tkT t)=5\/kT (tkT t)=4\/kT (tkT t)=6)):=by
      intro K;unfold cm;by_cases h5:kT (tkT t)=5
      ·rw[h5];rfl
      ·by_cases h4:kT (tkT t)=4
       ·rw[h4];rfl
       ·rw[aA.2 h5,aA.2 h4];by_cases h6:kT (tkT t)=6
        ·rw[h6];rfl
        ·rw[aA.2 h6,ah (by simp[h5,h4,h6])];rfl
     refine (a9 _).trans ?_;by_cases j:kT (tkT t)=5\/kT (tkT t)=4\/kT (tkT t)=6
     ·rw[an j];refine ca rfl ?_;exact r 1 none out true (aS 1) (by rw[ab];omega) (by unfold mZ;rw[ai z,ai q,aj j]) (λcs=>rfl) z1
     ·rw[ah j];refine bR rfl ?_;by_cases B:kT (tkT t)=11
      ·rw[beq_iff_eq.2 B];have ch:0<=mj (tkT t).2/\mj (tkT t).2<=255:=by unfold mj;have:=((tkT t).2.data.toList.headD 0).toNat_lt;omega
       refine ca rfl (aV (Ym ht hd) (gO (aV (IW _ sp out z1) ?_)));have a6:=B9 sp out;exact r 1 (some [⟨4,mj (tkT t).2,af,af,0⟩]) (out++ko sp out++[⟨4,mj (tkT t).2,af,af,0⟩]) false (aS 1) (by rw[ab];omega)
        (by unfold mZ;rw[ai z,ai q,ai j,aj B]) (λcs=>rfl) (by simp only[aa,ab,aB];omega)
      ·rw[aA.2 B];refine bR rfl ?_;exact r 1 (some []) out sp (aS 1) (by rw[ab];omega) (by unfold mZ;rw[ai z,ai q,ai j,ai B]) (λcs=>rfl) z1
theorem Yp (s:V) (f:s.size<=1000000000):E8 s=some (pL 0 (fO s.data.toList)):=by
 unfold E8;refine aV (a:=s) rfl (aV (a:=pL 0 (fO s.data.toList)) ?_ rfl);unfold IG;refine aV (a:=pL 0 (fO s.data.toList)) ?_ rfl;unfold IF;refine cL (aV (BD s z1) (cL ?_));rw[zf];have b:(pL 0 (fO s.data.toList)).length<=s.size:=by
  rw[rO];have:=sE s;have e:(fK s.data.toList).length=(fO s.data.toList).length:=by rw[<-rO (fO s.data.toList) 0,<-zf,ax]
  omega
 have key:∀ (l acc:List dq),acc.length+l.length<=1000000000->jZ (λc=>(some c:Option (List dq))) xg l acc=some (acc++l):=by
  intro l
  induction l with
  |nil=>intro acc _;rw[Gn,aE]
  |cons x l d=>
   intro acc h;rw[ab] at h;rw[qn];unfold xg;refine gO ?_;have:=d (acc++[x]) (by simp;omega);unfold xg at this;rw[this,av];rfl
 have:=key (pL 0 (fO s.data.toList)) [] (by simp;omega);rw[bj] at this;exact this
theorem O0 (o:nS) (l:List Tk):tr o l<=l.length:=by
 unfold tr;split
 ·unfold pp;have h1:=aI fS (eR (p:=λx=>!fi x) (l:=l));have h2:=aI fS (eR (p:=kh) (l:=l.dropWhile λx=>!fi x));rw[aa] at h1 h2;omega
 ·omega
theorem zj (s:V):(fO s.data.toList).length<=s.size:=by
 have h3:=sE s;have e:(fK s.data.toList).length=(fO s.data.toList).length:=by rw[<-rO (fO s.data.toList) 0,<-zf,ax]
 omega
theorem Yq {s:V} {X a:List UInt8} (h:s.data.toList=X++a):(c6 s (X.length:Int) (s.size:Int)).data.toList=a:=by
 rw[uS,h,jb,jK,h,aa,jh,lL]
def qc (t:V):Prop:=t.size<=65536/\(iw t).size<=65536
theorem IY {t:V} (h:t.size<=5000):qc t:=⟨by omega,by have:=(uT t z1).2.1;omega⟩
theorem O1 (o:co) (g:vZ (ef o)) (t:V) (ht:qc t):ze o t=some (xj (ef o) (iE t)):=by
 obtain⟨h0,h1⟩:=ht;unfold ze;refine cL (aV (N5 t h0) (aV (XU o (iw t) z1) ?_));have b:=O0 (ef o) ((fO (iw t).data.toList).map tkT);generalize hp:tr (ef o) ((fO (iw t).data.toList).map tkT)=p at b |-
 have c:=XR (fO (iw t).data.toList) p;rw[vF,<-jK] at c;refine dI ⟨by omega,by omega,eV _⟩ ?_;have d:(c6 (iw t) ((c7 ((fO (iw t).data.toList).take p)).length:Int) ((iw t).size:Int)).data.toList=c7 ((fO (iw t).data.toList).drop p):=by
  exact Yq (by rw[<-nQ,bo,vF])
 have hg:fO (c7 ((fO (iw t).data.toList).drop p))=(fO (iw t).data.toList).drop p:=D3 ((fO (iw t).data.toList).take p) (by rw[bo];exact MP _);generalize e:c6 (iw t) ((c7 ((fO (iw t).data.toList).take p)).length:Int) ((iw t).size:Int)=SS at d |-
 have h:SS.size<=65536:=by rw[jK,d];omega
 refine aV (Yp SS z1) ?_;rw[d,hg];have f:=zj (iw t);have:=Yo o g (iw t) ((c7 ((fO (iw t).data.toList).take p)).length:Int) SS e z1 some bN ((fO (iw t).data.toList).drop p) [] [] false (((fO (iw t).data.toList).map tkT).length) (by rw[bj,d]) (λx hx=>rF _ x (im hx)) (by rw[aR];unfold bN;omega) (by rw[aR,ax];omega) (by rw[aR];simp only[aB];omega);refine this.trans ?_;unfold xj iE oZ;rw[hp,lz]
def O2 (b:V) (a:V):Option Bool := G (decide (((a.size:Int):Int)<=(b.size:Int))) (grd (0<=(0:Int)/\(0:Int)<=(a.size:Int)/\((a.size:Int):Int)<=(b.size:Int)) <|some (decide (c6 b 0 (a.size:Int)=a))) (some false)
theorem Yr {c:V} {a:V} {r:Bool} (h:O2 c a=some r):eO prog 155 [.string c,.string a] (.bool r):=by
 refine eO.intro func155 rfl ntmps155 (by simp) (λw0 K=>I (O 1 rfl (cw (O 1 rfl (mw rfl dc rfl am (O 1 rfl (mw rfl dc rfl am (E rfl gw (O 1 rfl (du 10 rfl h (λh=>?_) (λh=>?_)))))))))))
 ·refine O 2 rfl (mw rfl dc rfl am (bi h λb h=>jj rfl dc rfl rfl rfl (lP 0 (a.size:Int) am (.inl ⟨rfl,rfl⟩) (.inr rfl) b) (O 1 rfl (E rfl mf (O 2 rfl (Y (bO ?_)))))));cases h;exact dt 4 results155
 refine O 8 rfl (Y (bO ?_));cases h;exact dt 4 results155
def O3 (b:V) (a:V):Option Bool := T (O2 b a) λ(r1:Bool)=>some r1
theorem Ys {b:V} {a:V} {r:Bool} (h:O3 b a=some r):eO prog 142 [.string b,.string a] (.bool r):=by
 refine eO.intro func142 rfl ntmps142 (by simp) (λw0 K=>I (O 1 rfl (cw (O 2 rfl (aU h λr1 c h=>dF (.bool r1) [.string b,.string a] rfl dc rfl rfl rfl T2 (Yr c) (O 1 rfl (Y (bO ?_))))))));cases h;exact dt 4 results142
def IZ (c0:V) (c:Nat->Option (List dq)) (a:Nat):Option (List dq) := G (decide (a<(fK c0.data.toList).length)) (T ((fK c0.data.toList)[a]?) λ(p1:Pc)=>cm (λ(b:Int->Bool->Option (List dq))=>G (((p1.r:Int):Int)==65533) (grd (0<=((p1.i:Int):Int)/\((p1.i:Int):Int)<=(c0.size:Int)/\((c0.size:Int):Int)<=(c0.size:Int)) <|T (O3 (c6 c0 (p1.i:Int) (c0.size:Int)) (⟨#[239,191,189]⟩:V)) λ(r1:Bool)=>G (!r1) (b 1 true) (b ((ae (p1.r:Int)).size:Int) false)) (b ((ae (p1.r:Int)).size:Int) false)) (λ(p2:Int) (d:Bool)=>wE (⟨(p1.i:Int),p2,(p1.r:Int),d⟩:dq) <|c (a+1))) (some [])
def I0 (c0:V):Option (List dq) := bP (λ_=>none) (IZ c0) bN 0
theorem Yt {d:Nat} {c0:V} {xs:(List dq)} (h:I0 c0=some xs):uu prog 141 [zP d] (λq:dq=>[.agg (fC q).toArray]) xs [(d,.cells #[.string c0] 9 (0,0))]:=by
 unfold I0 at h;refine uu.intro func141 rfl ntmps141 (by simp) (λl w0 K L X x hy=>?_);obtain⟨r0,w⟩:∃r,xs=[]++r:=⟨xs,rfl⟩;have C:xs=r0:=w;rw[C] at h;refine I (Dc 0 x eJ rfl dc rfl rfl rfl (wO am rfl dc rfl (λb1=>Y (ck (fP (Nat×(List dq)×(List dq)) (IZ c0) (λa b=>a b.1=some b.2.2/\xs=b.2.1++b.2.2) (λb=>[]) (λb=>[(0,.func (.yield l) #[] #[]),(1,zP d),(7,zP b1)]) (λb=>[L b.2.1,obj b1 (.stringIter c0 (n8 c0 b.1))]) (0,([]:List dq),r0) ⟨h,w⟩ 2 ?_)))));rintro N ⟨t,c,y⟩ ⟨h,u⟩;unfold IZ at h;refine I (vx (decide (t<(fK c0.data.toList).length)) (λf=>?_) (λf=>?_))
 ·have h:=pY f h;refine aU h λp1 F h=>wP 1 t p1 rfl dc rfl rfl F (fF rfl dc rfl rfl (Y (bV (jy rfl (bw (cu (ck (cJ (Int×Bool×Nat) h 2 rfl (λM b=>M b.1 b.2.1=some y) (λb=>[]) (λb=>[(0,.func (.yield l) #[] #[]),(1,zP d),(5,zP b.2.2),(7,zP b1)]) (λb=>[L c,cells b.2.2 [zI (p1.i:Int),zI b.1,.int .i32 (p1.r:Int),.bool b.2.1] 102,obj b1 (.stringIter c0 (n8 c0 (t+1)))]) (λM h cut=>I (fF rfl dc rfl rfl (fF rfl dc rfl rfl (O 2 rfl (cw (O 2 rfl (jI rfl dc rfl (nM bl am) (mw rfl dc rfl am (O 1 rfl (fH (.agg #[zI (p1.i:Int),zI ((ae (p1.r:Int)).size:Int),.int .i32 (p1.r:Int),.bool false]) [(0,.tmp 12),(1,.tmp 15),(2,.tmp 16)] rfl dc rfl (λ_=>by kernel_rfl) (fZ rb rfl dc (λJ=>fI 2 [zI (p1.i:Int),zI ((ae (p1.r:Int)).size:Int),.int .i32 (p1.r:Int),.bool false] [zI (p1.i:Int),zI ((ae (p1.r:Int)).size:Int),.int .i32 (p1.r:Int),.bool false] mg rfl rfl rfl rfl rfl (show _<=_ by simp) rfl rfl (Y (cut (I (O 1 rfl (E rfl eZ (O 1 rfl (du 20 rfl h (λh=>Dc 0 x eJ rfl dc rfl rfl rfl (O 1 rfl (bi h λH h=>jj rfl dc rfl rfl rfl (lP (p1.i:Int) (c0.size:Int) am (.inr rfl) (.inl ⟨rfl,rfl⟩) H) (aU h λr1 D h=>dF (.bool r1) [.string (c6 c0 (p1.i:Int) (c0.size:Int)),.string (⟨#[239,191,189]⟩:V)] rfl dc rfl rfl rfl TY (Ys D) (lh rfl dc rfl lj (O 1 rfl (Y (bu rfl h (λh=>bX (ci s6 rfl dc rfl (show _=1 from rfl) (fJ 2 [zI (p1.i:Int),zI 1,.int .i32 (p1.r:Int),.bool false] gL rfl rfl rfl rfl rfl (λ_ _=>rfl) rfl (ci DI rfl dc rfl (show _=3 from rfl) (fJ 2 [zI (p1.i:Int),zI 1,.int .i32 (p1.r:Int),.bool true] qq rfl rfl rfl rfl rfl (λ_ _=>rfl) rfl (bC (iW (1,true,J) h rfl (gl rfl) (ct [0,2,1] kr rfl)))))))) (λh=>bw (iW (((ae (p1.r:Int)).size:Int),false,J) h rfl (gl rfl) (ct [0,2,1] kr rfl))))))))))) (λh=>O 6 rfl (Y (eU rfl (bw (iW (((ae (p1.r:Int)).size:Int),false,J) h rfl (gl rfl) (ct [0,2,1] kr rfl))))))))))))))))))))))))) ?_))))))));rintro⟨p2,n,P⟩ h;refine I (O 1 rfl (ju 1 [zI (p1.i:Int),zI p2,.int .i32 (p1.r:Int),.bool n] nm rfl dc rfl rfl rfl rfl ?_));obtain⟨e,B,h⟩:=xS h;have g:xs=c++(⟨(p1.i:Int),p2,(p1.r:Int),n⟩:dq)::e:=by rw[u,B]
  refine xD 0 hy rfl dc rfl g rfl rfl ?_ ?_
  ·have z:xs=(c++[(⟨(p1.i:Int),p2,(p1.r:Int),n⟩:dq)])++e:=by rw[g];simp
   exact lh rfl dc rfl lj (Y (eU rfl (bw (cg (iW (t+1,c++[(⟨(p1.i:Int),p2,(p1.r:Int),n⟩:dq)],e) ⟨h,z⟩ rfl (gl rfl) (ct [0,2] kr rfl))))))
  exact lh rfl dc rfl lj (Y (jy rfl (bO (cK (bZ (cK (xE (ds:=[]) c (⟨(p1.i:Int),p2,(p1.r:Int),n⟩:dq) e g (.inl rfl) aC results141 (cO 1))))))))
 have h:=pZ f h;refine wQ 1 t rfl dc rfl rfl (jT (of_decide_eq_false f)) (fF rfl dc rfl rfl (Y (bV (eU rfl (dG (bS (bS (dH ?_))))))));cases h;exact zY (ds:=[]) (.inr rfl) aC results141 (aI L (u.trans (aE _))) (cO 1)
def I1 (a:V):Option V := some a
theorem Yu {a:V} {r:V} (h:I1 a=some r):Fn prog 112 [.string a] [] (λv0:Nat=>.func (.func 141) #[] #[zP v0]) (λv0=>[cells v0 [.string r] 9]):=by
 unfold I1 at h;refine Fn.intro func112 rfl ntmps112 (by simp) (λw0 K=>I (lE rfl dc rfl (λb1=>O 1 rfl (cw (xC [] [.tmp 1] rfl dc rfl rfl (O 1 rfl (Y (bO ?_))))))));cases h;exact eW [.tmp 2] b1 (.inl rfl) results112 (.cons (.tmp rfl) .nil) rfl (cO 1)
def O4 (r1:Int) (x1:Bool) (x2:V):Option V := G ((r1:Int)==223) (some (⟨#[83,83]⟩:V)) (grd (gJ r1) <|some (ae (AF r1)))
theorem Yv {r1:Int} {x1:Bool} {x2:V} {r:V} (h:O4 r1 x1 x2=some r):eO prog 68 [.int .i32 r1,.bool x1,.string x2] (.string r):=by
 refine eO.intro func68 rfl ntmps68 (by simp) (λw0 K=>I (O 1 rfl (Y (bV (I (O 1 rfl (E rfl eZ (Y (bu rfl h (λh=>?_) (λh=>?_))))))))))
 ·refine I (O 1 rfl (Y (bO (bZ ?_))));cases h;exact dt 6 results68
 refine bw (cu (I (O 1 rfl (bi h λa h=>dF (.int .i32 (AF r1)) [.int .i32 r1] rfl dc rfl rfl rfl Ts (pc λw=>Uu r1 w a.1 a.2) (jI rfl dc rfl (nM bl am) (O 1 rfl (Y (bO ?_))))))));cases h;exact dt 6 results68
def Ff (b:V) (x1:dq) (e:V->Bool->Option V) (a:V) (c:Bool):Option V := cm (λ(f:V->Option V)=>grd (I64 (x1.At+x1.Width)) <|grd (gJ x1.Rune) <|G (((ie x1.Broken x1.Rune):Int)==1) (grd (0<=(x1.At+x1.Width:Int)/\(x1.At+x1.Width:Int)<=(b.size:Int)/\((b.size:Int):Int)<=(b.size:Int)) <|T (O4 x1.Rune c (c6 b (x1.At+x1.Width) (b.size:Int))) λ(r2:V)=>grd (a.size+r2.size<=140737488355328) <|f (a++r2)) (grd (0<=(x1.At:Int)/\(x1.At:Int)<=(x1.At+x1.Width)/\(x1.At+x1.Width:Int)<=(b.size:Int)) <|grd (a.size+(c6 b x1.At (x1.At+x1.Width)).size<=140737488355328) <|f (a++(c6 b x1.At (x1.At+x1.Width))))) (λ(d:V)=>G (((ie x1.Broken x1.Rune):Int) != 2) (e d (((ie x1.Broken x1.Rune):Int)==1)) (e d c))
def O5 (d:V):Option V := cm (λ(f:V->Option V)=>T (I1 d) λ(r1:V)=>T (I0 r1) λ(a:(List dq))=>cm (λ(b:V->Bool->Option V)=>jZ b (Ff d) a (⟨#[]⟩:V) false) (λ(c:V) (e:Bool)=>f c)) (λ(g:V)=>some g)
theorem Yw {m:V} {r:V} (h:O5 m=some r):eO prog 67 [.string m,.func (.func 68) #[] #[]] (.string r):=by
 refine eO.intro func67 rfl ntmps67 (by simp) (λw0 K=>vm (cJ (V×Nat×(List Nat)) h 3 rfl (λj1 b=>j1 b.1=some r) (λb=>qW b.2.2) (λb=>[(5,zP b.2.1)]) (λb=>[uF b.2.1 b.1,iR ((b.2.2:List Nat).map iJ)]) (λj1 h cut=>?_) ?_))
 ·refine I (lE rfl dc rfl (λL=>lE rfl dc rfl (λJ=>O 1 rfl (cw (fZ SH rfl dc (λz=>su 3 rfl UV (cw (fZ GK rfl dc (λH=>fJ 4 [.bool false] qq rfl rfl rfl rfl rfl (λ_ _=>rfl) rfl (Y (cut (I (bW 1 eJ rfl dc rfl rfl rfl (aU h λr1 a1 h=>ir [.string m] rfl dc rfl rfl rfl TI (Yu a1) aC (λb7=>Y (ck (aU h λM a0 h=>tg h λC Q h=>wx dq (V×Bool) Unit Nat [12] Ro.nil rfl TW (Yt a0) (λpre b=>∀post,M=pre++post->jZ C (Ff m) post b.1 b.2=some r) (λpre b=>[cells L [.string m] 9,cells J [.func (.func 68) #[] #[]] 110,uF z b.1,cells H [.bool b.2] 4]) (λc pre g=>False) (λc pre g=>[]) (λpre x b j=>[(2,zP L),(3,zP J),(4,.string (⟨#[]⟩:V)),(5,zP z),(6,zP H),(11,.func (.func 141) #[] #[zP b7]),(7,zP j)]) (λpre x b j=>[cells L [.string m] 9,cells J [.func (.func 68) #[] #[]] 110,uF z b.1,cells H [.bool b.2] 4,cells j (fC x) 102]) ((⟨#[]⟩:V),false) (λpost e=>by rw[bj] at e;subst e;exact h) (ct [1,2,3,4] kr rfl) ⟨.inl ⟨5,rfl⟩,trivial⟩ (λ_=>rfl) dc ?_ ?_ ?_ ?_)))))))))))))))))
  ·rintro lp rc pre x1 post ⟨l,f⟩ w1 K1 p P ao q;exact bX (fZ rb rfl dc (λa7=>fI 4 (fC x1) (fC x1) mg rfl rfl rfl rfl rfl (show _<=_ by simp) rfl rfl (bC (λa w ha hw=>⟨a7,(gl rfl) _ _ _ ha,hw.weaken (cO 5)⟩))))
  ·rintro lp rc pre x1 t ⟨l,f⟩ W w1 K1 p P ao q;have h:=q (x1::t) p;obtain⟨a8,y⟩:∃ag,ag=jZ C (Ff m) t:=⟨_,rfl⟩;have h:Ff m x1 a8 l f=some r:=by have h2:=h;rw[qn,<-y] at h2;exact h2
   exact ck (cJ V h 2 rfl (λj2 b=>j2 b=some r) (λb=>[]) (λb=>[(2,zP L),(3,zP J),(4,.string (⟨#[]⟩:V)),(5,zP z),(6,zP H),(9,zI (ie x1.Broken x1.Rune)),(11,.func (.func 141) #[] #[zP b7])]) (λb=>[cells L [.string m] 9,cells J [.func (.func 68) #[] #[]] 110,uF z b,cells H [.bool f] 4]) (λj2 h cut=>I (ci nD rfl dc rfl (show _=0 from rfl) (bW 4 ed rfl dc rfl rfl rfl (ci s6 rfl dc rfl (show _=1 from rfl) (bW 4 ed rfl dc rfl rfl rfl (bi h λa6 h=>E rfl (c8 (x1.At+x1.Width) (ac _ a6)) (O 1 rfl (cw (ju 4 (fC x1) nm rfl dc rfl rfl rfl rfl (bi h λN h=>dF (zI (ie x1.Broken x1.Rune)) [.agg (fC x1).toArray] rfl dc rfl rfl rfl yj (yr x1.At x1.Width x1.Rune x1.Broken N.1 N.2) (O 1 rfl (Y (cut (I (O 1 rfl (E rfl eZ (Y (bu rfl h (λh=>bi h λa5 h=>aU h λr2 aw h=>bi h λa4 h=>jU 7 [(0,22,.func (.func 68) #[] #[]),(1,23,.pointer (some ⟨W,2,none⟩)),(2,24,.int .i32 x1.Rune),(3,25,.bool f),(4,26,.string m),(5,27,zI (x1.At+x1.Width)),(6,28,.string (c6 m (x1.At+x1.Width) (m.size:Int)))] mixed kr kr dc (by rfl) kr kr (bQ (λD n d c u i=>bW 1 SC rfl dc (eG (by rfl) rfl) rfl rfl (bf 0 u i)) (bQ (λD n d c u i=>ci sy rfl dc (eG (by rfl) rfl) (show _=2 from rfl) (bf 1 u i)) (bQ (λD n d c u i=>bW 4 fU rfl dc (aX 1 u d) rfl rfl (bf 2 u i)) (bQ (λD n d c u i=>bW 3 sW rfl dc (eG (by rfl) rfl) rfl rfl (bf 3 u i)) (bQ (λD n d c u i=>bW 0 eJ rfl dc (eG (by rfl) rfl) rfl rfl (bf 4 u i)) (gD 1 5 rfl (bQ (λD n d c u i=>jj rfl dc (aX 4 u d) (evO.some (aX 5 u d)) z6 (lP (x1.At+x1.Width) (m.size:Int) am (.inr rfl) (.inl ⟨rfl,rfl⟩) a5) (bf 6 u i)) bB))))))) (dF (.string r2) [.int .i32 x1.Rune,.bool f,.string (c6 m (x1.At+x1.Width) (m.size:Int))] rfl dc rfl rfl rfl Tr (Yv aw) (ir [zP z,.string r2] rfl dc rfl rfl rfl Mn (MZ z l r2 a4) (ct [2] kr rfl) (λu1=>bC (iW (l++r2) h rfl (gl rfl) (ct [0,1,5,3] kr rfl)))))) (λh=>bX (bW 0 eJ rfl dc rfl rfl rfl (ci nD rfl dc rfl (show _=0 from rfl) (bW 4 ed rfl dc rfl rfl rfl (O 1 rfl (bi h λa3 h=>jj rfl dc rfl rfl rfl (lP x1.At (x1.At+x1.Width) am (.inr rfl) (.inr rfl) a3) (bi h λa2 h=>ir [zP z,.string (c6 m x1.At (x1.At+x1.Width))] rfl dc rfl rfl rfl Mn (MZ z l (c6 m x1.At (x1.At+x1.Width)) a2) (ct [2] kr rfl) (λu2=>bC (iW (l++(c6 m x1.At (x1.At+x1.Width))) h rfl (gl rfl) (ct [0,1,5,3] kr rfl)))))))))))))))))))))))))))) (λS h=>I (O 1 rfl (E rfl nh (Y (bu rfl h (λh=>bX (O 1 rfl (E rfl eZ (fJ 3 [.bool (((ie x1.Broken x1.Rune):Int)==1)] qq rfl rfl rfl rfl rfl (λ_ _=>rfl) rfl (bC (cg (nz (S,((ie x1.Broken x1.Rune):Int)==1) (λB e2=>by have e9:=nA p e2;subst e9;subst y;exact h) (cO 4)))))))) (λh=>bw (cg (nz (S,f) (λB e2=>by have e9:=nA p e2;subst e9;subst y;exact h) (cO 4))))))))))
  ·rintro F ⟨l,f⟩ q;have h:C l f=some r:=q [] (aE _).symm;rw[Q] at h;show TX _ _ _ _ _ _ _ [iR ((([]:List Nat):List Nat).map iJ),cT,cT,cT,cT,cells b7 [.string r1] 9,cells L [.string m] 9,cells J [.func (.func 68) #[] #[]] 110,uF z l,cells H [.bool f] 4,iJ F];exact vl 10 0 rfl rfl dc (cg (iW (l,z,F::([]:List Nat)) h rfl (gl rfl) (ct [8,0] kr rfl)))
  exact λF c pre x1 post g a9 hX=>(show False from hX).elim
 rintro⟨b2,b1,ds1⟩ h;refine I (ir [zP b1] rfl dc rfl rfl rfl TJ (UU b1 b2) (cO 1) (λ_=>O 1 rfl (Y (bO ?_))));cases h;exact sw [.tmp 4] ds1 () (.inl rfl) (sq 1 rfl) results67 (.cons (.tmp rfl) .nil) rfl aC
def O6 (a:V):Option V := T (O5 a) λ(r1:V)=>some r1
theorem Yx {a:V} {r:V} (h:O6 a=some r):eO prog 29 [.string a] (.string r):=by
 refine eO.intro func29 rfl ntmps29 (by simp) (λw0 K=>I (O 1 rfl (cw (O 1 rfl (aU h λr1 b h=>dF (.string r1) [.string a,.func (.func 68) #[] #[]] rfl dc rfl rfl rfl Tq (Yw b) (O 1 rfl (Y (bO ?_))))))));cases h;exact dt 2 results29
def Cb (a1:dS) (b1:dS):Option Int := grd (I64 (a1.sort-b1.sort)) <|grd (I64 (a1.place-b1.place)) <|grd (I64 ((a1.digits.size:Int)-(b1.digits.size:Int))) <|T (E6 ([a1.sort-b1.sort,a1.place-b1.place,(a1.digits.size:Int)-(b1.digits.size:Int),bL a1.digits.data.toList b1.digits.data.toList]:List Int)) λ(r1:Int)=>some r1
theorem Yy (a1:dS) (b1:dS) {r:Int} (h:Cb a1 b1=some r):eO prog 24 [.agg (jP a1).toArray,.agg (jP b1).toArray] (zI r):=by
 refine eO.intro func24 rfl ntmps24 (by simp) (λw0 K=>I (lE rfl dc rfl (λb=>lE rfl dc rfl (λa=>O 1 rfl (Y (bV (bi h λl h=>bi h λj h=>bi h λg h=>aU h λr1 f h=>jU 22 [(0,5,zP b),(1,6,zI a1.sort),(2,7,zP a),(3,8,zI b1.sort),(4,9,zI (a1.sort-b1.sort)),(5,10,.pointer (some ⟨b,1,none⟩)),(6,11,zI a1.place),(7,12,.pointer (some ⟨a,1,none⟩)),(8,13,zI b1.place),(9,14,zI (a1.place-b1.place)),(10,15,.pointer (some ⟨b,2,none⟩)),(11,16,.string a1.digits),(12,17,zI (a1.digits.size:Int)),(13,18,.pointer (some ⟨a,2,none⟩)),(14,19,.string b1.digits),(15,20,zI (b1.digits.size:Int)),(16,21,zI ((a1.digits.size:Int)-(b1.digits.size:Int))),(17,22,.pointer (some ⟨b,2,none⟩)),(18,23,.string a1.digits),(19,24,.pointer (some ⟨a,2,none⟩)),(20,25,.string b1.digits),(21,26,zI (bL a1.digits.data.toList b1.digits.data.toList))] mixed kr kr dc (by rfl) kr kr (bQ (λD n d c u i=>ci GR rfl dc (eG (by rfl) rfl) (show _=0 from rfl) (bf 0 u i)) (bQ (λD n d c u i=>bW 0 ed rfl dc (aX 0 u d) rfl rfl (bf 1 u i)) (bQ (λD n d c u i=>ci GR rfl dc (eG (by rfl) rfl) (show _=0 from rfl) (bf 2 u i)) (bQ (λD n d c u i=>bW 1 ed rfl dc (aX 2 u d) rfl rfl (bf 3 u i)) (bQ (λD n d c u i=>jX rfl dc (aX 1 u d) (aX 3 u d) (iV (a1.sort-b1.sort) (ac _ l)) (bf 4 u i)) (bQ (λD n d c u i=>ci GS rfl dc (eG (by rfl) rfl) (show _=1 from rfl) (bf 5 u i)) (bQ (λD n d c u i=>bW 0 ed rfl dc (aX 5 u d) rfl rfl (bf 6 u i)) (bQ (λD n d c u i=>ci GS rfl dc (eG (by rfl) rfl) (show _=1 from rfl) (bf 7 u i)) (bQ (λD n d c u i=>bW 1 ed rfl dc (aX 7 u d) rfl rfl (bf 8 u i)) (bQ (λD n d c u i=>jX rfl dc (aX 6 u d) (aX 8 u d) (iV (a1.place-b1.place) (ac _ j)) (bf 9 u i)) (bQ (λD n d c u i=>ci DG rfl dc (eG (by rfl) rfl) (show _=2 from rfl) (bf 10 u i)) (bQ (λD n d c u i=>bW 0 eJ rfl dc (aX 10 u d) rfl rfl (bf 11 u i)) (bQ (λD n d c u i=>mw rfl dc (aX 11 u d) am (bf 12 u i)) (bQ (λD n d c u i=>ci DG rfl dc (eG (by rfl) rfl) (show _=2 from rfl) (bf 13 u i)) (bQ (λD n d c u i=>bW 1 eJ rfl dc (aX 13 u d) rfl rfl (bf 14 u i)) (bQ (λD n d c u i=>mw rfl dc (aX 14 u d) am (bf 15 u i)) (bQ (λD n d c u i=>jX rfl dc (aX 12 u d) (aX 15 u d) (iV ((a1.digits.size:Int)-(b1.digits.size:Int)) (ac _ g)) (bf 16 u i)) (bQ (λD n d c u i=>ci DG rfl dc (eG (by rfl) rfl) (show _=2 from rfl) (bf 17 u i)) (bQ (λD n d c u i=>bW 0 eJ rfl dc (aX 17 u d) rfl rfl (bf 18 u i)) (bQ (λD n d c u i=>ci DG rfl dc (eG (by rfl) rfl) (show _=2 from rfl) (bf 19 u i)) (bQ (λD n d c u i=>bW 1 eJ rfl dc (aX 19 u d) rfl rfl (bf 20 u i)) (bQ (λD n d c u i=>dF (zI (bL a1.digits.data.toList b1.digits.data.toList)) [.string a1.digits,.string b1.digits] rfl dc rfl (dN (aX 18 u d) (dN (aX 20 u d) fR)) rfl yh (yu a1.digits b1.digits) (bf 21 u i)) bB)))))))))))))))))))))) (hQ [(0,.tmp 9),(1,.tmp 14),(2,.tmp 21),(3,.tmp 26)] 3 [zI (a1.sort-b1.sort),zI (a1.place-b1.place),zI ((a1.digits.size:Int)-(b1.digits.size:Int)),zI (bL a1.digits.data.toList b1.digits.data.toList)] rfl dc rfl (λ_=>by kernel_rfl) (λm=>pd 2 ([a1.sort-b1.sort,a1.place-b1.place,(a1.digits.size:Int)-(b1.digits.size:Int),bL a1.digits.data.toList b1.digits.data.toList]:List Int) rfl iq rfl (show 4<=maxLen by decide) (lF 2 rfl (λe=>kZ (zI r1) [.slice (some ⟨m,0,none⟩) 4 4] (Rd.nil:Rd _ _ []) rfl dc rfl rfl rfl To (XM e f) (.own (As:=[gn (.slice (some ⟨m,0,none⟩) 4 4) ([a1.sort-b1.sort,a1.place-b1.place,(a1.digits.size:Int)-(b1.digits.size:Int),bL a1.digits.data.toList b1.digits.data.toList]:List Int)]) (ct [2] kr rfl) (λ_ _ h=>pF iq (aL.1 h)) .nil) (O 1 rfl (Y (bO ?_))))))))))))));cases h;exact dt 4 results24
def Fg (p1:dS) (q1:dS):Option Int := some (bL p1.marks.data.toList q1.marks.data.toList)
theorem Yz (p1:dS) (q1:dS) {r:Int} (h:Fg p1 q1=some r):eO prog 25 [.agg (jP p1).toArray,.agg (jP q1).toArray] (zI r):=by
 unfold Fg at h;refine eO.intro func25 rfl ntmps25 (by simp) (λw0 K=>I (lE rfl dc rfl (λb1=>lE rfl dc rfl (λa=>O 1 rfl (cw (ci GT rfl dc rfl (show _=3 from rfl) (bW 0 eJ rfl dc rfl rfl rfl (ci GT rfl dc rfl (show _=3 from rfl) (bW 1 eJ rfl dc rfl rfl rfl (dF (zI (bL p1.marks.data.toList q1.marks.data.toList)) [.string p1.marks,.string q1.marks] rfl dc rfl rfl rfl yh (yu p1.marks q1.marks) (O 1 rfl (Y (bO ?_)))))))))))));cases h;exact dt 4 results25
def I2 (p1:dS) (q1:dS):Option Int := grd (I64 (p1.great-q1.great)) <|some (p1.great-q1.great)
theorem YA (p1:dS) (q1:dS) {r:Int} (h:I2 p1 q1=some r):eO prog 26 [.agg (jP p1).toArray,.agg (jP q1).toArray] (zI r):=by
 refine eO.intro func26 rfl ntmps26 (by simp) (λw0 K=>I (lE rfl dc rfl (λb1=>lE rfl dc rfl (λb=>O 1 rfl (cw (ci LD rfl dc rfl (show _=4 from rfl) (bW 0 ed rfl dc rfl rfl rfl (ci LD rfl dc rfl (show _=4 from rfl) (bW 1 ed rfl dc rfl rfl rfl (bi h λa h=>E rfl (iV (p1.great-q1.great) (ac _ a)) (O 1 rfl (Y (bO ?_)))))))))))));cases h;exact dt 4 results26
def zk (a:Int):Option Int := T (IH a 0) λ(r1:Int)=>some r1
theorem I3 {a:Int} {r:Int} (h:zk a=some r):eO prog 28 [zI a] (zI r):=by
 refine eO.intro func28 rfl ntmps28 (by simp) (λw0 K=>I (O 1 rfl (cw (O 1 rfl (aU h λr1 b h=>dF (zI r1) [zI a,zI 0] rfl dc rfl rfl rfl Tp (XN b) (O 1 rfl (Y (bO ?_))))))));cases h;exact dt 2 results28
def O7 (b:List dS) (a:List dS) (e:Option Int) (d:Int->Option Int) (c:Int):Option Int := G (decide ((c:Int)<(b.length:Int))) (T (cj b c) λ(q1:dS)=>G (decide (((a.length:Int):Int)<=c)) (some 1) (T (cj a c) λ(q2:dS)=>T (Cb q1 q2) λ(r1:Int)=>G ((r1:Int) != 0) (some r1) (grd (I64 (c+1)) <|d (c+1)))) (e)
def Fh (b:List dS) (a:List dS):Option Int := cm (λ(c:Option Int)=>bP (λ_=>none) (O7 b a c) bN 0) (G (decide (((b.length:Int):Int)<(a.length:Int))) (some (-1)) (some 0))
theorem YB {p e:Value} {x:List dS} {l:Nat} {t:List dS} (d:Vw p x 5 l e t) {n f:Value} {w:List dS} {g:Nat} {u:List dS} (c:Vw n w 5 g f u) {r:Int} (h:Fh t u=some r):gu prog 27 [e,f,.func (.func 24) #[] #[]] [iM s8 5 p l x,iM s8 5 n g w] [] (λ_:Unit=>(zI r)) (λ_=>[]):=by
 refine gu.intro func27 rfl ntmps27 (by simp) (λw0 K y=>cJ Unit h 1 rfl (λD b=>D=some r) (λb=>[]) (λb=>[(0,e),(1,f)]) (λb=>[]) (λD h cut=>?_) ?_)
 ·refine I (O 1 rfl (Y (cut (I (O 1 rfl (jl d rfl dc rfl cp (O 1 rfl (Y (ck (fP Int (O7 t u D) (λa b=>a b=some r) (λb=>[]) (λb=>[(0,e),(1,f),(2,.func (.func 24) #[] #[]),(11,e),(12,zI (t.length:Int)),(13,zI b)]) (λb=>[]) 0 h 0 (λJ C h=>I (E rfl dL (Y (bV (bu rfl h (λh=>?_) (λh=>?_))))))))))))))))
  ·refine bw (cu (bV (ck (I (O 1 rfl (aU h λq1 B h=>gm d B cp qG rfl dc rfl rfl rfl (rz 0 (l+(C:Int).toNat) 0 q1 (jP q1) y rfl z1 qZ rfl dc rfl (cq d B) rfl rfl rfl (fZ wH rfl dc (λb1=>O 1 rfl (fI 0 (jP q1) (jP q1) qG rfl rfl rfl rfl rfl (show _<=_ by simp) rfl rfl (Y (bV (I (O 2 rfl (jl c rfl dc rfl cp (E rfl gw (Y (bu rfl h (λh=>?_) (λh=>?_)))))))))))))))))))
   ·refine I (O 1 rfl (Y (bO (bZ (cK (bZ (bZ (cK (bZ ?_)))))))));cases h;exact dt 6 gQ
   refine bw (cu (I (O 2 rfl (aU h λq2 z h=>gm c z cp qG rfl dc rfl rfl rfl (rz 1 (g+(C:Int).toNat) 0 q2 (jP q2) y rfl z1 qZ rfl dc rfl (cq c z) rfl rfl rfl (fZ wH rfl dc (λL=>fI 1 (jP q2) (jP q2) qG rfl rfl rfl rfl rfl (show _<=_ by simp) rfl rfl (cw (O 1 rfl (ju 0 (jP q1) qZ rfl dc rfl rfl rfl rfl (ju 1 (jP q2) qZ rfl dc rfl rfl rfl rfl (aU h λr1 F h=>dF (zI r1) [.agg (jP q1).toArray,.agg (jP q2).toArray] rfl dc rfl rfl rfl SV (Yy q1 q2 F) (O 1 rfl (cw (O 1 rfl (E rfl nh (Y (bu rfl h (λh=>?_) (λh=>?_)))))))))))))))))))
   ·refine I (O 2 rfl (Y (bO (cK (bZ (bZ (cK (bZ ?_))))))));cases h;exact dt 6 gQ
   exact bw (cg (cu (bX (bi h λH h=>E rfl (c8 (C+1) (ac _ H)) (O 1 rfl (bC (mD (C+1) h 0)))))))
  exact dG (bS (bS (dH (mD () h 0))))
 refine λ_ h=>bV (I (O 1 rfl (jl d rfl dc rfl cp (O 1 rfl (jl c rfl dc rfl cp (E rfl dL (Y (bu rfl h (λh=>?_) (λh=>?_)))))))))
 ·refine I (O 1 rfl (Y (bO (bZ ?_))));cases h;exact dt 6 gQ
 refine bw (cu (I (O 1 rfl (Y (bO ?_)))));cases h;exact dt 6 gQ
def O8 (b:List dS) (a:List dS) (e:Option Int) (d:Int->Option Int) (c:Int):Option Int := G (decide ((c:Int)<(b.length:Int))) (T (cj b c) λ(q1:dS)=>G (decide (((a.length:Int):Int)<=c)) (some 1) (T (cj a c) λ(q2:dS)=>T (Fg q1 q2) λ(r1:Int)=>G ((r1:Int) != 0) (some r1) (grd (I64 (c+1)) <|d (c+1)))) (e)
def I4 (b:List dS) (a:List dS):Option Int := cm (λ(c:Option Int)=>bP (λ_=>none) (O8 b a c) bN 0) (G (decide (((b.length:Int):Int)<(a.length:Int))) (some (-1)) (some 0))
theorem YD {p e:Value} {x:List dS} {l:Nat} {t:List dS} (d:Vw p x 5 l e t) {n f:Value} {w:List dS} {g:Nat} {u:List dS} (c:Vw n w 5 g f u) {r:Int} (h:I4 t u=some r):gu prog 27 [e,f,.func (.func 25) #[] #[]] [iM s8 5 p l x,iM s8 5 n g w] [] (λ_:Unit=>(zI r)) (λ_=>[]):=by
 refine gu.intro func27 rfl ntmps27 (by simp) (λw0 K y=>cJ Unit h 1 rfl (λD b=>D=some r) (λb=>[]) (λb=>[(0,e),(1,f)]) (λb=>[]) (λD h cut=>?_) ?_)
 ·refine I (O 1 rfl (Y (cut (I (O 1 rfl (jl d rfl dc rfl cp (O 1 rfl (Y (ck (fP Int (O8 t u D) (λa b=>a b=some r) (λb=>[]) (λb=>[(0,e),(1,f),(2,.func (.func 25) #[] #[]),(11,e),(12,zI (t.length:Int)),(13,zI b)]) (λb=>[]) 0 h 0 (λJ C h=>I (E rfl dL (Y (bV (bu rfl h (λh=>?_) (λh=>?_))))))))))))))))
  ·refine bw (cu (bV (ck (I (O 1 rfl (aU h λq1 B h=>gm d B cp qG rfl dc rfl rfl rfl (rz 0 (l+(C:Int).toNat) 0 q1 (jP q1) y rfl z1 qZ rfl dc rfl (cq d B) rfl rfl rfl (fZ wH rfl dc (λb1=>O 1 rfl (fI 0 (jP q1) (jP q1) qG rfl rfl rfl rfl rfl (show _<=_ by simp) rfl rfl (Y (bV (I (O 2 rfl (jl c rfl dc rfl cp (E rfl gw (Y (bu rfl h (λh=>?_) (λh=>?_)))))))))))))))))))
   ·refine I (O 1 rfl (Y (bO (bZ (cK (bZ (bZ (cK (bZ ?_)))))))));cases h;exact dt 6 gQ
   refine bw (cu (I (O 2 rfl (aU h λq2 z h=>gm c z cp qG rfl dc rfl rfl rfl (rz 1 (g+(C:Int).toNat) 0 q2 (jP q2) y rfl z1 qZ rfl dc rfl (cq c z) rfl rfl rfl (fZ wH rfl dc (λL=>fI 1 (jP q2) (jP q2) qG rfl rfl rfl rfl rfl (show _<=_ by simp) rfl rfl (cw (O 1 rfl (ju 0 (jP q1) qZ rfl dc rfl rfl rfl rfl (ju 1 (jP q2) qZ rfl dc rfl rfl rfl rfl (aU h λr1 F h=>dF (zI r1) [.agg (jP q1).toArray,.agg (jP q2).toArray] rfl dc rfl rfl rfl SW (Yz q1 q2 F) (O 1 rfl (cw (O 1 rfl (E rfl nh (Y (bu rfl h (λh=>?_) (λh=>?_)))))))))))))))))))
   ·refine I (O 2 rfl (Y (bO (cK (bZ (bZ (cK (bZ ?_))))))));cases h;exact dt 6 gQ
   exact bw (cg (cu (bX (bi h λH h=>E rfl (c8 (C+1) (ac _ H)) (O 1 rfl (bC (mD (C+1) h 0)))))))
  exact dG (bS (bS (dH (mD () h 0))))
 refine λ_ h=>bV (I (O 1 rfl (jl d rfl dc rfl cp (O 1 rfl (jl c rfl dc rfl cp (E rfl dL (Y (bu rfl h (λh=>?_) (λh=>?_)))))))))
 ·refine I (O 1 rfl (Y (bO (bZ ?_))));cases h;exact dt 6 gQ
 refine bw (cu (I (O 1 rfl (Y (bO ?_)))));cases h;exact dt 6 gQ
def O9 (b:List dS) (a:List dS) (e:Option Int) (d:Int->Option Int) (c:Int):Option Int := G (decide ((c:Int)<(b.length:Int))) (T (cj b c) λ(q1:dS)=>G (decide (((a.length:Int):Int)<=c)) (some 1) (T (cj a c) λ(q2:dS)=>T (I2 q1 q2) λ(r1:Int)=>G ((r1:Int) != 0) (some r1) (grd (I64 (c+1)) <|d (c+1)))) (e)
def I5 (b:List dS) (a:List dS):Option Int := cm (λ(c:Option Int)=>bP (λ_=>none) (O9 b a c) bN 0) (G (decide (((b.length:Int):Int)<(a.length:Int))) (some (-1)) (some 0))
theorem YE {p e:Value} {x:List dS} {l:Nat} {t:List dS} (d:Vw p x 5 l e t) {n f:Value} {w:List dS} {g:Nat} {u:List dS} (c:Vw n w 5 g f u) {r:Int} (h:I5 t u=some r):gu prog 27 [e,f,.func (.func 26) #[] #[]] [iM s8 5 p l x,iM s8 5 n g w] [] (λ_:Unit=>(zI r)) (λ_=>[]):=by
 refine gu.intro func27 rfl ntmps27 (by simp) (λw0 K y=>cJ Unit h 1 rfl (λD b=>D=some r) (λb=>[]) (λb=>[(0,e),(1,f)]) (λb=>[]) (λD h cut=>?_) ?_)
 ·refine I (O 1 rfl (Y (cut (I (O 1 rfl (jl d rfl dc rfl cp (O 1 rfl (Y (ck (fP Int (O9 t u D) (λa b=>a b=some r) (λb=>[]) (λb=>[(0,e),(1,f),(2,.func (.func 26) #[] #[]),(11,e),(12,zI (t.length:Int)),(13,zI b)]) (λb=>[]) 0 h 0 (λJ C h=>I (E rfl dL (Y (bV (bu rfl h (λh=>?_) (λh=>?_))))))))))))))))
  ·refine bw (cu (bV (ck (I (O 1 rfl (aU h λq1 B h=>gm d B cp qG rfl dc rfl rfl rfl (rz 0 (l+(C:Int).toNat) 0 q1 (jP q1) y rfl z1 qZ rfl dc rfl (cq d B) rfl rfl rfl (fZ wH rfl dc (λb1=>O 1 rfl (fI 0 (jP q1) (jP q1) qG rfl rfl rfl rfl rfl (show _<=_ by simp) rfl rfl (Y (bV (I (O 2 rfl (jl c rfl dc rfl cp (E rfl gw (Y (bu rfl h (λh=>?_) (λh=>?_)))))))))))))))))))
   ·refine I (O 1 rfl (Y (bO (bZ (cK (bZ (bZ (cK (bZ ?_)))))))));cases h;exact dt 6 gQ
   refine bw (cu (I (O 2 rfl (aU h λq2 z h=>gm c z cp qG rfl dc rfl rfl rfl (rz 1 (g+(C:Int).toNat) 0 q2 (jP q2) y rfl z1 qZ rfl dc rfl (cq c z) rfl rfl rfl (fZ wH rfl dc (λL=>fI 1 (jP q2) (jP q2) qG rfl rfl rfl rfl rfl (show _<=_ by simp) rfl rfl (cw (O 1 rfl (ju 0 (jP q1) qZ rfl dc rfl rfl rfl rfl (ju 1 (jP q2) qZ rfl dc rfl rfl rfl rfl (aU h λr1 F h=>dF (zI r1) [.agg (jP q1).toArray,.agg (jP q2).toArray] rfl dc rfl rfl rfl SX (YA q1 q2 F) (O 1 rfl (cw (O 1 rfl (E rfl nh (Y (bu rfl h (λh=>?_) (λh=>?_)))))))))))))))))))
   ·refine I (O 2 rfl (Y (bO (cK (bZ (bZ (cK (bZ ?_))))))));cases h;exact dt 6 gQ
   exact bw (cg (cu (bX (bi h λH h=>E rfl (c8 (C+1) (ac _ H)) (O 1 rfl (bC (mD (C+1) h 0)))))))
  exact dG (bS (bS (dH (mD () h 0))))
 refine λ_ h=>bV (I (O 1 rfl (jl d rfl dc rfl cp (O 1 rfl (jl c rfl dc rfl cp (E rfl dL (Y (bu rfl h (λh=>?_) (λh=>?_)))))))))
 ·refine I (O 1 rfl (Y (bO (bZ ?_))));cases h;exact dt 6 gQ
 refine bw (cu (I (O 1 rfl (Y (bO ?_)))));cases h;exact dt 6 gQ
def zl (o1:co) (a1:V) (b1:V):Option (Int×Int) := G (decide (a1=b1)) (some (0,0)) (cm (λ(f:Option (Int×Int))=>T (ze o1 a1) λ(r1:(List dS))=>T (ze o1 b1) λ(r2:(List dS))=>T (Fh r1 r2) λ(r3:Int)=>G ((r3:Int) != 0) (T (zk r3) λ(e:Int)=>some (e,1)) (T (I4 r1 r2) λ(b:Int)=>G ((b:Int) != 0) (T (zk b) λ(d:Int)=>some (d,2)) (T (I5 r1 r2) λ(a:Int)=>G ((a:Int) != 0) (T (zk a) λ(c:Int)=>some (c,3)) (f)))) (some (bL a1.data.toList b1.data.toList,4)))
theorem I6 (_p:Nat) (o1:co) (_g _c _d _f _q:Hd) {a1:V} {b1:V} {r:(Int×Int)} (h:zl o1 a1 b1=some r):gu prog 11 [zP _p,.string a1,.string b1] [cells _p [_g.v,.map (some (bc _c)),.map (some (bc _d)),.map (some (bc _f)),_q.v] 69,bq _g.v o1.units,cH (λn:V=>ad n) (λn:Int=>az .i64 n) (bc _c) o1.place,dV (bc _d) o1.fors,cH (λn:V=>ad n) (λn:Bool=>ap n) (bc _f) o1.skips,bq _q.v o1.lines] [] (λ_:Unit=>(.tuple #[zI r.1,zI r.2])) (λ_=>[]):=by
 refine gu.intro func11 rfl ntmps11 (by simp) (λw0 K c=>I (O 2 rfl (Y (bV (I (O 1 rfl (E rfl (Dq underlying24) (O 3 rfl (E rfl mf (O 1 rfl (Y (bu rfl h (λh=>?_) (λh=>?_)))))))))))))
 ·refine I (O 2 rfl (Y (bO (bZ ?_))));cases h;exact eW [.tmp 6,.tmp 7] () (.inl rfl) qi (.cons (.tmp rfl) (.cons (.tmp rfl) .nil)) rfl aC
 refine bw (cu (cJ Unit h 2 rfl (λC b=>C=some r) (λb=>[]) (λb=>[(1,.string a1),(2,.string b1)]) (λb=>[]) (λC h cut=>?_) ?_))
 ·refine I (O 2 rfl (aU h λr1 w h=>oQ [zP _p,.string a1] c rfl dc rfl rfl rfl G3 (IJ _p o1 _g _c _d _f _q w) aC (.ro 0 rfl (.ro 1 rfl (.ro 2 rfl (.ro 3 rfl (.ro 4 rfl (.ro 5 rfl .nil)))))) (λv1=>jk 0 rfl (λa y=>?_))));subst y;refine O 2 rfl (aU h λr2 u h=>oQ [zP _p,.string b1] c rfl dc rfl rfl rfl G3 (IJ _p o1 _g _c _d _f _q u) aC (.ro 0 rfl (.ro 1 rfl (.ro 2 rfl (.ro 3 rfl (.ro 4 rfl (.ro 5 rfl .nil)))))) (λv2=>jk 1 rfl (λhd2 x=>?_)));subst x;refine O 2 rfl (cw (fH (.agg #[.func (.func 24) #[] #[],.func (.func 25) #[] #[],.func (.func 26) #[] #[]]) [(0,.func 24),(1,.func 25),(2,.func 26)] rfl dc rfl (λ_=>by kernel_rfl) (fZ Sw rfl dc (λJ=>fI 2 [.func (.func 24) #[] #[],.func (.func 25) #[] #[],.func (.func 26) #[] #[]] [.func (.func 24) #[] #[],.func (.func 25) #[] #[],.func (.func 26) #[] #[]] Sv rfl rfl rfl rfl rfl (show _<=_ by simp) rfl rfl (Y (cut (I (ju 2 [.func (.func 24) #[] #[],.func (.func 25) #[] #[],.func (.func 26) #[] #[]] Su rfl dc rfl rfl rfl rfl (O 1 rfl (Y (ck (Lb 4 (wF (I (E rfl (wz (show ap (decide ((0:Int)<3))=ap true from aI ap dc) dL) (Y (bV (jy rfl (bw (cu (bV (ck (I (O 1 rfl (oI (v:=.func (.func 24) #[] #[]) rfl dc rfl rfl (λ_=>by kernel_rfl) (O 2 rfl (cw (O 3 rfl (lF 0 rfl (λi=>lF 1 rfl (λhw2=>aU h λr3 t h=>kZ (zI r3) [a.v,hd2.v,.func (.func 24) #[] #[]] c rfl dc rfl rfl rfl G4 (YB i hw2 t) (.own (As:=[mi a.v r1]) (cO 1) (λ_ _ h=>pF tN (aL.1 h)) (.own (As:=[mi hd2.v r2]) (ct [1] kr rfl) (λ_ _ h=>pF tN (aL.1 h)) .nil)) (O 1 rfl (cw (O 1 rfl (E rfl nh (Y (bu rfl h (λh=>?_) (λh=>?_))))))))))))))))))))))))))))))))))))))
  ·refine I (O 1 rfl (aU h λH q h=>dF (zI H) [zI r3] rfl dc rfl rfl rfl G5 (I3 q) (O 1 rfl (E rfl (c8 1 dc) (O 2 rfl (Y (bO (cK (bZ (bZ (cK (bZ ?_))))))))))));cases h;exact eW [.tmp 6,.tmp 7] () (.inl rfl) qi (.cons (.tmp rfl) (.cons (.tmp rfl) .nil)) rfl aC
  refine bw (cg (cu (bX (E rfl (c8 1 dc) (O 1 rfl (bC (Ah (wF (I (E rfl (wz (show ap (decide ((1:Int)<3))=ap true from aI ap dc) dL) (Y (bV (jy rfl (bw (cu (bV (ck (I (O 1 rfl (oI (v:=.func (.func 25) #[] #[]) rfl dc rfl rfl (λ_=>by kernel_rfl) (O 2 rfl (cw (O 3 rfl (lF 0 rfl (λg=>lF 1 rfl (λf=>aU h λB p h=>kZ (zI B) [a.v,hd2.v,.func (.func 25) #[] #[]] c rfl dc rfl rfl rfl G4 (YD g f p) (.own (As:=[mi a.v r1]) (cO 1) (λ_ _ h=>pF tN (aL.1 h)) (.own (As:=[mi hd2.v r2]) (ct [1] kr rfl) (λ_ _ h=>pF tN (aL.1 h)) .nil)) (O 1 rfl (cw (O 1 rfl (E rfl nh (Y (bu rfl h (λh=>?_) (λh=>?_)))))))))))))))))))))))))))))))))
  ·refine I (O 1 rfl (aU h λF m h=>dF (zI F) [zI B] rfl dc rfl rfl rfl G5 (I3 m) (O 1 rfl (E rfl (c8 2 dc) (O 2 rfl (Y (bO (cK (bZ (bZ (cK (bZ ?_))))))))))));cases h;exact eW [.tmp 6,.tmp 7] () (.inl rfl) qi (.cons (.tmp rfl) (.cons (.tmp rfl) .nil)) rfl aC
  refine bw (cg (cu (bX (E rfl (c8 2 dc) (O 1 rfl (bC (Ah (wF (I (E rfl (wz (show ap (decide ((2:Int)<3))=ap true from aI ap dc) dL) (Y (bV (jy rfl (bw (cu (bV (ck (I (O 1 rfl (oI (v:=.func (.func 26) #[] #[]) rfl dc rfl rfl (λ_=>by kernel_rfl) (O 2 rfl (cw (O 3 rfl (lF 0 rfl (λe=>lF 1 rfl (λd=>aU h λz l h=>kZ (zI z) [a.v,hd2.v,.func (.func 26) #[] #[]] c rfl dc rfl rfl rfl G4 (YE e d l) (.own (As:=[mi a.v r1]) (cO 1) (λ_ _ h=>pF tN (aL.1 h)) (.own (As:=[mi hd2.v r2]) (ct [1] kr rfl) (λ_ _ h=>pF tN (aL.1 h)) .nil)) (O 1 rfl (cw (O 1 rfl (E rfl nh (Y (bu rfl h (λh=>?_) (λh=>?_)))))))))))))))))))))))))))))))))
  ·refine I (O 1 rfl (aU h λD j h=>dF (zI D) [zI z] rfl dc rfl rfl rfl G5 (I3 j) (O 1 rfl (E rfl (c8 3 dc) (O 2 rfl (Y (bO (cK (bZ (bZ (cK (bZ ?_))))))))))));cases h;exact eW [.tmp 6,.tmp 7] () (.inl rfl) qi (.cons (.tmp rfl) (.cons (.tmp rfl) .nil)) rfl aC
  exact bw (cg (cu (bX (E rfl (c8 3 dc) (O 1 rfl (bC (Ah (wF (I (E rfl (wz (show ap (decide ((3:Int)<3))=ap false from aI ap dc) dL) (Y (bV (eU rfl (dG (bS (bS (dH (mD () h 0))))))))))))))))))
 refine λ_ h=>I (O 2 rfl (dF (zI (bL a1.data.toList b1.data.toList)) [.string a1,.string b1] rfl dc rfl rfl rfl yh (yu a1 b1) (O 2 rfl (Y (bO ?_)))));cases h;exact eW [.tmp 6,.tmp 7] () (.inl rfl) qi (.cons (.tmp rfl) (.cons (.tmp rfl) .nil)) rfl aC
def Pa (o1:co) (a:Option V) (r1:(List dS)) (b:Option V):Option V := G (decide ((0:Int)<(r1.length:Int))) (T (cj r1 0) λ(q1:dS)=>G ((q1.sort:Int)==3) (T (cj o1.units q1.place) λ(q2:V)=>T (yZ q2) λ(r2:V)=>T (O6 r2) λ(r3:V)=>some r3) (G ((q1.sort:Int)==2) (some (⟨#[48,45,57]⟩:V)) (a))) (a)
def Pb (o1:co) (a:V):Option V := cm (λ(b:Option V)=>T (ze o1 a) λ(r1:(List dS))=>bP none (Pa o1 b r1) bN) (some (⟨#[63]⟩:V))
theorem YF (_p:Nat) (o1:co) (_g _c _d _f _q:Hd) {m:V} {r:V} (h:Pb o1 m=some r):gu prog 12 [zP _p,.string m] [cells _p [_g.v,.map (some (bc _c)),.map (some (bc _d)),.map (some (bc _f)),_q.v] 69,bq _g.v o1.units,cH (λn:V=>ad n) (λn:Int=>az .i64 n) (bc _c) o1.place,dV (bc _d) o1.fors,cH (λn:V=>ad n) (λn:Bool=>ap n) (bc _f) o1.skips,bq _q.v o1.lines] [] (λ_:Unit=>(.string r)) (λ_=>[]):=by
 refine gu.intro func12 rfl ntmps12 (by simp) (λw0 K e=>cJ Unit h 1 rfl (λp b=>p=some r) (λb=>[]) (λb=>[]) (λb=>[]) (λp h cut=>?_) ?_)
 ·refine I (O 1 rfl (Y (cut (I (O 1 rfl (E rfl (RC underlying24) (Y (jy rfl (bV (bX (O 2 rfl (aU h λr1 x h=>oQ [zP _p,.string m] e rfl dc rfl rfl rfl G3 (IJ _p o1 _g _c _d _f _q x) aC (.ro 0 rfl (.ro 1 rfl (.ro 2 rfl (.ro 3 rfl (.ro 4 rfl (.ro 5 rfl .nil)))))) (λv1=>jk 0 rfl (λl y=>?_))))))))))))));subst y;refine io 0 rfl dc rfl rfl cp (O 1 rfl (Y (ck (fP Unit (Pa o1 p r1) (λa b=>a=some r) (λb=>[]) (λb=>[(0,zP _p),(11,l.v),(12,zI (r1.length:Int)),(13,zI 0)]) (λb=>[mi l.v r1]) () h 1 (λz _ h=>I (E rfl dL (Y (bV (bu rfl h (λh=>?_) (λh=>?_))))))))))
  ·refine bw (cu (bV (ck (I (aU h λq1 g h=>eN 0 g cp qG rfl dc rfl rfl rfl rfl (oM 0 ((0:Int).toNat) 0 q1 (jP q1) qZ tN rfl dc rfl rfl (ei g) rfl rfl rfl (fZ wH rfl dc (λb1=>fI 1 (jP q1) (jP q1) qG rfl rfl rfl rfl rfl (show _<=_ by simp) rfl rfl (Y (bV (I (ci GR rfl dc rfl (show _=0 from rfl) (bW 1 ed rfl dc rfl rfl rfl (Y (ck (I (E rfl eZ (O 1 rfl (Y (bu rfl h (λh=>?_) (λh=>?_)))))))))))))))))))))
   ·refine bV (aU h λq2 f h=>aU h λr2 w h=>aU h λr3 t h=>jU 6 [(0,21,zP _p),(1,22,zP _p),(2,23,zP _p),(3,24,_g.v),(4,25,.pointer (some ⟨b1,1,none⟩)),(5,26,zI q1.place)] mixed kr kr dc (by rfl) kr kr (gD 1 0 rfl (bQ (λD n d c u i=>iS rfl dc (aX 0 u d) (bf 1 u i)) (bQ (λD n d c u i=>ci yc rfl dc (aX 1 u d) (show _=0 from rfl) (bf 2 u i)) (bQ (λD n d c u i=>ot 0 e rfl oS rfl dc (aX 2 u d) rfl (bf 3 u i)) (bQ (λD n d c u i=>ci GS rfl dc (eG (by rfl) rfl) (show _=1 from rfl) (bf 4 u i)) (bQ (λD n d c u i=>bW 1 ed rfl dc (aX 4 u d) rfl rfl (bf 5 u i)) bB)))))) (gm (e.vw (i:=1) rfl) f ay gV rfl dc rfl rfl rfl (GH (0+(q1.place:Int).toNat) 0 q2 (i:=1) e rfl eJ gG rfl dc rfl (cq (e.vw (i:=1) rfl) f) rfl dc rfl (dF (.string r2) [.string q2] rfl dc rfl rfl rfl L7 (N7 w) (dF (.string r3) [.string r2] rfl dc rfl rfl rfl SY (Yx t) (O 1 rfl (Y (bO (cK (bZ (cK (bZ (bZ (cK (bZ ?_)))))))))))))));cases h;exact dt 4 results12
   refine I (E rfl eZ (O 1 rfl (Y (bu rfl h (λh=>?_) (λh=>?_)))))
   ·refine I (O 1 rfl (Y (bO (cK (bZ (cK (bZ (bZ (cK (bZ ?_))))))))));cases h;exact dt 4 results12
   exact bw (cg (cu (dG (Da dc (bS (bS (dH (iW () h rfl (ss) aC))))))))
  exact dG (bS (bS (dH (iW () h rfl (ss) aC))))
 refine λ_ h=>I (O 1 rfl (Y (bO ?_)));cases h;exact dt 4 results12
abbrev cb:=bL
theorem pq (a b:UInt8) (x y:List UInt8):cb (a::x) (b::y)=if a.toNat<b.toNat then -1 else if b.toNat<a.toNat then 1 else cb x y:=by
 show (if a<b then (-1:Int) else if b<a then 1 else cb x y)=_
 simp only[UInt8.lt_iff_toNat_lt]
theorem Pd (b:UInt8) (y:List UInt8):cb [] (b::y)=-1:=rfl
theorem Fi (b:UInt8) (y:List UInt8):cb (b::y) []=1:=rfl
theorem zm:∀x:List UInt8,cb x x=0
 |[]=>rfl
 |a::x=>by rw[pq,ai (gq _),ai (gq _),zm x]
theorem zn:∀ {x y:List UInt8},cb x y=0->x=y
 |[],[],_=>rfl
 |[],_::_,h=>by cases h
 |_::_,[],h=>by cases h
 |a::x,b::y,h=>by
  rw[pq] at h;split at h
  ·cases h
  ·split at h
   ·cases h
   ·have:a=b:=gv.1 z1;rw[this,zn h]
theorem Pe:∀x y:List UInt8,cb y x=- cb x y
 |[],[]=>rfl
 |[],_::_=>rfl
 |_::_,[]=>rfl
 |a::x,b::y=>by
  rw[pq,pq,Pe x y];by_cases h1:b.toNat<a.toNat
  ·rw[aj h1,ai z1,aj h1]
  ·rw[ai h1,ai h1];by_cases h2:a.toNat<b.toNat
   ·rw[aj h2,aj h2];rfl
   ·rw[ai h2,ai h2]
theorem I7:∀x y:List UInt8,cb x y=-1\/cb x y=0\/cb x y=1
 |[],[]=>.inr (.inl rfl)
 |[],_::_=>.inl rfl
 |_::_,[]=>.inr (.inr rfl)
 |a::x,b::y=>by
  rw[pq];split
  ·exact .inl rfl
  ·split
   ·exact .inr (.inr rfl)
   ·exact I7 x y
theorem Pf:∀ {x y z:List UInt8},cb x y<=0->cb y z<=0->cb x z<=0/\(cb x z=0->cb x y=0/\cb y z=0)
 |[],[],[],_,_=>⟨eV _,λ_=>⟨rfl,rfl⟩⟩
 |[],_,c::z,_,_=>by rw[Pd];exact⟨by omega,λh=>by cases h⟩
 |[],b::y,[],_,h=>by rw[Fi] at h;omega
 |a::x,[],_,h,_=>by rw[Fi] at h;omega
 |_::_,b::y,[],_,h=>by rw[Fi] at h;omega
 |a::x,b::y,c::z,h1,h2=>by
  rw[pq] at h1 h2 |-
  rw[pq,pq];by_cases q1:a.toNat<b.toNat
  ·have e:a.toNat<c.toNat:=by
    by_cases q2:c.toNat<b.toNat
    ·rw[ai z1,aj q2] at h2;omega
    ·omega
   rw[aj e];exact⟨by omega,λh=>by cases h⟩
  ·rw[ai q1] at h1 |-
   by_cases q2:b.toNat<a.toNat
   ·rw[aj q2] at h1;omega
   ·rw[ai q2] at h1 |-
    by_cases f:b.toNat<c.toNat
    ·rw[aj (show a.toNat<c.toNat by omega)];exact⟨by omega,λh=>by cases h⟩
    ·rw[ai f] at h2 |-
     by_cases d:c.toNat<b.toNat
     ·rw[aj d] at h2;omega
     ·rw[ai d] at h2 |-
      rw[ai (show ¬a.toNat<c.toNat by omega),ai (show ¬c.toNat<a.toNat by omega)];exact Pf h1 h2
def jq:Int->List (List UInt8)->List (List UInt8)->Int×Int
 |i,x::xs,y::ys=>if cb x y=0 then jq (i+1) xs ys else (cb x y,i)
 |_,_,_=>(0,0)
theorem Pg:∀ (l:List (List UInt8)) (i:Int),jq i l l=(0,0)
 |[],i=>rfl
 |x::xs,i=>by rw[jq,aj (zm x),Pg xs]
theorem Fj:∀ (x y:List (List UInt8)) (i:Int),0<i->x.length=y.length->(jq i x y=(0,0)/\x=y)\/((jq i x y).1=-1\/(jq i x y).1=1)/\i<=(jq i x y).2/\(jq i x y).2<i+x.length/\x≠y
 |[],[],i,_,_=>.inl ⟨rfl,rfl⟩
 |x::xs,y::ys,i,hi,h=>by
  rw[jq];by_cases h0:cb x y=0
  ·rw[aj h0];rcases Fj xs ys (i+1) z1 (by simpa using h) with⟨h1,h2⟩|⟨h1,h2,h3,a⟩
   ·exact .inl ⟨h1,by rw[zn h0,h2]⟩
   ·exact .inr ⟨h1,by omega,by rw[ab];push_cast;omega,λe=>a (by injection e)⟩
  ·rw[ai h0];refine .inr ⟨?_,eV _,by rw[ab];push_cast;omega,λe=>h0 (by injection e with e1 e2;rw[e1,zm])⟩;rcases I7 x y with h|h|h
   ·exact .inl h
   ·exact absurd h h0
   ·exact .inr h
theorem Ph:∀ (x y:List (List UInt8)) (i:Int),jq i y x=(-(jq i x y).1,(jq i x y).2)
 |[],[],i=>rfl
 |[],_::_,i=>rfl
 |_::_,[],i=>rfl
 |x::xs,y::ys,i=>by
  rw[jq,jq,Pe x y,Ph xs ys];by_cases h:cb x y=0
  ·rw[aj z1,aj h]
  ·rw[ai z1,ai h]
theorem Pi:∀ (x y z:List (List UInt8)) (i:Int),0<i->x.length=y.length->y.length=z.length->(jq i x y).1<=0->(jq i y z).1<=0 ->
  (jq i x z).1<=0/\((jq i x z).1=0->(jq i x y).1=0/\(jq i y z).1=0)/\((jq i x y).1≠0->(jq i y z).1≠0->(jq i x z).2=min (jq i x y).2 (jq i y z).2)
 |[],[],[],i,_,_,_,_,_=>⟨eV _,λ_=>⟨rfl,rfl⟩,λh=>absurd rfl h⟩
 |x::xs,y::ys,z::zs,i,hi,l1,l2,h1,h2=>by
  rw[jq] at h1 h2 |-
  rw[jq,jq];have r1:=Fj xs ys (i+1) z1 (by simpa using l1);have r2:=Fj ys zs (i+1) z1 (by simpa using l2);by_cases q1:cb x y=0
  ·simp only[aj q1] at h1 |-
   have:=zn q1;subst this;by_cases q2:cb x z=0
   ·simp only[aj q2] at h2 |-
    exact Pi xs ys zs (i+1) z1 (by simpa using l1) (by simpa using l2) h1 h2
   ·simp only[ai q2] at h2 |-
    refine⟨h2,λh=>absurd h q2,λh3 b=>?_⟩;rcases r1 with⟨e,_⟩|⟨_,h5,_,_⟩
    ·rw[e] at h3;exact absurd rfl h3
    ·show i=min _ i;omega
  ·simp only[ai q1] at h1 |-
   by_cases q2:cb y z=0
   ·have:=zn q2;subst this;simp only[aj q2] at h2 |-
    simp only[ai q1];refine⟨h1,λh=>absurd h q1,λh3 b=>?_⟩;rcases r2 with⟨e,_⟩|⟨_,h5,_,_⟩
    ·rw[e] at b;exact absurd rfl b
    ·show i=min i _;omega
   ·simp only[ai q2] at h2 |-
    obtain⟨t1,t2⟩:=Pf (x:=x) (y:=y) (z:=z) h1 h2;have a:cb x z≠0:=λh=>q1 (t2 h).1;simp only[ai a];exact⟨t1,λh=>absurd h a,λ_ _=>by show i=min i i;omega⟩
theorem I9:∀ (a:List UInt8) (x y:List UInt8),cb (a++x) (a++y)=cb x y
 |[],x,y=>rfl
 |c::a,x,y=>by rw[aW,aW,pq,ai (gq _),ai (gq _),I9 a]
def be:Nat->Nat->List UInt8
 |0,_=>[]
 |k+1,m=>jE (m / 256 ^ k)::be k (m % 256 ^ k)
theorem Fk:∀ (k m n:Nat) (r s:List UInt8),m<256 ^ k->n<256 ^ k->cb (be k m++r) (be k n++s)=if m<n then -1 else if n<m then 1 else cb r s
 |0,m,n,r,s,hm,hn=>by
  have:m=0:=by simpa using hm
  have:n=0:=by simpa using hn
  subst m;subst n;rfl
 |k+1,m,n,r,s,hm,hn=>by
  rw[be,be,aW,aW,pq,Fk k _ _ r s (pz _ (o9 z1)) (pz _ (o9 z1))];have e1:=Nat.div_add_mod m (256 ^ k);have e2:=Nat.div_add_mod n (256 ^ k);have g:m / 256 ^ k<256:=tz (by rw[Nat.pow_succ] at hm;exact hm);have f:n / 256 ^ k<256:=tz (by rw[Nat.pow_succ] at hn;exact hn);have i:=pz m (o9 (n:=k) (show 0<256 by omega));have h:=pz n (o9 (n:=k) (show 0<256 by omega));generalize 256 ^ k=P at *;generalize m / P=a at *;generalize n / P=b at *;have hu:∀x:Nat,x<256->(jE x).toNat=x:=λx hx=>by
   simp only[tx];omega
  rw[hu a g,hu b f];by_cases c1:a<b
  ·rw[aj c1,aj];have:P*(a+1)<=P*b:=ur P c1;rw[Nat.mul_add] at this;omega
  ·rw[ai c1];by_cases c:b<a
   ·have:P*(b+1)<=P*a:=ur P c;rw[Nat.mul_add] at this;rw[aj c,ai z1,aj z1]
   ·have:a=b:=by omega
    subst this;rw[ai c];by_cases e:m % P<n % P
    ·rw[aj e,aj z1]
    ·rw[ai e];by_cases d:n % P<m % P
     ·rw[aj d,ai z1,aj z1]
     ·rw[ai d,ai z1,ai z1]
def sg (n:Int):Int:=if n<0 then -1 else if 0<n then 1 else 0
theorem Fl (x y:List UInt8):sg (cb x y)=cb x y:=by rcases I7 x y with h | h | h<;>rw[h]<;>rfl
theorem iK {n:Int}:sg n=0↔n=0:=by
 unfold sg;by_cases h:n<0
 ·rw[aj h];omega
 ·rw[ai h];by_cases h2:0<n
  ·rw[aj h2];omega
  ·rw[ai h2];omega
def od (a b:Int):Int:=if a=0 then b else a
def jR (a b:El):Int:=od (a.sort-b.sort) (od (a.place-b.place) (od ((a.digits.size:Int)-(b.digits.size:Int)) (cb a.digits.data.toList b.digits.data.toList)))
def oA (a b:El):Int:=cb a.marks.data.toList b.marks.data.toList
def qv (a b:El):Int:=a.great-b.great
def iI (c:El->El->Int):List El->List El->Int
 |[],[]=>0
 |[],_::_=>-1
 |_::_,[]=>1
 |x::xs,y::ys=>if c x y=0 then iI c xs ys else c x y
theorem Ja {c:El->El->Int}:∀ {x y:List El},iI c x y=0->x.length=y.length
 |[],[],_=>rfl
 |[],_::_,h=>by cases h
 |_::_,[],h=>by cases h
 |x::xs,y::ys,h=>by
  rw[iI] at h;split at h
  ·rw[ab,ab,Ja h]
  ·rename_i h1;exact absurd h h1
structure mA (e:El):Prop where
 so:e.sort=1\/e.sort=2\/e.sort=3\/e.sort=4
 pl:0<=e.place/\e.place<65536
 di:e.digits.size<=300000
 nd:e.sort≠2->e.digits=af
 ma:∀c∈e.marks.data.toList,c≠0
 ml:e.marks.size<=300000
 gr:e.great=0\/e.great=1
def c1 (e:El):List UInt8:=be 1 e.sort.toNat++be 2 e.place.toNat++(if e.sort=2 then be 4 e.digits.size++e.digits.data.toList else [])
def k1 (x:List El):List UInt8:=x.flatMap c1++[0]
def k2 (x:List El):List UInt8:=x.flatMap λe=>e.marks.data.toList++[0]
def k3 (x:List El):List UInt8:=x.map λe=>jE e.great.toNat
theorem Pj:∀ {x y r s:List UInt8},x.length=y.length->cb (x++r) (y++s)=if cb x y=0 then cb r s else cb x y
 |[],[],r,s,_=>by rw[zm,aj rfl];rfl
 |a::x,b::y,r,s,h=>by
  rw[aW,aW,pq,pq,Pj (by simpa using h)];by_cases h1:a.toNat<b.toNat
  ·simp only[aj h1];rfl
  ·simp only[ai h1];by_cases h2:b.toNat<a.toNat
   ·simp only[aj h2];rfl
   ·simp only[ai h2]
theorem YG {a b:El} (ha:mA a) (hb:mA b) (r s:List UInt8):cb (c1 a++r) (c1 b++s)=if jR a b=0 then cb r s else sg (jR a b):=by
 have e:=ha.so;have d:=hb.so;have p1:=ha.pl;have p2:=hb.pl;have d1:=ha.di;have d2:=hb.di;unfold c1 jR od;rw[av,av,av,av,Fk 1 _ _ _ _ z1 z1,Fk 2 _ _ _ _ z1 z1];by_cases h1:a.sort-b.sort=0
 ·have e1:a.sort=b.sort:=by omega
  rw[aj h1,e1,ai (gq _),ai (gq _)];by_cases h2:a.place-b.place=0
  ·have e2:a.place=b.place:=by omega
   rw[aj h2,e2,ai (gq _),ai (gq _)];by_cases h3:b.sort=2
   ·rw[aj h3,aj h3,av,av,Fk 4 _ _ _ _ z1 z1];by_cases c:(a.digits.size:Int)-(b.digits.size:Int)=0
    ·rw[aj c,ai z1,ai z1,Pj (by rw[<-jK,<-jK];omega),Fl]
    ·rw[ai c,ai c];unfold sg;by_cases h5:a.digits.size<b.digits.size
     ·rw[aj h5,aj z1]
     ·rw[ai h5,aj z1,ai z1,aj z1]
   ·rw[ai h3,ai h3,ha.nd z1,hb.nd h3];rfl
  ·rw[ai h2,ai h2];unfold sg;by_cases h5:a.place.toNat<b.place.toNat
   ·rw[aj h5,aj z1]
   ·rw[ai h5,aj z1,ai z1,aj z1]
 ·rw[ai h1,ai h1];unfold sg;by_cases h5:a.sort.toNat<b.sort.toNat
  ·rw[aj h5,aj z1]
  ·rw[ai h5,aj z1,ai z1,aj z1]
theorem Pk {e:El} (h:mA e):∃c l,c1 e=c::l/\0<c.toNat:=by
 have:=h.so;refine⟨jE (e.sort.toNat / 256 ^ 0),_,rfl,?_⟩;rw[Nat.pow_zero,Nat.div_one,tx];omega
theorem Pl:∀ {x y:List El} (r s:List UInt8),(∀e∈x,mA e)->(∀e∈y,mA e)->cb (k1 x++r) (k1 y++s)=if iI jR x y=0 then cb r s else sg (iI jR x y)
 |[],[],r,s,_,_=>I9 [0] r s
 |[],b::y,r,s,_,hb=>by
  obtain⟨c,l,e,hc⟩:=Pk (hb b (ar ..));unfold k1;rw[aK,e,ol];show cb (0::([]++r)) (c::_)=_;rw[pq,aj (by show (0:UInt8).toNat<_;exact hc)];rfl
 |a::x,[],r,s,ha,_=>by
  obtain⟨c,l,e,hc⟩:=Pk (ha a (ar ..));unfold k1;rw[aK,e,ol];show cb (c::_) (0::([]++s))=_;rw[pq,ai (by show ¬_<(0:UInt8).toNat;exact Nat.not_lt_zero _),aj (by show (0:UInt8).toNat<_;exact hc)];rfl
 |a::x,b::y,r,s,ha,hb=>by
  have e1:∀ (e:El) (l:List El) (r:List UInt8),k1 (e::l)++r=c1 e++(k1 l++r):=λe l r=>by unfold k1;rw[aK];simp
  rw[e1,e1,YG (ha a (ar ..)) (hb b (ar ..)),Pl r s (λe h=>ha e (ak _ h)) (λe h=>hb e (ak _ h)),iI];by_cases h:jR a b=0
  ·simp only[aj h]
  ·simp only[ai h]
theorem Pm:∀ {x y r s:List UInt8},(∀c∈x,c≠0)->(∀c∈y,c≠0)->cb (x++0::r) (y++0::s)=if cb x y=0 then cb r s else cb x y
 |[],[],r,s,_,_=>by rw[zm,aj rfl];exact I9 [0] r s
 |[],b::y,r,s,_,hb=>by
  have:b.toNat≠0:=λh=>hb b (ar ..) (gv.1 h);show cb (0::r) (b::(y++0::s))=_;rw[pq,aj (by show (0:UInt8).toNat<_;show 0<_;omega),Pd];rfl
 |a::x,[],r,s,ha,_=>by
  have:a.toNat≠0:=λh=>ha a (ar ..) (gv.1 h);show cb (a::(x++0::r)) (0::s)=_;rw[pq,ai (by show ¬_<(0:UInt8).toNat;exact Nat.not_lt_zero _),aj (by show (0:UInt8).toNat<_;show 0<_;omega),Fi];rfl
 |a::x,b::y,r,s,ha,hb=>by
  rw[aW,aW,pq,pq,Pm (λc h=>ha c (ak _ h)) (λc h=>hb c (ak _ h))];by_cases h1:a.toNat<b.toNat
  ·simp only[aj h1];rfl
  ·simp only[ai h1];by_cases h2:b.toNat<a.toNat
   ·simp only[aj h2];rfl
   ·simp only[ai h2]
theorem Pn:∀ {x y:List El} (r s:List UInt8),(∀e∈x,mA e)->(∀e∈y,mA e)->x.length=y.length->cb (k2 x++r) (k2 y++s)=if iI oA x y=0 then cb r s else sg (iI oA x y)
 |[],[],r,s,_,_,_=>rfl
 |a::x,b::y,r,s,ha,hb,h=>by
  have e1:∀ (e:El) (l:List El) (r:List UInt8),k2 (e::l)++r=e.marks.data.toList++0::(k2 l++r):=λe l r=>by unfold k2;rw[aK];simp
  rw[e1,e1,Pm (ha a (ar ..)).ma (hb b (ar ..)).ma,Pn r s (λe h=>ha e (ak _ h)) (λe h=>hb e (ak _ h)) (by simpa using h),iI];show (if oA a b=0 then _ else oA a b)=_
  by_cases h:oA a b=0
  ·simp only[aj h]
  ·simp only[ai h];exact (Fl _ _).symm
theorem Po:∀ {x y:List El} (r s:List UInt8),(∀e∈x,mA e)->(∀e∈y,mA e)->x.length=y.length->cb (k3 x++r) (k3 y++s)=if iI qv x y=0 then cb r s else sg (iI qv x y)
 |[],[],r,s,_,_,_=>rfl
 |a::x,b::y,r,s,ha,hb,h=>by
  have g1:=(ha a (ar ..)).gr;have g2:=(hb b (ar ..)).gr;have c:=Po r s (λe h=>ha e (ak _ h)) (λe h=>hb e (ak _ h)) (x:=x) (y:=y) (by simpa using h);show cb (jE a.great.toNat::(k3 x++r)) (jE b.great.toNat::(k3 y++s))=_;rw[pq,c,iI];unfold qv;rcases g1 with g1|g1<;>rcases g2 with g2|g2<;>rw[g1,g2]<;>rfl
theorem YH (l:List Int) (c:l.length<=1000):E6 l=some ((l.find? λx=>!decide (x=0)).getD 0):=by
 unfold E6;refine cL ?_;have:=yE l (BT l (some 0)) (λ_=>none) (λx=>if x=0 then none else some (some x)) (some 0) (λag k x hx=>by
  have hk:=pM hx;unfold BT;refine ca (oa hx) (aV (mY hx) ?_);by_cases h:x=0
  ·rw[aj h];exact bR (by rw[h];rfl) (dI (kG z1) rfl)
  ·rw[ai h];exact ca (cQ.2 h) rfl) (λag=>by unfold BT;exact bR nR rfl) (n:=bN) (jC z1)
 refine this.trans ?_;clear this c
 induction l with
 |nil=>rfl
 |cons a l b=>
  rw[List.findSome?_cons,List.find?_cons];by_cases h:a=0
  ·rw[aj h,h];exact b
  ·rw[ai h,ah h];rfl
theorem YI (a b:El) (ha:mA a) (hb:mA b):Cb a b=some (jR a b):=by
 have e:=ha.so;have d:=hb.so;have p1:=ha.pl;have p2:=hb.pl;have d1:=ha.di;have d2:=hb.di;unfold Cb;refine gO (gO (gO (aV (YH _ (show 4<=1000 by omega)) ?_)));congr 1;unfold jR od;simp only[List.find?_cons,List.find?_nil];by_cases h1:a.sort-b.sort=0
 ·simp only[h1,decide_true,dm,if_true];by_cases h2:a.place-b.place=0
  ·simp only[h2,decide_true,dm,if_true];by_cases h3:(a.digits.size:Int)-(b.digits.size:Int)=0
   ·simp only[h3,decide_true,dm,if_true];by_cases c:bL a.digits.data.toList b.digits.data.toList=0
    ·simp only[c,decide_true,dm];rfl
    ·simp only[c,decide_false,db];rfl
   ·simp only[h3,decide_false,db,if_false];rfl
  ·simp only[h2,decide_false,db,if_false];rfl
 ·simp only[h1,decide_false,db,if_false];rfl
theorem Jb {F:(Int->Option Int)->Int->Option Int} (cv:El->El->Option Int) {c:El->El->Int} (x y:List El) (j:x.length<=1000000000) (g:∀ag k,F ag k=G (decide ((k:Int)<(x.length:Int))) (T (cj x k) λ(q1:El)=>G (decide (((y.length:Int):Int)<=k)) (some 1) (T (cj y k) λ(q2:El)=>T (cv q1 q2) λ(r1:Int)=>G ((r1:Int) != 0) (some r1) (grd (I64 (k+1))<|ag (k+1)))) (G (decide (((x.length:Int):Int)<(y.length:Int))) (some (-1)) (some 0))) (hc:∀a∈x,∀b∈y,cv a b=some (c a b)):bP (λ_=>none) F bN 0=some (iI c x y):=by
 have key:∀ (n k:Nat),k<=x.length->k<=y.length->x.length-k<n->bP (λ_=>none) F n (k:Int)=some (iI c (x.drop k) (y.drop k)):=by
  intro n
  induction n with
  |zero=>intro k _ _ h;omega
  |succ n d=>
   intro k f e i;rw[iB,g];by_cases h:k<x.length
   ·have hx:x[k]?=some x[k]:=aJ h;refine eQ (aV (mY hx) ?_);rw[aQ h];by_cases h2:k<y.length
    ·have hy:y[k]?=some y[k]:=aJ h2;refine fc (aV (mY hy) (aV (hc _ (oq _) _ (oq _)) ?_));rw[aQ h2,iI];by_cases h0:c x[k] y[k]=0
     ·rw[aj h0];refine bR (by rw[h0];rfl) (gO ?_);have:=d (k+1) z1 z1 z1
      push_cast at this
      exact this
     ·rw[ai h0];exact ca (cQ.2 h0) rfl
    ·refine eQ ?_;rw[bD (show y.length<=k by omega)];rfl
   ·refine fc ?_;rw[bD (show x.length<=k by omega)];by_cases h2:k<y.length
    ·rw[aQ h2];exact eQ rfl
    ·rw[bD (show y.length<=k by omega)];exact fc rfl
 have:=key bN 0 (bT _) (bT _) (by unfold bN;omega);simpa using this
theorem Jc (n:Int):zk n=some (sg n):=by
 unfold zk;refine aV (a:=sg n) ?_ rfl;unfold IH;refine aV (a:=false) (by unfold BU;simp) (aV (a:=false) (by decide) (bR rfl (bR rfl ?_)));unfold sg;by_cases h:n<0
 ·rw[aj h];exact ca (an h) rfl
 ·rw[ai h];refine bR (ah h) ?_;by_cases h2:0<n
  ·rw[aj h2];exact ca (an h2) rfl
  ·rw[ai h2];exact bR (ah h2) rfl
def Fm (o:nS):Prop:=∀u i,o.p u=some i->0<=i/\i<65536
theorem Je (m:V):∀ {l:List El} {e:El},e∈qP m l->e∈l\/∃c∈l,e=⟨c.sort,c.place,c.digits,m,c.great⟩
 |[],e,h=>.inl h
 |[a],e,h=>.inr ⟨a,ar ..,bd.1 h⟩
 |a::b::l,e,h=>by
  rw[qP] at h;rcases bg.1 h with rfl|h
  ·exact .inl (ar ..)
  ·rcases Je m h with h|⟨c,h1,h2⟩
   ·exact .inl (ak _ h)
   ·exact .inr ⟨c,ak _ h1,h2⟩
theorem YJ {r:Int} (h:fV r=true):∀c∈(ae r).data.toList,c≠0:=by
 have h:=of_decide_eq_true h;have key:((fg 880).all λn=>decide (n<768)||((ae (n:Int)).data.toList.all λc=>c != 0))=true:=by decide +kernel
 have:=bm.1 key r.toNat (mc.2 z1);rw[show ((r.toNat:Nat):Int)=r by omega,ah z1,dK] at this;intro c hc;exact cQ.1 (bm.1 this c hc)
theorem Pp:∀ {l:List Tk},(∀x∈l,jQ x=true)->(∀c∈(nU l).data.toList,c≠0)/\(nU l).size<=4*l.length
 |[],_=>⟨(λc h=>nomatch (show c∈([]:List UInt8) from h)),aS _⟩
 |x::l,h=>by
  obtain⟨h1,h2⟩:=Pp (l:=l) λy hy=>h y (ak _ hy);unfold nU at h1 h2 |-
  rw[kH,IL,aM,ab];have:=oX x.1;refine⟨λc hc=>?_,by omega⟩;rcases bv.1 hc with hc|hc
  ·exact YJ (h x (ar ..)) c hc
  ·exact h1 c hc
theorem zo:∀ {l:List Tk},(∀x∈l,x.2.size<=4)->(jw l).size<=4*l.length
 |[],_=>aS _
 |x::l,h=>by
  have h2:=zo (l:=l) λy hy=>h y (ak _ hy);have h1:=h x (ar ..);unfold jw at h2 |-
  rw[kH,aM,ab];omega
theorem xl {α:Type} {p:α->Bool} {l:List α} {x:α} (h:x∈l.takeWhile p):p x=true/\x∈l :=
 ⟨bm.1 (uk (p:=p) (l:=l)) x h,(dU p).subset h⟩
theorem YK:mA nr:=⟨.inl rfl,(by show (0:Int)<=0/\(0:Int)<65536;omega),by decide,λ_=>rfl,(λc h=>nomatch (show c∈([]:List UInt8) from h)),by decide,.inl rfl⟩
theorem YL (l:List Tk):sG l=0\/sG l=1:=by unfold sG;split<;>simp
theorem YM (o:nS) (hf:vZ o) (hp:Fm o) (x:Tk) (l:List Tk) (q:∀y∈x::l,y.2.size<=4) (m:(x::l).length<=65536) (g:List El) (h:(mZ o x l).2=some g):(∀e∈g,mA e)/\g.length<=4:=by
 unfold mZ at h;split at h
 ·rename_i hk;have hL:dx x.1=true:=(Ca x).1.1 hk;have hm:=IU o hf x l hL;injection h with h;subst h;have d:∀y∈((x::l).drop (lV o x l).1).takeWhile jQ,jQ y=true:=λy hy=>(xl hy).1;have n:(((x::l).drop (lV o x l).1).takeWhile jQ).length<=65536:=by
   have:=(dU jQ (l:=(x::l).drop (lV o x l).1)).length_le;rw[aR] at this;omega
  obtain⟨j,t⟩:=Pp d;refine⟨λe he=>?_,by rw[OW,ax];exact hm.2.2.2⟩;have base:∀u,mA (jx o (sG ((x::l).take (lV o x l).1)) u):=λu=>by
   have a:0<=(o.p u).getD 0/\(o.p u).getD 0<65536:=by
    cases k:o.p u with
    |none=>rw[nL];omega
    |some i=>rw[gg];exact hp u i k
   exact⟨.inr (.inr (.inl rfl)),a,by show (0:Nat)<=_;omega,λ_=>rfl,(λc h=>nomatch (show c∈([]:List UInt8) from h)),by show (0:Nat)<=_;omega,YL _⟩
  rcases Je _ he with he|⟨v,f,rfl⟩
  ·obtain⟨u,_,rfl⟩:=aT.1 he;exact base u
  ·obtain⟨u,_,rfl⟩:=aT.1 f;have b:=base u;exact⟨b.so,b.pl,b.di,b.nd,j,by show (nU _).size<=_;omega,b.gr⟩
 ·split at h
  ·injection h with h;subst h;refine⟨λe he=>?_,by simp⟩;rw[bd] at he;subst he;have h1:(jw (x::l.takeWhile gM)).size<=4*(x::l.takeWhile gM).length:=zo λy hy=>q y (by
    rcases bg.1 hy with rfl|hy
    ·exact ar ..
    ·exact ak _ (xl hy).2)
   have h2:=(dU gM (l:=l)).length_le;have h3:(tZ (x::l.takeWhile gM)).size<=(jw (x::l.takeWhile gM)).size:=by
    rw[jK,jK];exact (List.dropWhile_sublist _).length_le
   rw[ab] at m h1;exact⟨.inr (.inl rfl),by show (0:Int)<=0/\(0:Int)<65536;omega,by show (tZ _).size<=_;omega,λh=>absurd rfl h,(λc h=>nomatch (show c∈([]:List UInt8) from h)),by show (0:Nat)<=_;omega,.inl rfl⟩
  ·split at h
   ·cases h
   ·split at h
    ·injection h with h;subst h;refine⟨λe he=>?_,by simp⟩;rw[bd] at he;subst he;have r:0<=mj x.2/\mj x.2<=255:=by unfold mj;have:=(x.2.data.toList.headD 0).toNat_lt;omega
     exact⟨.inr (.inr (.inr rfl)),by show 0<=mj x.2/\mj x.2<65536;omega,by show (0:Nat)<=_;omega,λ_=>rfl,(λc h=>nomatch (show c∈([]:List UInt8) from h)),by show (0:Nat)<=_;omega,.inl rfl⟩
    ·injection h with h;subst h;exact⟨(λe he=>by cases he),by simp⟩
theorem Jg (o:nS) (hf:vZ o) (hp:Fm o):∀ (n:Nat) (l:List Tk),(∀y∈l,y.2.size<=4)->l.length<=65536->(∀a,some a∈oy o n l->(∀e∈a,mA e)/\a.length<=4)/\(oy o n l).length<=n
 |0,l,_,_=>⟨(λa h=>by cases h),aS _⟩
 |n+1,[],_,_=>⟨(λa h=>by cases h),bT _⟩
 |n+1,x::l,hl,hn=>by
  obtain⟨h1,h2⟩:=Jg o hf hp n ((x::l).drop (mZ o x l).1) (λy hy=>hl y (im hy)) (by rw[aR];omega);rw[oy];refine⟨λa h=>?_,by rw[ab];omega⟩;rcases bg.1 h with h|h
  ·exact YM o hf hp x l hl hn a h.symm
  ·exact h1 a h
theorem Fo:∀ (cs:List (Option (List El))) (out:List El) (sp:Bool),(∀b,some b∈cs->(∀e∈b,mA e)/\b.length<=4)->(∀e∈out,mA e)->(∀e∈oz cs out sp,mA e)/\(oz cs out sp).length<=out.length+5*cs.length
 |[],out,sp,_,h=>⟨h,aS _⟩
 |none::cs,out,sp,hc,h=>by
  obtain⟨h1,h2⟩:=Fo cs out true (λb he=>hc b (ak _ he)) h;exact⟨h1,by rw[ab];show (oz cs out true).length<=_;omega⟩
 |some []::cs,out,sp,hc,h=>by
  obtain⟨h1,h2⟩:=Fo cs out sp (λb he=>hc b (ak _ he)) h;exact⟨h1,by rw[ab];show (oz cs out sp).length<=_;omega⟩
 |some (e::b)::cs,out,sp,hc,h=>by
  have he:=hc _ (ar ..);have hg:=B9 sp out;obtain⟨h1,h2⟩:=Fo cs (out++ko sp out++e::b) false (λb he=>hc b (ak _ he)) (λa ha=>by
   rcases bv.1 ha with ha|ha
   ·rcases bv.1 ha with ha|ha
    ·exact h a ha
    ·unfold ko at ha;split at ha
     ·rw[bd.1 ha];exact YK
     ·cases ha
   ·exact he.1 a ha)
  refine⟨h1,?_⟩;show (oz cs (out++ko sp out++e::b) false).length<=_;have:=he.2;simp only[aa,ab] at h2 this |-
  omega
theorem YN (o:nS) (hf:vZ o) (hp:Fm o) (l:List Tk) (a:∀y∈l,y.2.size<=4) (c:l.length<=65536):(∀e∈xj o l,mA e)/\(xj o l).length<=327680:=by
 unfold xj;obtain⟨h1,h2⟩:=Jg o hf hp l.length (l.drop (tr o l)) (λy hy=>a y (im hy)) (by rw[aR];omega);obtain⟨h3,b⟩:=Fo (oy o l.length (l.drop (tr o l))) [] false h1 (λe h=>by cases h);exact⟨h3,by rw[aB] at b;omega⟩
theorem Ce {t:dM} (h:lI t):t.bs.length<=4:=by
 rcases h with h|h
 ·rw[h.2];exact (Ac t.r).2
 ·unfold vh at h;simp at h;omega
theorem Jh (t:V) (ht:qc t):(∀y∈iE t,y.2.size<=4)/\(iE t).length<=65536:=by
 have h1:=ht.2;have h2:=zj (iw t);refine⟨λy hy=>?_,by unfold iE oZ;rw[ax];omega⟩;obtain⟨x,hx,rfl⟩:=aT.1 hy;have:=Ce (rF _ x hx);show (⟨x.bs.toArray⟩:V).size<=4;rw[jK];simpa using this
def lW (o:co) (t:V):List El:=xj (ef o) (iE t)
def jL (o:co) (t:V):List (List UInt8):=[k1 (lW o t),k2 (lW o t),k3 (lW o t),t.data.toList]
structure zp (o:co):Prop where
 fo:vZ (ef o)
 pl:Fm (ef o)
theorem Fp {o:co} (h:zp o) (t:V) (ht:qc t):(∀e∈lW o t,mA e)/\(lW o t).length<=327680 :=
 YN _ h.fo h.pl _ (Jh t ht).1 (Jh t ht).2
theorem YO {x y:List El} (hx:∀e∈x,mA e) (hy:∀e∈y,mA e):cb (k1 x) (k1 y)=sg (iI jR x y):=by
 have:=Pl [] [] hx hy;rw[aE,aE] at this;rw[this];split
 ·rename_i h;rw[h];rfl
 ·rfl
theorem YP {x y:List El} (hx:∀e∈x,mA e) (hy:∀e∈y,mA e) (a:x.length=y.length):cb (k2 x) (k2 y)=sg (iI oA x y):=by
 have:=Pn [] [] hx hy a;rw[aE,aE] at this;rw[this];split
 ·rename_i h;rw[h];rfl
 ·rfl
theorem YQ {x y:List El} (hx:∀e∈x,mA e) (hy:∀e∈y,mA e) (a:x.length=y.length):cb (k3 x) (k3 y)=sg (iI qv x y):=by
 have:=Po [] [] hx hy a;rw[aE,aE] at this;rw[this];split
 ·rename_i h;rw[h];rfl
 ·rfl
def Fq (x y:List El) (a b:List UInt8):Int×Int :=
 if iI jR x y=0 then (if iI oA x y=0 then (if iI qv x y=0 then (if cb a b=0 then (0,0) else (cb a b,4)) else (sg (iI qv x y),3)) else (sg (iI oA x y),2)) else (sg (iI jR x y),1)
theorem Pq {x y:List El} (hx:∀e∈x,mA e) (hy:∀e∈y,mA e) (a b:List UInt8):jq 1 [k1 x,k2 x,k3 x,a] [k1 y,k2 y,k3 y,b]=Fq x y a b:=by
 unfold Fq;rw[jq,YO hx hy];by_cases h1:iI jR x y=0
 ·rw[aj (iK.2 h1),aj h1,jq,YP hx hy (Ja h1)];by_cases h2:iI oA x y=0
  ·rw[aj (iK.2 h2),aj h2,jq,YQ hx hy (Ja h1)];by_cases h3:iI qv x y=0
   ·rw[aj (iK.2 h3),aj h3,jq];by_cases c:cb a b=0
    ·rw[aj c,aj c];rfl
    ·rw[ai c,ai c];rfl
   ·rw[ai (λh=>h3 (iK.1 h)),ai h3];rfl
  ·rw[ai (λh=>h2 (iK.1 h)),ai h2];rfl
 ·rw[ai (λh=>h1 (iK.1 h)),ai h1]
theorem Ji {n:Int} (h:n≠0):((n:Int) != 0)=true:=cQ.2 h
theorem Jj {n:Int} (h:n=0):((n:Int) != 0)=false:=by rw[h];rfl
theorem Pr {o:co} (h:zp o) (a b:V) (ha:qc a) (hb:qc b):zl o a b=some (jq 1 (jL o a) (jL o b)):=by
 obtain⟨f,i⟩:=Fp h a ha;obtain⟨e,lb⟩:=Fp h b hb;unfold zl;by_cases c:a=b
 ·subst c;refine ca (an rfl) ?_;rw[Pg]
 ·refine bR (ah c) (cL (aV (O1 o h.fo a ha) (aV (O1 o h.fo b hb) ?_)));show T (Fh (lW o a) (lW o b)) _=_;have e1:Fh (lW o a) (lW o b)=some (iI jR (lW o a) (lW o b)) :=
   cL (Jb Cb _ _ z1 (λ_ _=>rfl) (λp hp q d=>YI p q (f p hp) (e q d)))
  have e2:I4 (lW o a) (lW o b)=some (iI oA (lW o a) (lW o b)) :=
   cL (Jb Fg _ _ z1 (λ_ _=>rfl) (λp hp q d=>rfl))
  have g:I5 (lW o a) (lW o b)=some (iI qv (lW o a) (lW o b)) :=
   cL (Jb I2 _ _ z1 (λ_ _=>rfl) (λp hp q d=>by
    have g1:=(f p hp).gr;have g2:=(e q d).gr;exact gO rfl))
  unfold jL;rw[Pq f e];unfold Fq;refine aV e1 ?_;by_cases h1:iI jR (lW o a) (lW o b)=0
  ·rw[aj h1];refine bR (Jj h1) (aV e2 ?_);by_cases h2:iI oA (lW o a) (lW o b)=0
   ·rw[aj h2];refine bR (Jj h2) (aV g ?_);by_cases h3:iI qv (lW o a) (lW o b)=0
    ·rw[aj h3];refine bR (Jj h3) ?_;rw[ai (λh=>c (rP (zn h)))]
    ·rw[ai h3];exact ca (Ji h3) (aV (Jc _) rfl)
   ·rw[ai h2];exact ca (Ji h2) (aV (Jc _) rfl)
  ·rw[ai h1];exact ca (Ji h1) (aV (Jc _) rfl)
def ba (l:List UInt8):V:=⟨l.toArray⟩
theorem tu (l:List UInt8):(ba l).data.toList=l:=by unfold ba;simp
theorem zq (l:List UInt8):(ba l).size=l.length:=by rw[jK,tu]
theorem YR:((fg 1120).all λn=>!dx (n:Int)||(dx (cP (n:Int))&&decide (cP (cP (n:Int))=cP (n:Int))&&!great (cP (n:Int))&&(decide (cf (n:Int) eP≠none)||decide (cf (cP (n:Int)) eP=none))))=true:=by decide +kernel
theorem wa {r:Int} (h:dx r=true):dx (cP r)=true/\cP (cP r)=cP r/\great (cP r)=false/\(cf r eP=none->cf (cP r) eP=none):=by
 have h1:=ov r h;have:=bm.1 YR r.toNat (mc.2 z1);rw[show ((r.toNat:Nat):Int)=r by omega,h] at this;simp only[dm,dK,Bool.and_eq_true,decide_eq_true_eq,ej,Bool.not_eq_true'] at this;exact⟨this.1.1.1,this.1.1.2,this.1.2,λa=>this.2.resolve_left (λh=>h a)⟩
theorem YS {r:Int} (h:dx r=false):cP r=r:=by
 unfold cP;have:great r=false:=by
  unfold dx at h;cases hg:great r with
  |false=>rfl
  |true=>rw[hg] at h;cases h
 rw[this];rfl
def je (x:Tk):Tk:=if fi x then (cP x.1,ae (cP x.1)) else x
def kR (s:V):V:=jw ((iE s).map je)
def gS (c:bn×List bn):List Int:=cP c.1.Rune::(pn c++po c)
theorem Ps:xe (lU gS):=Oj (λc _=>by unfold gS;simp) (λc hc a hm r hr=>by
 obtain⟨h1,h2⟩:=EZ hm;unfold gS at hr;rcases bg.1 hr with rfl|hr
 ·exact .inl (wa hc).1
 ·rcases bv.1 hr with hr|hr
  ·exact .inr (h1 r hr)
  ·exact .inr (h2 r hr))
theorem YT:∀c:bn×List bn,eE c.1=true->cf c.1.Rune eP=none->(∀m∈c.2,isM m=true)->∀t,(lU gS c).head?=some t->fV (fG t).Rune=false:=by
 intro c hL a hm t ht;have e:lU gS c=(cP c.1.Rune::(pn c++po c)).map lH:=by unfold lU;rw[hL];rfl
 rw[e] at ht;exact XA (wa hL).1 t ht
theorem Pt (s:V) (a:s.size<=65536):oZ s=(k8 (fO s.data.toList)).flatMap (lU gA):=Iu Xo (Xp s a)
theorem Cf {r:Int} (h:vr r):tkT (lH r)=(r,ae r):=by
 have hv:=yo (BG h);have e:(lH r).bs=(ae r).data.toList:=(pg r).symm;unfold tkT;rw[hv,ai (by simp),e];have:(((lH r).r:Nat):Int)=r:=by show ((r.toNat:Nat):Int)=r;unfold vr at h;omega
 rw[this]
def rQ (t:dM):dM:=if fi (tkT t) then lH (cP (tkT t).1) else t
theorem Fs (t:dM):tkT (rQ t)=je (tkT t):=by
 unfold rQ je;cases h:fi (tkT t) with
 |true=>
  rw[aj rfl,aj rfl];exact Cf (vV (wa (show dx (tkT t).1=true from h)).1)
 |false=>rw[ai (by simp),ai (by simp)]
theorem YU {s:V} (d:s.size<=65536):∀c∈k8 (fO s.data.toList),(lU gA c).map rQ=lU gS c:=by
 intro c hc;rcases Iy (rF _) c hc with⟨g1,g2,b⟩|⟨g1,g2,t,b,g4⟩
 ·obtain⟨h1,h2⟩:=EZ g2;have e1:lU gA c=(c.1.Rune::(pn c++po c)).map lH:=by unfold lU;rw[g1,ID];rfl
  have e2:lU gS c=(cP c.1.Rune::(pn c++po c)).map lH:=by unfold lU;rw[g1];rfl
  rw[e1,e2,au,au,au];have hx:tkT (lH c.1.Rune)=(c.1.Rune,ae c.1.Rune):=Cf (vV g1);congr 1
  ·unfold rQ;rw[hx];exact aj (show dx c.1.Rune=true from g1)
  ·rw[cF];refine dW λm hm=>?_;have a:fV m=true:=by
    rcases bv.1 hm with hm|hm
    ·exact h1 m hm
    ·exact h2 m hm
   show rQ (lH m)=lH m;unfold rQ;rw[Cf (BM a)];exact ai (by show ¬dx m=true;rw[sF a];simp)
 ·have e1:∀g,lU g c=[t]:=λg=>by unfold lU;rw[g1,g4,y6 b];rfl
  rw[e1,e1];have hL:fi (tkT t)=false:=by
   have:eE (fG t)=false:=by rw[<-g4];exact g1
   exact this
  show [rQ t]=[t];unfold rQ;rw[hL,ai (by simp)]
theorem Pu {α β:Type} {f g:α->List β}:∀ {l:List α},(∀x∈l,f x=g x)->l.flatMap f=l.flatMap g
 |[],_=>rfl
 |x::l,h=>by rw[aK,aK,h x (ar ..),Pu λy hy=>h y (ak _ hy)]
theorem Pv {s:V} (a:s.size<=65536):(oZ s).map rQ=(k8 (fO s.data.toList)).flatMap (lU gS):=by
 rw[Pt s a,List.map_flatMap];exact Pu (YU a)
theorem YV (ts:List dM):(jw ((ts.map tkT).map je)).data.toList=c7 (ts.map rQ):=by
 rw[<-zh,cF,cF];congr 1;congr 1;congr 1;exact dW λt _=>(Fs t).symm
theorem Jk (s:V) (a:s.size<=65536):(kR s).data.toList=c7 ((k8 (fO s.data.toList)).flatMap (lU gS)):=by
 rw[<-Pv a];exact YV _
theorem Jl (s:V) (a:s.size<=65536):fO (kR s).data.toList=(oZ s).map rQ:=by
 rw[Pv a];exact Iu Ps (Jk s a)
def uU (c:bn×List bn):V:=if eE c.1 then kl (gS c) else c.1.Text
theorem Pw (c:bn×List bn):pn (oY c)=pn c/\po (oY c)=po c:=by
 unfold pn po;have:=Iv c.2;constructor
 ·show (loI (c.2.map k7)).map _=_;rw[this.1,cF];rfl
 ·show (hiI (c.2.map k7)).map _=_;rw[this.2,cF];rfl
theorem Px (c:bn×List bn):uU (oY c)=uU c:=by
 unfold uU gS;rw[(Pw c).1,(Pw c).2];rfl
theorem Py (s:V) (a:s.size<=65536):J uU (lS s)=kR s:=by
 apply rP;rw[Jk s a];exact Ol Px (λc hL _ _=>by unfold uU;rw[hL];rfl) (λc hL _=>by unfold uU;rw[hL];rfl) s a
theorem YW {c:bn×List bn} (hL:eE c.1=true) (hm:∀m∈c.2,isM m=true) (i:cf c.1.Rune eP=none):∃d:bn×List bn,k8 (lU gS c)=[d]/\eE d.1=true/\mO d.1/\(∀m∈d.2,isM m=true/\mO m)/\d.1.Rune=cP c.1.Rune/\pn d=pn c/\po d=po c:=by
 obtain⟨h1,h2⟩:=EZ hm;have e:lU gS c=(cP c.1.Rune::(pn c++po c)).map lH:=by unfold lU;rw[hL];rfl
 have hp:jp (cP c.1.Rune)=[cP c.1.Rune]:=by unfold jp;rw[(wa hL).2.2.2 i]
 have:=Xy (kz (cP c.1.Rune),[]) (pn c++po c) (wa hL).1 (λm hm=>by
  rcases bv.1 hm with hm|hm
  ·exact h1 m hm
  ·exact h2 m hm) hp rfl
 obtain⟨o1,h,g,f,j⟩:=this;rw[<-e] at o1;refine⟨_,o1,h,g,f,rfl,?_⟩;obtain⟨k1,k2⟩:=Xv (cP c.1.Rune) ([]++(pn c++po c));obtain⟨b,a⟩:=Xw c;rw[k1,k2,bj,uo,uo,(Oy b).1,(Oy b).2,(Oz a).1,(Oz a).2];simp
theorem Pz (s:V) (a:s.size<=65536):iw (kR s)=kR s:=by
 rw[<-Py s a];refine Xs Ps YT Oi Px a (x:=J uU (lS s)) (by rw[Py s a];exact Jk s a) (λc hL hm e b=>?_) (λy hy=>by unfold uU;rw[hy];rfl);obtain⟨d,d1,d2,d3,d4,d5,d6,d7⟩:=YW hL (λm h=>(hm m h).1) e;rw[d1,kH,tn,bF,Xz d2 d3 d4,ID,d5,d6,d7];unfold uU;rw[hL];rfl
theorem YX (s:V) (a:s.size<=65536):oZ (kR s)=(oZ s).map rQ:=by
 unfold oZ;rw[Pz s a];exact Jl s a
theorem PA (s:V) (a:s.size<=65536):iE (kR s)=(iE s).map je:=by
 unfold iE;rw[YX s a,cF,cF];exact dW λt _=>Fs t
theorem PB (i:Nat) (t:dM) (h:lI t):BN (pT i t)=some (fi (tkT t)):=by
 unfold BN;refine dI (qQ h) ?_;show some ((ie t.broken (t.r:Int):Int)==1)=_;rw[vY,zg]
theorem YY (i:Nat) (t:dM) (h:lI t):y9 (pT i t)=some (jQ (tkT t)):=by
 unfold y9;refine dI (qQ h) ?_;show some ((ie t.broken (t.r:Int):Int)==2)=_;rw[vY,B4]
theorem Ft {x:Tk} (h:x.2.size<=4):(je x).2.size<=4:=by
 unfold je;split
 ·exact oX _
 ·exact h
theorem PC (S:V) (j:S.size<=1000000000):∀ (ts A:List dM) (b:V),S.data.toList=c7 (A++ts)->(∀t∈ts,lI t)->b.size+4*ts.length<=100000000000 ->
  jZ (λc=>(some c:Option V)) (vW S) (pL (c7 A).length ts) b=some (b++jw ((ts.map tkT).map je))
 |[],A,b,_,_,_=>by
  rw[pL,Gn];show some b=some (b++af);rw[bF]
 |t::ts,A,b,hd,hok,hb=>by
  have ht:=hok t (ar ..);have g:(c7 A).length+(t.bs.length+(c7 ts).length)=S.size:=by rw[jK,hd,nQ,nP,aa,aa]
  have e:(c7 A).length+t.bs.length=(c7 (A++[t])).length:=by rw[nQ,aa];simp[c7]
  rw[ab] at hb;have next:∀x:V,x.size<=4->jZ (λc=>(some c:Option V)) (vW S) (pL ((c7 A).length+t.bs.length) ts) (b++x)=some ((b++x)++jw ((ts.map tkT).map je)):=λx hx=>by
   rw[e];exact PC S j ts (A++[t]) (b++x) (by rw[hd,av];rfl) (λy hy=>hok y (ak _ hy)) (by rw[aM];omega)
  rw[pL,qn];generalize i:jZ (λc=>(some c:Option V)) (vW S) (pL ((c7 A).length+t.bs.length) ts)=ag at next |-
  unfold vW;refine aV (PB _ t ht) ?_;have k:jw (((t::ts).map tkT).map je)=(je (tkT t)).2++jw ((ts.map tkT).map je):=by unfold jw;rw[au,au,kH]
  rw[k,<-dE];cases f:fi (tkT t) with
  |true=>
   obtain⟨h1,h2,h3⟩:=OZ f;have e2:(je (tkT t)).2=ae (cP (t.r:Int)):=by unfold je;rw[f,h1];rfl
   have l:=oX (cP (t.r:Int));rw[e2];exact ca rfl (dI (qQ ht) (dI (by show b.size+(ae (cP (t.r:Int))).size<=_;omega) (next _ l)))
  |false=>
   have e2:(je (tkT t)).2=(tkT t).2:=by unfold je;rw[f];rfl
   have hsz:=Ce ht;have h:(pT (c7 A).length t).At+(pT (c7 A).length t).Width=(((c7 A).length+t.bs.length:Nat):Int):=by
    show ((c7 A).length:Int)+(t.bs.length:Int)=_;push_cast;rfl
   have a:c6 S (pT (c7 A).length t).At (((c7 A).length+t.bs.length:Nat):Int)=(tkT t).2:=by
    have:=IM A [t] ts (s:=S) (by rw[hd];rfl) rfl (b:=(c7 A).length+t.bs.length) (by simp[c7]);rw[show (pT (c7 A).length t).At=((c7 A).length:Int) from rfl,this];show J (·.2) [tkT t]=_;rw[kH,tn,bF]
   have d:(tkT t).2.size<=4:=by rw[jK];show t.bs.toArray.toList.length<=4;simpa using hsz
   rw[e2];refine bR rfl ?_;rw[h,a];exact gO (dI ⟨by show (0:Int)<=((c7 A).length:Int);omega,by show ((c7 A).length:Int)<=_;omega,by omega⟩ (gO (next _ d)))
theorem YZ (s:V) (b:s.size<=65536):E3 s=some (kR s):=by
 have h1:=(uT s b).2.1;have h2:=zj (iw s);unfold E3;refine cL (aV (N5 s b) (aV (a:=iw s) rfl (aV (BD _ z1) (cL ?_))));rw[zf];have:=PC (iw s) z1 (fO (iw s).data.toList) [] af (by rw[bj,vF]) (rF _) (by show 0+_<=_;omega);rw[el] at this;exact this
def pN:Nat->List Tk->Bool
 |_,[]=>true
 |k,x::l=>decide (k+1<=8)&&(fi x||(decide (k≠0)&&jQ x))&&pN (k+1) l
def mP (s:V):V:=if pN 0 (iE s) then kR s else ⟨#[]⟩
theorem PD (x:Tk):fi (je x)=fi x:=by
 unfold je;cases h:fi x with
 |true=>rw[aj rfl];exact (wa (show dx x.1=true from h)).1
 |false=>rw[ai (by simp)];exact h
theorem Y0 (x:Tk):jQ (je x)=jQ x:=by
 unfold je;cases h:fi x with
 |true=>
  rw[aj rfl];have h1:=IA (wa (show dx x.1=true from h)).1;have h2:=IA (show dx x.1=true from h);show fV _=fV _;rw[h1,h2]
 |false=>rw[ai (by simp)]
theorem Fu:∀ (l:List Tk) (k:Nat),pN k (l.map je)=pN k l
 |[],k=>rfl
 |x::l,k=>by rw[au,pN,pN,Fu l,PD,Y0]
theorem PE (r:V):∀ (ts:List dM) (i k:Nat),(∀t∈ts,lI t)->k<=8 ->
  jZ (λ(e:Int)=>(some r:Option V)) (xf (λ(d:Int)=>some (⟨#[]⟩:V))) (pL i ts) (k:Int)=some (if pN k (ts.map tkT) then r else ⟨#[]⟩)
 |[],i,k,_,_=>rfl
 |t::ts,i,k,hok,hk=>by
  have ht:=hok t (ar ..);have next:=λh=>PE r ts (i+t.bs.length) (k+1) (λy hy=>hok y (ak _ hy)) h;rw[pL,qn,au,pN];generalize f:jZ (λ(e:Int)=>(some r:Option V)) (xf (λ(d:Int)=>some (⟨#[]⟩:V))) (pL (i+t.bs.length) ts)=ag at next |-
  unfold xf;refine gO ?_;by_cases c:k+1<=8
  ·refine fc (aV (PB i t ht) ?_);have a:=next c
   push_cast at a
   rw[an c,gP];cases g:fi (tkT t) with
   |true=>refine bR rfl ?_;rw[a];simp
   |false=>
    refine ca rfl ?_;by_cases h0:k=0
    ·subst h0;refine ca (by decide) ?_;simp
    ·have b:(((k:Int)+1:Int)==1)=false:=aA.2 z1;refine bR b (aV (YY i t ht) ?_);rw[dK,an h0,gP];cases hm:jQ (tkT t) with
     |true=>refine bR rfl ?_;rw[a];simp
     |false=>refine ca rfl ?_;simp
  ·refine eQ ?_;rw[ah c];simp
theorem Y3 (s:V) (b:s.size<=65536):BP s=some (mP s):=by
 have h1:=(uT s b).2.1;have h2:=zj (iw s);have h3:(kR s).size<=1000000000:=by
  have:(kR s).size<=4*((iE s).map je).length:=zo λy hy=>by
   obtain⟨x,hx,rfl⟩:=aT.1 hy;obtain⟨t,ht,rfl⟩:=aT.1 hx;refine Ft ?_;rw[jK];have:=Ce (rF _ t ht);show t.bs.toArray.toList.length<=4;simpa using this
  unfold iE oZ at this;rw[ax,ax] at this;omega
 unfold BP;refine cL (aV (YZ s b) (aV (a:=kR s) rfl (aV (BD _ z1) (cL (cL ?_)))));rw[zf];have:=PE (kR s) (fO (kR s).data.toList) 0 0 (rF _) z1;refine this.trans ?_;unfold mP;rw[Jl s b];have e:((oZ s).map rQ).map tkT=(iE s).map je:=by
  unfold iE;rw[cF,cF];exact dW λt _=>Fs t
 rw[e,Fu]
def iL:List UInt8->Nat->Option (Nat×List UInt8)->List (Nat×List UInt8)
 |[],_,cur=>cur.toList
 |c::l,i,cur=>if c=32 then cur.toList++iL l (i+1) none else match cur with
  |none=>iL l (i+1) (some (i,[c]))
  |some (a,w)=>iL l (i+1) (some (a,w++[c]))
theorem Cg (l:List UInt8) (i:Nat) (a:Option (Nat×List UInt8)):iL (32::l) i a=a.toList++iL l (i+1) none:=by
 cases a<;>rfl
theorem Jn {c:UInt8} (h:c≠32) (l:List UInt8) (i:Nat):iL (c::l) i none=iL l (i+1) (some (i,[c])):=by
 rw[iL,ai h]
theorem Jo {c:UInt8} (h:c≠32) (l:List UInt8) (i a:Nat) (w:List UInt8):iL (c::l) i (some (a,w))=iL l (i+1) (some (a,w++[c])):=by
 rw[iL,ai h]
def kS (at_:Int) (p:Nat×List UInt8):iA:=⟨at_+(p.1:Int),ba p.2⟩
theorem Ch (s:V) (k:Nat) (c:UInt8) (h:s.data.toList[k]?=some c):kY s (k:Int)=some (c.toNat:Int):=by
 unfold kY;rw[aj z1,cy];have:s.data[k]?=some c:=by rw[<-lC];exact h
 rw[this];rfl
theorem Y4 {s:V} {k:Nat} {c:UInt8} (h:s.data.toList[k]?=some c):c6 s (k:Int) ((k:Int)+1)=ba [c]:=by
 apply rP;have hk:=(aq.1 h);have e:=uS s k (k+1)
 push_cast at e
 rw[e,tu,jh];obtain⟨h1,h2⟩:=hk;rw[aQ h1,h2];rfl
theorem Y5 (b:V) (at_:Int) (D:b.size<=1000000000) (ha : -1000000000<=at_/\at_<=1000000000) (J:List iA->Option (List iA)) : ∀ (n k:Nat) (e:List (Nat×List UInt8)) (d:Option (Nat×List UInt8)),k<=b.size->b.size-k<n->e.length<=k->(∀a w,d=some (a,w)->w.length<=k)->e.length+d.toList.length<=k -> bP (λ_ _ _=>none) (BO b at_ J) n ((e++d.toList).map (kS at_)) d.isSome (k:Int)=J ((e++iL (b.data.toList.drop k) k d).map (kS at_)):=by
 intro n
 induction n with
 |zero=>intro k e d _ h;omega
 |succ n v=>
  intro k e d hk F H y hc;rw[iB];generalize t:bP (λ_ _ _=>none) (BO b at_ J) n=ag;unfold BO;by_cases q:k<b.size
  ·have r:k<b.data.toList.length:=by rw[<-jK];exact q
   obtain⟨c,i⟩:∃c,b.data.toList[k]?=some c:=⟨_,aJ r⟩;have g:b.data.toList.drop k=c::b.data.toList.drop (k+1):=by
    rw[aQ r];have:=aJ r;rw[i] at this;injection this with this;rw[this]
   refine eQ (cL (aV (Ch _ _ _ i) ?_));have u:(((c.toNat:Int):Int)==32)=decide (c=32):=by
    rw[eF,beq_iff_eq,decide_eq_true_iff];constructor
    ·intro h;exact gv.1 (by show c.toNat=32;omega)
    ·intro h;subst h;rfl
   have j:=λ(C:List (Nat×List UInt8)) (p:Option (Nat×List UInt8)) h1 h2 h3=>v (k+1) C p z1 z1 h1 h2 h3
   push_cast at j
   rw[t] at j;rw[u,g];by_cases h:c=32
   ·rw[an h,h,Cg];refine ca rfl (gO ?_);have:=j (e++d.toList) none (by rw[aa];omega) (by intro a w h;cases h) (by rw[aa];show _+0<=_;omega);rw[show (none:Option (Nat×List UInt8)).toList=[] from rfl,aE] at this;refine this.trans ?_;rw[av]
   ·rw[ah h];refine bR rfl ?_;have f:=Y4 i;cases d with
    |none=>
     rw[Jn h];refine bR rfl (gO (gO (gO (dI (by rw[ax,aa];show _+0+1<=_;omega) (gO ?_)))));rw[f];have:=j e (some (k,[c])) z1 (by intro a w h;injection h with h;injection h with _ h;rw[<-h];show 1<=_;omega) (by show _+1<=_;omega);refine Eq.trans ?_ this;congr 1;rw[dp,dp];show List.map (kS at_) e++[]++_=_;rw[aE];rfl
    |some B=>
     obtain⟨a,w⟩:=B;rw[Jo h];have x:=y a w rfl;have l:(e++(some (a,w)).toList).map (kS at_)=e.map (kS at_)++[kS at_ (a,w)]:=by rw[dp];rfl
     have z:e.length+1<=k:=hc;rw[l];have m:((e.map (kS at_)++[kS at_ (a,w)]).length:Int)-1=(e.length:Int):=by rw[aa,ax];simp
     rw[m];refine ca rfl (gO (aV (iu (show (e.map (kS at_)++[kS at_ (a,w)])[e.length]?=some (kS at_ (a,w)) by
      rw[List.getElem?_append_right (by rw[ax];exact aS _),ax,kB];rfl)) (gO (gO ?_))))
     rw[f];refine dI (by show (ba w).size+(ba [c]).size<=_;rw[zq,zq];show _+1<=_;omega) (gO ?_);have:=j e (some (a,w++[c])) z1 (by intro K w' h;injection h with h;injection h with _ h;rw[<-h,aa];show _+1<=_;omega) (by show _+1<=_;omega);refine Eq.trans ?_ this;congr 1;rw[cy,rV _ _ (by rw[ax];exact aS _),ax,kB,dp];have e2:(kS at_ (a,w)).text++ba [c]=ba (w++[c]):=by
      apply rP;rw[IL,tu,tu];show (ba w).data.toList++_=_;rw[tu]
     show _++[(⟨(kS at_ (a,w)).at_,(kS at_ (a,w)).text++ba [c]⟩:iA)]=_++[kS at_ (a,w++[c])];rw[e2];rfl
  ·have:k=b.size:=by omega
   refine fc ?_;rw[bD (by rw[<-jK];omega)];rfl
theorem Y6 (b:V) (at_:Int) (c:b.size<=1000000000) (ha : -1000000000<=at_/\at_<=1000000000):E0 b at_=some ((iL b.data.toList 0 none).map (kS at_)):=by
 unfold E0;refine cL ?_;have:=Y5 b at_ c ha some bN 0 [] none (bT _) (by unfold bN;omega) (bT _) (by intro a w h;cases h) (bT _);exact this
end Go.Proofs.YtncjnoakkghmmaaGreatDoor
