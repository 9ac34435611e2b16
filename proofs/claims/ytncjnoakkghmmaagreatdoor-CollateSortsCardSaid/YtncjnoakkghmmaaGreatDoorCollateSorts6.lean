/-
  Texts laid together: LcD, Kn, Ko, Kp, Kq, LcH, Kr, Kt, Ku, Kv, Kw, Kx, LcG, Ky, LcM, Va, LcO, Vb, Vc, Vd, Ve, Vf, Vg, Vh. Nothing is assumed.
-/
import Derived.Test.YtncjnoakkghmmaaGreatDoorCollateSorts4
import Derived.Test.YtncjnoakkghmmaaGreatDoorCollateSorts2
import Derived.Test.YtncjnoakkghmmaaGreatDoorCollateSorts5
import Derived.Test.YtncjnoakkghmmaaGreatDoorCollateSorts3
set_option maxRecDepth 100000
set_option maxHeartbeats 4000000
namespace Go.Proofs.YtncjnoakkghmmaaGreatDoor
open Go.RowKit Go.Lib
open Tryz
set_option linter.unusedVariables false
set_option linter.unusedSimpArgs false
open _root_.Bool renaming and_eq_true->aN,false_or->dK,or_eq_false_iff->bU,not_eq_true'->cX,false_eq_true->bp,true_and->gP,true_or->rm,not_eq_false'->cW,or_false->oo
open _root_.ByteArray renaming empty->af,append_empty->bF,size_append->aM,append_assoc->dE,empty_append->el
open _root_.Go.IntWalk renaming i64_in->ac
open _root_.Go.Lib renaming indexByte->bx,compareBytes->bL
open _root_.Go.Proofs.Tryz renaming underlying22->ay,underlying54->cU,results22->kw,underlying9->am,underlying66->vf,underlying75->aG,results77->jH,underlying21->bl,underlying45->bt,results9->nw
open bM renaming nil->bB
open Hd renaming nil->fe
open aH renaming nil->aC
open Vw renaming get->cq
open evL renaming cons->dN
open aP renaming one1->aL
open _root_.Go.Utf8 renaming encode->ae
open _root_.Go.Value renaming string->ad,int->az,bool->ap
open _root_.Int renaming toNat_natCast->cy,le_refl->eV,zero_add->sn
open _root_.List renaming replicate->aO,nil_append->bj,append_nil->aE,getD_eq_getElem?_getD->cR,getElem?_eq_getElem->aJ,length_cons->ab,mem_map->aT,length_map->ax,length_append->aa,append_assoc->av,nodup_cons->ka,drop_zero->fj,mem_of_getElem?->aF,map_map->cF,map_congr_left->dW,length_take->aZ,length_drop->aR,mem_append->bv,mem_cons->bg,take_append_drop->bo,length_nil->aB,length->fS,getElem?_eq_some_iff->aq,map_cons->au,all_eq_true->bm,take_of_length_le->ff,mem_singleton->bd,mem_cons_self->ar,mem_cons_of_mem->ak,length_pos_iff->dh,takeWhile_cons->aY,dropWhile_cons->cS,cons_append->aW,foldl_cons->bz,length_eq_zero_iff->dO,any_cons->kq,head?_dropWhile_not->lA,mem_append_right->sf,dropWhile_sublist->rp,map_nil->fm,getLast?_concat->sQ,getLast?_eq_none_iff->qf
open _root_.Nat renaming le_refl->aS,zero_le->bT,zero_add->bY
open _root_.Option renaming isSome_iff_exists->kC,getD_some->gg
open _root_.Or renaming inr->kv
open _root_.Prod renaming snd->fv,fst->bE
def Ci (o1:co) (m:List iA) (t:V->V->(List V)->Option (de×co)) (q2:iA) (l:V->(List V)->Int->Option (de×co)) (a:V) (b:List V) (c:Int):Option (de×co) := G (decide ((c:Int)<(m.length:Int))) (cm (λ(k:V->(List V)->Option (de×co))=>cm (λ(q:Int->V->Bool->Bool->Option (de×co))=>T (cj m c) λ(h:iA)=>G ((c:Int)==0) (cm (λ(o:V->Option (de×co))=>G (decide ((0:Int)<c)) (grd (a.size+(⟨#[32,97,102,116,101,114]⟩:V).size<=9223372036854775807) <|o (a++(⟨#[32,97,102,116,101,114]⟩:V))) (o a)) (λ(f:V)=>k f b)) (G (decide (q2.text=(⟨#[112,117,116]⟩:V))) (G ((c:Int)==2) (cm (λ(n:V->Option (de×co))=>G (decide ((0:Int)<c)) (grd (a.size+(⟨#[32,97,102,116,101,114]⟩:V).size<=9223372036854775807) <|n (a++(⟨#[32,97,102,116,101,114]⟩:V))) (n a)) (λ(e:V)=>k e b)) (q h.at_ h.text true ((c:Int)==2))) (q h.at_ h.text false false))) (λ(j:Int) (i:V) (v:Bool) (u:Bool)=>T (BP i) λ(r2:V)=>T (cj b c) λ(w:V)=>T (cj (b.set (c:Int).toNat r2) c) λ(s:V)=>G (decide (s=(⟨#[]⟩:V))) (some ((⟨221,j⟩:de),o1)) (T (cj (b.set (c:Int).toNat r2) c) λ(r:V)=>T (yZ r) λ(r3:V)=>grd ((⟨#[32]⟩:V).size+r3.size<=9223372036854775807) <|grd (a.size+((⟨#[32]⟩:V)++r3).size<=9223372036854775807) <|k (a++((⟨#[32]⟩:V)++r3)) (b.set (c:Int).toNat r2)))) (λ(g:V) (d:List V)=>grd (I64 (c+1)) <|l g d (c+1))) (t q2.text a b)
def Cj (o1:co) (g:List iA) (a:List V) (h:Option (de×co)) (f:Int->Option (de×co)) (b:Int):Option (de×co) := G (decide ((b:Int)<(a.length:Int))) (cm (λ(e:Option (de×co))=>T (cj a b) λ(c:V)=>G (decide ((1:Int)<b)) (G (!decide (c=(⟨#[]⟩:V))) (G (!((cf c o1.place).isSome)) (T (cj g b) λ(d:iA)=>some ((⟨223,d.at_⟩:de),o1)) (e)) (e)) (e)) (grd (I64 (b+1)) <|f (b+1))) (h)
def Fv (o1:co) (d:List iA) (g:Int):Option (de×co) := G (((o1.lines.length:Int):Int)==256) (T (cj d 0) λ(q1:iA)=>some ((⟨3,q1.at_⟩:de),o1)) (T (E2 d g) λ(r1:Int)=>G (decide ((0:Int)<=r1)) (some ((⟨220,r1⟩:de),o1)) (cm (λ(y:V->V->(List V)->Option (de×co))=>T (cj d 0) λ(q2:iA)=>grd (0<=(d.length:Int)/\(d.length:Int)<=2147483648) <|bP (λ_ _ _=>none) (Ci o1 d y q2) bN q2.text (aO ((d.length:Int):Int).toNat af:List V) 0) (λ(b:V) (c:V) (a:List V)=>G (decide (b=(⟨#[115,107,105,112]⟩:V))) (T (cj a 1) λ(r:V)=>T (ri r) λ(k:V)=>G (((cf k o1.skips).getD false)) (T (cj d 1) λ(q:iA)=>some ((⟨222,q.at_⟩:de),o1)) (grd (o1.lines.length+1<=2147483648) <|some ((⟨0,0⟩:de),(⟨o1.units,o1.place,o1.fors,jm k true o1.skips,o1.lines++[c]⟩:co)))) (T (cj a 1) λ(o:V)=>T (E4 o1 o) λ(n:Bool)=>G (n) (T (cj d 1) λ(j:iA)=>some ((⟨222,j.at_⟩:de),o1)) (cm (λ(w:Option (de×co))=>bP (λ_=>none) (Cj o1 d a w) bN 0) (cm (λ(m:(List V)->(List (V×Int))->(List (V×List V))->(List (V×Bool))->(List V)->Option (de×co))=>G (decide (b=(⟨#[112,117,116]⟩:V))) (T (cj a 3) λ(e:V)=>grd (I64 (((cf e o1.place).getD 0)+1)) <|T (cj a 1) λ(i:V)=>grd (0<=(((cf e o1.place).getD 0)+1:Int)/\(((cf e o1.place).getD 0)+1:Int)<=(o1.units.length:Int)/\o1.units.length<=2147483648) <|T (za (⟨ky o1.units (((cf e o1.place).getD 0)+1) i,o1.place,o1.fors,o1.skips,o1.lines⟩:co)) λ(f:co)=>m f.units f.place f.fors f.skips f.lines) (T (cj a 1) λ(h:V)=>grd (0<=(2:Int)/\(2:Int)<=(a.length:Int)/\((a.length:Int):Int)<=(a.length:Int)) <|m o1.units o1.place (jm h (ee a 2 (a.length:Int)) o1.fors) o1.skips o1.lines)) (λ(v:List V) (u:List (V×Int)) (t:List (V×List V)) (s:List (V×Bool)) (l:List V)=>grd (l.length+1<=2147483648) <|some ((⟨0,0⟩:de),(⟨v,u,t,s,l++[c]⟩:co)))))))))
theorem Y7 (_p:Nat) (o1:co) (_g _c _d _f _q:Hd) {a1 y:Value} {d2:List iA} {F:Nat} {l1:List iA} (g:Vw a1 d2 2 F y l1) {ag:Int} {r:(de×co)} (h:Fv o1 l1 ag=some r):gu prog 22 [zP _p,y,zI ag] [iM wJ 2 a1 F d2] [cells _p [_g.v,.map (some (bc _c)),.map (some (bc _d)),.map (some (bc _f)),_q.v] 69,bq _g.v o1.units,cH (λn:V=>ad n) (λn:Int=>az .i64 n) (bc _c) o1.place,dV (bc _d) o1.fors,cH (λn:V=>ad n) (λn:Bool=>ap n) (bc _f) o1.skips,bq _q.v o1.lines] (λb:Hd×Hd×Hd×Hd×Hd=>.agg (mh r.1).toArray) (λb=>[cells _p [b.1.v,.map (some (bc b.2.1)),.map (some (bc b.2.2.1)),.map (some (bc b.2.2.2.1)),b.2.2.2.2.v] 69,bq b.1.v r.2.units,cH (λn:V=>ad n) (λn:Int=>az .i64 n) (bc b.2.1) r.2.place,dV (bc b.2.2.1) r.2.fors,cH (λn:V=>ad n) (λn:Bool=>ap n) (bc b.2.2.2.1) r.2.skips,bq b.2.2.2.2.v r.2.lines]):=by
 refine gu.intro func22 rfl ntmps22 (by simp) (λw0 K M=>I (fZ uA rfl dc (λb1=>Y (bV (I (O 1 rfl (iS rfl dc rfl (ci An rfl dc rfl (show _=4 from rfl) (bW 0 oS rfl dc rfl rfl rfl (io 5 rfl dc rfl rfl ay (E rfl eZ (Y (bu rfl h (λh=>?_) (λh=>?_))))))))))))))
 ·refine I (O 1 rfl (aU h λq1 dA h=>gm g dA cU ra rfl dc rfl rfl rfl (ci vD rfl dc rfl (show _=(F+(0:Int).toNat)*2 from rfl) (km 0 (F+(0:Int).toNat) 0 q1 M rfl z1 ed rfl dc rfl (cq g dA) rfl rfl (fH (.agg #[zI 3,zI q1.at_]) [(0,.const (zI 3)),(1,.tmp 27)] rfl dc rfl (λ_=>by kernel_rfl) (fI 6 [zI 3,zI q1.at_] [zI 3,zI q1.at_] lR rfl rfl rfl rfl rfl (show _<=_ by simp) rfl rfl (Y (bO (bZ ?_)))))))));cases h;exact eW [.cell 6 38] (_g,_c,_d,_f,_q) (.inl rfl) kw (.cons (.cells my (k:=6) rfl rfl rfl) .nil) rfl (cO 6)
 refine bw (cu (bV (I (O 2 rfl (aU h λr1 eg h=>kZ (zI r1) [y,zI ag] M rfl dc rfl rfl rfl Te (XC g eg) (.ro 0 rfl .nil) (O 1 rfl (cw (O 1 rfl (E rfl gw (Y (bu rfl h (λh=>?_) (λh=>?_))))))))))))
 ·refine I (O 1 rfl (fH (.agg #[zI 220,zI r1]) [(0,.const (zI 220)),(1,.tmp 34)] rfl dc rfl (λ_=>by kernel_rfl) (fI 6 [zI 220,zI r1] [zI 220,zI r1] lR rfl rfl rfl rfl rfl (show _<=_ by simp) rfl rfl (Y (bO (bZ ?_))))));cases h;exact eW [.cell 6 38] (_g,_c,_d,_f,_q) (.inl rfl) kw (.cons (.cells my (k:=6) rfl rfl rfl) .nil) rfl (cO 6)
 refine bw (cu (cJ (V×V×(List V)×Value) h 3 rfl (λj1 b=>j1 b.1 b.2.1 b.2.2.1=some r) (λb=>[]) (λb=>[(0,zP _p),(1,y),(6,zP b1),(8,.string b.1),(9,.string b.2.1),(10,b.2.2.2)]) (λb=>[cells _p [_g.v,.map (some (bc _c)),.map (some (bc _d)),.map (some (bc _f)),_q.v] 69,bq _g.v o1.units,cH (λn:V=>ad n) (λn:Int=>az .i64 n) (bc _c) o1.place,dV (bc _d) o1.fors,cH (λn:V=>ad n) (λn:Bool=>ap n) (bc _f) o1.skips,bq _q.v o1.lines,cells b1 [zI 0,zI 0] 38,bq b.2.2.2 b.2.2.1]) (λj1 h cut=>?_) ?_))
 ·refine I (O 1 rfl (aU h λq2 dn h=>gm g dn cU ra rfl dc rfl rfl rfl (ci yg rfl dc rfl (show _=(F+(0:Int).toNat)*2+1 from rfl) (km 0 (F+(0:Int).toNat) 1 q2 M rfl z1 eJ rfl dc rfl (cq g dn) rfl rfl (O 1 rfl (cw (O 2 rfl (cw (O 1 rfl (jl g rfl dc rfl cU (bi h λeB h=>Gt af ay oR GM gG rfl dc rfl eB (λv2=>O 1 rfl (Y (cut (I (O 1 rfl (jl g rfl dc rfl cU (O 1 rfl (Y (ck (fP (V×(List V)×Int) (Ci o1 l1 j1 q2) (λa b=>a b.1 b.2.1 b.2.2=some r) (λb=>[]) (λb=>[(0,zP _p),(1,y),(6,zP b1),(8,.string q2.text),(9,.string b.1),(10,v2),(44,y),(45,zI (l1.length:Int)),(46,zI b.2.2)]) (λb=>[cells _p [_g.v,.map (some (bc _c)),.map (some (bc _d)),.map (some (bc _f)),_q.v] 69,bq _g.v o1.units,cH (λn:V=>ad n) (λn:Int=>az .i64 n) (bc _c) o1.place,dV (bc _d) o1.fors,cH (λn:V=>ad n) (λn:Bool=>ap n) (bc _f) o1.skips,bq _q.v o1.lines,cells b1 [zI 0,zI 0] 38,bq v2 b.2.1]) (q2.text,(aO ((l1.length:Int):Int).toNat af:List V),0) h 8 ?_)))))))))))))))))))));rintro e1 ⟨C,o,N⟩ h;refine I (E rfl dL (Y (bV (bu rfl h (λh=>?_) (λh=>?_)))))
  ·refine bw (cu (cJ (V×(List V)) h 0 rfl (λj2 b=>j2 b.1 b.2=some r) (λb=>[]) (λb=>[(0,zP _p),(1,y),(6,zP b1),(8,.string q2.text),(9,.string b.1),(10,v2),(44,y),(45,zI (l1.length:Int)),(46,zI N)]) (λb=>[cells _p [_g.v,.map (some (bc _c)),.map (some (bc _d)),.map (some (bc _f)),_q.v] 69,bq _g.v o1.units,cH (λn:V=>ad n) (λn:Int=>az .i64 n) (bc _c) o1.place,dV (bc _d) o1.fors,cH (λn:V=>ad n) (λn:Bool=>ap n) (bc _f) o1.skips,bq _q.v o1.lines,cells b1 [zI 0,zI 0] 38,bq v2 b.2]) (λj2 h cut=>?_) ?_))
   ·refine cut (ck (cJ (Int×V×Bool×Bool×Nat) h 1 rfl (λj3 b=>j3 b.1 b.2.1 b.2.2.1 b.2.2.2.1=some r) (λb=>[]) (λb=>[(0,zP _p),(1,y),(6,zP b1),(8,.string q2.text),(9,.string C),(10,v2),(11,zI N),(12,zP b.2.2.2.2),(44,y),(45,zI (l1.length:Int)),(46,zI N),(54,.string q2.text),(55,.bool (decide (q2.text=(⟨#[112,117,116]⟩:V)))),(56,.bool b.2.2.1),(59,.bool b.2.2.2.1)]) (λb=>[cells _p [_g.v,.map (some (bc _c)),.map (some (bc _d)),.map (some (bc _f)),_q.v] 69,bq _g.v o1.units,cH (λn:V=>ad n) (λn:Int=>az .i64 n) (bc _c) o1.place,dV (bc _d) o1.fors,cH (λn:V=>ad n) (λn:Bool=>ap n) (bc _f) o1.skips,bq _q.v o1.lines,cells b1 [zI 0,zI 0] 38,bq v2 o,cells b.2.2.2.2 [zI b.1,.string b.2.1] 94]) (λj3 h cut=>I (O 1 rfl (aU h λq3 dj h=>gm g dj cU ra rfl dc rfl rfl rfl (rz 0 (F+(N:Int).toNat) 0 q3 [zI q3.at_,.string q3.text] M rfl z1 Sy rfl dc rfl (cq g dj) rfl rfl rfl (fZ Sz rfl dc (λb3=>O 1 rfl (fI 8 [zI q3.at_,.string q3.text] [zI q3.at_,.string q3.text] ra rfl rfl rfl rfl rfl (show _<=_ by simp) rfl rfl (Y (cut (I (O 1 rfl (E rfl eZ (O 1 rfl (du 53 rfl h (λh=>O 7 rfl (Y (jy rfl (cJ V h 0 rfl (λj4 b=>j4 b=some r) (λb=>[]) (λb=>[(0,zP _p),(1,y),(6,zP b1),(8,.string q2.text),(9,.string b),(10,v2),(44,y),(45,zI (l1.length:Int)),(46,zI N),(54,undef),(55,undef),(56,undef),(57,undef),(58,undef),(59,undef)]) (λb=>[cells _p [_g.v,.map (some (bc _c)),.map (some (bc _d)),.map (some (bc _f)),_q.v] 69,bq _g.v o1.units,cH (λn:V=>ad n) (λn:Int=>az .i64 n) (bc _c) o1.place,dV (bc _d) o1.fors,cH (λn:V=>ad n) (λn:Bool=>ap n) (bc _f) o1.skips,bq _q.v o1.lines,cells b1 [zI 0,zI 0] 38,bq v2 o]) (λj4 h cut=>cut (I (O 1 rfl (E rfl kF (Y (bu rfl h (λh=>bX (O 1 rfl (bi h λeA h=>E rfl (ni eA) (O 1 rfl (bC (mD (C++(⟨#[32,97,102,116,101,114]⟩:V)) h 8)))))) (λh=>bw (mD C h 8)))))))) (λcc h=>dG (bS (dH (mD (cc,o) h 8)))))))) (λh=>O 1 rfl (E rfl mf (O 1 rfl (du 56 rfl h (λh=>O 1 rfl (E rfl eZ (O 2 rfl (Y (bu rfl h (λh=>cJ V h 0 rfl (λj5 b=>j5 b=some r) (λb=>[]) (λb=>[(0,zP _p),(1,y),(6,zP b1),(8,.string q2.text),(9,.string b),(10,v2),(44,y),(45,zI (l1.length:Int)),(46,zI N),(54,.string q2.text),(55,.bool (decide (q2.text=(⟨#[112,117,116]⟩:V)))),(56,.bool true),(57,zI N),(58,.bool ((N:Int)==2)),(59,.bool ((N:Int)==2))]) (λb=>[cells _p [_g.v,.map (some (bc _c)),.map (some (bc _d)),.map (some (bc _f)),_q.v] 69,bq _g.v o1.units,cH (λn:V=>ad n) (λn:Int=>az .i64 n) (bc _c) o1.place,dV (bc _d) o1.fors,cH (λn:V=>ad n) (λn:Bool=>ap n) (bc _f) o1.skips,bq _q.v o1.lines,cells b1 [zI 0,zI 0] 38,bq v2 o]) (λj5 h cut=>cut (I (O 1 rfl (E rfl kF (Y (bu rfl h (λh=>bX (O 1 rfl (bi h λez h=>E rfl (ni ez) (O 1 rfl (bC (mD (C++(⟨#[32,97,102,116,101,114]⟩:V)) h 8)))))) (λh=>bw (mD C h 8)))))))) (λb0 h=>dG (bS (dH (mD (b0,o) h 8))))) (λh=>bw (mD (q3.at_,q3.text,true,(N:Int)==2,b3) h 9))))))) (λh=>O 4 rfl (Y (eU rfl (bw (mD (q3.at_,q3.text,false,false,b3) h 9))))))))))))))))))))))) ?_));rintro⟨bk,d7,x5,x6,b2⟩ h;refine bV (I (O 2 rfl (ci yg rfl dc rfl (show _=1 from rfl) (bW 8 eJ rfl dc rfl rfl rfl (aU h λr2 ec h=>dF (.string r2) [.string d7] rfl dc rfl rfl rfl Tf (XE ec) (aU h λq4 di h=>eN 7 di ay gV rfl dc rfl rfl rfl rfl (oN 7 ((N:Int).toNat) 0 q4 r2 gV gG rfl rfl rfl rfl (ei di) rfl dc rfl (λ_ _=>rfl) (cw (O 2 rfl (aU h λq5 dg h=>eN 7 dg ay gV rfl dc rfl rfl rfl rfl (fl 7 ((N:Int).toNat) 0 q5 eJ gG rfl dc rfl rfl (ei dg) rfl dc rfl (E rfl mf (Y (bu rfl h (λh=>?_) (λh=>?_)))))))))))))))
    ·refine I (ci vD rfl dc rfl (show _=0 from rfl) (bW 8 ed rfl dc rfl rfl rfl (fH (.agg #[zI 221,zI bk]) [(0,.const (zI 221)),(1,.tmp 77)] rfl dc rfl (λ_=>by kernel_rfl) (fI 6 [zI 221,zI bk] [zI 221,zI bk] lR rfl rfl rfl rfl rfl (show _<=_ by simp) rfl rfl (Y (bO (bZ (cK (bZ (bZ (cK (bZ ?_))))))))))));cases h;exact eW [.cell 6 38] (_g,_c,_d,_f,_q) (.inl rfl) kw (.cons (.cells my (k:=6) rfl rfl rfl) .nil) rfl (cO 6)
    exact bw (cu (bX (O 3 rfl (aU h λq6 df h=>eN 7 df ay gV rfl dc rfl rfl rfl rfl (fl 7 ((N:Int).toNat) 0 q6 eJ gG rfl dc rfl rfl (ei df) rfl dc rfl (aU h λr3 eb h=>dF (.string r3) [.string q6] rfl dc rfl rfl rfl L7 (N7 eb) (bi h λey h=>E rfl (ni ey) (bi h λex h=>E rfl (ni ex) (O 1 rfl (bC (cg (mD (C++((⟨#[32]⟩:V)++r3),o.set (N:Int).toNat r2) h 8))))))))))))
   rintro⟨ch,a0⟩ h;exact bX (bi h λet h=>E rfl (c8 (N+1) (ac _ et)) (O 1 rfl (bC (mD (ch,a0,N+1) h 8))))
  exact dG (bS (bS (dH (mD (q2.text,C,o,v2) h 8))))
 rintro⟨P,t,e,v1⟩ h;refine bV (I (O 1 rfl (E rfl mf (Y (bu rfl h (λh=>?_) (λh=>?_))))))
 ·refine I (O 1 rfl (aU h λq7 bb h=>eN 7 bb ay gV rfl dc rfl rfl rfl rfl (fl 7 ((1:Int).toNat) 0 q7 eJ gG rfl dc rfl rfl (ei bb) rfl dc rfl (aU h λr4 dz h=>dF (.string r4) [.string q7] rfl dc rfl rfl rfl tM (tV dz) (O 1 rfl (Y (bV (I (O 1 rfl (iS rfl dc rfl (ci tL rfl dc rfl (show _=3 from rfl) (bW 0 tK rfl dc rfl rfl rfl (O 1 rfl (Lo 4 (λn:V=>ad n) (λn:Bool=>ap n) r4 false (ou am) underlying67 kr rfl dc rfl rfl rfl (Y (bu rfl h (λh=>?_) (λh=>?_)))))))))))))))))
  ·refine I (O 1 rfl (aU h λq8 a9 h=>gm g a9 cU ra rfl dc rfl rfl rfl (ci vD rfl dc rfl (show _=(F+(1:Int).toNat)*2 from rfl) (km 0 (F+(1:Int).toNat) 0 q8 M rfl z1 ed rfl dc rfl (cq g a9) rfl rfl (fH (.agg #[zI 222,zI q8.at_]) [(0,.const (zI 222)),(1,.tmp 103)] rfl dc rfl (λ_=>by kernel_rfl) (fI 6 [zI 222,zI q8.at_] [zI 222,zI q8.at_] lR rfl rfl rfl rfl rfl (show _<=_ by simp) rfl rfl (Y (bO (bZ (bZ ?_))))))))));cases h;exact eW [.cell 6 38] (_g,_c,_d,_f,_q) (.inl rfl) kw (.cons (.cells my (k:=6) rfl rfl rfl) .nil) rfl (cO 6)
  refine bw (cu (I (O 1 rfl (iS rfl dc rfl (ci tL rfl dc rfl (show _=3 from rfl) (bW 0 tK rfl dc rfl rfl rfl (O 1 rfl (xW 4 (λn:V=>ad n) (λn:Bool=>ap n) r4 true (ou am) underlying67 rfl rfl rfl rfl rfl (cw (O 2 rfl (iS rfl dc rfl (ci An rfl dc rfl (show _=4 from rfl) (bW 0 oS rfl dc rfl rfl rfl (O 1 rfl (hQ [(0,.tmp 115)] 9 [.string t] rfl dc rfl (λ_=>by kernel_rfl) (λb4=>bi h λes h=>jJ 5 8 [t] ay oR gG pE rfl dc rfl rfl rfl rfl rfl rfl es (λv3=>jk 5 rfl (λd0 eX=>?_))))))))))))))))));subst eX;refine iS rfl dc rfl (ci An rfl dc rfl (show _=4 from rfl) (fJ 0 [_g.v,.map (some (bc _c)),.map (some (bc _d)),.map (some (bc _f)),d0.v] uz rfl rfl rfl rfl rfl (λ_ _=>rfl) rfl (cw (fH (.agg #[zI 0,zI 0]) [] rfl dc rfl (λ_=>by kernel_rfl) (fI 6 [zI 0,zI 0] [zI 0,zI 0] lR rfl rfl rfl rfl rfl (show _<=_ by simp) rfl rfl (Y (bO (bZ ?_))))))));cases h;exact eW [.cell 6 38] (_g,_c,_d,_f,d0) (.inl rfl) kw (.cons (.cells my (k:=6) rfl rfl rfl) .nil) rfl (cO 6)
 refine bw (cu (bV (I (O 2 rfl (aU h λq9 a8 h=>eN 7 a8 ay gV rfl dc rfl rfl rfl rfl (fl 7 ((1:Int).toNat) 0 q9 eJ gG rfl dc rfl rfl (ei a8) rfl dc rfl (aU h λr5 dw h=>kZ (.bool r5) [zP _p,.string q9] M rfl dc rfl rfl rfl Tg (XF _p o1 _g _c _d _f _q dw) (.own (cO 1) (λ_ _ h=>aL.1 h) (.own (ct [1] kr rfl) (λ_ _ h=>aL.1 h) (.own (ct [2] kr rfl) (λ_ _ h=>aL.1 h) (.own (ct [3] kr rfl) (λ_ _ h=>aL.1 h) (.own (ct [4] kr rfl) (λ_ _ h=>aL.1 h) (.own (ct [5] kr rfl) (λ_ _ h=>aL.1 h) .nil)))))) (Y (bu rfl h (λh=>?_) (λh=>?_))))))))))
 ·refine I (O 1 rfl (aU h λaw a7 h=>gm g a7 cU ra rfl dc rfl rfl rfl (ci vD rfl dc rfl (show _=(F+(1:Int).toNat)*2 from rfl) (km 0 (F+(1:Int).toNat) 0 aw M rfl z1 ed rfl dc rfl (cq g a7) rfl rfl (fH (.agg #[zI 222,zI aw.at_]) [(0,.const (zI 222)),(1,.tmp 129)] rfl dc rfl (λ_=>by kernel_rfl) (fI 6 [zI 222,zI aw.at_] [zI 222,zI aw.at_] lR rfl rfl rfl rfl rfl (show _<=_ by simp) rfl rfl (Y (bO (bZ ?_)))))))));cases h;exact eW [.cell 6 38] (_g,_c,_d,_f,_q) (.inl rfl) kw (.cons (.cells my (k:=6) rfl rfl rfl) .nil) rfl (cO 6)
 refine bw (cu (cJ Unit h 0 rfl (λj6 b=>j6=some r) (λb=>[]) (λb=>[(0,zP _p),(6,zP b1),(8,.string P),(9,.string t),(10,v1)]) (λb=>[cells _p [_g.v,.map (some (bc _c)),.map (some (bc _d)),.map (some (bc _f)),_q.v] 69,bq _g.v o1.units,cH (λn:V=>ad n) (λn:Int=>az .i64 n) (bc _c) o1.place,dV (bc _d) o1.fors,cH (λn:V=>ad n) (λn:Bool=>ap n) (bc _f) o1.skips,bq _q.v o1.lines,cells b1 [zI 0,zI 0] 38,bq v1 e]) (λj6 h cut=>?_) ?_))
 ·refine cut (I (O 1 rfl (io 7 rfl dc rfl rfl ay (O 1 rfl (Y (ck (fP Int (Cj o1 l1 e j6) (λa b=>a b=some r) (λb=>[]) (λb=>[(0,zP _p),(1,y),(6,zP b1),(8,.string P),(9,.string t),(10,v1),(131,v1),(132,zI (e.length:Int)),(133,zI b)]) (λb=>[cells _p [_g.v,.map (some (bc _c)),.map (some (bc _d)),.map (some (bc _f)),_q.v] 69,bq _g.v o1.units,cH (λn:V=>ad n) (λn:Int=>az .i64 n) (bc _c) o1.place,dV (bc _d) o1.fors,cH (λn:V=>ad n) (λn:Bool=>ap n) (bc _f) o1.skips,bq _q.v o1.lines,cells b1 [zI 0,zI 0] 38,bq v1 e]) 0 h 8 (λe0 x9 h=>I (E rfl dL (Y (bV (bu rfl h (λh=>?_) (λh=>?_)))))))))))))
  ·refine bw (cu (cJ Unit h 0 rfl (λj7 b=>j7=some r) (λb=>[]) (λb=>[(0,zP _p),(1,y),(6,zP b1),(8,.string P),(9,.string t),(10,v1),(131,v1),(132,zI (e.length:Int)),(133,zI x9)]) (λb=>[cells _p [_g.v,.map (some (bc _c)),.map (some (bc _d)),.map (some (bc _f)),_q.v] 69,bq _g.v o1.units,cH (λn:V=>ad n) (λn:Int=>az .i64 n) (bc _c) o1.place,dV (bc _d) o1.fors,cH (λn:V=>ad n) (λn:Bool=>ap n) (bc _f) o1.skips,bq _q.v o1.lines,cells b1 [zI 0,zI 0] 38,bq v1 e]) (λj7 h cut=>?_) ?_))
   ·refine cut (ck (I (O 1 rfl (aU h λc5 a6 h=>eN 7 a6 ay gV rfl dc rfl rfl rfl rfl (fl 7 ((x9:Int).toNat) 0 c5 eJ gG rfl dc rfl rfl (ei a6) rfl dc rfl (O 2 rfl (cw (O 1 rfl (iS rfl dc rfl (ci yd rfl dc rfl (show _=1 from rfl) (bW 0 ya rfl dc rfl rfl rfl (O 1 rfl (Dz 2 (λn:V=>ad n) (λn:Int=>az .i64 n) c5 0 (ou am) underlying65 kr rfl dc rfl rfl rfl (O 1 rfl (fF rfl dc rfl rfl (fF rfl dc rfl rfl (O 2 rfl (cw (O 1 rfl (E rfl kF (O 1 rfl (du 149 rfl h (λh=>?_) (λh=>?_)))))))))))))))))))))))
    ·refine O 1 rfl (E rfl tF (O 2 rfl (du 153 rfl h (λh=>?_) (λh=>?_))))
     ·refine O 1 rfl (lh rfl dc rfl lj (O 1 rfl (Y (bu rfl h (λh=>?_) (λh=>?_)))))
      ·refine I (O 2 rfl (aU h λao a5 h=>gm g a5 cU ra rfl dc rfl rfl rfl (ci vD rfl dc rfl (show _=(F+(x9:Int).toNat)*2 from rfl) (km 0 (F+(x9:Int).toNat) 0 ao M rfl z1 ed rfl dc rfl (cq g a5) rfl rfl (fH (.agg #[zI 223,zI ao.at_]) [(0,.const (zI 223)),(1,.tmp 161)] rfl dc rfl (λ_=>by kernel_rfl) (fI 6 [zI 223,zI ao.at_] [zI 223,zI ao.at_] lR rfl rfl rfl rfl rfl (show _<=_ by simp) rfl rfl (Y (bO (cK (bZ (bZ (cK (bZ ?_)))))))))))));cases h;exact eW [.cell 6 38] (_g,_c,_d,_f,_q) (.inl rfl) kw (.cons (.cells my (k:=6) rfl rfl rfl) .nil) rfl (cO 6)
      exact bw (cg (mD () h 8))
     exact O 3 rfl (Y (eU rfl (bw (cg (mD () h 8)))))
    exact O 7 rfl (Y (eU rfl (bw (cg (mD () h 8)))))
   exact λ_ h=>bX (bi h λeq h=>E rfl (c8 (x9+1) (ac _ eq)) (O 1 rfl (bC (mD (x9+1) h 8))))
  exact dG (bS (bS (dH (mD () h 8))))
 refine λ_ h=>cJ ((List V)×(List (V×Int))×(List (V×List V))×(List (V×Bool))×(List V)×Hd×Nat×Nat×Nat×Hd) h 0 rfl (λj8 b=>j8 b.1 b.2.1 b.2.2.1 b.2.2.2.1 b.2.2.2.2.1=some r) (λb=>[]) (λb=>[(0,zP _p),(6,zP b1),(9,.string t)]) (λb=>[cells _p [b.2.2.2.2.2.1.v,.map (some b.2.2.2.2.2.2.1),.map (some b.2.2.2.2.2.2.2.1),.map (some b.2.2.2.2.2.2.2.2.1),b.2.2.2.2.2.2.2.2.2.v] 69,bq b.2.2.2.2.2.1.v b.1,cH (λn:V=>ad n) (λn:Int=>az .i64 n) b.2.2.2.2.2.2.1 b.2.1,dV b.2.2.2.2.2.2.2.1 b.2.2.1,cH (λn:V=>ad n) (λn:Bool=>ap n) b.2.2.2.2.2.2.2.2.1 b.2.2.2.1,bq b.2.2.2.2.2.2.2.2.2.v b.2.2.2.2.1,cells b1 [zI 0,zI 0] 38]) (λj8 h cut=>?_) ?_
 ·refine cut (I (O 1 rfl (E rfl mf (Y (bu rfl h (λh=>?_) (λh=>?_))))))
  ·refine bV (aU h λH a4 h=>bi h λen h=>aU h λQ a3 h=>bi h λdX h=>xQ 2 (let bs:(Nat×Hd)->List (Nat×Nat×Value):=λb=>[(0,166,zP _p),(1,167,zP _p),(2,168,zP _p),(3,169,zP _p),(4,170,_g.v),(5,171,zP _p),(6,172,zP _p),(7,173,.pointer (some ⟨_p,1,none⟩)),(8,174,.map (some (bc _c))),(9,175,v1),(10,176,.pointer (some ⟨eS v1,(3:Int).toNat*1,none⟩)),(11,177,.string H),(12,178,zI ((cf H o1.place).getD 0)),(13,179,zI (((cf H o1.place).getD 0)+1)),(14,180,v1),(15,181,.pointer (some ⟨eS v1,(1:Int).toNat*1,none⟩)),(16,182,.string Q),(17,183,.slice (some ⟨b.1,0,none⟩) 1 1),(18,184,b.2.v)];let d4:(Nat->Prop)->(Nat×Hd)->List bG:=λD b=>[cells _p [_g.v,.map (some (bc _c)),.map (some (bc _d)),.map (some (bc _f)),_q.v] 69,eD D (bq _g.v o1.units) [(18,cT)],cH (λn:V=>ad n) (λn:Int=>az .i64 n) (bc _c) o1.place,dV (bc _d) o1.fors,cH (λn:V=>ad n) (λn:Bool=>ap n) (bc _f) o1.skips,bq _q.v o1.lines,cells b1 [zI 0,zI 0] 38,bq v1 e,eD D cT [(18,cT),(17,cells b.1 [.string Q] 9)],eD D cT [(18,bq b.2.v (ky o1.units (((cf H o1.place).getD 0)+1) Q))]];?_));have w:vI [17,18] d4:=λi h D b=>cz rfl (cz (th rfl h) (cz rfl (cz rfl (cz rfl (cz rfl (cz rfl (cz rfl (cz (th rfl h) (cz (th rfl h) rfl)))))))));refine xP (Nat×Hd) 19 ((0:Nat),fe) bs d4 mixed kr kr dc (λ_=>rfl) (cz rfl (cz qE (rH (cz qE (cz qE rfl))))) (rI w (λ_=>rfl) (λ_=>rfl) 2 0 (λ_=>rfl) rfl (ti w rfl (λ_=>rfl) (λ_=>rfl) (λD ⟨J,l⟩ n d c u i=>iS rfl dc (aX 1 u d) (bf 2 u i)) (ti w rfl (λ_=>rfl) (λ_=>rfl) (λD ⟨J,l⟩ n d c u i=>ci yc rfl dc (aX 2 u d) (show _=0 from rfl) (bf 3 u i)) (np w rfl (λ_=>rfl) (λ_=>rfl) (λD ⟨J,l⟩ n d c u i=>⟨_,(cz rfl (cz (eH (λf=>n (c 18 _ rfl f 4 dc)) gp) (rH (cz (eH (λf=>n (c 18 _ rfl f 4 dc)) rfl) (cz (eH (λf=>n (c 18 _ rfl f 4 dc)) gp) rfl))))),bW 0 oS rfl dc (aX 3 u d) rfl rfl (bf 4 u i)⟩) (rI w (λ_=>rfl) (λ_=>rfl) 1 5 (λ_=>rfl) rfl (ti w rfl (λ_=>rfl) (λ_=>rfl) (λD ⟨J,l⟩ n d c u i=>iS rfl dc (aX 5 u d) (bf 6 u i)) (ti w rfl (λ_=>rfl) (λ_=>rfl) (λD ⟨J,l⟩ n d c u i=>ci yd rfl dc (aX 6 u d) (show _=1 from rfl) (bf 7 u i)) (np w rfl (λ_=>rfl) (λ_=>rfl) (λD ⟨J,l⟩ n d c u i=>⟨_,(cz rfl (cz (eH (λf=>n (c 12 _ rfl (c 13 _ rfl (c 18 _ rfl f 13 dc) 12 dc) 8 dc)) gp) (rH (cz (eH (λf=>n (c 12 _ rfl (c 13 _ rfl (c 18 _ rfl f 13 dc) 12 dc) 8 dc)) rfl) (cz (eH (λf=>n (c 12 _ rfl (c 13 _ rfl (c 18 _ rfl f 13 dc) 12 dc) 8 dc)) gp) rfl))))),bW 0 ya rfl dc (aX 7 u d) rfl rfl (bf 8 u i)⟩) (rI w (λ_=>rfl) (λ_=>rfl) 1 9 (λ_=>rfl) rfl (np w rfl (λ_=>rfl) (λ_=>rfl) (λD ⟨J,l⟩ n d c u i=>⟨_,(cz rfl (cz (eH (λf=>n (c 11 _ rfl (c 12 _ rfl (c 13 _ rfl (c 18 _ rfl f 13 dc) 12 dc) 11 dc) 10 dc)) gp) (rH (cz (eH (λf=>n (c 11 _ rfl (c 12 _ rfl (c 13 _ rfl (c 18 _ rfl f 13 dc) 12 dc) 11 dc) 10 dc)) rfl) (cz (eH (λf=>n (c 11 _ rfl (c 12 _ rfl (c 13 _ rfl (c 18 _ rfl f 13 dc) 12 dc) 11 dc) 10 dc)) gp) rfl))))),eN 7 a4 ay gV rfl dc (aX 9 u d) rfl rfl rfl (bf 10 u i)⟩) (np w rfl (λ_=>rfl) (λ_=>rfl) (λD ⟨J,l⟩ n d c u i=>⟨_,(cz rfl (cz (eH (λf=>n (c 12 _ rfl (c 13 _ rfl (c 18 _ rfl f 13 dc) 12 dc) 11 dc)) gp) (rH (cz (eH (λf=>n (c 12 _ rfl (c 13 _ rfl (c 18 _ rfl f 13 dc) 12 dc) 11 dc)) rfl) (cz (eH (λf=>n (c 12 _ rfl (c 13 _ rfl (c 18 _ rfl f 13 dc) 12 dc) 11 dc)) gp) rfl))))),fl 7 ((3:Int).toNat) 0 H eJ gG rfl dc (aX 10 u d) rfl (ei a4) rfl dc rfl (bf 11 u i)⟩) (np w rfl (λ_=>rfl) (λ_=>rfl) (λD ⟨J,l⟩ n d c u i=>⟨_,(cz rfl (cz (eH (λf=>n (c 13 _ rfl (c 18 _ rfl f 13 dc) 12 dc)) gp) (rH (cz (eH (λf=>n (c 13 _ rfl (c 18 _ rfl f 13 dc) 12 dc)) rfl) (cz (eH (λf=>n (c 13 _ rfl (c 18 _ rfl f 13 dc) 12 dc)) gp) rfl))))),Lo 2 (λn:V=>ad n) (λn:Int=>az .i64 n) H 0 (ou am) underlying65 kr rfl dc (aX 8 u d) (aX 11 u d) rfl (bf 12 u i)⟩) (ti w rfl (λ_=>rfl) (λ_=>rfl) (λD ⟨J,l⟩ n d c u i=>jX rfl dc (aX 12 u d) rfl (c8 (((cf H o1.place).getD 0)+1) (ac _ en)) (bf 13 u i)) (rI w (λ_=>rfl) (λ_=>rfl) 1 14 (λ_=>rfl) rfl (np w rfl (λ_=>rfl) (λ_=>rfl) (λD ⟨J,l⟩ n d c u i=>⟨_,(cz rfl (cz (eH (λf=>n (c 16 _ rfl (c 17 _ rfl (c 18 _ rfl f 17 dc) 16 dc) 15 dc)) gp) (rH (cz (eH (λf=>n (c 16 _ rfl (c 17 _ rfl (c 18 _ rfl f 17 dc) 16 dc) 15 dc)) (eH (λf=>n (c 16 _ rfl (c 17 _ rfl f 16 dc) 15 dc)) gp)) (cz (eH (λf=>n (c 16 _ rfl (c 17 _ rfl (c 18 _ rfl f 17 dc) 16 dc) 15 dc)) gp) rfl))))),eN 7 a3 ay gV rfl dc (aX 14 u d) rfl rfl rfl (bf 15 u i)⟩) (np w rfl (λ_=>rfl) (λ_=>rfl) (λD ⟨J,l⟩ n d c u i=>⟨_,(cz rfl (cz (eH (λf=>n (c 17 _ rfl (c 18 _ rfl f 17 dc) 16 dc)) gp) (rH (cz (eH (λf=>n (c 17 _ rfl (c 18 _ rfl f 17 dc) 16 dc)) (eH (λf=>n (c 17 _ rfl f 16 dc)) gp)) (cz (eH (λf=>n (c 17 _ rfl (c 18 _ rfl f 17 dc) 16 dc)) gp) rfl))))),fl 7 ((1:Int).toNat) 0 Q eJ gG rfl dc (aX 15 u d) rfl (ei a3) rfl dc rfl (bf 16 u i)⟩) (nl ?_ (nl ?_ gC.nil)))))))))))))))))) ?_
   ·intro D b hn hd S;obtain⟨d6,l⟩:=b;exact lQ (cz rfl (cz (eH (λf=>hn (S 18 _ rfl f 17 dc)) gp) (rH (cz (eH (λf=>hn (S 18 _ rfl f 17 dc)) (eH hn gp)) (cz (eH (λf=>hn (S 18 _ rfl f 17 dc)) gp) rfl))))) (hQ [(0,.tmp 182)] 9 [.string Q] rfl dc (evP.cons (jY 16 rfl rfl (hd 16 dc)) evP.nil) (λ_=>by kernel_rfl) (λJ=>rv 8 rfl rfl (nB (d6,l) (J,l) 17 (by rfl) (by rfl) rfl (HC (wS (eT (λf=>absurd f hn) (eT (λ_=>rfl) rfl)))) (cz rfl (cz ((jA (by rfl)).trans (eH (λf=>hn (S 18 _ rfl f 17 dc)) gp)) (rH (cz (eH (λh=>h.elim (λf=>hn (S 18 _ rfl f 17 dc)) (λh=>absurd h dc)) (jv (kv rfl) rfl)) (cz ((jA (by rfl)).trans (eH (λf=>hn (S 18 _ rfl f 17 dc)) gp)) rfl))))))))
   ·intro D b hn hd S;obtain⟨J,d5⟩:=b;refine lQ (cz rfl (cz (eH hn gp) (rH (cz (eH hn (jv (hd 17 dc) rfl)) (cz (eH hn gp) rfl))))) (ir [_g.v,zI (((cf H o1.place).getD 0)+1),.slice (some ⟨J,0,none⟩) 1 1] rfl dc rfl (dN (jY 4 rfl rfl (hd 4 dc)) (dN (jY 13 rfl rfl (hd 13 dc)) (dN (jY 17 rfl rfl (hd 17 dc)) evL.nil))) rfl Th (UW Q dX) (ct [1,8] kr rfl) (λv4=>jk 10 rfl (λl eM=>?_)));subst eM;exact rv 9 rfl rfl (nB (J,d5) (J,l) 18 (by rfl) (by rfl) rfl (HD (wS (eT (λf=>absurd f hn) rfl))) (cz rfl (cz (jv (kv rfl) rfl) (rH (cz (jv (kv rfl) rfl) (cz (jv (kv rfl) rfl) rfl))))))
   intro D b hall;obtain⟨J,l⟩:=b;refine lQ (cz rfl (cz (jv (hall 18 dc) rfl) (rH (cz (jv (hall 18 dc) rfl) (cz (jv (hall 18 dc) rfl) rfl))))) (iS rfl dc rfl (ci yc rfl dc rfl (show _=0 from rfl) (fJ 0 [l.v,.map (some (bc _c)),.map (some (bc _d)),.map (some (bc _f)),_q.v] uz rfl rfl rfl rfl rfl (λ_ _=>rfl) rfl (Y (bX (O 1 rfl (aU h λr6 ds h=>ir [zP _p] rfl dc rfl rfl rfl Mb (OD _p (⟨ky o1.units (((cf H o1.place).getD 0)+1) Q,o1.place,o1.fors,o1.skips,o1.lines⟩:co) l _c _d _f _q ds) (ct [0,9,2,3,4,5] kr rfl) ?_)))))));rintro⟨c4,c3,c2,c0,cv⟩;exact kL [cells _p [c4.v,.map (some (bc c3)),.map (some (bc c2)),.map (some (bc c0)),cv.v] 69,cT,cH (λn:V=>ad n) (λn:Int=>az .i64 n) (bc c3) r6.place,dV (bc c2) r6.fors,cH (λn:V=>ad n) (λn:Bool=>ap n) (bc c0) r6.skips,bq cv.v r6.lines,cells b1 [zI 0,zI 0] 38,bq v1 e,cT,bq c4.v r6.units] (ct [10,1,12,13,14,15,6,7,8,11] kr rfl) (bC (iW (r6.units,r6.place,r6.fors,r6.skips,r6.lines,c4,(bc c3),(bc c2),(bc c0),cv) h rfl (gl rfl) (ct [0,9,2,3,4,5,6] kr rfl)))
  refine aU h λZ a2 h=>bi h λdT h=>Do (k:=7) rfl (λd8=>?_);obtain⟨v5,dd,d9⟩:=pf (some (zI 2)) none d8 ay gV (.inr rfl) (.inl ⟨rfl,rfl⟩) dT;refine jU 9 [(0,189,zP _p),(1,190,zP _p),(2,191,.pointer (some ⟨_p,2,none⟩)),(3,192,.map (some (bc _d))),(4,193,v1),(5,194,.pointer (some ⟨eS v1,(1:Int).toNat*1,none⟩)),(6,195,.string Z),(7,196,v1),(8,197,v5)] mixed kr kr dc (by rfl) kr kr (gD 1 0 rfl (bQ (λD n d c u i=>iS rfl dc (aX 0 u d) (bf 1 u i)) (bQ (λD n d c u i=>ci GU rfl dc (aX 1 u d) (show _=2 from rfl) (bf 2 u i)) (bQ (λD n d c u i=>bW 0 yb rfl dc (aX 2 u d) rfl rfl (bf 3 u i)) (gD 1 4 rfl (bQ (λD n d c u i=>eN 7 a2 ay gV rfl dc (aX 4 u d) rfl rfl rfl (bf 5 u i)) (bQ (λD n d c u i=>fl 7 ((1:Int).toNat) 0 Z eJ gG rfl dc (aX 5 u d) rfl (ei a2) rfl dc rfl (bf 6 u i)) (gD 1 7 rfl (bQ (λD n d c u i=>jj rfl dc (aX 7 u d) (evO.some rfl) z6 d9 (bf 8 u i)) bB))))))))) ?_;obtain⟨W,dY⟩:=Vw.head dd;have em:=h;subst dY;have h:=em;exact wC [dV (bc _d) o1.fors] (ct [3] kr rfl) Lw (λd3 d1=>xW 8 (λs:V=>ad s) rA Z (ee e 2 (e.length:Int),W) (ou am) vf rfl rfl rfl rfl rfl (su 7 rfl (MV gG dd) (wC [rB (bc _d) (jm Z (ee e 2 (e.length:Int),W) d3),qY d3,nO gK 1 W (ee e 2 (e.length:Int))] (ct [8,9,7] kr rfl) (Ly Z (ee e 2 (e.length:Int)) W d1) (λ_ _=>bC (iW (o1.units,o1.place,jm Z (ee e 2 (e.length:Int)) o1.fors,o1.skips,o1.lines,_g,(bc _c),(bc _d),(bc _f),_q) h rfl (gl rfl) (ct [0,1,2,10,4,5,6] kr rfl))))))
 rintro⟨l2,m1,m2,m3,l3,hd2,b5,b6,b7,eY⟩ h;refine I (O 2 rfl (iS rfl dc rfl (ci An rfl dc rfl (show _=4 from rfl) (bW 0 oS rfl dc rfl rfl rfl (O 1 rfl (hQ [(0,.tmp 203)] 9 [.string t] rfl dc rfl (λ_=>by kernel_rfl) (λb9=>bi h λdB h=>jJ 5 7 [t] ay oR gG pE rfl dc rfl rfl rfl rfl rfl rfl dB (λv6=>jk 5 rfl (λbh eL=>?_)))))))));subst eL;refine iS rfl dc rfl (ci An rfl dc rfl (show _=4 from rfl) (fJ 0 [hd2.v,.map (some b5),.map (some b6),.map (some b7),bh.v] uz rfl rfl rfl rfl rfl (λ_ _=>rfl) rfl (cw (fH (.agg #[zI 0,zI 0]) [] rfl dc rfl (λ_=>by kernel_rfl) (fI 6 [zI 0,zI 0] [zI 0,zI 0] lR rfl rfl rfl rfl rfl (show _<=_ by simp) rfl rfl (Y (bO ?_)))))));cases h;exact eW [.cell 6 38] (hd2,(⟨some ⟨b5,0,none⟩,0,0⟩:Hd),(⟨some ⟨b6,0,none⟩,0,0⟩:Hd),(⟨some ⟨b7,0,none⟩,0,0⟩:Hd),bh) (.inl rfl) kw (.cons (.cells my (k:=6) rfl rfl rfl) .nil) rfl (cO 6)
def zr (i:Int->Int->(List V)->(List (V×Int))->(List (V×List V))->(List (V×Bool))->(List V)->Int->Option ((Option co)×de)) (x1:V) (h:(List V)->(List (V×Int))->(List (V×List V))->(List (V×Bool))->(List V)->Int->Option ((Option co)×de)) (g:List V) (f:List (V×Int)) (e:List (V×List V)) (d:List (V×Bool)) (c:List V) (a:Int):Option ((Option co)×de) := grd (I64 ((x1.size:Int)+1)) <|grd (I64 (a+((x1.size:Int)+1))) <|T (E0 x1 a) λ(r3:(List iA))=>G (((r3.length:Int):Int)==0) (h g f e d c (a+((x1.size:Int)+1))) (grd (I64 (a+(x1.size:Int))) <|T (Fv (⟨g,f,e,d,c⟩:co) r3 (a+(x1.size:Int))) λ(b:(de×co))=>G ((b.1.Err:Int) != 0) (i b.1.Err b.1.At b.2.units b.2.place b.2.fors b.2.skips b.2.lines (a+((x1.size:Int)+1))) (h b.2.units b.2.place b.2.fors b.2.skips b.2.lines (a+((x1.size:Int)+1))))
def zt (a:V):Option ((Option co)×de) := G (decide ((65536:Int)<(a.size:Int))) (some (none,(⟨3,65536⟩:de))) (cm (λ(u:(List V)->(List (V×Int))->(List (V×List V))->(List (V×Bool))->(List V)->Option ((Option co)×de))=>T (BR) λ(r1:co)=>T (OH a (⟨#[10]⟩:V)) λ(r2:(V×V×Int))=>T (E5 r2.1 r2.2.1 r2.2.2) λ(b:(List V))=>cm (λ(h:Int->Int->(List V)->(List (V×Int))->(List (V×List V))->(List (V×Bool))->(List V)->Int->Option ((Option co)×de))=>cm (λ(i:(List V)->(List (V×Int))->(List (V×List V))->(List (V×Bool))->(List V)->Int->Option ((Option co)×de))=>jZ i (zr h) b r1.units r1.place r1.fors r1.skips r1.lines 0) (λ(g:List V) (f:List (V×Int)) (e:List (V×List V)) (d:List (V×Bool)) (c:List V) (w:Int)=>u g f e d c)) (λ(x2:Int) (j:Int) (s:List V) (r:List (V×Int)) (q:List (V×List V)) (o:List (V×Bool)) (n:List V) (v:Int)=>some (none,(⟨x2,j⟩:de)))) (λ(o1:List V) (t:List (V×Int)) (m:List (V×List V)) (l:List (V×Bool)) (k:List V)=>some ((some (⟨o1,t,m,l,k⟩:co)),(⟨0,0⟩:de))))
theorem Jp {a8:V} {r:((Option co)×de)} (h:zt a8=some r):Fn prog 10 [.string a8] [] (λv0:Value=>.tuple #[v0,.agg (mh r.2).toArray]) (λv0=>[kN oT oU 69 v0 r.1]):=by
 refine Fn.intro func10 rfl ntmps10 (by simp) (λw0 K=>vm ?_);show TC _ _ _ _ _ _ _ _ _ [iR ((([]:List Nat):List Nat).map iJ)];refine I (fZ LA rfl dc (λb1=>fZ uA rfl dc (λH=>?_)));show TO _ _ _ _ _ _ _ _ _ _ [iR ((([]:List Nat):List Nat).map iJ),cells b1 [.pointer none] 24,cells H [zI 0,zI 0] 38];refine Y (KN Unit 0 (λ_=>False) (λ_=>[]) (λ_=>[]) rfl ?_ ?_)
 ·refine bV (I (O 1 rfl (mw rfl dc rfl am (E rfl kF (Y (bu rfl h (λh=>?_) (λh=>?_)))))))
  ·refine I (fH (.agg #[zI 3,zI 65536]) [(0,.const (zI 3)),(1,.const (zI 65536))] rfl dc rfl (λ_=>by kernel_rfl) (fJ 1 [.pointer none] DE rfl rfl rfl rfl rfl (λ_ _=>rfl) rfl (fI 2 [zI 3,zI 65536] [zI 3,zI 65536] lR rfl rfl rfl rfl rfl (show _<=_ by simp) rfl rfl ?_)));show TO _ _ _ _ _ _ _ _ _ _ [iR ((([]:List Nat):List Nat).map iJ),cells b1 [.pointer none] 24,cells H [zI 3,zI 65536] 38];refine Y (bO (bZ (Dj (by simp) (DB oT oU 69 ?_))));show TX _ _ _ _ _ _ _ [iR ((([]:List Nat):List Nat).map iJ),cells b1 [.pointer none] 24,cells H [zI 3,zI 65536] 38,kN oT oU 69 (.pointer none) none];cases h;exact sw [.cell 2 24,.cell 3 38] ([]:List Nat) (.pointer none) (.inl rfl) (sq 0 rfl) results10 (.cons (.cell qF (k:=1) rfl rfl) (.cons (.cells my (k:=2) rfl rfl rfl) .nil)) rfl (ct [3] kr rfl)
  refine bw (cu (cJ ((List V)×(List (V×Int))×(List (V×List V))×(List (V×Bool))×(List V)×Nat×Nat×Hd×Nat×Nat×Nat×Hd×(List Nat)) h 3 rfl (λj1 b=>j1 b.1 b.2.1 b.2.2.1 b.2.2.2.1 b.2.2.2.2.1=some r) (λb=>qW b.2.2.2.2.2.2.2.2.2.2.2.2) (λb=>[(2,zP b1),(3,zP H),(4,zP b.2.2.2.2.2.1)]) (λb=>[cells b1 [.pointer none] 24,cells H [zI 0,zI 0] 38,cells b.2.2.2.2.2.1 [zP b.2.2.2.2.2.2.1] 24,cells b.2.2.2.2.2.2.1 [b.2.2.2.2.2.2.2.1.v,.map (some b.2.2.2.2.2.2.2.2.1),.map (some b.2.2.2.2.2.2.2.2.2.1),.map (some b.2.2.2.2.2.2.2.2.2.2.1),b.2.2.2.2.2.2.2.2.2.2.2.1.v] 69,bq b.2.2.2.2.2.2.2.1.v b.1,cH (λn:V=>ad n) (λn:Int=>az .i64 n) b.2.2.2.2.2.2.2.2.1 b.2.1,dV b.2.2.2.2.2.2.2.2.2.1 b.2.2.1,cH (λn:V=>ad n) (λn:Bool=>ap n) b.2.2.2.2.2.2.2.2.2.2.1 b.2.2.2.1,bq b.2.2.2.2.2.2.2.2.2.2.2.1.v b.2.2.2.2.1,iR ((b.2.2.2.2.2.2.2.2.2.2.2.2:List Nat).map iJ)]) (λj1 h cut=>?_) ?_))
  ·refine I (aU h λr1 d3 h=>ir [] rfl dc rfl rfl rfl SP (XG d3) aC ?_);rintro⟨q,a6,a5,a4,a3,a2⟩;show TO _ _ _ _ _ _ _ _ _ _ [iR ((([]:List Nat):List Nat).map iJ),cells b1 [.pointer none] 24,cells H [zI 0,zI 0] 38,cells q [a6.v,.map (some (bc a5)),.map (some (bc a4)),.map (some (bc a3)),a2.v] 69,bq a6.v r1.units,cH (λn:V=>ad n) (λn:Int=>az .i64 n) (bc a5) r1.place,dV (bc a4) r1.fors,cH (λn:V=>ad n) (λn:Bool=>ap n) (bc a3) r1.skips,bq a2.v r1.lines];refine fZ LA rfl dc (λb9=>fJ 9 [zP q] DE rfl rfl rfl rfl rfl (λ_ _=>rfl) rfl ?_);show TO _ _ _ _ _ _ _ _ _ _ [iR ((([]:List Nat):List Nat).map iJ),cells b1 [.pointer none] 24,cells H [zI 0,zI 0] 38,cells q [a6.v,.map (some (bc a5)),.map (some (bc a4)),.map (some (bc a3)),a2.v] 69,bq a6.v r1.units,cH (λn:V=>ad n) (λn:Int=>az .i64 n) (bc a5) r1.place,dV (bc a4) r1.fors,cH (λn:V=>ad n) (λn:Bool=>ap n) (bc a3) r1.skips,bq a2.v r1.lines,cells b9 [zP q] 24];refine cw (fZ xY rfl dc (λs=>fJ 10 [zI 0] gL rfl rfl rfl rfl rfl (λ_ _=>rfl) rfl ?_));show TO _ _ _ _ _ _ _ _ _ _ [iR ((([]:List Nat):List Nat).map iJ),cells b1 [.pointer none] 24,cells H [zI 0,zI 0] 38,cells q [a6.v,.map (some (bc a5)),.map (some (bc a4)),.map (some (bc a3)),a2.v] 69,bq a6.v r1.units,cH (λn:V=>ad n) (λn:Int=>az .i64 n) (bc a5) r1.place,dV (bc a4) r1.fors,cH (λn:V=>ad n) (λn:Bool=>ap n) (bc a3) r1.skips,bq a2.v r1.lines,cells b9 [zP q] 24,cells s [zI 0] 3];refine Y (bV (KC (cu (cut (I (O 1 rfl (aU h λr2 d2 h=>ir [.string a8,.string (⟨#[10]⟩:V)] rfl dc rfl rfl rfl SQ (XJ d2) aC ?_)))))));rintro⟨dn,dj,di⟩;show TO _ _ _ _ _ _ _ _ _ _ [iR ((([]:List Nat):List Nat).map iJ),cells b1 [.pointer none] 24,cells H [zI 0,zI 0] 38,cells q [a6.v,.map (some (bc a5)),.map (some (bc a4)),.map (some (bc a3)),a2.v] 69,bq a6.v r1.units,cH (λn:V=>ad n) (λn:Int=>az .i64 n) (bc a5) r1.place,dV (bc a4) r1.fors,cH (λn:V=>ad n) (λn:Bool=>ap n) (bc a3) r1.skips,bq a2.v r1.lines,cells b9 [zP q] 24,cells s [zI 0] 3,cells dn [.string r2.1] 9,cells dj [.string r2.2.1] 9,cells di [zI r2.2.2] 3];refine Y (ck (aU h λdw d1 h=>tg h λc0 dA h=>tg h λdg dB h=>UD [17] (α:=V) (β:=(List V)×(List (V×Int))×(List (V×List V))×(List (V×Bool))×(List V)×Int×Hd×Nat×Nat×Nat×Hd) (γ:=(Int×Int×(List V)×(List (V×Int))×(List (V×List V))×(List (V×Bool))×(List V)×Int×Hd×Nat×Nat×Nat×Hd)) (δ:=Unit) Ro.nil rfl TA (XH d1) (λpre b=>∀post,dw=pre++post->jZ dg (zr c0) post b.1 b.2.1 b.2.2.1 b.2.2.2.1 b.2.2.2.2.1 b.2.2.2.2.2.1=some r) (λpre b=>[cells b1 [.pointer none] 24,cells H [zI 0,zI 0] 38,cells b9 [zP q] 24,cells q [b.2.2.2.2.2.2.1.v,.map (some b.2.2.2.2.2.2.2.1),.map (some b.2.2.2.2.2.2.2.2.1),.map (some b.2.2.2.2.2.2.2.2.2.1),b.2.2.2.2.2.2.2.2.2.2.v] 69,bq b.2.2.2.2.2.2.1.v b.1,cH (λn:V=>ad n) (λn:Int=>az .i64 n) b.2.2.2.2.2.2.2.1 b.2.1,dV b.2.2.2.2.2.2.2.2.1 b.2.2.1,cH (λn:V=>ad n) (λn:Bool=>ap n) b.2.2.2.2.2.2.2.2.2.1 b.2.2.2.1,bq b.2.2.2.2.2.2.2.2.2.2.v b.2.2.2.2.1,cells s [zI b.2.2.2.2.2.1] 3]) (λc pre g=>(λg=>c=.ret/\c0 g.1 g.2.1 g.2.2.1 g.2.2.2.1 g.2.2.2.2.1 g.2.2.2.2.2.1 g.2.2.2.2.2.2.1 g.2.2.2.2.2.2.2.1=some r) g) (λc pre g=>(λg=>[cells b1 [.pointer none] 24,cells H [zI g.1,zI g.2.1] 38,cells b9 [zP q] 24,cells q [g.2.2.2.2.2.2.2.2.1.v,.map (some g.2.2.2.2.2.2.2.2.2.1),.map (some g.2.2.2.2.2.2.2.2.2.2.1),.map (some g.2.2.2.2.2.2.2.2.2.2.2.1),g.2.2.2.2.2.2.2.2.2.2.2.2.v] 69,bq g.2.2.2.2.2.2.2.2.1.v g.2.2.1,cH (λn:V=>ad n) (λn:Int=>az .i64 n) g.2.2.2.2.2.2.2.2.2.1 g.2.2.2.1,dV g.2.2.2.2.2.2.2.2.2.2.1 g.2.2.2.2.1,cH (λn:V=>ad n) (λn:Bool=>ap n) g.2.2.2.2.2.2.2.2.2.2.2.1 g.2.2.2.2.2.1,bq g.2.2.2.2.2.2.2.2.2.2.2.2.v g.2.2.2.2.2.2.1,cells s [zI g.2.2.2.2.2.2.2.1] 3]) g) (λpre x b j=>[(2,zP b1),(3,zP H),(4,zP b9),(5,zP s),(16,.func (.func 98) #[] #[zP dn,zP dj,zP di]),(6,.string x)]) (λpre x b j=>[cells b1 [.pointer none] 24,cells H [zI 0,zI 0] 38,cells b9 [zP q] 24,cells q [b.2.2.2.2.2.2.1.v,.map (some b.2.2.2.2.2.2.2.1),.map (some b.2.2.2.2.2.2.2.2.1),.map (some b.2.2.2.2.2.2.2.2.2.1),b.2.2.2.2.2.2.2.2.2.2.v] 69,bq b.2.2.2.2.2.2.1.v b.1,cH (λn:V=>ad n) (λn:Int=>az .i64 n) b.2.2.2.2.2.2.2.1 b.2.1,dV b.2.2.2.2.2.2.2.2.1 b.2.2.1,cH (λn:V=>ad n) (λn:Bool=>ap n) b.2.2.2.2.2.2.2.2.2.1 b.2.2.2.1,bq b.2.2.2.2.2.2.2.2.2.2.v b.2.2.2.2.1,cells s [zI b.2.2.2.2.2.1] 3]) (r1.units,r1.place,r1.fors,r1.skips,r1.lines,0,a6,(bc a5),(bc a4),(bc a3),a2) (λpost e=>by rw[bj] at e;subst e;exact h) (ct [1,2,9,3,4,5,6,7,8,10] kr rfl) (ct [11,12,13] kr rfl) (λ_=>rfl) dc ?_ ?_ ?_ ?_))
   ·rintro lp rc pre x1 post ⟨Q,P,N,M,J,o,m,F,C,z,f⟩ w1 K1 bb dz dX bh;exact bX (O 1 rfl (bC (λa w ha hw=>⟨(),(gl rfl) _ _ _ ha,hw.weaken (cO 10)⟩)))
   ·rintro lp rc pre x1 ch ⟨Q,P,N,M,J,o,m,F,C,z,f⟩ _ w1 K1 bb dz dX bh;have h:=bh (x1::ch) bb;obtain⟨d9,cv⟩:∃ag,ag=jZ dg (zr c0) ch:=⟨_,rfl⟩;have h:zr c0 x1 d9 Q P N M J o=some r:=by have h2:=h;rw[qn,<-cv] at h2;exact h2
    show TC _ _ _ _ _ _ _ _ [(2,zP b1),(3,zP H),(4,zP b9),(5,zP s),(16,.func (.func 98) #[] #[zP dn,zP dj,zP di]),(6,.string x1)] [cells b1 [.pointer none] 24,cells H [zI 0,zI 0] 38,cells b9 [zP q] 24,cells q [m.v,.map (some F),.map (some C),.map (some z),f.v] 69,bq m.v Q,cH (λn:V=>ad n) (λn:Int=>az .i64 n) F P,dV C N,cH (λn:V=>ad n) (λn:Bool=>ap n) z M,bq f.v J,cells s [zI o] 3];refine ck (I (bW 9 ed rfl dc rfl rfl rfl (O 1 rfl (cw (bW 9 ed rfl dc rfl rfl rfl (O 1 rfl (mw rfl dc rfl am (bi h λd6 h=>E rfl (c8 ((x1.size:Int)+1) (ac _ d6)) (bi h λd5 h=>E rfl (c8 (o+((x1.size:Int)+1)) (ac _ d5)) (fJ 9 [zI (o+((x1.size:Int)+1))] gL rfl rfl rfl rfl rfl (λ_ _=>rfl) rfl (cw (O 2 rfl (aU h λr3 d0 h=>ir [.string x1,zI o] rfl dc rfl rfl rfl SR (XB d0) aC (λv1=>?_))))))))))))));show TO _ _ _ _ _ _ _ _ _ _ [cells b1 [.pointer none] 24,cells H [zI 0,zI 0] 38,cells b9 [zP q] 24,cells q [m.v,.map (some F),.map (some C),.map (some z),f.v] 69,bq m.v Q,cH (λn:V=>ad n) (λn:Int=>az .i64 n) F P,dV C N,cH (λn:V=>ad n) (λn:Bool=>ap n) z M,bq f.v J,cells s [zI (o+((x1.size:Int)+1))] 3,vJ v1 r3];refine jk 10 rfl (λbk d7=>?_);subst d7;refine O 1 rfl (Y (bV (I (O 1 rfl (io 10 rfl dc rfl rfl cU (E rfl eZ (Y (bu rfl h (λh=>dG (bS (dH (nz (Q,P,N,M,J,o+((x1.size:Int)+1),m,F,C,z,f) (λc2 e2=>by have e9:=nA bb e2;subst e9;subst cv;exact h) (cO 10))))) (λh=>bw (cu (I (bW 2 qF rfl dc rfl rfl rfl (O 3 rfl (mw rfl dc rfl am (bi h λd4 h=>E rfl (c8 (o+(x1.size:Int)) (ac _ d4)) (lF 10 rfl (λdT=>aU h λy dY h=>oQ [zP q,bk.v,zI (o+(x1.size:Int))] (Rd.nil:Rd _ _ []) rfl dc rfl rfl rfl SU (Y7 q (⟨Q,P,N,M,J⟩:co) m (⟨some ⟨F,0,none⟩,0,0⟩:Hd) (⟨some ⟨C,0,none⟩,0,0⟩:Hd) (⟨some ⟨z,0,none⟩,0,0⟩:Hd) f dT dY) (ct [3,4,5,6,7,8] kr rfl) (.own (As:=[vJ bk.v r3]) (ct [10] kr rfl) (λ_ _ h=>pF DW (aL.1 h)) .nil) ?_)))))))))))))))));rintro⟨aw,ao,Z,W,S⟩;refine kL [cells b1 [.pointer none] 24,cells H [zI 0,zI 0] 38,cells b9 [zP q] 24,cells q [aw.v,.map (some (bc ao)),.map (some (bc Z)),.map (some (bc W)),S.v] 69,bq aw.v y.2.units,cH (λn:V=>ad n) (λn:Int=>az .i64 n) (bc ao) y.2.place,dV (bc Z) y.2.fors,cH (λn:V=>ad n) (λn:Bool=>ap n) (bc W) y.2.skips,bq S.v y.2.lines,cells s [zI (o+((x1.size:Int)+1))] 3,vJ bk.v r3] (ct [0,1,2,11,12,13,14,15,16,9,10] kr rfl) (fZ uA rfl dc (λd8=>fI 11 (mh y.1) (mh y.1) lR rfl rfl rfl rfl rfl (show _<=_ by simp) rfl rfl ?_));show TO _ _ _ _ _ _ _ _ _ _ [cells b1 [.pointer none] 24,cells H [zI 0,zI 0] 38,cells b9 [zP q] 24,cells q [aw.v,.map (some (bc ao)),.map (some (bc Z)),.map (some (bc W)),S.v] 69,bq aw.v y.2.units,cH (λn:V=>ad n) (λn:Int=>az .i64 n) (bc ao) y.2.place,dV (bc Z) y.2.fors,cH (λn:V=>ad n) (λn:Bool=>ap n) (bc W) y.2.skips,bq S.v y.2.lines,cells s [zI (o+((x1.size:Int)+1))] 3,vJ bk.v r3,cells d8 (mh y.1) 38];exact cw (ci GO rfl dc rfl (show _=0 from rfl) (bW 11 GN rfl dc rfl rfl rfl (E rfl nh (Y (bu rfl h (λh=>bV (jU 2 [(0,40,.agg (mh y.1).toArray)] mixed kr kr dc (by rfl) kr kr (bQ (λD n d c u i=>ju 11 (mh y.1) my rfl dc (eG (by rfl) rfl) rfl rfl rfl (bf 0 u i)) (bQ (λD n d c u i=>fJ 0 [.pointer none] DE rfl (eG (by rfl) rfl) rfl rfl rfl (λ_ _=>rfl) rfl (Rb (by rfl))) bB)) (fI 1 (mh y.1) (mh y.1) lR rfl rfl rfl rfl rfl (show _<=_ by simp) rfl rfl (Y (bO (cK (oK (y.1.Err,y.1.At,y.2.units,y.2.place,y.2.fors,y.2.skips,y.2.lines,o+((x1.size:Int)+1),aw,(bc ao),(bc Z),(bc W),S) (show _/\_ from ⟨rfl,h⟩) (cO 10)))))))) (λh=>bw (cg (nz (y.2.units,y.2.place,y.2.fors,y.2.skips,y.2.lines,o+((x1.size:Int)+1),aw,(bc ao),(bc Z),(bc W),S) (λc2 e2=>by have e9:=nA bb e2;subst e9;subst cv;exact h) (cO 10)))))))))
   ·rintro a7 ⟨Q,P,N,M,J,o,m,F,C,z,f⟩ bh;have h:dg Q P N M J o=some r:=bh [] (aE _).symm;rw[dB] at h;show TX _ _ _ _ _ _ _ [iR ((([]:List Nat):List Nat).map iJ),cT,cT,cT,cT,cT,cT,cT,cT,cT,cT,cT,cT,cT,cells b1 [.pointer none] 24,cells H [zI 0,zI 0] 38,cells b9 [zP q] 24,cells q [m.v,.map (some F),.map (some C),.map (some z),f.v] 69,bq m.v Q,cH (λn:V=>ad n) (λn:Int=>az .i64 n) F P,dV C N,cH (λn:V=>ad n) (λn:Bool=>ap n) z M,bq f.v J,cells s [zI o] 3,iJ a7];refine vl 24 0 rfl rfl dc ?_;show TX _ _ _ _ _ _ _ [iR ((a7::([]:List Nat):List Nat).map iJ),cT,cT,cT,cT,cT,cT,cT,cT,cT,cT,cT,cT,cT,cells b1 [.pointer none] 24,cells H [zI 0,zI 0] 38,cells b9 [zP q] 24,cells q [m.v,.map (some F),.map (some C),.map (some z),f.v] 69,bq m.v Q,cH (λn:V=>ad n) (λn:Int=>az .i64 n) F P,dV C N,cH (λn:V=>ad n) (λn:Bool=>ap n) z M,bq f.v J,cells s [zI o] 3,cT];exact cg (iW (Q,P,N,M,J,b9,q,m,F,C,z,f,a7::([]:List Nat)) h rfl (gl rfl) (ct [14,15,16,17,18,19,20,21,22,0] kr rfl))
   rintro a7 c pre x1 post g eb hX;obtain⟨rfl,h⟩:=(show _/\_ from hX);obtain⟨x2,x3,df,dd,c5,c4,c3,ds,a1,cc,b0,bs,a0⟩:=g;rw[dA] at h;show TC _ _ _ _ _ _ _ _ _ [iR ((([]:List Nat):List Nat).map iJ),cT,cT,cT,cT,cT,cT,cT,cT,cT,cT,cT,cT,cT,cells b1 [.pointer none] 24,cells H [zI x2,zI x3] 38,cells b9 [zP q] 24,cells q [a1.v,.map (some cc),.map (some b0),.map (some bs),a0.v] 69,bq a1.v df,cH (λn:V=>ad n) (λn:Int=>az .i64 n) cc dd,dV b0 c5,cH (λn:V=>ad n) (λn:Bool=>ap n) bs c4,bq a0.v c3,cells s [zI ds] 3,iJ a7];refine Gu 0 (k:=24) rfl rfl dc ?_;show TC _ _ _ _ _ _ _ _ _ [iR ((a7::([]:List Nat):List Nat).map iJ),cT,cT,cT,cT,cT,cT,cT,cT,cT,cT,cT,cT,cT,cells b1 [.pointer none] 24,cells H [zI x2,zI x3] 38,cells b9 [zP q] 24,cells q [a1.v,.map (some cc),.map (some b0),.map (some bs),a0.v] 69,bq a1.v df,cH (λn:V=>ad n) (λn:Int=>az .i64 n) cc dd,dV b0 c5,cH (λn:V=>ad n) (λn:Bool=>ap n) bs c4,bq a0.v c3,cells s [zI ds] 3,cT];refine bO (cK (bZ (Dj (by simp) (DB oT oU 69 ?_))));show TX _ _ _ _ _ _ _ [iR ((a7::([]:List Nat):List Nat).map iJ),cT,cT,cT,cT,cT,cT,cT,cT,cT,cT,cT,cT,cT,cells b1 [.pointer none] 24,cells H [zI x2,zI x3] 38,cells b9 [zP q] 24,cells q [a1.v,.map (some cc),.map (some b0),.map (some bs),a0.v] 69,bq a1.v df,cH (λn:V=>ad n) (λn:Int=>az .i64 n) cc dd,dV b0 c5,cH (λn:V=>ad n) (λn:Bool=>ap n) bs c4,bq a0.v c3,cells s [zI ds] 3,cT,kN oT oU 69 (.pointer none) none];cases h;exact sw [.cell 2 24,.cell 3 38] (a7::([]:List Nat)) (.pointer none) (.inl rfl) (sq 0 rfl) results10 (.cons (.cell qF (k:=14) rfl rfl) (.cons (.cells my (k:=15) rfl rfl rfl) .nil)) rfl (ct [25] kr rfl)
  rintro⟨o1,o2,o3,o4,o5,b3,b4,a9,b5,b6,b7,hd2,ds1⟩ h;show TC _ _ _ _ _ (qW ds1) _ _ [(2,zP b1),(3,zP H),(4,zP b3)] [cells b1 [.pointer none] 24,cells H [zI 0,zI 0] 38,cells b3 [zP b4] 24,cells b4 [a9.v,.map (some b5),.map (some b6),.map (some b7),hd2.v] 69,bq a9.v o1,cH (λn:V=>ad n) (λn:Int=>az .i64 n) b5 o2,dV b6 o3,cH (λn:V=>ad n) (λn:Bool=>ap n) b7 o4,bq hd2.v o5,iR ((ds1:List Nat).map iJ)];refine I (bW 2 qF rfl dc rfl rfl rfl (fH (.agg #[zI 0,zI 0]) [] rfl dc rfl (λ_=>by kernel_rfl) (fJ 0 [zP b4] DE rfl rfl rfl rfl rfl (λ_ _=>rfl) rfl (fI 1 [zI 0,zI 0] [zI 0,zI 0] lR rfl rfl rfl rfl rfl (show _<=_ by simp) rfl rfl ?_))));show TO _ _ _ _ _ _ _ _ _ _ [cells b1 [zP b4] 24,cells H [zI 0,zI 0] 38,cells b3 [zP b4] 24,cells b4 [a9.v,.map (some b5),.map (some b6),.map (some b7),hd2.v] 69,bq a9.v o1,cH (λn:V=>ad n) (λn:Int=>az .i64 n) b5 o2,dV b6 o3,cH (λn:V=>ad n) (λn:Bool=>ap n) b7 o4,bq hd2.v o5,iR ((ds1:List Nat).map iJ)];refine Y (bO (Dj (by simp) (KY (As:=[cells b4 [a9.v,.map (some b5),.map (some b6),.map (some b7),hd2.v] 69,bq a9.v o1,cH (λn:V=>ad n) (λn:Int=>az .i64 n) b5 o2,dV b6 o3,cH (λn:V=>ad n) (λn:Bool=>ap n) b7 o4,bq hd2.v o5]) (ct [3,4,5,6,7,8] kr rfl) (Lm oT oU 69 (⟨o1,o2,o3,o4,o5⟩:co) b4 (a9,(⟨some ⟨b5,0,none⟩,0,0⟩:Hd),(⟨some ⟨b6,0,none⟩,0,0⟩:Hd),(⟨some ⟨b7,0,none⟩,0,0⟩:Hd),hd2)) (λ_ _=>?_))));show TX _ _ _ _ _ _ _ [cells b1 [zP b4] 24,cells H [zI 0,zI 0] 38,cells b3 [zP b4] 24,cT,cT,cT,cT,cT,cT,iR ((ds1:List Nat).map iJ),kN oT oU 69 (zP b4) (some (⟨o1,o2,o3,o4,o5⟩:co))];cases h;exact sw [.cell 2 24,.cell 3 38] ds1 (zP b4) (.inl rfl) (sq 9 rfl) results10 (.cons (.cell qF (k:=0) rfl rfl) (.cons (.cells my (k:=1) rfl rfl rfl) .nil)) rfl (ct [10] kr rfl)
 exact λb hb=>hb.elim
abbrev Wd:=iA
abbrev jr:V:=⟨#[112,117,116]⟩
abbrev sH:V:=⟨#[97,102,116,101,114]⟩
abbrev cAs:V:=⟨#[97,115]⟩
abbrev og:V:=⟨#[115,107,105,112]⟩
abbrev fu:V:=⟨#[]⟩
def w0:Wd:=⟨0,fu⟩
def pr (l:List Wd) (k:Nat):Int:=(l.getD k w0).at_
def uV (l:List Wd) (e:Int) (b a:Nat):Int:=if l.length<b then e else if a<l.length then pr l a else -1
def nV (l:List Wd) (e:Int):Int :=
 if (l.getD 0 w0).text=jr then (if 2<l.length/\(l.getD 2 w0).text≠sH then pr l 2 else uV l e 4 4)
 else if (l.getD 0 w0).text=cAs then uV l e 3 6
 else if (l.getD 0 w0).text=og then uV l e 2 2
 else pr l 0
theorem nF {α:Type} {l:List α} {k:Nat} (d:α) (h:k<l.length):l[k]?=some (l.getD k d):=by
 rw[cR,aJ h];rfl
theorem rR {α:Type} {l:List α} (k:Nat) (d:α) (h:k<l.length):cj l (k:Int)=some (l.getD k d):=iu (nF _ h)
theorem Y8 (l:List Wd) (e:Int) (h0:0<l.length):E2 l e=some (nV l e):=by
 have c:∀ (a b:Nat),(G (decide (((l.length:Int):Int)<(a:Int))) (some e) (G (decide (((b:Int):Int)<(l.length:Int))) (T (cj l (b:Int)) λ(d:Wd)=>some d.at_) (some (-1))))=some (uV l e a b):=by
  intro a b;unfold uV;by_cases h1:l.length<a
  ·rw[aj h1];exact eQ rfl
  ·rw[ai h1];refine fc ?_;by_cases h2:b<l.length
   ·rw[aj h2];exact eQ (aV (rR _ w0 h2) rfl)
   ·rw[ai h2];exact fc rfl
 unfold E2 nV;refine cL (aV (rR 0 w0 h0) ?_);by_cases h1:(l.getD 0 w0).text=jr
 ·rw[aj h1];refine ca (an h1) (cL ?_);by_cases h2:2<l.length
  ·refine eQ (aV (rR 2 w0 h2) ?_);by_cases h3:(l.getD 2 w0).text=sH
   ·rw[ai (λh=>h.2 h3)];exact bR (by rw[an h3];rfl) (c 4 4)
   ·rw[aj ⟨h2,h3⟩];exact ca (by rw[ah h3];rfl) (aV (rR 2 w0 h2) rfl)
  ·rw[ai (λh=>h2 h.1)];exact fc (c 4 4)
 ·rw[ai h1];refine bR (ah h1) ?_;by_cases h2:(l.getD 0 w0).text=cAs
  ·rw[aj h2];exact ca (an h2) (c 3 6)
  ·rw[ai h2];refine bR (ah h2) ?_;by_cases h3:(l.getD 0 w0).text=og
   ·rw[aj h3];exact ca (an h3) (c 2 2)
   ·rw[ai h3];exact bR (ah h3) (aV (rR 0 w0 h0) rfl)
abbrev Fw:V:=⟨#[32,97,102,116,101,114]⟩
abbrev Jq:V:=⟨#[32]⟩
def k9 (put:Bool):Nat->List Wd->Int ⊕ (List V×V)
 |_,[]=>.inr ([],fu)
 |i,w::ws=>
  if i=0\/(put=true/\i=2) then (match k9 put (i+1) ws with | .inl a=>.inl a | .inr (f,s)=>.inr (fu::f,(if i=0 then fu else Fw)++s))
  else if mP w.text=fu then .inl w.at_
  else match k9 put (i+1) ws with | .inl a=>.inl a | .inr (f,s)=>.inr (mP w.text::f,(Jq++xd (mP w.text))++s)
theorem Jr:∀ (l:List Tk) (k:Nat),k<=8->pN k l=true->k+l.length<=8
 |[],k,hk,_=>hk
 |x::l,k,hk,h=>by
  rw[pN,aN,aN] at h;have a:=of_decide_eq_true h.1.1;have:=Jr l (k+1) a h.2;rw[ab];omega
theorem PF (s:V):∀y∈iE s,y.2.size<=4:=by
 intro y hy;obtain⟨x,hx,rfl⟩:=aT.1 hy;have:=Ce (rF _ x hx);show (⟨x.bs.toArray⟩:V).size<=4;rw[jK];simpa using this
theorem Fx (s:V):(mP s).size<=32:=by
 unfold mP;by_cases h:pN 0 (iE s)=true
 ·rw[aj h];have h1:=Jr _ 0 z1 h;have h2:(kR s).size<=4*((iE s).map je).length:=zo λy hy=>by
   obtain⟨x,hx,rfl⟩:=aT.1 hy;exact Ft (PF s x hx)
  rw[ax] at h2;omega
 ·rw[ai h];show 0<=32;omega
theorem PG {α:Type} (D:List α) (x y:α) (R:List α):(D++x::R).set ((D.length:Int)).toNat y=D++y::R:=by
 rw[cy,List.set_append_right _ _ (aS _),Nat.sub_self];rfl
theorem Y9 (o:co) (l:List Wd) (q2:Wd) (J:V->V->List V->Option (de×co)) (P:l.length<=2147483648) (M:∀w∈l,w.text.size<=65536) :
  ∀ (n:Nat) (B A:List Wd) (D:List V) (said:V),l=A++B->D.length=A.length->B.length<n->said.size<=65536+1000*A.length ->
   bP (λ_ _ _=>none) (Ci o l J q2) n said (D++aO B.length fu) (A.length:Int) =
    match k9 (decide (q2.text=jr)) A.length B with
    |.inl a=>some ((⟨221,a⟩:de),o)
    |.inr (f,s)=>J q2.text (said++s) (D++f):=by
 intro n
 induction n with
 |zero=>intro B A D said _ _ h;omega
 |succ n K=>
  intro B A D said hA y N hs;rw[iB];generalize v:bP (λ_ _ _=>none) (Ci o l J q2) n=ag;unfold Ci;cases B with
  |nil=>
   refine bR (ah (by rw[hA];simp)) ?_;show J q2.text said (D++[])=J q2.text (said++fu) (D++[]);rw[show fu=af from rfl,bF]
  |cons w B=>
   have S:A.length<=2147483648:=by rw[hA,aa] at P;omega
   have k:l[A.length]?=some w:=by rw[hA];simp
   have C:l=(A++[w])++B:=by rw[hA,av];rfl
   have b:(A++[w]).length=A.length+1:=by simp
   have q:=λ(x e:V) (u:e.size<=65536+1000*(A.length+1))=>K B (A++[w]) (D++[x]) e C (by rw[aa,b,y];rfl) (by rw[ab] at N;omega) (by rw[b];exact u);rw[v,b] at q;have m:I64 ((A.length:Int)+1):=⟨by omega,by omega⟩;have j:aO (w::B).length fu=fu::aO B.length fu:=rfl;have g:∀ (x:V) (R:List V),(D++[x])++R=D++x::R:=λx R=>by rw[av];rfl
   have d:∀ (z:V),z.size<=6->(A.length=0\/(decide (q2.text=jr)=true/\A.length=2))->z=(if A.length=0 then fu else Fw) ->
     (grd (I64 ((A.length:Int)+1))<|ag (said++z) (D++fu::aO B.length fu) ((A.length:Int)+1))=match k9 (decide (q2.text=jr)) A.length (w::B) with | .inl a=>some ((⟨221,a⟩:de),o) | .inr (f,s)=>J q2.text (said++s) (D++f):=by
    intro z hz hc r;refine dI m ?_;have:=q fu (said++z) (by rw[aM];omega);rw[g] at this
    push_cast at this
    rw[this,k9,aj hc];cases k9 (decide (q2.text=jr)) (A.length+1) B with
    |inl a=>rfl
    |inr fs=>
     obtain⟨f,s⟩:=fs;show J q2.text ((said++z)++s) ((D++[fu])++f)=J q2.text (said++(_++s)) (D++fu::f);rw[g,dE,r]
   have c:¬(A.length=0\/(decide (q2.text=jr)=true/\A.length=2)) ->
     (T (BP w.text) λ(r2:V)=>T (cj (D++fu::aO B.length fu) (A.length:Int)) λ(Z:V)=>T (cj ((D++fu::aO B.length fu).set ((A.length:Int):Int).toNat r2) (A.length:Int)) λ(H:V)=>
      G (decide (H=(⟨#[]⟩:V))) (some ((⟨221,w.at_⟩:de),o)) (
       T (cj ((D++fu::aO B.length fu).set ((A.length:Int):Int).toNat r2) (A.length:Int)) λ(F:V)=>T (yZ F) λ(r3:V)=>
        grd ((⟨#[32]⟩:V).size+r3.size<=9223372036854775807)<|grd (said.size+((⟨#[32]⟩:V)++r3).size<=9223372036854775807) <|
         grd (I64 ((A.length:Int)+1))<|ag (said++((⟨#[32]⟩:V)++r3)) ((D++fu::aO B.length fu).set ((A.length:Int):Int).toNat r2) ((A.length:Int)+1)))=match k9 (decide (q2.text=jr)) A.length (w::B) with | .inl a=>some ((⟨221,a⟩:de),o) | .inr (f,s)=>J q2.text (said++s) (D++f):=by
    intro hc;have t:w.text.size<=65536:=M w (by rw[hA];simp);have W:=Fx w.text;have i:=PG D fu (mP w.text) (aO B.length fu);rw[y] at i;have hg:∀ (x:V) (R:List V),cj (D++x::R) (A.length:Int)=some x:=λx R=>iu (by rw[<-y];simp);refine aV (Y3 w.text t) (aV (hg _ _) ?_);rw[i,k9,ai hc];refine aV (hg _ _) ?_;by_cases he:mP w.text=fu
    ·rw[aj he];exact ca (an he) rfl
    ·rw[ai he];have ht:=(uT (mP w.text) z1).2.2.2;have Q:(⟨#[32]⟩:V).size=1:=rfl;refine bR (ah he) (aV (hg _ _) (aV (Xf _ z1) (gO (dI (by rw[aM];omega) (dI m ?_)))));have:=q (mP w.text) (said++(Jq++xd (mP w.text))) (by rw[aM,aM];show _+(1+_)<=_;omega);rw[g] at this
     push_cast at this
     rw[this];cases k9 (decide (q2.text=jr)) (A.length+1) B with
     |inl a=>rfl
     |inr fs=>
      obtain⟨f,s⟩:=fs;show J q2.text ((said++_)++s) ((D++[_])++f)=J q2.text (said++(_++s)) (D++_::f);rw[g,dE]
   rw[j];refine ca (an (by rw[hA];simp;omega)) (cL (cL (aV (iu k) ?_)));by_cases h0:A.length=0
   ·refine ca (by rw[h0];rfl) (cL (bR (by rw[h0];rfl) ?_));have:=d fu (by show 0<=6;omega) (.inl h0) (by rw[aj h0]);rw[show fu=af from rfl,bF] at this;exact this
   ·refine bR (aA.2 z1) ?_;by_cases hp:q2.text=jr
    ·refine ca (an hp) ?_;by_cases h2:A.length=2
     ·refine ca (by rw[h2];rfl) (cL (eQ (dI (by show said.size+6<=_;omega) ?_)));exact d Fw (by show 6<=6;omega) (.inr ⟨an hp,h2⟩) (by rw[ai h0])
     ·exact bR (aA.2 z1) (c (λh=>by rcases h with h | h;exact h0 h;exact h2 h.2))
    ·exact bR (ah hp) (c (λh=>by rcases h with h | h;exact h0 h;exact hp (of_decide_eq_true h.1)))
section
variable {κ ν:Type} [DecidableEq κ]
theorem zu (k:κ) (v:ν) (q:κ):∀L:List (κ×ν),cf q (jm k v L)=if q=k then some v else cf q L
 |[]=>rfl
 |p::L=>by
  have b:=zu k v q L;unfold jm;by_cases h:k=p.1
  ·rw[aj h];unfold cf;by_cases a:q=k
   ·rw[aj a,aj a]
   ·rw[ai a,ai a,ai (by rw[<-h];exact a)]
  ·rw[ai h];unfold cf;by_cases a:q=p.1
   ·rw[aj a,aj a,ai (by rw[a];exact λe=>h e.symm)]
   ·rw[ai a,ai a,b]
end
def na:List V->V->Option Int
 |[],_=>none
 |x::l,u=>if u=x then some 0 else (na l u).map (· + 1)
theorem xm:∀ {l:List V} {u:V} {i:Int},na l u=some i->0<=i/\i<(l.length:Int)/\l[i.toNat]?=some u
 |[],u,i,h=>by cases h
 |x::l,u,i,h=>by
  rw[na] at h;split at h
  ·rename_i e;injection h with h;subst h;exact⟨eV _,by rw[ab];push_cast;omega,by rw[e];rfl⟩
  ·cases h1:na l u with
   |none=>rw[h1] at h;cases h
   |some j=>
    rw[h1] at h;injection h with h;subst h;obtain⟨a,b,c⟩:=xm h1;show 0<=j+1/\_;refine⟨by omega,by rw[ab];push_cast;omega,?_⟩;rw[show (j+1).toNat=j.toNat+1 by omega,List.getElem?_cons_succ];exact c
theorem js:∀ {l:List V} {u:V},(na l u).isSome=true↔u∈l
 |[],u=>by simp[na]
 |x::l,u=>by
  rw[na];by_cases h:u=x
  ·rw[aj h];simp[h]
  ·rw[ai h,Option.isSome_map,js];simp[h]
def sI:List V->Int->List (V×Int)->List (V×Int)
 |[],_,m=>m
 |u::us,i,m=>sI us (i+1) (jm u i m)
theorem Js:∀ (us:List V) (i:Int) (m:List (V×Int)) (u:V),us.Nodup->cf u (sI us i m)=match na us u with | some k=>some (i+k) | none=>cf u m
 |[],i,m,u,_=>rfl
 |x::us,i,m,u,h=>by
  rw[ka] at h;rw[sI,Js us (i+1) _ u h.2,na,zu];by_cases hu:u=x
  ·subst hu;have:na us u=none:=by
    cases hi:na us u with
    |none=>rfl
    |some j=>
     exact absurd (js.1 (by rw[hi];rfl)) h.1
   rw[this,aj rfl];simp
  ·rw[ai hu,ai hu];cases na us u with
   |none=>rfl
   |some j=>
    show some (i+1+j)=some (i+(j+1));congr 1;omega
theorem Za (o:co) (h:o.units.length<=1000000000):za o=some ⟨o.units,sI o.units 0 o.place,o.fors,o.skips,o.lines⟩:=by
 unfold za;have key:∀ (n k:Nat) (m:List (V×Int)),k<=o.units.length->o.units.length-k<n->bP (λ_ _=>none) (BQ o) n m (k:Int)=some ⟨o.units,sI (o.units.drop k) (k:Int) m,o.fors,o.skips,o.lines⟩:=by
  intro n
  induction n with
  |zero=>intro k m _ h;omega
  |succ n c=>
   intro k m hk d;rw[iB];generalize b:bP (λ_ _=>none) (BQ o) n=ag;unfold BQ;by_cases a:k<o.units.length
   ·refine eQ (aV (rR _ fu a) (gO ?_));have:=c (k+1) (jm (o.units.getD k fu) (k:Int) m) z1 z1;rw[b] at this
    push_cast at this
    rw[this,List.drop_eq_getElem_cons a,sI];congr 3;rw[cR,aJ a];rfl
   ·refine fc ?_;rw[List.drop_eq_nil_of_le z1];rfl
 have:=key bN 0 o.place (bT _) (by unfold bN;omega);rw[fj] at this;exact this
def nb (o:co) (u:V):Bool:=(cf u o.place).isSome||(cf u o.fors).isSome
theorem Zb (o:co) (u:V):E4 o u=some (nb o u):=by
 unfold E4 nb;cases (cf u o.place).isSome with
 |true=>exact ca rfl rfl
 |false=>exact bR rfl (by rw[dK])
def oB (o:co):Nat->List V->List Wd->Option Int
 |i,f::fs,w::ws=>if 1<i/\f≠fu/\(cf f o.place).isSome=false then some w.at_ else oB o (i+1) fs ws
 |_,_,_=>none
def zw (l:List Wd) (s:V):V:=(l.getD 0 w0).text++s
def fD (fs:List V) (k:Nat):V:=fs.getD k fu
def Fy (o:co) (fs:List V) (a:V):co :=
 let us:=ky o.units ((cf (fD fs 3) o.place).getD 0+1) (fD fs 1)
 ⟨us,sI us 0 o.place,o.fors,o.skips,o.lines++[a]⟩
def qw (o:co) (l:List Wd) (e:Int):de×co :=
 if o.lines.length=256 then (⟨3,pr l 0⟩,o)
 else if 0<=nV l e then (⟨220,nV l e⟩,o)
 else match k9 (decide ((l.getD 0 w0).text=jr)) 0 l with
  |.inl a=>(⟨221,a⟩,o)
  |.inr (fs,s)=>
   if (l.getD 0 w0).text=og then
    (if (cf (jV (fD fs 1)) o.skips).getD false=true then (⟨222,pr l 1⟩,o) else (⟨0,0⟩,⟨o.units,o.place,o.fors,jm (jV (fD fs 1)) true o.skips,o.lines++[zw l s]⟩))
   else if nb o (fD fs 1)=true then (⟨222,pr l 1⟩,o)
   else match oB o 0 fs l with
    |some a=>(⟨223,a⟩,o)
    |none=>(⟨0,0⟩,if (l.getD 0 w0).text=jr then Fy o fs (zw l s) else ⟨o.units,o.place,jm (fD fs 1) (fs.drop 2) o.fors,o.skips,o.lines++[zw l s]⟩)
theorem Zc (o:co) (l:List Wd) (fs:List V) (J:Option (de×co)) (r:fs.length=l.length) (hb:l.length<=2147483648):∀ (n:Nat) (A B:List V) (C D:List Wd),fs=A++B->l=C++D->A.length=C.length->B.length<n ->
  bP (λ_=>none) (Cj o l fs J) n (A.length:Int)=match oB o A.length B D with | some a=>some ((⟨223,a⟩:de),o) | none=>J:=by
 intro n
 induction n with
 |zero=>intro A B C D _ _ _ h;omega
 |succ n m=>
  intro A B C D hA c b q;rw[iB];generalize i:bP (λ_=>none) (Cj o l fs J) n=ag;unfold Cj;have j:B.length=D.length:=by
   rw[hA,c,aa,aa] at r;omega
  cases B with
  |nil=>exact bR (ah (by rw[hA];simp)) rfl
  |cons f B=>
   cases D with
   |nil=>cases j
   |cons w D=>
    have s:A.length<=2147483648:=by rw[c,aa] at hb;omega
    have g:fs[A.length]?=some f:=by rw[hA];simp
    have e:l[A.length]?=some w:=by rw[c,b];simp
    have d:=m (A++[f]) B (C++[w]) D (by rw[hA,av];rfl) (by rw[c,av];rfl) (by simp[b]) (by rw[ab] at q;omega);rw[i,show (A++[f]).length=A.length+1 by simp] at d
    push_cast at d
    have k:(grd (I64 ((A.length:Int)+1))<|ag ((A.length:Int)+1))=match oB o (A.length+1) B D with | some a=>some ((⟨223,a⟩:de),o) | none=>J:=gO d
    refine ca (an (by rw[hA];simp;omega)) (cL (aV (iu g) ?_));rw[oB];by_cases h1:1<A.length
    ·refine eQ ?_;by_cases h2:f=fu
     ·rw[ai (λh=>h.2.1 h2)];exact bR (by rw[an h2];rfl) k
     ·refine ca (by rw[ah h2];rfl) ?_;cases h3:(cf f o.place).isSome with
      |true=>rw[ai (λh=>by cases h.2.2)];exact bR rfl k
      |false=>rw[aj ⟨h1,h2,rfl⟩];exact ca rfl (aV (iu e) rfl)
    ·rw[ai (λh=>h1 h.1)];exact fc k
theorem Cl (put:Bool):∀ (l:List Wd) (i:Nat) (f:List V) (s:V),k9 put i l=.inr (f,s)->f.length=l.length
 |[],i,f,s,h=>by
  rw[k9] at h;injection h with h;injection h with h1 h2;rw[<-h1];rfl
 |w::l,i,f,s,h=>by
  rw[k9] at h;cases hr:k9 put (i+1) l with
  |inl a=>
   rw[hr] at h;split at h
   ·cases h
   ·split at h<;>cases h
  |inr fs=>
   obtain⟨f',c⟩:=fs;have b:=Cl put l (i+1) f' c hr;rw[hr] at h;split at h
   ·injection h with h;injection h with h1 h2;rw[<-h1,ab,ab,b]
   ·split at h
    ·cases h
    ·injection h with h;injection h with h1 h2;rw[<-h1,ab,ab,b]
theorem zx {l:List Wd} {e:Int} (he:0<=e) (ha:∀w∈l,0<=w.at_) (h0:0<l.length) (h:¬0<=nV l e) : ((l.getD 0 w0).text=jr/\l.length=4/\(l.getD 2 w0).text=sH)\/((l.getD 0 w0).text=cAs/\3<=l.length/\l.length<=6)\/((l.getD 0 w0).text=og/\l.length=2):=by
 have f:∀k,k<l.length->0<=pr l k:=λk hk=>ha _ (aF (nF _ hk));have d:∀a b,¬0<=uV l e a b->a<=l.length/\l.length<=b:=by
  intro a b c;unfold uV at c;by_cases h1:l.length<a
  ·rw[aj h1] at c;exact absurd he c
  ·rw[ai h1] at c;by_cases h2:b<l.length
   ·rw[aj h2] at c;exact absurd (f b h2) c
   ·omega
 unfold nV at h;by_cases h1:(l.getD 0 w0).text=jr
 ·rw[aj h1] at h;by_cases h2:2<l.length/\(l.getD 2 w0).text≠sH
  ·rw[aj h2] at h;exact absurd (f 2 h2.1) h
  ·rw[ai h2] at h;have:=d 4 4 h;refine .inl ⟨h1,by omega,?_⟩;exact Decidable.byContradiction λc=>h2 ⟨by omega,c⟩
 ·rw[ai h1] at h;by_cases h2:(l.getD 0 w0).text=cAs
  ·rw[aj h2] at h;exact .inr (.inl ⟨h2,d 3 6 h⟩)
  ·rw[ai h2] at h;by_cases h3:(l.getD 0 w0).text=og
   ·rw[aj h3] at h;have:=d 2 2 h;exact .inr (.inr ⟨h3,by omega⟩)
   ·rw[ai h3] at h;exact absurd (f 0 h0) h
theorem Zd (x:Tk):je (je x)=je x:=by
 cases h:fi x with
 |true=>
  have e:je x=(cP x.1,ae (cP x.1)):=by unfold je;rw[h];rfl
  have h1:fi (je x)=true:=by rw[PD];exact h
  rw[e] at h1 |-
  unfold je;rw[h1,aj rfl];show (cP (cP x.1),ae (cP (cP x.1)))=_;rw[(wa (show dx x.1=true from h)).2.1]
 |false=>
  have e:je x=x:=by unfold je;rw[h];rfl
  rw[e,e]
def Fz (u:V):Prop:=u≠fu/\mP u=u
theorem Ze (s:V) (a:s.size<=65536):kR (kR s)=kR s:=by
 show jw ((iE (kR s)).map je)=jw ((iE s).map je);rw[PA s a,cF];exact aI jw (dW λx _=>Zd x)
theorem Zf (s:V) (a:s.size<=65536) (h:mP s≠fu):Fz (mP s):=by
 refine⟨h,?_⟩;unfold mP at h |-
 by_cases hk:pN 0 (iE s)=true
 ·rw[aj hk,PA s a,Fu,aj hk,Ze s a]
 ·rw[ai hk] at h;exact absurd rfl h
theorem Jt (put:Bool):∀ (l:List Wd) (i:Nat) (f:List V) (s:V),k9 put i l=.inr (f,s)->∀k w,l[k]?=some w ->
  f[k]?=some (if i+k=0\/(put=true/\i+k=2) then fu else mP w.text)/\(¬(i+k=0\/(put=true/\i+k=2))->mP w.text≠fu)
 |[],i,f,s,_,k,w,hk=>by simp at hk
 |w'::l,i,f,s,h,k,w,hk=>by
  rw[k9] at h;cases hr:k9 put (i+1) l with
  |inl a=>
   rw[hr] at h;split at h
   ·cases h
   ·split at h<;>cases h
  |inr fs=>
   obtain⟨f',c⟩:=fs;have b:=Jt put l (i+1) f' c hr;rw[hr] at h;by_cases hc:i=0\/(put=true/\i=2)
   ·rw[aj hc] at h;injection h with h;injection h with h1 h2;subst h1;cases k with
    |zero=>
     injection hk with hk;subst hk;rw[Nat.add_zero,aj hc];exact⟨rfl,λh=>absurd hc h⟩
    |succ k=>
     have:=b k w hk;rw[show i+1+k=i+(k+1) by omega] at this;exact this
   ·rw[ai hc] at h;by_cases he:mP w'.text=fu
    ·rw[aj he] at h;cases h
    ·rw[ai he] at h;injection h with h;injection h with h1 h2;subst h1;cases k with
     |zero=>
      injection hk with hk;subst hk;rw[Nat.add_zero,ai hc];exact⟨rfl,λ_=>he⟩
     |succ k=>
      have:=b k w hk;rw[show i+1+k=i+(k+1) by omega] at this;exact this
theorem FA (o:co):∀ (fs:List V) (a:List Wd) (i:Nat),fs.length=a.length->oB o i fs a=none->∀k f,fs[k]?=some f->1<i+k->f≠fu->(cf f o.place).isSome=true
 |[],a,i,_,_,k,f,hk,_,_=>by simp at hk
 |f'::fs,[],i,hl,_,_,_,_,_,_=>by cases hl
 |f'::fs,w::a,i,hl,h,k,f,hk,h1,hf=>by
  rw[oB] at h;split at h
  ·cases h
  ·rename_i b;cases k with
   |zero=>
    injection hk with hk;subst hk;cases hp:(cf f' o.place).isSome with
    |true=>rfl
    |false=>exact absurd ⟨by omega,hf,hp⟩ b
   |succ k=>exact FA o fs a (i+1) (by simpa using hl) h k f hk z1 hf
structure gH (o:co):Prop where
 pl:∀u,cf u o.place=na o.units u
 nd:o.units.Nodup
 ul:o.units.length<=90+o.lines.length
 ll:o.lines.length<=256
 fo:∀u xs,cf u o.fors=some xs->xs≠[]/\xs.length<=4/\∀x∈xs,x∈o.units
 dj:∀u,(cf u o.fors).isSome=true->u ∉ o.units
 us:∀u∈o.units,Fz u
 fk:∀u,(cf u o.fors).isSome=true->Fz u
 lw:26<=o.units.length
theorem gH.ok {o:co} (h:gH o):zp o where
 fo:=λu xs hx=>⟨(h.fo u xs hx).1,(h.fo u xs hx).2.1⟩
 pl:=λu i hi=>by
  have hi:cf u o.place=some i:=hi;rw[h.pl] at hi;have:=xm hi;have h1:=h.ul;have h2:=h.ll;omega
theorem FB {fs:List V} {k:Nat} (h:k<fs.length):fs[k]?=some (fD fs k):=nF _ h
theorem zy {l:List Wd} {put:Bool} {f:List V} {s:V} (h:k9 put 0 l=.inr (f,s)) (k:Nat) (hk:k<l.length) (a:¬(k=0\/(put=true/\k=2))):fD f k=mP (l.getD k w0).text/\fD f k≠fu:=by
 have b:=Cl put l 0 f s h;obtain⟨h1,h2⟩:=Jt put l 0 f s h k _ (nF _ hk);rw[bY,ai a,FB z1] at h1;injection h1 with h1;rw[bY] at h2;exact⟨h1,by rw[h1];exact h2 a⟩
theorem Zg {o:co} (h:gH o) {u:V} (hu:(cf u o.place).isSome=false):u ∉ o.units:=by
 intro hm;have:=js.2 hm;rw[<-h.pl,hu] at this;cases this
theorem PH {o:co} (h:gH o) {u:V} (hu:(cf u o.place).isSome=true):u∈o.units:=by
 rw[h.pl] at hu;exact js.1 hu
theorem Zh {o:co} (h:gH o) (l:List Wd) (e:Int) (he:0<=e) (h0:0<l.length) (F:l.length<=1000000000) (ha:∀w∈l,0<=w.at_) (t:∀w∈l,w.text.size<=65536):Fv o l e=some (qw o l e):=by
 have y:=h.ul;have z:=h.ll;unfold Fv qw;by_cases h1:o.lines.length=256
 ·rw[aj h1];exact ca (by rw[h1];rfl) (aV (rR 0 w0 h0) rfl)
 rw[ai h1];refine bR (aA.2 z1) (aV (Y8 l e h0) ?_);by_cases h2:0<=nV l e
 ·rw[aj h2];exact ca (an h2) rfl
 rw[ai h2];have i:=zx he ha h0 h2;refine bR (ah h2) (cL (aV (rR 0 w0 h0) (gO ?_)));have D:(l.getD 0 w0).text.size<=65536:=t _ (aF (nF _ h0));have f:=λJ=>Y9 o l (l.getD 0 w0) J z1 t bN l [] [] (l.getD 0 w0).text rfl rfl (by unfold bN;omega) (by show _<=_+1000*0;omega);rw[cy];refine (f _).trans ?_;cases hf:k9 (decide ((l.getD 0 w0).text=jr)) ([]:List Wd).length l with
 |inl a=>rfl
 |inr fs=>
  obtain⟨fs,s⟩:=fs;have hf:k9 (decide ((l.getD 0 w0).text=jr)) 0 l=.inr (fs,s):=hf;have c:=Cl _ _ _ _ _ hf;have C:2<=l.length:=by rcases i with h | h | h<;>omega
  have hg:=λ(k:Nat) (hk:k<l.length)=>rR k (l:=fs) fu z1;show G (decide ((l.getD 0 w0).text=og)) _ _=some (ite ((l.getD 0 w0).text=og) _ _);by_cases b:(l.getD 0 w0).text=og
  ·rw[aj b];have r:(fD fs 1).size<=65536:=by
    have:=(zy hf 1 z1 z1).1;rw[this];have:=Fx (l.getD 1 w0).text;omega
   refine ca (an b) (aV (hg 1 z1) (aV (EN _ r) ?_));show G ((cf (jV (fD fs 1)) o.skips).getD false) _ _=_;cases hb:(cf (jV (fD fs 1)) o.skips).getD false with
   |true=>rw[aj rfl];exact ca rfl (aV (rR 1 w0 z1) rfl)
   |false=>rw[ai (by simp)];exact bR rfl (gO rfl)
  ·rw[ai b];refine bR (ah b) (aV (hg 1 z1) (aV (Zb o _) ?_));show G (nb o (fD fs 1)) _ _=_;cases hb:nb o (fD fs 1) with
   |true=>rw[aj rfl];exact ca rfl (aV (rR 1 w0 z1) rfl)
   |false=>
    rw[ai (by simp)];refine bR rfl (cL ?_);have n:=λJ=>Zc o l fs J c z1 bN [] fs [] l rfl rfl rfl (by unfold bN;omega);refine (n _).trans ?_;cases g:oB o ([]:List V).length fs l with
    |some a=>rfl
    |none=>
     have g:oB o 0 fs l=none:=g;show cm _ _=some ((⟨0,0⟩:de),ite ((l.getD 0 w0).text=jr) _ _);refine cL ?_;by_cases hp:(l.getD 0 w0).text=jr
     ·rw[aj hp];have H:l.length=4:=by
       rcases i with h|h|h
       ·exact h.2.1
       ·rw[h.1] at hp;exact absurd hp (by decide)
       ·exact absurd h.1 b
      have m:=(zy hf 3 z1 z1).2;have h3:=FA o fs l 0 c g 3 _ (FB z1) z1 m;obtain⟨p,d⟩:=kC.1 h3;have hr:=d;rw[h.pl] at hr;have u:=xm hr;have q:fs.getD 3 fu=fD fs 3:=rfl;have v:(ky o.units (p+1) (fD fs 1)).length=o.units.length+1:=by
       unfold ky;rw[aa,ab,aZ,aR];omega
      refine ca (an hp) (aV (hg 3 z1) ?_);rw[q,d,gg];refine gO (aV (hg 1 z1) (gO (aV (Za _ (by show (ky o.units (p+1) (fD fs 1)).length<=_;omega)) ?_)));show (grd (o.lines.length+1<=2147483648) _)=_;refine gO ?_;unfold Fy;rw[d,gg];rfl
     ·rw[ai hp];have j:ee ([]++fs) 2 ((([]++fs:List V).length:Nat):Int)=fs.drop 2:=IX fs 2;refine bR (ah hp) (aV (hg 1 z1) (dI ⟨by omega,by show (2:Int)<=(fs.length:Int);omega,eV _⟩ ?_));rw[j];exact gO rfl
theorem kU {xs:List V} {i:Int} {x u:V}:u∈ky xs i x↔u=x\/u∈xs:=by
 unfold ky;rw[bv,bg];have:u∈xs↔u∈xs.take i.toNat\/u∈xs.drop i.toNat:=by rw[<-bv,bo]
 rw[this];constructor
 ·rintro (h | h | h)
  ·exact .inr (.inl h)
  ·exact .inl h
  ·exact .inr (.inr h)
 ·rintro (h | h | h)
  ·exact .inr (.inl h)
  ·exact .inl h
  ·exact .inr (.inr h)
theorem Zi {xs:List V} (i:Int) {x:V} (h:xs.Nodup) (hx:x ∉ xs):(ky xs i x).Nodup:=by
 have hp:(ky xs i x).Perm (x::xs):=by
  unfold ky;have:(xs.take i.toNat++x::xs.drop i.toNat).Perm (x::(xs.take i.toNat++xs.drop i.toNat)):=List.perm_middle;rw[bo] at this;exact this
 exact hp.nodup_iff.2 (ka.2 ⟨hx,h⟩)
theorem Ju {o:co} (h:gH o) (l:List Wd) (e:Int) (he:0<=e) (h0:0<l.length) (ha:∀w∈l,0<=w.at_) (D:∀w∈l,w.text.size<=65536):gH (qw o l e).2:=by
 have F:=h.ul;have H:=h.ll;unfold qw;by_cases h1:o.lines.length=256
 ·rw[aj h1];exact h
 rw[ai h1];by_cases h2:0<=nV l e
 ·rw[aj h2];exact h
 rw[ai h2];have c:=zx he ha h0 h2;cases hf:k9 (decide ((l.getD 0 w0).text=jr)) 0 l with
 |inl a=>exact h
 |inr fs=>
  obtain⟨fs,s⟩:=fs;have r:=Cl _ _ _ _ _ hf;have K:2<=l.length:=by rcases c with h | h | h<;>omega
  show gH (fv (ite _ _ _));by_cases b:(l.getD 0 w0).text=og
  ·rw[aj b];cases hb:(cf (jV (fD fs 1)) o.skips).getD false with
   |true=>rw[aj rfl];exact h
   |false=>
    rw[ai (by simp)];exact⟨h.pl,h.nd,by show o.units.length<=90+(o.lines++_).length;rw[aa];omega,by show (o.lines++_).length<=_;rw[aa];show _+1<=_;omega,h.fo,h.dj,h.us,h.fk,h.lw⟩
  ·rw[ai b];cases hb:nb o (fD fs 1) with
   |true=>rw[aj rfl];exact h
   |false=>
    rw[ai (by simp)];have t:(cf (fD fs 1) o.place).isSome=false/\(cf (fD fs 1) o.fors).isSome=false:=by
     unfold nb at hb;exact bU.1 hb
    have n:=Zg h t.1;cases y:oB o 0 fs l with
    |some a=>exact h
    |none=>
     obtain⟨v,f⟩:=zy hf 1 z1 z1;have d:Fz (fD fs 1):=by
      rw[v] at f |-
      exact Zf _ (D _ (aF (nF _ z1))) f
     show gH (ite _ _ _);by_cases hp:(l.getD 0 w0).text=jr
     ·rw[aj hp];have M:l.length=4:=by
       rcases c with h|h|h
       ·exact h.2.1
       ·rw[h.1] at hp;exact absurd hp (by decide)
       ·exact absurd h.1 b
      unfold Fy;generalize (cf (fD fs 3) o.place).getD 0+1=i;have hnd:=Zi i h.nd n;refine⟨λu=>?_,hnd,?_,?_,λu xs hx=>?_,λu hu=>?_,λu hu=>?_,h.fk,?_⟩
      ·show cf u (sI (ky o.units i (fD fs 1)) 0 o.place)=na (ky o.units i (fD fs 1)) u;rw[Js _ _ _ _ hnd];cases hi:na (ky o.units i (fD fs 1)) u with
       |some k=>show some (0+k)=_;rw[sn]
       |none=>
        show cf u o.place=none;rw[h.pl];cases hj:na o.units u with
        |none=>rfl
        |some j=>
         have hm:u∈ky o.units i (fD fs 1):=kU.2 (.inr (js.1 (by rw[hj];rfl)));have:=js.2 hm;rw[hi] at this;cases this
      ·show (ky o.units i (fD fs 1)).length<=90+(o.lines++_).length;unfold ky;simp only[aa,ab,aB,aZ,aR];omega
      ·show (o.lines++_).length<=256;rw[aa];show _+1<=_;omega
      ·have:=h.fo u xs hx;exact⟨this.1,this.2.1,λx hx=>kU.2 (.inr (this.2.2 x hx))⟩
      ·intro hm;rcases kU.1 hm with rfl|hm
       ·have hu:(cf (fD fs 1) o.fors).isSome=true:=hu;rw[t.2] at hu;cases hu
       ·exact h.dj u hu hm
      ·rcases kU.1 hu with rfl|hm
       ·exact d
       ·exact h.us u hm
      ·have:=h.lw;show 26<=(ky o.units i (fD fs 1)).length;unfold ky;rw[aa,ab,aZ,aR];omega
     ·rw[ai hp];have J:3<=l.length/\l.length<=6:=by
       rcases c with h|h|h
       ·exact absurd h.1 hp
       ·exact h.2
       ·exact absurd h.1 b
      have m:decide ((l.getD 0 w0).text=jr)=false:=ah hp;refine⟨h.pl,h.nd,by show o.units.length<=90+(o.lines++_).length;rw[aa];omega,by show (o.lines++_).length<=_;rw[aa];show _+1<=_;omega,λu xs hx=>?_,λu hu=>?_,h.us,λu hu=>?_,h.lw⟩
      ·have hx:cf u (jm (fD fs 1) (fs.drop 2) o.fors)=some xs:=hx;rw[zu] at hx;by_cases hu:u=fD fs 1
       ·rw[aj hu] at hx;injection hx with hx;subst hx;refine⟨λe=>?_,by rw[aR];omega,λx hx=>?_⟩
        ·have:=aI fS e;rw[aR,aB] at this;omega
        ·obtain⟨k,hk⟩:=List.mem_iff_getElem?.1 hx;rw[List.getElem?_drop] at hk;have z:=(aq.1 hk).1;have C:fD fs (2+k)=x:=by
          have:=FB (fs:=fs) (k:=2+k) z;rw[hk] at this;injection this with this;exact this.symm
         have q:=(zy hf (2+k) z1 (by rw[m];rintro (h | h);omega;cases h.1)).2;rw[C] at q;exact PH h (FA o fs l 0 r y (2+k) x hk z1 q)
       ·rw[ai hu] at hx;exact h.fo u xs hx
      ·have hu:(cf u (jm (fD fs 1) (fs.drop 2) o.fors)).isSome=true:=hu;rw[zu] at hu;by_cases g:u=fD fs 1
       ·rw[g];exact n
       ·rw[ai g] at hu;exact h.dj u hu
      ·have hu:(cf u (jm (fD fs 1) (fs.drop 2) o.fors)).isSome=true:=hu;rw[zu] at hu;by_cases g:u=fD fs 1
       ·rw[g];exact d
       ·rw[ai g] at hu;exact h.fk u hu
def qR:List Int:=[97,98,99,100,101,102,103,104,105,106,107,108,109,110,111,112,113,114,115,116,117,118,119,120,121,122,945,946,947,948,949,950,951,952,953,954,955,956,957,958,959,960,961,963,964,965,966,967,968,969,1072,1073,1074,1075,1076,1077,1078,1079,1080,1082,1083,1084,1085,1086,1087,1088,1089,1090,1091,1092,1093,1094,1095,1096,1097,1098,1099,1100,1101,1102,1103,1106,1108,1109,1110,1112,1113,1114,1115,1119]
def pO:List V:=qR.map ae
def ua:co:=⟨pO,sI pO 0 [],[],[],[]⟩
theorem Zj:(match BR with | some o=>decide (o.units=pO)&&(decide (o.place.map bE=(sI pO 0 []).map bE)&&decide (o.place.map fv=(sI pO 0 []).map fv))&&o.fors.isEmpty&&o.skips.isEmpty&&o.lines.isEmpty | none=>false)=true:=by decide +kernel
theorem PI {α β:Type}:∀ {a b:List (α×β)},a.map bE=b.map bE->a.map fv=b.map fv->a=b
 |[],[],_,_=>rfl
 |[],_::_,h,_=>by cases h
 |_::_,[],h,_=>by cases h
 |x::a,y::b,h1,h2=>by
  rw[au,au] at h1 h2;injection h1 with p1 q1;injection h2 with p2 q2;rw[Prod.ext p1 p2,PI q1 q2]
theorem Zk:BR=some ua:=by
 have h:=Zj;cases hb:BR with
 |none=>rw[hb] at h;cases h
 |some o=>
  rw[hb] at h;simp only[aN,decide_eq_true_eq,List.isEmpty_iff] at h;obtain⟨⟨⟨⟨h1,h2,h3⟩,b⟩,h5⟩,a⟩:=h;obtain⟨u,p,f,s,l⟩:=o;simp only at h1 h2 h3 b h5 a;subst h1;subst b;subst h5;subst a;rw[PI h2 h3];rfl
theorem PJ:pO.Nodup:=by decide +kernel
theorem Zl:(pO.all λu=>!decide (u=fu)&&decide (mP u=u))=true:=by decide +kernel
theorem FC:gH ua where
 pl:=λu=>by
  show cf u (sI pO 0 [])=na pO u;rw[Js _ _ _ _ PJ];cases na pO u with
  |none=>rfl
  |some k=>show some (0+k)=_;rw[sn]
 nd:=PJ
 ul:=by show pO.length<=90+0;decide
 ll:=by show 0<=256;omega
 fo:=λu xs h=>by cases h
 dj:=λu h=>by cases h
 fk:=λu h=>by cases h
 lw:=by show 26<=pO.length;decide
 us:=λu hu=>by
  have:=bm.1 Zl u hu;rw[aN,cX,decide_eq_false_iff_not,decide_eq_true_iff] at this;exact this
def lJ:List UInt8->List UInt8->List (List UInt8)
 |[],cur=>[cur]
 |c::l,cur=>if c=10 then cur::lJ l [] else lJ l (cur++[c])
theorem PK:∀ (l a:List UInt8),bx l 10<0->lJ l a=[a++l]
 |[],a,_=>by rw[lJ,aE]
 |c::l,a,h=>by
  unfold bx at h;by_cases hc:c=10
  ·rw[hc] at h;exact absurd (show (0:Int)<0 from h) (by decide)
  ·have hb:(c==(10:UInt8))=false:=aA.2 hc;rw[hb] at h;simp only[bp,if_false] at h;have:bx l 10<0:=by
    by_cases h1:bx l 10=-1
    ·omega
    ·rw[aA.2 h1] at h;simp only[bp,if_false] at h;have:=indexByte_ge l 10;omega
   rw[lJ,ai hc,PK l _ this,av];rfl
theorem PL:∀ (l a:List UInt8) (m:Nat),bx l 10=(m:Int)->lJ l a=(a++l.take m)::lJ (l.drop (m+1)) []/\m<l.length
 |[],a,m,h=>by
  have:(-1:Int)=(m:Int):=h;omega
 |c::l,a,m,h=>by
  unfold bx at h;by_cases hc:c=10
  ·rw[hc] at h;have hm:(0:Int)=(m:Int):=h;obtain rfl:m=0:=by omega
   rw[lJ,aj hc,List.take_zero,aE];exact⟨rfl,by rw[ab];omega⟩
  ·have hb:(c==(10:UInt8))=false:=aA.2 hc;rw[hb] at h;simp only[bp,if_false] at h;by_cases h1:bx l 10=-1
   ·rw[h1] at h;have:(-1:Int)=(m:Int):=h;omega
   ·rw[aA.2 h1] at h;simp only[bp,if_false] at h;have:=indexByte_ge l 10;obtain⟨k,hk⟩:∃k:Nat,bx l 10=(k:Int):=⟨(bx l 10).toNat,by omega⟩;obtain rfl:m=k+1:=by omega
    obtain⟨e1,e2⟩:=PL l (a++[c]) k hk;rw[lJ,ai hc,e1,av];exact⟨rfl,by rw[ab];omega⟩
theorem Zm (J:V->Option (List V)) (g:∀x,J x=some [x]):∀ (n:Nat) (x:V),x.size<n->x.size<=1000000000->bP (λ_=>none) (BS (⟨#[10]⟩:V) 0 J) n x=some ((lJ x.data.toList []).map ba):=by
 intro n
 induction n with
 |zero=>intro x h;omega
 |succ n e=>
  intro x i hb;rw[iB];generalize c:bP (λ_=>none) (BS (⟨#[10]⟩:V) 0 J) n=ag;unfold BS;have f:=indexByte_ge x.data.toList 10;refine dI rfl ?_;by_cases h:bx x.data.toList 10<0
  ·refine ca (an h) ?_;rw[g,PK _ _ h];show some [x]=some [ba ([]++x.data.toList)];rw[bj,show ba x.data.toList=x from rP (tu _)]
  ·obtain⟨m,hm⟩:∃m:Nat,bx x.data.toList 10=(m:Int):=⟨(bx x.data.toList 10).toNat,by omega⟩;obtain⟨e1,e2⟩:=PL x.data.toList [] m hm;rw[<-jK] at e2;rw[hm,e1];have a:((⟨#[10]⟩:V).size:Int)=1:=rfl;rw[a,Int.add_zero];refine fc (gO (gO ?_));have c1:c6 x 0 (m:Int)=ba ([]++x.data.toList.take m):=by
    apply rP;have:=uS x 0 m;rw[show ((0:Nat):Int)=0 from rfl] at this;rw[this,tu];rfl
   have d:(c6 x ((m:Int)+1) (x.size:Int)).data.toList=x.data.toList.drop (m+1):=by
    have:=uS x (m+1) x.size
    push_cast at this
    rw[this,ff (by rw[aR,<-jK];omega)]
   have j:(c6 x ((m:Int)+1) (x.size:Int)).size=x.size-(m+1):=by rw[jK,d,aR,<-jK]
   have:=e (c6 x ((m:Int)+1) (x.size:Int)) z1 z1;rw[c,d] at this;rw[c1];have b:(grd (I64 ((m:Int)+1))<|grd (0<=((m:Int)+1:Int)/\((m:Int)+1:Int)<=(x.size:Int)/\((x.size:Int):Int)<=(x.size:Int))<|ag (c6 x ((m:Int)+1) (x.size:Int)))=some ((lJ (x.data.toList.drop (m+1)) []).map ba):=gO (gO this);rw[b];rfl
def qT:co->Int->List (List UInt8)->(Option co)×de
 |o,_,[]=>(some o,⟨0,0⟩)
 |o,at_,x::xs=>
  if iL x 0 none=[] then qT o (at_+((x.length:Int)+1)) xs
  else if (qw o ((iL x 0 none).map (kS at_)) (at_+(x.length:Int))).1.Err=0 then qT (qw o ((iL x 0 none).map (kS at_)) (at_+(x.length:Int))).2 (at_+((x.length:Int)+1)) xs
  else (none,(qw o ((iL x 0 none).map (kS at_)) (at_+(x.length:Int))).1)
def zz (xs:List (List UInt8)):Nat:=(xs.map λx=>x.length+1).sum
theorem FE (x:List UInt8) (xs:List (List UInt8)):zz (x::xs)=x.length+1+zz xs:=by unfold zz;simp
theorem FF:∀ (l a:List UInt8),zz (lJ l a)=l.length+a.length+1
 |[],a=>by rw[lJ,FE];show a.length+1+0=0+a.length+1;omega
 |c::l,a=>by
  rw[lJ];split
  ·rw[FE,FF l []];simp;omega
  ·rw[FF l];simp;omega
theorem xn:∀ (l:List UInt8) (i:Nat) (b:Option (Nat×List UInt8)),(∀p∈iL l i b,p.2.length<=l.length+(b.toList.map λp=>p.2.length).sum)/\(iL l i b).length<=l.length+b.toList.length
 |[],i,none=>⟨(λp h=>by cases h),by show 0<=0;omega⟩
 |[],i,some q=>⟨λp h=>by
   have:p=q:=bd.1 h;subst this;simp,by show 1<=0+1;omega⟩
 |c::l,i,b=>by
  by_cases hc:c=32
  ·subst hc;obtain⟨h1,h2⟩:=xn l (i+1) none;rw[Cg];have h2:(iL l (i+1) none).length<=l.length+0:=h2;refine⟨λp hp=>?_,by rw[aa,ab];omega⟩;rcases bv.1 hp with hp|hp
   ·cases b with
    |none=>cases hp
    |some q=>rw[bd.1 hp];simp
   ·have:=h1 p hp;simp at this |-
    omega
  ·cases b with
   |none=>
    obtain⟨h1,h2⟩:=xn l (i+1) (some (i,[c]));rw[Jn hc];have h2:(iL l (i+1) (some (i,[c]))).length<=l.length+1:=h2;refine⟨λp hp=>?_,by rw[ab];show _<=l.length+1+0;omega⟩;have:=h1 p hp;simp at this |-
    omega
   |some q=>
    obtain⟨a,w⟩:=q;obtain⟨h1,h2⟩:=xn l (i+1) (some (a,w++[c]));rw[Jo hc];have h2:(iL l (i+1) (some (a,w++[c]))).length<=l.length+1:=h2;refine⟨λp hp=>?_,by rw[ab];show _<=l.length+1+1;omega⟩;have:=h1 p hp;simp at this |-
    omega
theorem PM:∀ (xs:List (List UInt8)) (o:co) (at_:Int),gH o->0<=at_->at_+(zz xs:Int)<=200000->(∀x∈xs,x.length<=65536) ->
  jZ (λ(h:List V) (g:List (V×Int)) (f:List (V×List V)) (d:List (V×Bool)) (c:List V) (l:Int)=>(some ((some (⟨h,g,f,d,c⟩:co)),(⟨0,0⟩:de)):Option ((Option co)×de)))
   (zr (λ(x2:Int) (q:Int) (z:List V) (v:List (V×Int)) (u:List (V×List V)) (t:List (V×Bool)) (s:List V) (H:Int)=>some (none,(⟨x2,q⟩:de)))) (xs.map ba) o.units o.place o.fors o.skips o.lines at_=some (qT o at_ xs)
 |[],o,at_,_,_,_,_=>rfl
 |x::xs,o,at_,hi,ha,hb,hx=>by
  have C:=hx x (ar ..);rw[FE] at hb
  push_cast at hb
  have next:=λ(n:co) (h':gH n)=>PM xs n (at_+((x.length:Int)+1)) h' z1 z1 (λy hy=>hx y (ak _ hy));rw[au,qn];generalize F:jZ (λ(h:List V) (g:List (V×Int)) (f:List (V×List V)) (d:List (V×Bool)) (c:List V) (l:Int)=>(some ((some (⟨h,g,f,d,c⟩:co)),(⟨0,0⟩:de)):Option ((Option co)×de))) _ (xs.map ba)=ag at next |-
  unfold zr;have D:(ba x).size=x.length:=zq x;obtain⟨w1,m⟩:=xn x 0 none;have m:(iL x 0 none).length<=x.length+0:=m;refine gO (gO (aV (Y6 (ba x) at_ z1 ⟨by omega,by omega⟩) ?_));rw[tu,D,ax,qT];by_cases h0:iL x 0 none=[]
  ·rw[aj h0,h0];exact ca rfl (next o hi)
  ·rw[ai h0];have a:0<(iL x 0 none).length:=dh.2 h0;have j:∀w∈(iL x 0 none).map (kS at_),0<=w.at_:=λw k=>by
    obtain⟨p,hp,rfl⟩:=aT.1 k;show 0<=at_+(p.1:Int);omega
   have i:∀w∈(iL x 0 none).map (kS at_),w.text.size<=65536:=λw k=>by
    obtain⟨p,hp,rfl⟩:=aT.1 k;show (ba p.2).size<=65536;rw[zq];have:=w1 p hp;have:p.2.length<=x.length+0:=this;omega
   have e:(⟨o.units,o.place,o.fors,o.skips,o.lines⟩:co)=o:=rfl;refine bR (aA.2 z1) (gO ?_);rw[e];refine aV (Zh hi _ _ z1 (by rw[ax];exact a) (by rw[ax];omega) j i) ?_;have b:=Ju hi ((iL x 0 none).map (kS at_)) (at_+(x.length:Int)) z1 (by rw[ax];exact a) j i;generalize qw o ((iL x 0 none).map (kS at_)) (at_+(x.length:Int))=r at b |-
   by_cases h1:r.1.Err=0
   ·rw[aj h1];exact bR (by rw[h1];rfl) (next r.2 b)
   ·rw[ai h1];exact ca (cQ.2 h1) rfl
theorem PN:∀ (xs:List (List UInt8)) (o:co) (at_:Int),gH o->0<=at_->(∀x∈xs,x.length<=65536)->(∃a,qT o at_ xs=(some a,⟨0,0⟩)/\gH a)\/(∃e,qT o at_ xs=(none,e)/\e.Err≠0)
 |[],o,at_,hi,_,_=>.inl ⟨o,rfl,hi⟩
 |x::xs,o,at_,hi,ha,hx=>by
  have c:=hx x (ar ..);have next:=λ(a:co) (h':gH a)=>PN xs a (at_+((x.length:Int)+1)) h' z1 (λy hy=>hx y (ak _ hy));obtain⟨w1,d⟩:=xn x 0 none;rw[qT];by_cases h0:iL x 0 none=[]
  ·rw[aj h0];exact next o hi
  ·rw[ai h0];by_cases h1:(qw o ((iL x 0 none).map (kS at_)) (at_+(x.length:Int))).1.Err=0
   ·rw[aj h1];refine next _ (Ju hi _ _ z1 (by rw[ax];exact dh.2 h0) (λw b=>?_) (λw b=>?_))
    ·obtain⟨p,hp,rfl⟩:=aT.1 b;show 0<=at_+(p.1:Int);omega
    ·obtain⟨p,hp,rfl⟩:=aT.1 b;show (ba p.2).size<=65536;rw[zq];have:p.2.length<=x.length+0:=w1 p hp;omega
   ·rw[ai h1];exact .inr ⟨_,rfl,h1⟩
def ub (text:V):(Option co)×de:=if 65536<text.size then (none,⟨3,65536⟩) else qT ua 0 (lJ text.data.toList [])
theorem PO (l a:List UInt8):∀x∈lJ l a,x.length<=l.length+a.length:=by
 intro x hx;have h1:=FF l a;have:∀ (xs:List (List UInt8)),x∈xs->x.length+1<=zz xs:=by
  intro xs
  induction xs with
  |nil=>intro h;cases h
  |cons y ys b=>
   intro h;rw[FE];rcases bg.1 h with rfl|h
   ·omega
   ·have:=b h;omega
 have:=this _ hx;omega
theorem Jv (text:V):zt text=some (ub text):=by
 unfold zt ub;by_cases h:65536<text.size
 ·rw[aj h];exact eQ rfl
 ·rw[ai h];refine fc (cL (aV Zk (aV (a:=((⟨#[10]⟩:V),text,0)) rfl (aV (a:=(lJ text.data.toList []).map ba) ?_ (cL (cL ?_))))))
  ·unfold E5;exact cL (bR rfl (cL (Zm _ (λx=>rfl) bN text (by unfold bN;omega) z1)))
  ·have b:=FF text.data.toList [];rw[<-jK,aB] at b;exact PM (lJ text.data.toList []) ua 0 FC (eV _) z1 (λx hx=>by have:=PO text.data.toList [] x hx;rw[<-jK,aB] at this;omega)
theorem Jw (text:V):(∃a,ub text=(some a,⟨0,0⟩)/\gH a)\/(∃e,ub text=(none,e)/\e.Err≠0):=by
 unfold ub;by_cases h:65536<text.size
 ·rw[aj h];exact .inr ⟨_,rfl,by show (3:Int)≠0;omega⟩
 ·rw[ai h];exact PN _ _ _ FC (eV _) (λx hx=>by have:=PO text.data.toList [] x hx;rw[<-jK,aB] at this;omega)
def uc (text:V):co:=(ub text).1.getD ua
theorem Zo (text:V):gH (uc text):=by
 unfold uc;rcases Jw text with⟨o,h,hi⟩|⟨e,h,he⟩
 ·rw[h];exact hi
 ·rw[h];exact FC
theorem PP:ub (⟨#[]⟩:V)=(some ua,⟨0,0⟩):=rfl
def FG  : Option Bool := T (zt (⟨#[112,117,116,32,99,104,32,97,102,116,101,114,32,99]⟩:V)) λ(r1:((Option co)×de))=>T (r1.1) λ(p1:co)=>T (zl p1 (⟨#[99,122]⟩:V) (⟨#[99,104,97]⟩:V)) λ(r2:(Int×Int))=>G (yl r1.2 (⟨0,0⟩:de)) (G ((r2.1:Int)==(-1)) (G ((r2.2:Int)==1) (T (Pb p1 (⟨#[99,104,111,112]⟩:V)) λ(r3:V)=>some (decide (r3=(⟨#[67,72]⟩:V)))) (some false)) (some false)) (some false)
theorem PQ  {r:Bool} (h:FG=some r):eO prog 4 [] (.bool r):=by
 refine eO.intro func4 rfl ntmps4 (by simp) (λw0 K=>I (O 1 rfl (cw (aU h λr1 l h=>ir [.string (⟨#[112,117,116,32,99,104,32,97,102,116,101,114,32,99]⟩:V)] rfl dc rfl rfl rfl G1 (Jp l) aC (λv1=>kL [kN oT oU 69 v1 r1.1] (cO 1) (O 1 rfl (fF rfl dc rfl rfl (fF rfl dc rfl rfl (fZ uA rfl dc (λb1=>O 1 rfl (fI 1 (mh r1.2) (mh r1.2) lR rfl rfl rfl rfl rfl (show _<=_ by simp) rfl rfl (cw (O 1 rfl (aU h λp1 j h=>wC [kN oT oU 69 v1 r1.1] (cO 1) (GI j) ?_))))))))))))));rintro⟨e,d,hd2,c,b,a⟩ f;have m:=h;subst f;have h:=m;refine aU h λr2 i h=>kZ (.tuple #[zI r2.1,zI r2.2]) [zP e,.string (⟨#[99,122]⟩:V),.string (⟨#[99,104,97]⟩:V)] (Rd.nil:Rd _ _ []) rfl dc rfl rfl rfl G2 (I6 e p1 d hd2 c b a i) (.own (ct [2] kr rfl) (λ_ _ h=>aL.1 h) (.own (ct [3] kr rfl) (λ_ _ h=>aL.1 h) (.own (ct [4] kr rfl) (λ_ _ h=>aL.1 h) (.own (ct [5] kr rfl) (λ_ _ h=>aL.1 h) (.own (ct [6] kr rfl) (λ_ _ h=>aL.1 h) (.own (ct [7] kr rfl) (λ_ _ h=>aL.1 h) .nil)))))) (O 1 rfl (fF rfl dc rfl rfl (fF rfl dc rfl rfl (O 2 rfl (cw (ju 1 (mh r1.2) my rfl dc rfl rfl rfl rfl (fH (.agg #[zI 0,zI 0]) [] rfl dc rfl (λ_=>by kernel_rfl) (E rfl (Ug r1.2 (⟨0,0⟩:de)) (O 1 rfl (du 17 rfl h (λh=>?_) (λh=>?_)))))))))))
 ·refine O 1 rfl (E rfl eZ (O 2 rfl (du 21 rfl h (λh=>?_) (λh=>?_))))
  ·refine O 1 rfl (E rfl eZ (O 2 rfl (du 25 rfl h (λh=>?_) (λh=>?_))))
   ·refine O 1 rfl (aU h λr3 g h=>kZ (.string r3) [zP e,.string (⟨#[99,104,111,112]⟩:V)] (Rd.nil:Rd _ _ []) rfl dc rfl rfl rfl SN (YF e p1 d hd2 c b a g) (.own (ct [2] kr rfl) (λ_ _ h=>aL.1 h) (.own (ct [3] kr rfl) (λ_ _ h=>aL.1 h) (.own (ct [4] kr rfl) (λ_ _ h=>aL.1 h) (.own (ct [5] kr rfl) (λ_ _ h=>aL.1 h) (.own (ct [6] kr rfl) (λ_ _ h=>aL.1 h) (.own (ct [7] kr rfl) (λ_ _ h=>aL.1 h) .nil)))))) (E rfl mf (O 2 rfl (Y (bO ?_)))));cases h;exact dt 0 results4
   refine O 5 rfl (Y (bO ?_));cases h;exact dt 0 results4
  refine O 9 rfl (Y (bO ?_));cases h;exact dt 0 results4
 refine O 13 rfl (bC (cu (bO ?_)));cases h;exact dt 0 results4
def Cm (a:V):Option V := G (decide ((512:Int)<(a.size:Int))) (grd (0<=(0:Int)/\(0:Int)<=512/\(512:Int)<=(a.size:Int)) <|some (c6 a 0 512)) (some a)
theorem PR {b:V} {r:V} (h:Cm b=some r):eO prog 6 [.string b] (.string r):=by
 refine eO.intro func6 rfl ntmps6 (by simp) (λw0 K=>I (O 1 rfl (Y (bV (I (O 1 rfl (mw rfl dc rfl am (E rfl kF (Y (bu rfl h (λh=>?_) (λh=>?_)))))))))))
 ·refine I (O 1 rfl (bi h λa h=>jj rfl dc rfl rfl rfl (lP 0 512 am (.inl ⟨rfl,rfl⟩) (.inr rfl) a) (O 1 rfl (Y (bO (bZ ?_))))));cases h;exact dt 2 results6
 refine bw (cu (I (O 2 rfl (Y (bO ?_)))));cases h;exact dt 2 results6
theorem PS:FG=some true:=by decide +kernel
def nc (s:V):V:=if 512<s.size then c6 s 0 512 else s
theorem PT (s:V):Cm s=some (nc s):=by
 unfold Cm nc;by_cases h:512<s.size
 ·rw[aj h];exact eQ (gO rfl)
 ·rw[ai h];exact fc rfl
theorem PU (s:V):(nc s).size<=512:=by
 unfold nc;by_cases h:512<s.size
 ·rw[aj h];have:=uS s 0 512;rw[jK];rw[show c6 s 0 512=c6 s ((0:Nat):Int) ((512:Nat):Int) from rfl,this,aZ];omega
 ·rw[ai h];omega
section
section snoc
variable {α:Type}
end snoc
structure zIU (o:nS) (y:Tk):Prop where
 lt:fi y=false
 mm:jQ y=false
 dg:gM y=false
 k1:kT y≠1
 k3:kT y≠3
 kb:¬(kT y=5\/kT y=4\/kT y=6)
 k11:kT y≠11
 no:∀f,o.p (f++ae (cP y.1))=none/\o.f (f++ae (cP y.1))=none
theorem Zp (o:nS) (n:Nat):oy o n []=[]:=by cases n<;>rfl
theorem Zq {t:dM} (ht:lI t) (h:0<=(tkT t).1):(tkT t).2=ae (tkT t).1:=by
 rcases ht with ht|ht
 ·have hb:=yo ht;have e:=Io ht;unfold fG kz at e;have e2:=aI (λx:bn=>x.Text) e;dsimp only at e2;have a:(tkT t).1=(t.r:Int):=by unfold tkT;rw[hb];rfl
  rw[a,<-e2];rfl
 ·exfalso;have:(tkT t).1=-1:=by unfold tkT;rw[ht];rfl
  omega
end
theorem Zr {r:Int} (h:cf r eP=none):jp r=[r]:=by unfold jp;rw[h]
def PV (t:dM):Prop:=lI t/\(fi (tkT t)=true->cf (tkT t).1 eP=none)
theorem Zs (s:V) (e:s.size<=65536):∀t∈oZ s,PV t:=by
 intro t ht;refine⟨rF _ t ht,λa=>?_⟩;rw[Pt s e] at ht;obtain⟨c,hc,ht⟩:=List.mem_flatMap.1 ht;rcases Iy (rF _) c hc with⟨g1,g2,d⟩|⟨g1,g2,u,d,g4⟩
 ·obtain⟨h1,h2⟩:=EZ g2;have e1:lU gA c=(c.1.Rune::(pn c++po c)).map lH:=by unfold lU;rw[g1,ID];rfl
  rw[e1] at ht;obtain⟨m,hm,rfl⟩:=aT.1 ht;rcases bg.1 hm with rfl|hm
  ·rw[Cf (vV g1)];exact d
  ·exfalso;have b:fV m=true:=by
    rcases bv.1 hm with hm|hm
    ·exact h1 m hm
    ·exact h2 m hm
   rw[Cf (BM b)] at a;have a:dx m=true:=a;rw[sF b] at a;cases a
 ·exfalso;have e1:lU gA c=[u]:=by unfold lU;rw[g1,g4,y6 d];rfl
  rw[e1,bd] at ht;subst ht;have:eE (fG t)=false:=by rw[<-g4];exact g1
  have a:eE (fG t)=true:=a;rw[this] at a;cases a
theorem Zt {t:dM} (ht:lI t) (h:kh (tkT t)=true):t.valid:=by
 rcases ht with ht|ht
 ·exact ht
 ·exfalso;have e:(tkT t).1=-1:=by unfold tkT;rw[ht];rfl
  unfold kh fi jQ at h;rw[e] at h;exact absurd h (by decide)
theorem Zu {ts:List dM} (h:∀t∈ts,t.valid):jV (jw (ts.map tkT))=FT ts:=by
 rw[NY,zh];have:=Hs h [];rw[aE,wL,aE] at this;rw[this]
theorem Zv {x:Tk} (h:fi x=false):je x=x:=by unfold je;rw[h];rfl
section
variable {p:Tk->Bool} (hp:∀x,p (je x)=p x)
include hp
end
theorem Jx (p:Tk->Bool):∀ts:List dM,(ts.map tkT).takeWhile p=(ts.takeWhile λt=>p (tkT t)).map tkT
 |[]=>rfl
 |t::ts=>by
  rw[au,aY,aY,Jx p ts];cases p (tkT t)<;>rfl
theorem FH (p:Tk->Bool):∀ts:List dM,(ts.map tkT).dropWhile p=(ts.dropWhile λt=>p (tkT t)).map tkT
 |[]=>rfl
 |t::ts=>by
  rw[au,cS,cS,FH p ts];cases p (tkT t)<;>rfl
theorem PW:∀ (w l:List UInt8) (i a:Nat) (v:List UInt8),(∀c∈w,c≠32)->iL (w++l) i (some (a,v))=iL l (i+w.length) (some (a,v++w))
 |[],l,i,a,v,_=>by rw[bj,aE];rfl
 |c::w,l,i,a,v,h=>by
  rw[aW,Jo (h c (ar ..)),PW w l _ a _ (λd hd=>h d (ak _ hd)),ab,av,show i+1+w.length=i+(w.length+1) by omega];rfl
theorem Zw {w:List UInt8} (a:w≠[]) (h:∀c∈w,c≠32) (l:List UInt8) (i:Nat):iL (w++l) i none=iL l (i+w.length) (some (i,w)):=by
 cases w with
 |nil=>exact absurd rfl a
 |cons c w=>
  rw[aW,Jn (h c (ar ..)),PW w l _ i _ (λd hd=>h d (ak _ hd)),ab,show i+1+w.length=i+(w.length+1) by omega];rfl
def Zx (o:co):List (List UInt8):=o.lines.map λt=>t.data.toList
structure zIV (o:co):Prop where
 rd:∀at_,qT ua at_ (Zx o)=(some o,⟨0,0⟩)
 sz:∀t∈o.lines,t.size<=250/\∀c∈t.data.toList,c≠10


theorem Jy (x:Tk) (h:fi x=true\/jQ x=true):0<=x.1:=by
 rcases h with h|h
 ·have:=ov _ (show dx x.1=true from h);omega
 ·have h:fV x.1=true:=h;unfold fV at h;have:=of_decide_eq_true h;omega
theorem Zy {o:co} (hi:gH o) {u:V} (hu:u∈o.units):∃i,cf u o.place=some i/\na o.units u=some i:=by
 have:=js.2 hu;obtain⟨i,h⟩:=kC.1 this;exact⟨i,by rw[hi.pl,h],h⟩
def Cn (g:V->Option V) (r2:(List cd)) (e:V->Int->Option V) (a:V) (c:Int):Option V := G (decide ((c:Int)<(r2.length:Int))) (cm (λ(d:V->Option V)=>T (cj r2 c) λ(q1:cd)=>G (decide ((0:Int)<=q1.Rune)) (T (uJ q1.Rune) λ(r3:Bool)=>G (r3) (grd (gJ q1.Rune) <|T (uI (cP q1.Rune)) λ(f:V)=>grd (a.size+f.size<=9223372036854775807) <|d (a++f)) (grd (a.size+q1.Text.size<=9223372036854775807) <|d (a++q1.Text))) (grd (a.size+q1.Text.size<=9223372036854775807) <|d (a++q1.Text))) (λ(b:V)=>grd (I64 (c+1)) <|e b (c+1))) (g a)
def FI (b:V):Option V := cm (λ(c:V->Option V)=>T (BI b) λ(r1:V)=>T (uK r1) λ(r2:(List cd))=>bP (λ_ _=>none) (Cn c r2) bN (⟨#[]⟩:V) 0) (λ(a:V)=>some a)
theorem Zz {l:V} {r:V} (h:FI l=some r):eO prog 119 [.string l] (.string r):=by
 refine eO.intro func119 rfl ntmps119 (by simp) (λw0 K=>cJ V h 2 rfl (λm b=>m b=some r) (λb=>[]) (λb=>[(3,.string b)]) (λb=>[]) (λm h cut=>?_) ?_)
 ·refine I (O 1 rfl (cw (O 1 rfl (Y (cut (I (O 1 rfl (aU h λr1 u h=>dF (.string r1) [.string l] rfl dc rfl rfl rfl L8 (N2 u) (aU h λr2 t h=>ir [.string r1] rfl dc rfl rfl rfl yi (yJ t) aC (λv1=>io 0 rfl dc rfl rfl aG (O 1 rfl (Y (ck (fP (V×Int) (Cn m r2) (λa b=>a b.1 b.2=some r) (λb=>[]) (λb=>[(3,.string b.1),(8,v1),(9,zI (r2.length:Int)),(10,zI b.2)]) (λb=>[fE v1 r2]) ((⟨#[]⟩:V),0) (by exact h) 1 ?_))))))))))))));rintro M ⟨c,g⟩ h;exact I (E rfl dL (Y (bV (bu rfl h (λh=>bw (cu (cJ V h 0 rfl (λJ b=>J b=some r) (λb=>[]) (λb=>[(3,.string b),(8,v1),(9,zI (r2.length:Int)),(10,zI g)]) (λb=>[fE v1 r2]) (λJ h cut=>cut (ck (I (aU h λq1 e h=>eN 0 e aG iN rfl dc rfl rfl rfl rfl (oM 0 ((g:Int).toNat) 0 q1 (ig q1) nC kO rfl dc rfl rfl (ei e) rfl rfl rfl (fZ sx rfl dc (λb1=>fI 1 (ig q1) (ig q1) iN rfl rfl rfl rfl rfl (show _<=_ by simp) rfl rfl (cw (ci kx rfl dc rfl (show _=0 from rfl) (bW 1 fU rfl dc rfl rfl rfl (E rfl gw (O 1 rfl (du 17 rfl h (λh=>ci kx rfl dc rfl (show _=0 from rfl) (bW 1 fU rfl dc rfl rfl rfl (aU h λr3 o h=>dF (.bool r3) [.int .i32 q1.Rune] rfl dc rfl rfl rfl Ax (Bj o) (O 1 rfl (Y (bu rfl h (λh=>bX (O 1 rfl (ci kx rfl dc rfl (show _=0 from rfl) (bW 1 fU rfl dc rfl rfl rfl (bi h λf h=>dF (.int .i32 (cP q1.Rune)) [.int .i32 q1.Rune] rfl dc rfl rfl rfl DR (pc λw=>D5 q1.Rune w f.1 f.2) (aU h λF n h=>dF (.string F) [.int .i32 (cP q1.Rune)] rfl dc rfl rfl rfl DV (Ee n) (bi h λD h=>E rfl (ni D) (O 1 rfl (bC (cg (mD (c++F) h 1))))))))))) (λh=>bX (O 1 rfl (ci sZ rfl dc rfl (show _=1 from rfl) (bW 1 eJ rfl dc rfl rfl rfl (bi h λC h=>E rfl (ni C) (O 1 rfl (bC (cg (mD (c++q1.Text) h 1))))))))))))))) (λh=>O 4 rfl (Y (eU rfl (bX (O 1 rfl (ci sZ rfl dc rfl (show _=1 from rfl) (bW 1 eJ rfl dc rfl rfl rfl (bi h λz h=>E rfl (ni z) (O 1 rfl (bC (cg (mD (c++q1.Text) h 1))))))))))))))))))))))))) (λd h=>bX (bi h λy h=>E rfl (c8 (g+1) (ac _ y)) (O 1 rfl (bC (mD (d,g+1) h 1)))))))) (λh=>dG (bS (bS (dH (mD c h 0)))))))))
 refine λH h=>I (O 2 rfl (Y (bO ?_)));cases h;exact dt 2 results119
def Co (r2:(List cd)) (f:Option V) (c:Int->Option V) (a:Int):Option V := G (decide ((a:Int)<(r2.length:Int))) (cm (λ(b:Option V)=>T (cj r2 a) λ(q1:cd)=>G (decide ((0:Int)<=q1.Rune)) (T (uJ q1.Rune) λ(r3:Bool)=>G (!r3) (G ((a:Int)==0) (some (⟨#[]⟩:V)) (G (decide ((q1.Rune:Int)<0)) (some (⟨#[]⟩:V)) (T (tR q1.Rune) λ(e:Bool)=>G (!e) (some (⟨#[]⟩:V)) (b)))) (b)) (G ((a:Int)==0) (some (⟨#[]⟩:V)) (G (decide ((q1.Rune:Int)<0)) (some (⟨#[]⟩:V)) (T (tR q1.Rune) λ(d:Bool)=>G (!d) (some (⟨#[]⟩:V)) (b))))) (grd (I64 (a+1)) <|c (a+1))) (f)
def FJ (a:V):Option V := T (FI a) λ(r1:V)=>T (uK r1) λ(r2:(List cd))=>G (decide (((r2.length:Int):Int)<1)) (some (⟨#[]⟩:V)) (G (decide ((8:Int)<(r2.length:Int))) (some (⟨#[]⟩:V)) (cm (λ(b:Option V)=>bP (λ_=>none) (Co r2 b) bN 0) (some r1)))
theorem ZA {e:V} {r:V} (h:FJ e=some r):eO prog 77 [.string e] (.string r):=by
 refine eO.intro func77 rfl ntmps77 (by simp) (λw0 K=>I (O 1 rfl (cw (O 1 rfl (aU h λr1 o h=>dF (.string r1) [.string e] rfl dc rfl rfl rfl TL (Zz o) (O 1 rfl (cw (O 1 rfl (aU h λr2 n h=>ir [.string r1] rfl dc rfl rfl rfl yi (yJ n) aC (λv1=>O 1 rfl (Y (bV (I (O 1 rfl (io 0 rfl dc rfl rfl aG (E rfl dL (O 1 rfl (du 15 rfl h (λh=>?_) (λh=>?_)))))))))))))))))))
 ·refine O 4 rfl (Y (jy rfl (I (O 1 rfl (Y (bO (bZ ?_)))))));cases h;exact dt 2 jH
 refine O 1 rfl (io 0 rfl dc rfl rfl aG (E rfl kF (O 1 rfl (Y (bu rfl h (λh=>?_) (λh=>?_))))))
 ·refine I (O 1 rfl (Y (bO (bZ ?_))));cases h;exact dt 2 jH
 refine bw (cu (cJ Unit h 0 rfl (λf b=>f=some r) (λb=>[]) (λb=>[(3,.string r1)]) (λb=>[]) (λf h cut=>?_) ?_))
 ·refine cut (I (O 1 rfl (io 0 rfl dc rfl rfl aG (O 1 rfl (Y (ck (fP Int (Co r2 f) (λa b=>a b=some r) (λb=>[]) (λb=>[(3,.string r1),(20,v1),(21,zI (r2.length:Int)),(22,zI b)]) (λb=>[fE v1 r2]) 0 h 1 (λz d h=>I (E rfl dL (Y (bV (bu rfl h (λh=>?_) (λh=>?_)))))))))))))
  ·refine bw (cu (cJ Unit h 0 rfl (λu b=>u=some r) (λb=>[]) (λb=>[(3,.string r1),(20,v1),(21,zI (r2.length:Int)),(22,zI d)]) (λb=>[fE v1 r2]) (λu h cut=>?_) ?_))
   ·refine cut (ck (I (O 1 rfl (aU h λq1 c h=>eN 0 c aG iN rfl dc rfl rfl rfl rfl (oM 0 ((d:Int).toNat) 0 q1 (ig q1) nC kO rfl dc rfl rfl (ei c) rfl rfl rfl (fZ sx rfl dc (λb1=>O 1 rfl (fI 1 (ig q1) (ig q1) iN rfl rfl rfl rfl rfl (show _<=_ by simp) rfl rfl (cw (ci kx rfl dc rfl (show _=0 from rfl) (bW 1 fU rfl dc rfl rfl rfl (E rfl gw (O 1 rfl (du 30 rfl h (λh=>?_) (λh=>?_)))))))))))))))
    ·refine ci kx rfl dc rfl (show _=0 from rfl) (bW 1 fU rfl dc rfl rfl rfl (aU h λr3 m h=>dF (.bool r3) [.int .i32 q1.Rune] rfl dc rfl rfl rfl Ax (Bj m) (O 2 rfl (cw (O 1 rfl (lh rfl dc rfl lj (O 1 rfl (du 37 rfl h (λh=>?_) (λh=>?_)))))))))
     ·refine O 1 rfl (E rfl eZ (O 1 rfl (du 40 rfl h (λh=>?_) (λh=>?_))))
      ·refine O 11 rfl (Y (jy rfl (I (O 1 rfl (Y (bO (cK (bZ (bZ (cK (bZ ?_)))))))))));cases h;exact dt 2 jH
      refine ci kx rfl dc rfl (show _=0 from rfl) (bW 1 fU rfl dc rfl rfl rfl (E rfl dL (O 2 rfl (du 45 rfl h (λh=>?_) (λh=>?_)))))
      ·refine O 6 rfl (Y (jy rfl (I (O 1 rfl (Y (bO (cK (bZ (bZ (cK (bZ ?_)))))))))));cases h;exact dt 2 jH
      refine ci kx rfl dc rfl (show _=0 from rfl) (bW 1 fU rfl dc rfl rfl rfl (aU h λy l h=>dF (.bool y) [.int .i32 q1.Rune] rfl dc rfl rfl rfl Aw (Bk l) (lh rfl dc rfl lj (O 2 rfl (Y (bu rfl h (λh=>?_) (λh=>?_)))))))
      ·refine I (O 1 rfl (Y (bO (cK (bZ (bZ (cK (bZ ?_))))))));cases h;exact dt 2 jH
      exact bw (cg (mD () h 1))
     exact O 14 rfl (Y (eU rfl (bw (cg (mD () h 1)))))
    refine O 5 rfl (cw (O 1 rfl (lh rfl dc rfl lj (O 2 rfl (E rfl eZ (O 1 rfl (du 40 rfl h (λh=>?_) (λh=>?_))))))))
    ·refine O 11 rfl (Y (jy rfl (I (O 1 rfl (Y (bO (cK (bZ (bZ (cK (bZ ?_)))))))))));cases h;exact dt 2 jH
    refine ci kx rfl dc rfl (show _=0 from rfl) (bW 1 fU rfl dc rfl rfl rfl (E rfl dL (O 2 rfl (du 45 rfl h (λh=>?_) (λh=>?_)))))
    ·refine O 6 rfl (Y (jy rfl (I (O 1 rfl (Y (bO (cK (bZ (bZ (cK (bZ ?_)))))))))));cases h;exact dt 2 jH
    refine ci kx rfl dc rfl (show _=0 from rfl) (bW 1 fU rfl dc rfl rfl rfl (aU h λw g h=>dF (.bool w) [.int .i32 q1.Rune] rfl dc rfl rfl rfl Aw (Bk g) (lh rfl dc rfl lj (O 2 rfl (Y (bu rfl h (λh=>?_) (λh=>?_)))))))
    ·refine I (O 1 rfl (Y (bO (cK (bZ (bZ (cK (bZ ?_))))))));cases h;exact dt 2 jH
    exact bw (cg (mD () h 1))
   exact λ_ h=>bX (bi h λt h=>E rfl (c8 (d+1) (ac _ t)) (O 1 rfl (bC (mD (d+1) h 1))))
  exact dG (bS (bS (dH (mD () h 0))))
 refine λ_ h=>I (O 2 rfl (Y (bO ?_)));cases h;exact dt 2 jH
def PX (g:(List V)->Option dv) (c:(List V)->Int->Option dv) (a:List V) (r3:Int):Option dv := G (decide ((r3:Int)<1280)) (cm (λ(b:(List V)->Option dv)=>grd (gJ r3) <|G (qJ r3) (T (yI r3) λ(e:(List Int))=>G (((e.length:Int):Int)==1) (T (vO (ae r3)) λ(d:V)=>G (decide (d=ae r3)) (grd (a.length+1<=2147483648) <|b (a++[ae r3])) (b a)) (b a)) (b a)) (λ(f:List V)=>grd (gJ (r3+1)) <|c f (r3+1))) (g a)
def Cq  : Option dv := cm (λ(a:(List V)->Option dv)=>bP (λ_ _=>none) (PX a) bN ([]:List V) 1) (λ(o1:List V)=>some (⟨o1,([]:List (V×List V)),([]:List V),([]:List V)⟩:dv))
theorem ZB  {r:dv} (h:Cq=some r):Fn prog 31 [] [] (λb:Nat×Hd×Hd×Hd×Hd=>zP b.1) (λb=>[cells b.1 [b.2.1.v,.map (some (bc b.2.2.1)),b.2.2.2.1.v,b.2.2.2.2.v] 86,bq b.2.1.v r.Units,dV (bc b.2.2.1) r.Fors,bq b.2.2.2.1.v r.Skips,bq b.2.2.2.2.v r.Lines]):=by
 refine Fn.intro func31 rfl ntmps31 (by simp) (λw0 K=>cJ ((List V)×Nat×Hd×Nat) h 2 rfl (λl b=>l b.1=some r) (λb=>[]) (λb=>[(1,zP b.2.1)]) (λb=>[cells b.2.1 [b.2.2.1.v,.map (some b.2.2.2),.slice none 0 0,.slice none 0 0] 86,bq b.2.2.1.v b.1,dV b.2.2.2 ([]:List (V×List V))]) (λl h cut=>?_) ?_)
 ·refine I (O 1 rfl (cw (xV (λs:V=>ad s) rA rfl dc (λd=>wC [cH (λs:V=>ad s) rA d []] (cO 1) (Lx (b:=d)) (λ_ _=>fH (.agg #[.slice none 0 0,.map (some d),.slice none 0 0,.slice none 0 0]) [(1,.tmp 3)] rfl dc rfl (λ_=>by kernel_rfl) (lE rfl dc rfl (λj=>O 1 rfl (Y (cut (I (O 1 rfl (Y (ck (oL gK 9 1 (n9 ((List V)×Int×Hd) (PX l) (λa b=>a b.1 b.2.1=some r) (λb=>[]) (λb=>[(1,zP j),(2,.int .i32 b.2.1)]) (λb=>[cells j [b.2.2.v,.map (some d),.slice none 0 0,.slice none 0 0] 86,bq b.2.2.v b.1,dV d ([]:List (V×List V))]) (([]:List V),1,fe) h rfl (gl rfl) (ct [2,3,1] kr rfl) ?_)))))))))))))));rintro M ⟨f,r3,c⟩ h;refine bV (I (O 1 rfl (E rfl dL (Y (bu rfl h (λh=>?_) (λh=>?_))))))
  ·refine bw (cu (cJ ((List V)×Hd) h 0 rfl (λC b=>C b.1=some r) (λb=>[]) (λb=>[(1,zP j),(2,.int .i32 r3)]) (λb=>[cells j [b.2.v,.map (some d),.slice none 0 0,.slice none 0 0] 86,bq b.2.v b.1,dV d ([]:List (V×List V))]) (λC h cut=>?_) ?_))
   ·refine cut (ck (I (O 1 rfl (bi h λg h=>dF (.bool (qJ r3)) [.int .i32 r3] rfl dc rfl rfl rfl Mf (pc λw=>Hu r3 w g.1 g.2) (O 1 rfl (du 12 rfl h (λh=>?_) (λh=>?_)))))))
    ·refine O 1 rfl (aU h λN n h=>ir [.int .i32 r3] rfl dc rfl rfl rfl Ha (M8 n) aC (λv1=>jk 3 rfl (λH u=>?_)));subst u;refine io 3 rfl dc rfl rfl underlying89 (E rfl eZ (O 2 rfl (du 18 rfl h (λh=>?_) (λh=>?_))))
     ·refine O 1 rfl (jI rfl dc rfl (nM bl am) (aU h λD m h=>dF (.string D) [.string (ae r3)] rfl dc rfl rfl rfl DQ (Et m) (O 1 rfl (jI rfl dc rfl (nM bl am) (E rfl mf (O 1 rfl (Y (bu rfl h (λh=>?_) (λh=>?_)))))))))
      ·refine bX (O 2 rfl (iS rfl dc rfl (ci ye rfl dc rfl (show _=0 from rfl) (bW 0 oS rfl dc rfl rfl rfl (O 1 rfl (jI rfl dc rfl (nM bl am) (hQ [(0,.tmp 32)] 9 [.string (ae r3)] rfl dc rfl (λ_=>by kernel_rfl) (λP=>bi h λq h=>jJ 1 4 [ae r3] ay oR gG pE rfl dc rfl rfl rfl rfl rfl rfl q (λv2=>jk 1 rfl (λi t=>?_))))))))));subst t;exact iS rfl dc rfl (ci ye rfl dc rfl (show _=0 from rfl) (fJ 0 [i.v,.map (some d),.slice none 0 0,.slice none 0 0] uz rfl rfl rfl rfl rfl (λ_ _=>rfl) rfl (bC (cg (mD (f++[ae r3],i) h 3)))))
      exact bw (cg (mD (f,c) h 3))
     exact O 7 rfl (Y (eU rfl (bw (cg (mD (f,c) h 3)))))
    exact O 13 rfl (bC (cu (eU rfl (bw (cg (mD (f,c) h 3))))))
   rintro⟨F,y⟩ h;exact bX (O 1 rfl (bi h λo h=>E rfl (c8 (r3+1) (IntWalk.i32_in _ o)) (O 1 rfl (bC (mD (F,r3+1,y) h 3)))))
  exact dG (bS (bS (dH (mD (f,j,c,d) h 3))))
 rintro⟨o1,b1,z,J⟩ h;refine I (O 2 rfl (Y (bO (Dp gK 9 1 (Dp gK 9 1 ?_)))));cases h;exact eW [.tmp 0] (b1,z,(⟨some ⟨J,0,none⟩,0,0⟩:Hd),fe,fe) (.inl rfl) results31 (.cons (.tmp rfl) .nil) rfl (cO 5)
def Cr (o1:dv) (u1:V) (c:Option Int) (b:Int->Option Int) (a:Int):Option Int := G (decide ((a:Int)<(o1.Units.length:Int))) (T (cj o1.Units a) λ(q1:V)=>G (decide (q1=u1)) (some a) (grd (I64 (a+1)) <|b (a+1))) (c)
def uW (o1:dv) (u1:V):Option Int := cm (λ(a:Option Int)=>bP (λ_=>none) (Cr o1 u1 a) bN 0) (some (-1))
theorem Cs (_p:Nat) (o1:dv) (_g _c _d _f:Hd) {u1:V} {r:Int} (h:uW o1 u1=some r):gu prog 42 [zP _p,.string u1] [cells _p [_g.v,.map (some (bc _c)),_d.v,_f.v] 86,bq _g.v o1.Units,dV (bc _c) o1.Fors,bq _d.v o1.Skips,bq _f.v o1.Lines] [] (λ_:Unit=>(zI r)) (λ_=>[]):=by
 refine gu.intro func42 rfl ntmps42 (by simp) (λw0 K c=>cJ Unit h 1 rfl (λf b=>f=some r) (λb=>[]) (λb=>[]) (λb=>[]) (λf h cut=>?_) ?_)
 ·refine I (O 1 rfl (Y (cut (I (O 1 rfl (iS rfl dc rfl (ci ye rfl dc rfl (show _=0 from rfl) (ot 0 c rfl oS rfl dc rfl rfl (jl (c.vw (i:=1) rfl) rfl dc rfl ay (O 1 rfl (Y (ck (fP Int (Cr o1 u1 f) (λa b=>a b=some r) (λb=>[]) (λb=>[(1,.string u1),(10,_g.v),(11,zI (o1.Units.length:Int)),(12,zI b)]) (λb=>[]) 0 h 0 (λk e h=>I (E rfl dL (Y (bV (bu rfl h (λh=>?_) (λh=>?_)))))))))))))))))))
  ·refine bw (cu (bV (ck (I (O 1 rfl (aU h λq1 d h=>gm (c.vw (i:=1) rfl) d ay gV rfl dc rfl rfl rfl (GH (0+(e:Int).toNat) 0 q1 (i:=1) c rfl eJ gG rfl dc rfl (cq (c.vw (i:=1) rfl) d) rfl dc rfl (O 2 rfl (cw (O 2 rfl (E rfl mf (Y (bu rfl h (λh=>?_) (λh=>?_))))))))))))))
   ·refine I (O 2 rfl (Y (bO (cK (bZ (bZ (cK (bZ ?_))))))));cases h;exact dt 4 results42
   exact bw (cg (cu (bX (bi h λg h=>E rfl (c8 (e+1) (ac _ g)) (O 1 rfl (bC (mD (e+1) h 0)))))))
  exact dG (bS (bS (dH (iW () h rfl (ss) aC))))
 refine λ_ h=>I (O 1 rfl (Y (bO ?_)));cases h;exact dt 4 results42
def zA (o1:dv) (u1:V):Option Bool := G ((cf u1 o1.Fors).isSome) (some true) (T (uW o1 u1) λ(r1:Int)=>some (decide ((0:Int)<=r1)))
theorem PY (_p:Nat) (o1:dv) (_g _c _d _f:Hd) {u1:V} {r:Bool} (h:zA o1 u1=some r):gu prog 79 [zP _p,.string u1] [cells _p [_g.v,.map (some (bc _c)),_d.v,_f.v] 86,bq _g.v o1.Units,dV (bc _c) o1.Fors,bq _d.v o1.Skips,bq _f.v o1.Lines] [] (λ_:Unit=>(.bool r)) (λ_=>[]):=by
 refine gu.intro func79 rfl ntmps79 (by simp) (λw0 K a=>I (O 1 rfl (cw (O 1 rfl (iS rfl dc rfl (ci GV rfl dc rfl (show _=1 from rfl) (ot 0 a rfl yb rfl dc rfl rfl (O 1 rfl (Lz u1 (i:=2) am vf kr rfl dc rfl rfl a rfl (λd c=>O 1 rfl (fF rfl dc rfl rfl (fF rfl dc rfl rfl (O 2 rfl (cw (O 2 rfl (du 17 rfl h (λh=>?_) (λh=>?_)))))))))))))))))
 ·refine O 6 rfl (Y (bO ?_));cases h;exact dt 4 results79
 refine O 2 rfl (aU h λr1 b h=>kZ (zI r1) [zP _p,.string u1] a rfl dc rfl rfl rfl Av (Cs _p o1 _g _c _d _f b) (.ro 0 rfl (.ro 1 rfl (.ro 2 rfl (.ro 3 rfl (.ro 4 rfl .nil))))) (E rfl gw (O 2 rfl (Y (bO ?_)))));cases h;exact dt 4 results79
def Ct (d:V) (a:Int) (c:Int->Option (List iO)) (b:Int->Option (List iO)) (k4:Int):Option (List iO) := G (decide ((k4:Int)<a)) (T (kY d k4) λ(e:Int)=>G ((e:Int) != 32) (grd (I64 (k4+1)) <|b (k4+1)) (c k4)) (c k4)
def Cu (d:V) (b:Int) (g:(List iO)->Option (List iO)) (c:(List iO)->Int->Option (List iO)) (e:List iO) (a:Int):Option (List iO) := G (decide ((a:Int)<b)) (T (kY d a) λ(c1:Int)=>G ((c1:Int)==32) (grd (I64 (a+1)) <|c e (a+1)) (cm (λ(f:Int->Option (List iO))=>bP (λ_=>none) (Ct d b f) bN a) (λ(k1:Int)=>grd (0<=(a:Int)/\(a:Int)<=k1/\(k1:Int)<=(d.size:Int)) <|grd (e.length+1<=2147483648) <|c (e++[(⟨a,c6 d a k1⟩:iO)]) k1))) (g e)
def FK (d:V) (a:Int) (b:Int):Option (List iO) := cm (λ(e:(List iO)->Option (List iO))=>bP (λ_ _=>none) (Cu d b e) bN ([]:List iO) a) (λ(c:List iO)=>grd (c.length+1<=2147483648) <|some (c++[(⟨b,(⟨#[]⟩:V)⟩:iO)]))
theorem ZC {g:V} {d:Int} {c:Int} {r:(List iO)} (h:FK g d c=some r):Fn prog 32 [.string g,zI d,zI c] [] (λv0:Value=>v0) (λv0=>[wT v0 r]):=by
 refine Fn.intro func32 rfl ntmps32 (by simp) (λw0 K=>cJ ((List iO)×Value) h 2 rfl (λo b=>o b.1=some r) (λb=>[]) (λb=>[(2,zI c),(7,b.2)]) (λb=>[wT b.2 b.1]) (λo h cut=>?_) ?_)
 ·refine I (O 1 rfl (cw (O 1 rfl (Y (cut (I (O 1 rfl (O 1 rfl (Y (ck (oL yn 126 2 (fP ((List iO)×Int×Value) (Cu g c o) (λa b=>a b.1 b.2.1=some r) (λb=>[]) (λb=>[(0,.string g),(2,zI c),(7,b.2.2),(8,zI b.2.1)]) (λb=>[wT b.2.2 b.1]) (([]:List iO),d,(.slice none 0 0)) h 1 ?_))))))))))));rintro J ⟨m,f,l⟩ h;exact bV (I (O 2 rfl (E rfl dL (Y (bu rfl h (λh=>bw (cu (ck (bV (I (O 2 rfl (aU h λc1 t h=>oI rfl dc rfl rfl (qX am t) (E rfl eZ (Y (bu rfl h (λh=>I (O 1 rfl (bi h λC h=>E rfl (c8 (f+1) (ac _ C)) (O 1 rfl (Y (dG (bS (dH (mD (m,f+1,l) h 1))))))))) (λh=>bw (cu (cJ Int h 1 rfl (λn b=>n b=some r) (λb=>[]) (λb=>[(0,.string g),(2,zI c),(7,l),(8,zI f),(9,zI b)]) (λb=>[wT l m]) (λn h cut=>I (O 2 rfl (Y (cut (ck (fP Int (Ct g c n) (λa b=>a b=some r) (λb=>[]) (λb=>[(0,.string g),(2,zI c),(7,l),(8,zI f),(9,zI b)]) (λb=>[wT l m]) f h 1 (λH k4 h=>bV (I (O 2 rfl (E rfl dL (O 1 rfl (du 24 rfl h (λh=>O 2 rfl (aU h λN q h=>oI rfl dc rfl rfl (qX am q) (E rfl nh (O 1 rfl (Y (bu rfl h (λh=>bw (cu (ck (bX (O 1 rfl (bi h λz h=>E rfl (c8 (k4+1) (ac _ z)) (O 1 rfl (bC (cg (mD (k4+1) h 1)))))))))) (λh=>dG (bS (bS (dH (mD k4 h 1))))))))))) (λh=>O 5 rfl (Y (eU rfl (dG (bS (bS (dH (mD k4 h 1)))))))))))))))))))) (λk1 h=>I (O 5 rfl (bi h λy h=>jj rfl dc rfl rfl rfl (lP f k1 am (.inr rfl) (.inr rfl) y) (fH (.agg #[zI f,.string (c6 g f k1)]) [(0,.tmp 33),(1,.tmp 37)] rfl dc rfl (λ_=>by kernel_rfl) (hQ [(0,.tmp 38)] 126 [zI f,.string (c6 g f k1)] rfl dc rfl (λ_=>by kernel_rfl) (λb1=>bi h λw h=>jJ 0 1 [(⟨f,c6 g f k1⟩:iO)] underlying71 LW Hl MG rfl dc rfl rfl rfl rfl rfl rfl w (λF=>O 1 rfl (Y (bX (O 2 rfl (bC (cg (mD (m++[(⟨f,c6 g f k1⟩:iO)],k1,F) h 1)))))))))))))))))))))))))) (λh=>dG (bS (bS (dH (mD (m,l) h 1))))))))))
 rintro⟨M,v1⟩ h;refine I (O 2 rfl (fH (.agg #[zI c,.string (⟨#[]⟩:V)]) [(0,.tmp 43),(1,.const (.string (⟨#[]⟩:V)))] rfl dc rfl (λ_=>by kernel_rfl) (hQ [(0,.tmp 44)] 126 [zI c,.string (⟨#[]⟩:V)] rfl dc rfl (λ_=>by kernel_rfl) (λP=>bi h λu h=>jJ 0 1 [(⟨c,(⟨#[]⟩:V)⟩:iO)] underlying71 LW Hl MG rfl dc rfl rfl rfl rfl rfl rfl u (λD=>O 1 rfl (Y (bO ?_)))))));cases h;exact eW [.tmp 6] D (.inl rfl) results32 (.cons (.tmp rfl) .nil) rfl (cO 1)
def tkI (x:bn):Tk:=(x.Rune,x.Text)
theorem zB (s:V):(ij s).map tkI=(fO s.data.toList).map tkT:=by
 have h:=aI (List.map tkI) (NX s);rw[cF,cF] at h;have e1:(ij s).map (tkI ∘ k7)=(ij s).map tkI:=dW λx _=>rfl;have e2:(fO s.data.toList).map (tkI ∘ fG)=(fO s.data.toList).map tkT:=dW λt _=>rfl;rw[e1,e2] at h;exact h
theorem FL (r:Int) (h:gJ r):uJ r=some (dx r):=by
 unfold uJ;refine dI h ?_;cases hg:great r with
 |true=>exact ca rfl (by unfold dx;rw[hg];rfl)
 |false=>exact bR rfl (dI h (by unfold dx;rw[hg];rfl))
theorem Cv (r:Int):tR r=some (fV r):=by
 unfold tR fV;by_cases h1:768<=r
 ·exact ca (an h1) (aI some (by simp[h1]))
 ·exact bR (ah h1) (aI some (by simp[h1]))
structure pt (x:bn):Prop where
 i32:gJ x.Rune
 sz:x.Text.size<=4
 en:0<=x.Rune->x.Text=ae x.Rune
 ne:0<x.Text.size
theorem Cw (s:V):∀x∈ij s,pt x:=by
 intro x hx;have hm:tkI x∈(fO s.data.toList).map tkT:=by rw[<-zB];exact aT.2 ⟨x,hx,rfl⟩
 obtain⟨t,ht,e⟩:=aT.1 hm;have a:=rF _ t ht;have e1:(tkT t).1=x.Rune:=aI bE e;have e2:(tkT t).2=x.Text:=aI fv e;have hsz:=Ce a;have c:(tkT t).2.size=t.bs.length:=by rw[jK];show t.bs.toArray.toList.length=_;simp
 have b:=dh.2 (DZ a);refine⟨?_,by rw[<-e2,c];exact hsz,λh=>by rw[<-e1] at h |-;rw[<-e2];exact Zq a h,by rw[<-e2,c];exact b⟩;rw[<-e1];unfold tkT;have:=qQ a;unfold gJ at this |-
 split
 ·exact⟨by show (-2147483648:Int)<=-1;decide,by show (-1:Int)<=2147483647;decide⟩
 ·exact this
theorem Jz (s:V):(ij s).length<=s.size:=by
 have:=aI fS (zB s);rw[ax,ax] at this;have:=zj s;omega
theorem JA {r:Int} (h:dx r=true):0<=r:=(ov r h).1
theorem ZD (s:V) (c:s.size<=65536):FI s=some (kR s):=by
 unfold FI;have j:=Jz (iw s);have h2:=(uT s c).2.1;refine cL (aV (N6 s c) (aV (yR (iw s) z1) ?_));have:=tj (ij (iw s)) (λb x=>b++(je (tkI x)).2) some (F:=Cn some (ij (iw s))) (bot:=λ_ _=>none) (λk b=>b.size<=4*k) (λag k x a hx hb=>by
   have hk:=(aq.1 hx).1;have ok:=Cw _ x (aF hx);have i:=ok.sz;unfold Cn;refine ca (oa hx) (cL (aV (mY hx) ?_));have other:dx x.Rune=false->(je (tkI x)).2=x.Text:=λh=>by rw[Zv (show fi (tkI x)=false from h)];rfl
   by_cases h0:0<=x.Rune
   ·refine ca (an h0) (aV (FL _ ok.i32) ?_);cases hL:dx x.Rune with
    |true=>
     have m:=oX (cP x.Rune);have e:(je (tkI x)).2=ae (cP x.Rune):=by unfold je;rw[show fi (tkI x)=true from hL];rfl
     rw[e];exact ca rfl (dI ok.i32 (aV (Ei _ (NS _ hL)) (gO (dI (kG z1) rfl))))
    |false=>
     rw[other hL];exact bR rfl (gO (dI (kG z1) rfl))
   ·have hL:dx x.Rune=false:=by
     cases h:dx x.Rune with
     |false=>rfl
     |true=>exact absurd (JA h) h0
    rw[other hL];exact bR (ah h0) (gO (dI (kG z1) rfl))) (λk x a hx hb=>by
   have ok:=Cw _ x (aF hx);have i:(je (tkI x)).2.size<=4:=Ft ok.sz;rw[aM];omega) (λag a _=>by unfold Cn;exact bR nR rfl) (n:=bN) (jC z1) (a:=(⟨#[]⟩:V)) (bT _)
 refine this.trans ?_;have key:∀ (l:List bn) (b:V),l.foldl (λb x=>b++(je (tkI x)).2) b=b++jw ((l.map tkI).map je):=by
  intro l
  induction l with
  |nil=>intro b;show b=b++af;rw[bF]
  |cons x l d=>
   intro b;have g:jw (((x::l).map tkI).map je)=(je (tkI x)).2++jw ((l.map tkI).map je):=by unfold jw;rw[au,au,kH]
   rw[bz,d,g,dE]
 rw[key,zB];show some (af++kR s)=_;rw[el]
theorem ZE (l:List bn) (e:∀x∈l,pt x) (r:V):∀ (n:Nat) (B A:List bn),l=A++B->B.length<n->l.length<=8 ->
  bP (λ_=>none) (Co l (some r)) n (A.length:Int)=some (if pN A.length (B.map tkI) then r else ⟨#[]⟩):=by
 intro n
 induction n with
 |zero=>intro B A _ h;omega
 |succ n j=>
  intro B A c k o;rw[iB];generalize f:bP (λ_=>none) (Co l (some r)) n=ag;unfold Co;have a:l.length=A.length+B.length:=by rw[c,aa]
  cases B with
  |nil=>exact bR (ah (by rw[a];simp)) rfl
  |cons x B=>
   have ok:=e x (by rw[c];simp);have hx:l[A.length]?=some x:=by rw[c];simp
   have d:=j B (A++[x]) (by rw[c,av];rfl) (by rw[ab] at k;omega) o;rw[f,show (A++[x]).length=A.length+1 by simp] at d
   push_cast at d
   rw[ab] at a;have g:(grd (I64 ((A.length:Int)+1))<|ag ((A.length:Int)+1))=some (if pN (A.length+1) (B.map tkI) then r else ⟨#[]⟩):=gO d
   refine eQ (cL (aV (iu hx) ?_));rw[au,pN,an (show A.length+1<=8 by omega),gP];have s:fi (tkI x)=dx x.Rune:=rfl;have q:jQ (tkI x)=fV x.Rune:=rfl;rw[s,q];have b:dx x.Rune=false->0<=x.Rune->(G (((A.length:Int):Int)==0) (some (⟨#[]⟩:V)) (G (decide ((x.Rune:Int)<0)) (some (⟨#[]⟩:V)) (T (tR x.Rune) λ(i:Bool)=>G (!i) (some (⟨#[]⟩:V)) (grd (I64 ((A.length:Int)+1))<|ag ((A.length:Int)+1))))) =
     some (if (dx x.Rune||(decide (A.length≠0)&&fV x.Rune))&&pN (A.length+1) (B.map tkI) then r else ⟨#[]⟩):=λhL h0=>by
    rw[hL,dK];by_cases hA:A.length=0
    ·rw[hA];exact ca rfl rfl
    ·rw[an (show A.length≠0 from hA),gP];refine bR (aA.2 z1) (fc (aV (Cv _) ?_));cases fV x.Rune with
     |true=>exact bR rfl (by rw[gP];exact g)
     |false=>exact ca rfl rfl
   by_cases h0:0<=x.Rune
   ·refine ca (an h0) (aV (FL _ ok.i32) ?_);cases hL:dx x.Rune with
    |true=>
     refine bR rfl ?_;rw[rm,gP];exact g
    |false=>
     have:=b hL h0;rw[hL] at this;exact ca rfl this
   ·have hL:dx x.Rune=false:=by
     cases h:dx x.Rune with
     |false=>rfl
     |true=>exact absurd (JA h) h0
    have m:fV x.Rune=false:=by unfold fV;exact ah z1
    rw[hL,m,dK,Bool.and_false,Bool.false_and];refine bR (ah h0) ?_;by_cases hA:A.length=0
    ·exact ca (by rw[hA];rfl) rfl
    ·exact bR (aA.2 z1) (eQ rfl)
theorem ZF:∀ (l:List Tk) (k:Nat),k<=8->8<k+l.length->pN k l=false:=by
 intro l k hk h;cases e:pN k l with
 |false=>rfl
 |true=>have:=Jr l k hk e;omega
theorem ZG (s:V) (b:s.size<=65536):FJ s=some (mP s):=by
 have d:iw (kR s)=kR s:=Pz s b;have a:(ij (kR s)).map tkI=(iE s).map je:=by
  rw[zB,Jl s b];unfold iE;rw[cF,cF];exact dW λt _=>Fs t
 have c:(ij (kR s)).length=(iE s).length:=by
  have:=aI fS a;rw[ax,ax] at this;exact this
 have h5:(iE s).length<=786432:=by
  have h1:=zj (iw s);have h2:=(uT s b).2.1;unfold iE oZ;rw[ax];omega
 have hsz:(kR s).size<=4000000:=by
  have:(kR s).size<=4*((iE s).map je).length:=zo λy hy=>by
   obtain⟨x,hx,rfl⟩:=aT.1 hy;exact Ft (PF s x hx)
  rw[ax] at this;omega
 unfold FJ mP;refine aV (ZD s b) (aV (yR (kR s) z1) ?_);rw[<-Fu,<-a];by_cases h1:(ij (kR s)).length=0
 ·refine eQ ?_;have e0:iE s=[]:=dO.1 z1;have:kR s=⟨#[]⟩:=by unfold kR;rw[e0];rfl
  rw[this,ite_self]
 ·refine fc ?_;by_cases e:8<(ij (kR s)).length
  ·rw[ZF _ 0 z1 (by rw[ax];omega)];exact eQ rfl
  ·refine fc (cL ?_);exact ZE (ij (kR s)) (Cw _) (kR s) bN (ij (kR s)) [] (bj _).symm (by unfold bN;omega) z1
theorem Cx (w:dv) (u:V) (i:w.Units.length<=1000000000):uW w u=some ((na w.Units u).getD (-1)):=by
 unfold uW;refine cL ?_;have key:∀ (n:Nat) (B A:List V),w.Units=A++B->B.length<n->bP (λ_=>none) (Cr w u (some (-1))) n (A.length:Int)=some (((na B u).map λk=>(A.length:Int)+k).getD (-1)):=by
  intro n
  induction n with
  |zero=>intro B A _ h;omega
  |succ n f=>
   intro B A d g;rw[iB];generalize e:bP (λ_=>none) (Cr w u (some (-1))) n=ag;unfold Cr;have b:w.Units.length=A.length+B.length:=by rw[d,aa]
   cases B with
   |nil=>exact bR (ah (by rw[b];simp)) rfl
   |cons x B=>
    have hx:w.Units[A.length]?=some x:=by rw[d];simp
    have c:=f B (A++[x]) (by rw[d,av];rfl) (by rw[ab] at g;omega);rw[e,show (A++[x]).length=A.length+1 by simp] at c
    push_cast at c
    rw[ab] at b;refine eQ (aV (iu hx) ?_);rw[na];by_cases a:x=u
    ·rw[aj a.symm];refine ca (an a) ?_;show some (A.length:Int)=some ((A.length:Int)+0);rw[Int.add_zero]
    ·rw[ai (λh=>a h.symm)];refine bR (ah a) (gO (c.trans ?_));cases na B u with
     |none=>rfl
     |some k=>
      show some ((A.length:Int)+1+k)=some ((A.length:Int)+(k+1));congr 1;omega
 have:=key bN w.Units [] rfl (by unfold bN;omega);refine this.trans ?_;cases na w.Units u with
 |none=>rfl
 |some k=>show some ((0:Int)+k)=some k;rw[sn]
def Cy (c1:Int) (c:V->Option V) (b:V->Option V) (a:V):Option V := G (decide ((0:Int)<(a.size:Int))) (T (kY a 0) λ(d:Int)=>G ((d:Int)==c1) (grd (0<=(1:Int)/\(1:Int)<=(a.size:Int)/\((a.size:Int):Int)<=(a.size:Int)) <|b (c6 a 1 (a.size:Int))) (c a)) (c a)
def JB (b:V) (c1:Int):Option V := cm (λ(c:V->Option V)=>bP (λ_=>none) (Cy c1 c) bN b) (λ(a:V)=>some a)
theorem ZH {d:V} {c1:Int} {r:V} (h:JB d c1=some r):eO prog 90 [.string d,.int .u8 c1] (.string r):=by
 refine eO.intro func90 rfl ntmps90 (by simp) (λw0 K=>cJ V h 1 rfl (λe b=>e b=some r) (λb=>[]) (λb=>[(0,.string b)]) (λb=>[]) (λe h cut=>I (O 1 rfl (Y (cut (ck (fP V (Cy c1 e) (λa b=>a b=some r) (λb=>[]) (λb=>[(0,.string b),(1,.int .u8 c1)]) (λb=>[]) d h 0 (λk c h=>bV (I (O 1 rfl (mw rfl dc rfl am (E rfl kF (O 1 rfl (du 8 rfl h (λh=>O 1 rfl (aU h λm f h=>oI rfl dc rfl rfl (qX am f) (O 1 rfl (E rfl eZ (O 1 rfl (Y (bu rfl h (λh=>bw (cu (ck (bX (O 1 rfl (bi h λg h=>jj rfl dc rfl rfl rfl (lP 1 (c.size:Int) am (.inr rfl) (.inl ⟨rfl,rfl⟩) g) (O 1 rfl (bC (cg (mD (c6 c 1 (c.size:Int)) h 0)))))))))) (λh=>dG (bS (bS (dH (mD c h 0)))))))))))) (λh=>O 5 rfl (Y (eU rfl (dG (bS (bS (dH (mD c h 0))))))))))))))))))))) (λl h=>I (O 2 rfl (Y (bO ?_)))));cases h;exact dt 4 results90
def FM (a:V):Option V := G (decide (a=(⟨#[]⟩:V))) (some a) (G (decide ((⟨#[48]⟩:V)=(⟨#[]⟩:V))) (some a) (cm (λ(b:Option V)=>G ((((⟨#[48]⟩:V).size:Int):Int)==1) (T (kY (⟨#[48]⟩:V) 0) λ(c1:Int)=>G (decide ((c1:Int)<128)) (T (kY (⟨#[48]⟩:V) 0) λ(c:Int)=>T (JB a c) λ(r1:V)=>some r1) (b)) (b)) (none)))
theorem ZI {a:V} {r:V} (h:FM a=some r):eO prog 45 [.string a,.string (⟨#[48]⟩:V)] (.string r):=by
 refine eO.intro func45 rfl ntmps45 (by simp) (λw0 K=>I (O 1 rfl (Y (bV (I (O 1 rfl (E rfl mf (O 1 rfl (du 9 rfl h (λh=>?_) (λh=>?_))))))))))
 ·refine O 3 rfl (Y (jy rfl (I (O 2 rfl (Y (bO (bZ ?_)))))));cases h;exact dt 4 results45
 refine O 1 rfl (E rfl mf (O 1 rfl (Y (bu rfl h (λh=>?_) (λh=>?_)))))
 ·refine I (O 2 rfl (Y (bO (bZ ?_))));cases h;exact dt 4 results45
 refine bw (cu (cJ Unit h 0 rfl (λf b=>f=some r) (λb=>[]) (λb=>[(0,.string a),(1,.string (⟨#[48]⟩:V))]) (λb=>[]) (λf h cut=>?_) ?_))
 ·refine cut (I (O 1 rfl (mw rfl dc rfl am (E rfl eZ (O 1 rfl (du 17 rfl h (λh=>?_) (λh=>?_)))))))
  ·refine O 1 rfl (aU h λc1 e h=>oI rfl dc rfl rfl (qX am e) (E rfl dL (O 1 rfl (Y (bu rfl h (λh=>?_) (λh=>?_))))))
   ·refine I (O 2 rfl (aU h λg d h=>oI rfl dc rfl rfl (qX am d) (aU h λr1 c h=>dF (.string r1) [.string a,.int .u8 g] rfl dc rfl rfl rfl Ty (ZH c) (O 1 rfl (Y (bO (bZ ?_)))))));cases h;exact dt 4 results45
   exact bw (mD () h 0)
  exact O 4 rfl (Y (eU rfl (bw (mD () h 0))))
 exact λ_ h=>bV (bV (vt h))
def wb (a:List cd) (k1:Int):Option Bool := G (decide ((k1:Int)<(a.length:Int))) (T (cj a k1) λ(q1:cd)=>G (decide ((0:Int)<=q1.Rune)) (T (uJ q1.Rune) λ(r1:Bool)=>some r1) (some false)) (some false)
theorem JC {d e:Value} {g:List cd} {b:Nat} {l:List cd} (a:Vw d g 3 b e l) {k1:Int} {r:Bool} (h:wb l k1=some r):gu prog 86 [e,zI k1] [iM qI 3 d b g] [] (λ_:Unit=>(.bool r)) (λ_=>[]):=by
 refine gu.intro func86 rfl ntmps86 (by simp) (λw0 K f=>I (O 1 rfl (cw (O 2 rfl (jl a rfl dc rfl aG (E rfl dL (O 1 rfl (du 9 rfl h (λh=>?_) (λh=>?_)))))))))
 ·refine O 2 rfl (aU h λq1 c h=>gm a c aG iN rfl dc rfl rfl rfl (ci kx rfl dc rfl (show _=(b+(k1:Int).toNat)*3 from rfl) (km 0 (b+(k1:Int).toNat) 0 q1 f rfl z1 fU rfl dc rfl (cq a c) rfl rfl (E rfl gw (O 2 rfl (du 17 rfl h (λh=>?_) (λh=>?_)))))))
  ·refine O 2 rfl (gm a c aG iN rfl dc rfl rfl rfl (ci kx rfl dc rfl (show _=(b+(k1:Int).toNat)*3 from rfl) (km 0 (b+(k1:Int).toNat) 0 q1 f rfl z1 fU rfl dc rfl (cq a c) rfl rfl (aU h λr1 k h=>dF (.bool r1) [.int .i32 q1.Rune] rfl dc rfl rfl rfl Ax (Bj k) (O 2 rfl (Y (bO ?_)))))));cases h;exact dt 4 results86
  refine O 8 rfl (Y (bO ?_));cases h;exact dt 4 results86
 refine O 14 rfl (O 2 rfl (Y (bO ?_)));cases h;exact dt 4 results86
def xo (c:List cd) (d:Int->Option Int) (b:Int->Option Int) (a:Int):Option Int := G (decide ((a:Int)<(c.length:Int))) (T (wb c a) λ(r1:Bool)=>G (!r1) (grd (I64 (a+1)) <|b (a+1)) (d a)) (d a)
def tv (b:List cd) (e:Int) (a:Int->Option Int) (c:Int->Option Int) (k4:Int):Option Int := cm (λ(d:Option Int)=>T (wb b k4) λ(r2:Bool)=>G (r2) (d) (G (decide ((k4:Int)<(b.length:Int))) (G (decide ((e:Int)<k4)) (T (cj b k4) λ(q1:cd)=>G (decide ((0:Int)<=q1.Rune)) (T (tR q1.Rune) λ(r3:Bool)=>G (r3) (d) (a k4)) (a k4)) (a k4)) (a k4))) (grd (I64 (k4+1)) <|c (k4+1))
def xp (c:List cd) (k1:Int) (g:Option Int) (d:Int->Option Int) (b:Int):Option Int := G (decide ((b:Int)<(c.length:Int))) (cm (λ(e:Int->Bool->Bool->Bool->Option Int)=>T (wb c b) λ(f:Bool)=>G (f) (some k1) (T (cj c b) λ(a:cd)=>G (decide ((48:Int)<=a.Rune)) (G (decide ((a.Rune:Int)<=57)) (some k1) (e a.Rune (decide ((48:Int)<=a.Rune)) true (decide ((a.Rune:Int)<=57)))) (e a.Rune (decide ((48:Int)<=a.Rune)) false false))) (λ(k:Int) (j:Bool) (i:Bool) (h:Bool)=>grd (I64 (b+1)) <|d (b+1))) (g)
def zC (o1:dv) (e:List cd) (k1:Int) (f:Option Int) (d:V) (c:Int->Option Int) (a:Int):Option Int := G (decide ((a:Int)<(o1.Skips.length:Int))) (cm (λ(b:Option Int)=>T (cj o1.Skips a) λ(q2:V)=>G (!decide (q2=d)) (b) (G (decide (d=(⟨#[]⟩:V))) (b) (bP (λ_=>none) (xp e k1 b) bN k1))) (grd (I64 (a+1)) <|c (a+1))) (f)
def FN (o1:dv) (a:List cd):Option Int := cm (λ(g:Int->Option Int)=>bP (λ_=>none) (xo a g) bN 0) (λ(b:Int)=>cm (λ(f:Int->Option Int)=>bP (λ_=>none) (tv a b f) bN b) (λ(k1:Int)=>cm (λ(e:Option Int)=>grd (0<=(b:Int)/\(b:Int)<=k1/\(k1:Int)<=(a.length:Int)) <|T (yK (ee a b k1)) λ(d:V)=>T (vO d) λ(c:V)=>bP (λ_=>none) (zC o1 a k1 e c) bN 0) (some 0)))
theorem ZJ (_p:Nat) (o1:dv) (_g _c _d _f:Hd) {g d:Value} {t:List cd} {f:Nat} {z:List cd} (c:Vw g t 3 f d z) {r:Int} (h:FN o1 z=some r):gu prog 37 [zP _p,d] [cells _p [_g.v,.map (some (bc _c)),_d.v,_f.v] 86,bq _g.v o1.Units,dV (bc _c) o1.Fors,bq _d.v o1.Skips,bq _f.v o1.Lines,iM qI 3 g f t] [] (λ_:Unit=>(zI r)) (λ_=>[]):=by
 refine gu.intro func37 rfl ntmps37 (by simp) (λw0 K e=>cJ Int h 2 rfl (λM b=>M b=some r) (λb=>[]) (λb=>[(0,zP _p),(1,d),(5,zI b)]) (λb=>[]) (λM h cut=>I (O 1 rfl (cw (O 1 rfl (Y (cut (ck (fP Int (xo z M) (λa b=>a b=some r) (λb=>[]) (λb=>[(0,zP _p),(1,d),(5,zI b)]) (λb=>[]) 0 h 0 (λa7 C h=>bV (I (O 2 rfl (jl c rfl dc rfl aG (E rfl dL (O 1 rfl (du 15 rfl h (λh=>O 2 rfl (aU h λr1 ao h=>kZ (.bool r1) [d,zI C] e rfl dc rfl rfl rfl He (JC c ao) (.ro 5 rfl .nil) (lh rfl dc rfl lj (O 1 rfl (Y (bu rfl h (λh=>bw (cu (ck (bX (O 1 rfl (bi h λa3 h=>E rfl (c8 (C+1) (ac _ a3)) (O 1 rfl (bC (cg (mD (C+1) h 0)))))))))) (λh=>dG (bS (bS (dH (mD C h 0))))))))))) (λh=>O 5 rfl (Y (eU rfl (dG (bS (bS (dH (mD C h 0))))))))))))))))))))))) (λw h=>cJ Int h 1 rfl (λJ b=>J b=some r) (λb=>[]) (λb=>[(0,zP _p),(1,d),(5,zI w),(6,zI b)]) (λb=>[]) (λJ h cut=>I (O 2 rfl (Y (cut (ck (fP Int (tv z w J) (λa b=>a b=some r) (λb=>[]) (λb=>[(0,zP _p),(1,d),(5,zI w),(6,zI b)]) (λb=>[]) w h 0 (λa6 k4 h=>cJ Unit h 0 rfl (λj3 b=>j3=some r) (λb=>[]) (λb=>[(0,zP _p),(1,d),(5,zI w),(6,zI k4)]) (λb=>[]) (λj3 h cut=>cut (I (O 2 rfl (aU h λr2 ag h=>kZ (.bool r2) [d,zI k4] e rfl dc rfl rfl rfl He (JC c ag) (.ro 5 rfl .nil) (O 1 rfl (du 27 rfl h (λh=>O 14 rfl (O 12 rfl (Y (jy rfl (bw (mD () h 0)))))) (λh=>O 2 rfl (jl c rfl dc rfl aG (E rfl dL (O 1 rfl (du 32 rfl h (λh=>O 2 rfl (E rfl kF (O 2 rfl (du 37 rfl h (λh=>O 2 rfl (aU h λq1 o h=>gm c o aG iN rfl dc rfl rfl rfl (ci kx rfl dc rfl (show _=(f+(k4:Int).toNat)*3 from rfl) (km 5 (f+(k4:Int).toNat) 0 q1 e rfl z1 fU rfl dc rfl (cq c o) rfl rfl (E rfl gw (O 2 rfl (du 45 rfl h (λh=>O 2 rfl (gm c o aG iN rfl dc rfl rfl rfl (ci kx rfl dc rfl (show _=(f+(k4:Int).toNat)*3 from rfl) (km 5 (f+(k4:Int).toNat) 0 q1 e rfl z1 fU rfl dc rfl (cq c o) rfl rfl (aU h λr3 Z h=>dF (.bool r3) [.int .i32 q1.Rune] rfl dc rfl rfl rfl Aw (Bk Z) (O 2 rfl (Y (bu rfl h (λh=>bw (mD () h 0)) (λh=>dG (bS (bS (dH (mD k4 h 0))))))))))))) (λh=>O 8 rfl (Y (eU rfl (dG (bS (bS (dH (mD k4 h 0))))))))))))))) (λh=>O 14 rfl (O 2 rfl (Y (eU rfl (dG (bS (bS (dH (mD k4 h 0))))))))))))) (λh=>O 14 rfl (O 7 rfl (Y (eU rfl (dG (bS (bS (dH (mD k4 h 0)))))))))))))))))))) (λ_ h=>ck (bX (O 1 rfl (bi h λa2 h=>E rfl (c8 (k4+1) (ac _ a2)) (O 1 rfl (bC (cg (mD (k4+1) h 0))))))))))))))) (λk1 h=>cJ Unit h 1 rfl (λH b=>H=some r) (λb=>[]) (λb=>[]) (λb=>[]) (λH h cut=>?_) ?_)))
 ·refine I (O 3 rfl (bi h λa1 h=>?_));obtain⟨v1,N,P⟩:=pf (some (zI w)) (some (zI k1)) c aG iN (.inr rfl) (.inr rfl) a1;refine jj rfl dc rfl rfl rfl P ?_;have e:Rd _ _ [cells _p [_g.v,.map (some (bc _c)),_d.v,_f.v] 86,bq _g.v o1.Units,dV (bc _c) o1.Fors,bq _d.v o1.Skips,bq _f.v o1.Lines,iM qI 3 g f t,iM qI 3 g (f+(w:Int).toNat) t]:=e.up (i:=5) rfl;refine aU h λr4 W h=>kZ (.string r4) [v1] e rfl dc rfl rfl rfl Hb (HL N W) (.ro 6 rfl .nil) (aU h λl S h=>dF (.string l) [.string r4] rfl dc rfl rfl rfl DQ (Et S) (O 1 rfl (Y (cut (I (O 1 rfl (iS rfl dc rfl (ci DH rfl dc rfl (show _=2 from rfl) (ot 0 e rfl oS rfl dc rfl rfl (jl (e.vw (i:=3) rfl) rfl dc rfl ay (O 1 rfl (bC (cu (ck (fP Int (zC o1 z k1 H l) (λa b=>a b=some r) (λb=>[]) (λb=>[(1,d),(6,zI k1),(7,.string l),(65,_d.v),(66,zI (o1.Skips.length:Int)),(67,zI b)]) (λb=>[]) 0 h 0 (λa5 y h=>I (E rfl dL (Y (bV (bu rfl h (λh=>?_) (λh=>?_)))))))))))))))))))))
  ·refine bw (cu (cJ Unit h 0 rfl (λF b=>F=some r) (λb=>[]) (λb=>[(1,d),(6,zI k1),(7,.string l),(65,_d.v),(66,zI (o1.Skips.length:Int)),(67,zI y)]) (λb=>[]) (λF h cut=>?_) ?_))
   ·refine cut (ck (I (aU h λq2 D h=>gm (e.vw (i:=3) rfl) D ay gV rfl dc rfl rfl rfl (GH (0+(y:Int).toNat) 0 q2 (i:=3) e rfl eJ gG rfl dc rfl (cq (e.vw (i:=3) rfl) D) rfl dc rfl (O 1 rfl (Y (bV (I (O 2 rfl (E rfl tF (O 1 rfl (du 74 rfl h (λh=>O 3 rfl (Y (jy rfl (dG (bS (dH (mD () h 0))))))) (λh=>O 1 rfl (E rfl mf (O 1 rfl (Y (bu rfl h (λh=>dG (bS (dH (mD () h 0)))) (λh=>bw (cu (I (O 2 rfl (Y (ck (fP Int (xp z k1 F) (λa b=>a b=some r) (λb=>[]) (λb=>[(1,d),(6,zI k1),(7,.string l),(10,zI b),(65,_d.v),(66,zI (o1.Skips.length:Int)),(67,zI y),(75,.string l),(76,.bool (decide (l=(⟨#[]⟩:V))))]) (λb=>[]) k1 h 0 (λa4 k h=>bV (I (O 2 rfl (jl c rfl dc rfl aG (E rfl dL (Y (bu rfl h (λh=>?_) (λh=>?_))))))))))))))))))))))))))))))))
    ·refine bw (cu (cJ (Int×Bool×Bool×Bool) h 0 rfl (λj9 b=>j9 b.1 b.2.1 b.2.2.1 b.2.2.2=some r) (λb=>[]) (λb=>[(1,d),(6,zI k1),(7,.string l),(10,zI k),(65,_d.v),(66,zI (o1.Skips.length:Int)),(67,zI y),(75,.string l),(76,.bool (decide (l=(⟨#[]⟩:V)))),(89,d),(90,zI k),(91,.pointer (some ⟨eS g,(f+(k:Int).toNat)*3,none⟩)),(92,.pointer (some ⟨eS g,(f+(k:Int).toNat)*3,none⟩)),(93,.int .i32 b.1),(94,.bool b.2.1),(95,.bool b.2.2.1),(102,.bool b.2.2.2)]) (λb=>[]) (λj9 h cut=>?_) ?_))
     ·refine cut (ck (I (O 2 rfl (aU h λr6 Q h=>kZ (.bool r6) [d,zI k] e rfl dc rfl rfl rfl He (JC c Q) (.ro 5 rfl .nil) (O 1 rfl (du 88 rfl h (λh=>?_) (λh=>?_)))))))
      ·refine O 14 rfl (O 1 rfl (Y (jy rfl (I (O 2 rfl (Y (bO (cK (bZ (bZ (cK (cK (bZ (bZ (cK (bZ ?_))))))))))))))));cases h;exact dt 4 results37
      refine O 2 rfl (aU h λu m h=>gm c m aG iN rfl dc rfl rfl rfl (ci kx rfl dc rfl (show _=(f+(k:Int).toNat)*3 from rfl) (km 5 (f+(k:Int).toNat) 0 u e rfl z1 fU rfl dc rfl (cq c m) rfl rfl (E rfl gw (O 1 rfl (du 95 rfl h (λh=>?_) (λh=>?_)))))))
      ·refine O 2 rfl (gm c m aG iN rfl dc rfl rfl rfl (ci kx rfl dc rfl (show _=(f+(k:Int).toNat)*3 from rfl) (km 5 (f+(k:Int).toNat) 0 u e rfl z1 fU rfl dc rfl (cq c m) rfl rfl (E rfl jd (O 2 rfl (Y (bu rfl h (λh=>?_) (λh=>?_))))))))
       ·refine I (O 2 rfl (Y (bO (cK (bZ (bZ (cK (cK (bZ (bZ (cK (bZ ?_))))))))))));cases h;exact dt 4 results37
       exact bw (cg (mD (u.Rune,decide ((48:Int)<=u.Rune),true,decide ((u.Rune:Int)<=57)) h 0))
      exact O 8 rfl (Y (eU rfl (bw (cg (mD (u.Rune,decide ((48:Int)<=u.Rune),false,false) h 0)))))
     rintro⟨x4,x5,x6,x7⟩ h;exact bX (O 1 rfl (bi h λa0 h=>E rfl (c8 (k+1) (ac _ a0)) (O 1 rfl (bC (mD (k+1) h 0)))))
    exact dG (bS (bS (dH (cg (mD () h 0)))))
   exact λ_ h=>bX (bi h λaw h=>E rfl (c8 (y+1) (ac _ aw)) (O 1 rfl (bC (mD (y+1) h 0))))
  exact dG (bS (bS (dH (iW () h rfl (ss) aC))))
 refine λ_ h=>I (O 1 rfl (Y (bO ?_)));cases h;exact dt 4 results37
def CA (o1:dv) (h:List cd) (i:V->Int->Option (V×Int)) (j:V->Int->V->Int->Option (V×Int)) (c:V) (a:Int) (b:V) (e:Int):Option (V×Int) := G (decide ((e:Int)<=(h.length:Int))) (G (decide ((e:Int)<=8)) (grd (I64 (e-1)) <|T (cj h (e-1)) λ(q1:cd)=>G (decide ((0:Int)<=q1.Rune)) (cm (λ(l:V->Int->V->Option (V×Int))=>cm (λ(k:Int->Option (V×Int))=>grd (I64 (e-1)) <|T (cj h (e-1)) λ(q2:cd)=>T (uJ q2.Rune) λ(r2:Bool)=>G (r2) (grd (gJ q2.Rune) <|k (cP q2.Rune)) (k q2.Rune)) (λ(r1:Int)=>grd (b.size+(ae r1).size<=9223372036854775807) <|T (zA o1 (b++(ae r1))) λ(r3:Bool)=>G (r3) (l (b++(ae r1)) e (b++(ae r1))) (l c a (b++(ae r1))))) (λ(g:V) (d:Int) (f:V)=>grd (I64 (e+1)) <|j g d f (e+1))) (i c a)) (i c a)) (i c a)
def CB (o1:dv) (c:List cd):Option (V×Int) := cm (λ(d:V->Int->Option (V×Int))=>bP (λ_ _ _ _=>none) (CA o1 c d) bN (⟨#[]⟩:V) 0 (⟨#[]⟩:V) 1) (λ(b:V) (a:Int)=>some (b,a))
theorem ZK (_p:Nat) (o1:dv) (_g _c _d _f:Hd) {k m:Value} {H:List cd} {g:Nat} {J:List cd} (l:Vw k H 3 g m J) {r:(V×Int)} (h:CB o1 J=some r):gu prog 39 [zP _p,m] [cells _p [_g.v,.map (some (bc _c)),_d.v,_f.v] 86,bq _g.v o1.Units,dV (bc _c) o1.Fors,bq _d.v o1.Skips,bq _f.v o1.Lines,iM qI 3 k g H] [] (λ_:Unit=>(.tuple #[.string r.1,zI r.2])) (λ_=>[]):=by
 refine gu.intro func39 rfl ntmps39 (by simp) (λw0 K t=>cJ (V×Int) h 3 rfl (λM b=>M b.1 b.2=some r) (λb=>[]) (λb=>[(6,.string b.1),(7,zI b.2)]) (λb=>[]) (λM h cut=>?_) ?_)
 ·refine I (O 2 rfl (cw (O 2 rfl (cw (O 1 rfl (Y (cut (I (O 1 rfl (Y (ck (fP (V×Int×V×Int) (CA o1 J M) (λa b=>a b.1 b.2.1 b.2.2.1 b.2.2.2=some r) (λb=>[]) (λb=>[(0,zP _p),(1,m),(6,.string b.1),(7,zI b.2.1),(8,.string b.2.2.1),(9,zI b.2.2.2)]) (λb=>[]) ((⟨#[]⟩:V),0,(⟨#[]⟩:V),1) (by exact h) 0 ?_))))))))))));rintro ao ⟨f,c,e,d⟩ h;refine bV (I (O 2 rfl (jl l rfl dc rfl aG (E rfl jd (O 1 rfl (du 15 rfl h (λh=>?_) (λh=>?_)))))))
  ·refine O 1 rfl (E rfl jd (O 2 rfl (du 19 rfl h (λh=>?_) (λh=>?_))))
   ·refine O 2 rfl (bi h λZ h=>E rfl (iV (d-1) (ac _ Z)) (aU h λq1 D h=>gm l D aG iN rfl dc rfl rfl rfl (ci kx rfl dc rfl (show _=(g+(d-1:Int).toNat)*3 from rfl) (km 5 (g+(d-1:Int).toNat) 0 q1 t rfl z1 fU rfl dc rfl (cq l D) rfl rfl (E rfl gw (O 1 rfl (Y (bu rfl h (λh=>?_) (λh=>?_)))))))))
    ·refine bw (cu (cJ (V×Int×V) h 0 rfl (λj2 b=>j2 b.1 b.2.1 b.2.2=some r) (λb=>[]) (λb=>[(0,zP _p),(1,m),(6,.string b.1),(7,zI b.2.1),(8,.string b.2.2),(9,zI d),(16,zI d),(17,.bool (decide ((d:Int)<=8))),(20,m),(21,zI d),(22,zI (d-1)),(23,.pointer (some ⟨eS k,(g+(d-1:Int).toNat)*3,none⟩)),(24,.pointer (some ⟨eS k,(g+(d-1:Int).toNat)*3,none⟩)),(25,.int .i32 q1.Rune),(26,.bool (decide ((0:Int)<=q1.Rune)))]) (λb=>[]) (λj2 h cut=>cut (ck (cJ Int h 1 rfl (λj3 b=>j3 b=some r) (λb=>[]) (λb=>[(0,zP _p),(1,m),(6,.string f),(7,zI c),(8,.string e),(9,zI d),(10,.int .i32 b),(16,zI d),(17,.bool (decide ((d:Int)<=8))),(20,m),(21,zI d),(22,zI (d-1)),(23,.pointer (some ⟨eS k,(g+(d-1:Int).toNat)*3,none⟩)),(24,.pointer (some ⟨eS k,(g+(d-1:Int).toNat)*3,none⟩)),(25,.int .i32 q1.Rune),(26,.bool (decide ((0:Int)<=q1.Rune)))]) (λb=>[]) (λj3 h cut=>I (O 2 rfl (bi h λW h=>E rfl (iV (d-1) (ac _ W)) (aU h λq2 C h=>gm l C aG iN rfl dc rfl rfl rfl (ci kx rfl dc rfl (show _=(g+(d-1:Int).toNat)*3 from rfl) (km 5 (g+(d-1:Int).toNat) 0 q2 t rfl z1 fU rfl dc rfl (cq l C) rfl rfl (O 1 rfl (Y (cut (I (O 1 rfl (aU h λr2 P h=>dF (.bool r2) [.int .i32 q2.Rune] rfl dc rfl rfl rfl Ax (Bj P) (Y (bu rfl h (λh=>bX (O 1 rfl (bi h λF h=>dF (.int .i32 (cP q2.Rune)) [.int .i32 q2.Rune] rfl dc rfl rfl rfl DR (pc λw=>D5 q2.Rune w F.1 F.2) (O 1 rfl (bC (mD (cP q2.Rune) h 0)))))) (λh=>bw (mD q2.Rune h 0)))))))))))))))) (λr1 h=>I (O 2 rfl (jI rfl dc rfl (nM bl am) (bi h λS h=>E rfl (ni S) (O 1 rfl (cw (O 2 rfl (aU h λr3 N h=>kZ (.bool r3) [zP _p,.string (e++(ae r1))] t rfl dc rfl rfl rfl Mg (PY _p o1 _g _c _d _f N) (.ro 0 rfl (.ro 1 rfl (.ro 2 rfl (.ro 3 rfl (.ro 4 rfl .nil))))) (Y (bu rfl h (λh=>bX (O 4 rfl (bC (cg (mD (e++(ae r1),d,e++(ae r1)) h 0))))) (λh=>bw (cg (mD (f,c,e++(ae r1)) h 0)))))))))))))))) ?_));rintro⟨y,o,u⟩ h;exact bX (O 1 rfl (bi h λQ h=>E rfl (c8 (d+1) (ac _ Q)) (O 1 rfl (bC (mD (y,o,u,d+1) h 0)))))
    exact dG (bS (bS (dH (mD (f,c) h 0))))
   exact O 8 rfl (Y (eU rfl (dG (bS (bS (dH (mD (f,c) h 0)))))))
  exact O 12 rfl (Y (eU rfl (dG (bS (bS (dH (mD (f,c) h 0)))))))
 rintro⟨ag,z⟩ h;refine I (O 4 rfl (Y (bO ?_)));cases h;exact eW [.tmp 4,.tmp 5] () (.inl rfl) results39 (.cons (.tmp rfl) (.cons (.tmp rfl) .nil)) rfl aC
def wc (e:Int->Nat->(List V)->Option (List cZ)) (d:V) (c:(List V)->Nat->Option (List cZ)) (a:List V) (b:Nat):Option (List cZ) := G (decide (b<(fK d.data.toList).length)) (T ((fK d.data.toList)[b]?) λ(p1:Pc)=>grd (a.length+1<=2147483648) <|c (a++[ae (p1.r:Int)]) (b+1)) (e 1 1 a)
def xq (r2:(List cd)) (r3:Int) (d:Int) (f:Int) (h:Bool->Option (List cZ)) (e:Bool->Int->Option (List cZ)) (a:Bool) (c:Int):Option (List cZ) := G (decide ((c:Int)<((ee (ee r2 r3 (r2.length:Int)) d (d+f)).length:Int))) (cm (λ(g:Bool->Option (List cZ))=>T (cj (ee (ee r2 r3 (r2.length:Int)) d (d+f)) c) λ(q2:cd)=>G (a) (g true) (grd (gJ q2.Rune) <|g (great q2.Rune))) (λ(b:Bool)=>grd (I64 (c+1)) <|e b (c+1))) (h a)
def we (r2:(List cd)) (r3:Int) (c:Int->V->Option (List cZ)) (d:Int->V->Option (List cZ)) (b:Int) (a:V):Option (List cZ) := G (decide ((b:Int)<((ee r2 r3 (r2.length:Int)).length:Int))) (T (cj (ee r2 r3 (r2.length:Int)) b) λ(f:cd)=>G (decide ((0:Int)<=f.Rune)) (T (tR f.Rune) λ(g:Bool)=>G (g) (T (cj (ee r2 r3 (r2.length:Int)) b) λ(e:cd)=>grd (a.size+e.Text.size<=9223372036854775807) <|grd (I64 (b+1)) <|d (b+1) (a++e.Text)) (c b a)) (c b a)) (c b a)
def xr (o1:dv) (a:List V) (c:Bool) (h:(List cZ)->Option (List cZ)) (e:(List cZ)->Int->Option (List cZ)) (b:List cZ) (d:Int):Option (List cZ) := G (decide ((d:Int)<(a.length:Int))) (T (cj a d) λ(g:V)=>T (uW o1 g) λ(f:Int)=>grd (b.length+1<=2147483648) <|grd (I64 (d+1)) <|e (b++[(⟨3,af,f,af,c⟩:cZ)]) (d+1)) (h b)
def xt (r2:(List cd)) (r3:Int) (c:Int->V->Option (List cZ)) (d:Int->V->Option (List cZ)) (b:Int) (a:V):Option (List cZ) := G (decide ((b:Int)<((ee r2 r3 (r2.length:Int)).length:Int))) (T (cj (ee r2 r3 (r2.length:Int)) b) λ(f:cd)=>G (decide ((48:Int)<=f.Rune)) (G (decide ((f.Rune:Int)<=57)) (T (cj (ee r2 r3 (r2.length:Int)) b) λ(e:cd)=>grd (a.size+e.Text.size<=9223372036854775807) <|grd (I64 (b+1)) <|d (b+1) (a++e.Text)) (c b a)) (c b a)) (c b a)
def CC (o1:dv) (N:(List cZ)->Option (List cZ)) (r2:(List cd)) (r3:Int) (d:(List cZ)->Int->Option (List cZ)) (a:List cZ) (b:Int):Option (List cZ) := G (decide ((b:Int)<((ee r2 r3 (r2.length:Int)).length:Int))) (cm (λ(w:Int->V->Int->Int->Option (List cZ))=>T (cj (ee r2 r3 (r2.length:Int)) b) λ(q1:cd)=>G (decide ((0:Int)<=q1.Rune)) (grd (gJ q1.Rune) <|w q1.Rune q1.Text q1.At (kind q1.Rune)) (w q1.Rune q1.Text q1.At 0)) (λ(x1:Int) (x2:V) (S:Int) (qL:Int)=>G (decide ((x1:Int)<0)) (T (kY x2 0) λ(c1:Int)=>grd (I64 c1) <|grd (a.length+1<=2147483648) <|grd (I64 (b+1)) <|d (a++[(⟨4,af,c1,af,false⟩:cZ)]) (b+1)) (G ((qL:Int)==1) (cm (λ(v:Int->Nat->(List V)->Option (List cZ))=>grd (0<=(b:Int)/\(b:Int)<=((ee r2 r3 (r2.length:Int)).length:Int)/\(((ee r2 r3 (r2.length:Int)).length:Int):Int)<=((ee r2 r3 (r2.length:Int)).length:Int)) <|T (CB o1 (ee (ee r2 r3 (r2.length:Int)) b ((ee r2 r3 (r2.length:Int)).length:Int))) λ(m:(V×Int))=>G ((m.2:Int)==0) (grd (gJ x1) <|T (vO (ae (cP x1))) λ(C:V)=>bP (λ_ _=>none) (wc v C) bN ([]:List V) 0) (T (uW o1 m.1) λ(z:Int)=>G (decide ((0:Int)<=z)) (v m.2 1 ([m.1]:List V)) (T ((cf m.1 o1.Fors)) λ(r:List V)=>v m.2 2 r))) (λ(n:Int) (F:Nat) (e:List V)=>cm (λ(M:Bool->Option (List cZ))=>grd (I64 (b+n)) <|grd (0<=(b:Int)/\(b:Int)<=(b+n)/\(b+n:Int)<=((ee r2 r3 (r2.length:Int)).length:Int)) <|bP (λ_ _=>none) (xq r2 r3 b n M) bN false 0) (λ(h:Bool)=>cm (λ(K:Int->V->Option (List cZ))=>grd (I64 (b+n)) <|bP (λ_ _=>none) (we r2 r3 K) bN (b+n) (⟨#[]⟩:V)) (λ(Q:Int) (g:V)=>cm (λ(J:(List cZ)->Option (List cZ))=>bP (λ_ _=>none) (xr o1 e h J) bN a 0) (λ(c:List cZ)=>grd (I64 ((c.length:Int)-1)) <|T (cj c ((c.length:Int)-1)) λ(q:cZ)=>d (c.set ((c.length:Int)-1:Int).toNat (⟨q.Sort_,q.Digits,q.Place,g,q.Great⟩:cZ)) Q))))) (G ((qL:Int)==3) (cm (λ(H:Int->V->Option (List cZ))=>bP (λ_ _=>none) (xt r2 r3 H) bN b (⟨#[]⟩:V)) (λ(P:Int) (f:V)=>T (FM f) λ(y:V)=>grd (a.length+1<=2147483648) <|d (a++[(⟨2,y,0,af,false⟩:cZ)]) P)) (G ((qL:Int)==4) (cm (λ(u:(List cZ)->Option (List cZ))=>G (decide ((0:Int)<(a.length:Int))) (grd (I64 ((a.length:Int)-1)) <|T (cj a ((a.length:Int)-1)) λ(D:cZ)=>G ((D.Sort_:Int) != 1) (grd (a.length+1<=2147483648) <|u (a++[(⟨1,af,0,af,false⟩:cZ)])) (u a)) (u a)) (λ(o:List cZ)=>grd (I64 (b+1)) <|d o (b+1))) (G ((qL:Int)==5) (cm (λ(l:(List cZ)->Option (List cZ))=>G (decide ((0:Int)<(a.length:Int))) (grd (I64 ((a.length:Int)-1)) <|T (cj a ((a.length:Int)-1)) λ(t:cZ)=>G ((t.Sort_:Int) != 1) (grd (a.length+1<=2147483648) <|l (a++[(⟨1,af,0,af,false⟩:cZ)])) (l a)) (l a)) (λ(j:List cZ)=>grd (I64 (b+1)) <|d j (b+1))) (G ((qL:Int)==6) (cm (λ(k:(List cZ)->Option (List cZ))=>G (decide ((0:Int)<(a.length:Int))) (grd (I64 ((a.length:Int)-1)) <|T (cj a ((a.length:Int)-1)) λ(s:cZ)=>G ((s.Sort_:Int) != 1) (grd (a.length+1<=2147483648) <|k (a++[(⟨1,af,0,af,false⟩:cZ)])) (k a)) (k a)) (λ(i:List cZ)=>grd (I64 (b+1)) <|d i (b+1))) (grd (I64 (b+1)) <|d a (b+1))))))))) (N a)
def CD (o1:dv) (t1:V):Option (List cZ) := cm (λ(e:(List cZ)->Option (List cZ))=>T (BI t1) λ(r1:V)=>T (uK r1) λ(r2:(List cd))=>T (FN o1 r2) λ(r3:Int)=>grd (0<=(r3:Int)/\(r3:Int)<=(r2.length:Int)/\((r2.length:Int):Int)<=(r2.length:Int)) <|bP (λ_ _=>none) (CC o1 e r2 r3) bN ([]:List cZ) 0) (λ(a:List cZ)=>cm (λ(c:(List cZ)->Option (List cZ))=>G (decide ((0:Int)<(a.length:Int))) (grd (I64 ((a.length:Int)-1)) <|T (cj a ((a.length:Int)-1)) λ(d:cZ)=>G ((d.Sort_:Int)==1) (grd (I64 ((a.length:Int)-1)) <|grd (0<=((a.length:Int)-1:Int)/\((a.length:Int)-1:Int)<=(a.length:Int)) <|c (a.take ((a.length:Int)-1:Int).toNat)) (c a)) (c a)) (λ(b:List cZ)=>some b))
theorem PZ (_p:Nat) (o1:dv) (_g _c _d _f:Hd) {t1:V} {r:(List cZ)} (h:CD o1 t1=some r):gu prog 16 [zP _p,.string t1] [cells _p [_g.v,.map (some (bc _c)),_d.v,_f.v] 86,bq _g.v o1.Units,dV (bc _c) o1.Fors,bq _d.v o1.Skips,bq _f.v o1.Lines] [] (λv0:Value=>v0) (λv0=>[kP v0 r]):=by
 refine gu.intro func16 rfl ntmps16 (by simp) (λw0 K o=>?_);obtain⟨Lf,gF,o⟩:=o.fors (i:=2) rfl
 replace o:Rd _ _ [cells _p [_g.v,.map (some (bc _c)),_d.v,_f.v] 86,bq _g.v o1.Units,dV (bc _c) o1.Fors,bq _d.v o1.Skips,bq _f.v o1.Lines,rB (bc _c) Lf,qY Lf]:=o
 refine cJ ((List cZ)×Hd) h 4 rfl (λj1 b=>j1 b.1=some r) (λb=>[]) (λb=>[(6,b.2.v)]) (λb=>[kP b.2.v b.1]) (λj1 h cut=>?_) ?_
 ·refine I (O 1 rfl (cw (O 1 rfl (aU h λr1 f5 h=>dF (.string r1) [.string t1] rfl dc rfl rfl rfl L8 (N2 f5) (aU h λr2 f4 h=>ir [.string r1] rfl dc rfl rfl rfl yi (yJ f4) aC (λv1=>jk 0 rfl (λhd2 gz=>?_)))))));subst gz;refine O 1 rfl (cw (O 3 rfl (lF 0 rfl (λfd=>aU h λr3 f3 h=>kZ (zI r3) [zP _p,hd2.v] o rfl dc rfl rfl rfl S6 (ZJ _p o1 _g _c _d _f fd f3) (.ro 0 rfl (.ro 1 rfl (.ro 2 rfl (.ro 3 rfl (.ro 4 rfl (.own (As:=[fE hd2.v r2]) (cO 1) (λ_ _ h=>pF kO (aL.1 h)) .nil)))))) (lF 0 rfl (λhw2=>bi h λgc h=>?_))))));obtain⟨v2,l,fs⟩:=pf (some (zI r3)) none hw2 aG iN (.inr rfl) (.inl ⟨rfl,rfl⟩) gc;refine jj rfl dc rfl rfl rfl fs (O 1 rfl (cw (O 1 rfl (Y (cut (I (O 1 rfl (bC (cu (ck (oL AC 48 5 (fP ((List cZ)×Int×Hd) (CC o1 j1 r2 r3) (λa b=>a b.1 b.2.1=some r) (λb=>[]) (λb=>[(0,zP _p),(5,v2),(6,b.2.2.v),(7,zI b.2.1)]) (λb=>[fE hd2.v r2,kP b.2.2.v b.1]) (([]:List cZ),0,fe) h 2 ?_))))))))))));rintro hb ⟨c,t,f⟩ h;refine bV (I (O 2 rfl (jl l rfl dc rfl aG (E rfl dL (Y (bu rfl h (λh=>?_) (λh=>?_)))))))
  ·refine bw (cu (ck (cJ (Int×V×Int×Int×Nat) h 2 rfl (λj2 b=>j2 b.1 b.2.1 b.2.2.1 b.2.2.2.1=some r) (λb=>[]) (λb=>[(0,zP _p),(5,v2),(6,f.v),(7,zI t),(8,zP b.2.2.2.2),(9,zI b.2.2.2.1)]) (λb=>[fE hd2.v r2,kP f.v c,cells b.2.2.2.2 [.int .i32 b.1,.string b.2.1,zI b.2.2.1] 79]) (λj2 h cut=>I (O 2 rfl (aU h λq1 dd h=>gm l dd aG iN rfl dc rfl rfl rfl (oM 0 (0+(r3:Int).toNat+(t:Int).toNat) 0 q1 (ig q1) nC kO rfl dc rfl rfl (cq l dd) rfl rfl rfl (fZ sx rfl dc (λb2=>fI 2 (ig q1) (ig q1) iN rfl rfl rfl rfl rfl (show _<=_ by simp) rfl rfl (cw (O 1 rfl (Y (cut (I (ci kx rfl dc rfl (show _=0 from rfl) (bW 2 fU rfl dc rfl rfl rfl (E rfl gw (bC (cu (bu rfl h (λh=>bX (ci kx rfl dc rfl (show _=0 from rfl) (bW 2 fU rfl dc rfl rfl rfl (bi h λd7 h=>dF (zI (kind q1.Rune)) [.int .i32 q1.Rune] rfl dc rfl rfl rfl S7 (pc λw=>Ux q1.Rune w d7.1 d7.2) (O 1 rfl (bC (mD (q1.Rune,q1.Text,q1.At,kind q1.Rune,b2) h 3))))))) (λh=>bw (mD (q1.Rune,q1.Text,q1.At,0,b2) h 3))))))))))))))))))) ?_)));rintro⟨x1,x2,x3,qL,b1⟩ h;refine ck (I (ci kx rfl dc rfl (show _=0 from rfl) (bW 2 fU rfl dc rfl rfl rfl (E rfl dL (O 1 rfl (Y (bu rfl h (λh=>?_) (λh=>?_))))))))
   ·refine I (O 1 rfl (ci sZ rfl dc rfl (show _=1 from rfl) (bW 2 eJ rfl dc rfl rfl rfl (aU h λc1 f2 h=>oI rfl dc rfl rfl (qX am f2) (bi h λgb h=>jI rfl dc rfl (xI c1 underlying5 underlying3 (ac _ gb)) (fH (.agg #[zI 4,.string af,zI c1,.string af,.bool false]) [(0,.const (zI 4)),(2,.tmp 56)] rfl dc rfl (λ_=>by kernel_rfl) (hQ [(0,.tmp 57)] 48 [zI 4,.string af,zI c1,.string af,.bool false] rfl dc rfl (λ_=>by kernel_rfl) (λb3=>bi h λga h=>jJ 1 3 [(⟨4,af,c1,af,false⟩:cZ)] bt x0 nn ym rfl dc rfl rfl rfl rfl rfl rfl ga (λv3=>jk 1 rfl (λgB gy=>?_))))))))));subst gy;exact O 1 rfl (Y (bX (O 1 rfl (bi h λf9 h=>E rfl (c8 (t+1) (ac _ f9)) (O 1 rfl (bC (cg (cg (mD (c++[(⟨4,af,c1,af,false⟩:cZ)],t+1,gB) h 2)))))))))
   refine I (O 1 rfl (E rfl eZ (O 1 rfl (Y (bu rfl h (λh=>?_) (λh=>?_))))))
   ·refine cJ (Int×Nat×(List V)×Hd) h 2 rfl (λj3 b=>j3 b.1 b.2.1 b.2.2.1=some r/\pI b.2.1 b.2.2.2 b.2.2.1 Lf) (λb=>[]) (λb=>[(0,zP _p),(5,v2),(6,f.v),(7,zI t),(11,zI b.1),(12,b.2.2.2.v)]) (λb=>[fE hd2.v r2,kP f.v c,qK b.2.1 b.2.2.2 b.2.2.1]) (λj3 h cut=>?_) ?_
    ·refine I (O 3 rfl (bi h λf8 h=>?_));obtain⟨v4,fk,fo⟩:=pf (some (zI t)) none l aG iN (.inr rfl) (.inl ⟨rfl,rfl⟩) f8;refine jj rfl dc rfl rfl rfl fo (aU h λZ f1 h=>kZ (.tuple #[.string Z.1,zI Z.2]) [zP _p,v4] o rfl dc rfl rfl rfl S8 (ZK _p o1 _g _c _d _f fk f1) (.ro 0 rfl (.ro 1 rfl (.ro 2 rfl (.ro 3 rfl (.ro 4 rfl (.own (As:=[fE hd2.v r2]) (cO 1) (λ_ _ h=>Lq kO (aL.1 h)) .nil)))))) (O 1 rfl (fF rfl dc rfl rfl (fF rfl dc rfl rfl (O 2 rfl (cw (O 1 rfl (Y (cut (ck (I (O 1 rfl (E rfl eZ (O 1 rfl (Y (bu rfl h (λh=>?_) (λh=>?_)))))))))))))))))
     ·refine I (O 1 rfl (cw (ci kx rfl dc rfl (show _=0 from rfl) (bW 2 fU rfl dc rfl rfl rfl (bi h λdn h=>dF (.int .i32 (cP x1)) [.int .i32 x1] rfl dc rfl rfl rfl DR (pc λw=>D5 x1 w dn.1 dn.2) (jI rfl dc rfl (nM bl am) (aU h λr5 f0 h=>dF (.string r5) [.string (ae (cP x1))] rfl dc rfl rfl rfl DQ (Et f0) (wO am rfl dc rfl (λb4=>Y (ck (oL gK 9 1 (n9 ((List V)×Nat×Hd) (wc j3 r5) (λa b=>a b.1 b.2.1=some r) (λb=>[]) (λb=>[(0,zP _p),(5,v2),(6,f.v),(7,zI t),(11,zI 1),(12,b.2.2.v),(87,zP b4)]) (λb=>[fE hd2.v r2,kP f.v c,bq b.2.2.v b.1,obj b4 (.stringIter r5 (n8 r5 b.2.1))]) (([]:List V),0,fe) (by exact h) rfl (gl rfl) (ct [0,1,4,3] kr rfl) ?_))))))))))));rintro ha ⟨H,m3,bk⟩ h;unfold wc at h;refine I (vx (decide (m3<(fK r5.data.toList).length)) (λag=>?_) (λag=>?_))
      ·have h:=pY ag h;refine aU h λp1 fz h=>wP 3 m3 p1 rfl dc rfl rfl fz (fF rfl dc rfl rfl (Y (bV (jy rfl (bw (cu (ck (I (fF rfl dc rfl rfl (O 1 rfl (bC (cu (bX (O 2 rfl (jI rfl dc rfl (nM bl am) (hQ [(0,.tmp 93)] 9 [.string (ae (p1.r:Int))] rfl dc rfl (λ_=>by kernel_rfl) (λb5=>bi h λf7 h=>jJ 2 4 [ae (p1.r:Int)] ay oR gG pE rfl dc rfl rfl rfl rfl rfl rfl f7 (λv5=>jk 2 rfl (λe1 gx=>?_)))))))))))))))))));subst gx;exact O 1 rfl (bC (cg (mD (H++[ae (p1.r:Int)],m3+1,e1) h 4)))
      have h:=pZ ag h;exact wQ 3 m3 rfl dc rfl rfl (Nat.le_of_not_lt (of_decide_eq_false ag)) (fF rfl dc rfl rfl (Y (bV (eU rfl (Q2 (k:=2) rfl (Hy bk) (dG (bS (bS (dH (cg (iW (1,1,H,bk) ⟨h,pI.own⟩ rfl (gl rfl) (cO 3))))))))))))
     exact I (O 2 rfl (aU h λr6 ft h=>kZ (zI r6) [zP _p,.string Z.1] o rfl dc rfl rfl rfl Av (Cs _p o1 _g _c _d _f ft) (.ro 0 rfl (.ro 1 rfl (.ro 2 rfl (.ro 3 rfl (.ro 4 rfl .nil))))) (E rfl gw (O 1 rfl (Y (bu rfl h (λh=>bX (O 1 rfl (hQ [(0,.tmp 101)] 9 [.string Z.1] rfl dc rfl (λ_=>by kernel_rfl) (λb6=>O 1 rfl (pd 3 ([Z.1]:List V) rfl gG rfl (show 1<=maxLen by decide) (su 3 rfl (Hy (⟨some ⟨b6,0,none⟩,1,1⟩:Hd)) (bC (cg (iW (Z.2,1,([Z.1]:List V),(⟨some ⟨b6,0,none⟩,1,1⟩:Hd)) ⟨h,pI.own⟩ rfl (gl rfl) (ct [0,1,3] kr rfl)))))))))) (λh=>bX (O 1 rfl (iS rfl dc rfl (ci GV rfl dc rfl (show _=1 from rfl) (ot 0 o rfl yb rfl dc rfl rfl (O 1 rfl (UY Z.1 5 gF am vf kr rfl dc rfl rfl o rfl (λbh e8=>O 1 rfl (aU h λbs dj h=>Le (su 3 rfl (MW bh bs) (bC (cg (iW (Z.2,2,bs,bh) ⟨h,(pI.map (e8 bs dj))⟩ rfl (gl rfl) (ct [0,1,3] kr rfl))))))))))))))))))))
    rintro⟨W,P,d,y⟩ ⟨h,e9⟩;refine cJ Bool h 1 rfl (λj4 b=>j4 b=some r) (λb=>[]) (λb=>[(0,zP _p),(5,v2),(6,f.v),(7,zI t),(11,zI W),(12,y.v),(15,.bool b)]) (λb=>[fE hd2.v r2,kP f.v c,qK P y d]) (λj4 h cut=>?_) ?_
    ·refine I (O 1 rfl (Y (cut (I (O 4 rfl (bi h λf6 h=>E rfl (c8 (t+W) (ac _ f6)) (bi h λeq h=>?_)))))));obtain⟨v6,ch,fn⟩:=pf (some (zI t)) (some (zI (t+W))) l aG iN (.inr rfl) (.inr rfl) eq;refine jj rfl dc rfl rfl rfl fn (jl ch rfl dc rfl aG (O 1 rfl (Y (ck (fP (Bool×Int) (xq r2 r3 t W j4) (λa b=>a b.1 b.2=some r) (λb=>[]) (λb=>[(0,zP _p),(5,v2),(6,f.v),(7,zI t),(11,zI W),(12,y.v),(15,.bool b.1),(108,v6),(109,zI ((ee (ee r2 r3 (r2.length:Int)) t (t+W)).length:Int)),(110,zI b.2)]) (λb=>[fE hd2.v r2,kP f.v c,qK P y d]) (false,0) h 3 ?_)))));rintro g9 ⟨aw,x6⟩ h;exact I (E rfl dL (Y (bV (bu rfl h (λh=>bw (cu (cJ Bool h 0 rfl (λj5 b=>j5 b=some r) (λb=>[]) (λb=>[(0,zP _p),(5,v2),(6,f.v),(7,zI t),(11,zI W),(12,y.v),(15,.bool b),(108,v6),(109,zI ((ee (ee r2 r3 (r2.length:Int)) t (t+W)).length:Int)),(110,zI x6)]) (λb=>[fE hd2.v r2,kP f.v c,qK P y d]) (λj5 h cut=>cut (ck (I (aU h λq2 a9 h=>gm ch a9 aG iN rfl dc rfl rfl rfl (oM 0 (0+(r3:Int).toNat+(t:Int).toNat+(x6:Int).toNat) 0 q2 (ig q2) nC kO rfl dc rfl rfl (cq ch a9) rfl rfl rfl (fZ sx rfl dc (λb7=>fI 3 (ig q2) (ig q2) iN rfl rfl rfl rfl rfl (show _<=_ by simp) rfl rfl (Y (bX (O 2 rfl (du 115 rfl h (λh=>O 5 rfl (bC (cg (mD true h 3)))) (λh=>ci kx rfl dc rfl (show _=0 from rfl) (bW 3 fU rfl dc rfl rfl rfl (bi h λbb h=>dF (.bool (great q2.Rune)) [.int .i32 q2.Rune] rfl dc rfl rfl rfl L9 (pc λw=>AK q2.Rune w bb.1 bb.2) (O 2 rfl (bC (cg (mD (great q2.Rune) h 3)))))))))))))))))) (λao h=>bX (bi h λen h=>E rfl (c8 (x6+1) (ac _ en)) (O 1 rfl (bC (mD (ao,x6+1) h 3)))))))) (λh=>dG (bS (bS (dH (mD aw h 3)))))))))
    refine λg h=>cJ (Int×V) h 2 rfl (λj6 b=>j6 b.1 b.2=some r) (λb=>[]) (λb=>[(0,zP _p),(5,v2),(6,f.v),(7,zI b.1),(12,y.v),(15,.bool g),(18,.string b.2)]) (λb=>[fE hd2.v r2,kP f.v c,qK P y d]) (λj6 h cut=>?_) ?_
    ·refine I (O 2 rfl (bi h λem h=>E rfl (c8 (t+W) (ac _ em)) (O 1 rfl (cw (O 1 rfl (Y (cut (ck (fP (Int×V) (we r2 r3 j6) (λa b=>a b.1 b.2=some r) (λb=>[]) (λb=>[(0,zP _p),(5,v2),(6,f.v),(7,zI b.1),(12,y.v),(15,.bool g),(18,.string b.2)]) (λb=>[fE hd2.v r2,kP f.v c,qK P y d]) (t+W,(⟨#[]⟩:V)) (by exact h) 3 ?_)))))))));rintro g8 ⟨Q,C⟩ h;exact bV (I (O 2 rfl (jl l rfl dc rfl aG (E rfl dL (O 1 rfl (du 128 rfl h (λh=>O 2 rfl (aU h λq3 N h=>gm l N aG iN rfl dc rfl rfl rfl (ci kx rfl dc rfl (show _=(0+(r3:Int).toNat+(Q:Int).toNat)*3 from rfl) (fl 0 (0+(r3:Int).toNat+(Q:Int).toNat) 0 q3 fU kO rfl dc rfl rfl (cq l N) rfl dc rfl (E rfl gw (O 2 rfl (du 136 rfl h (λh=>O 2 rfl (gm l N aG iN rfl dc rfl rfl rfl (ci kx rfl dc rfl (show _=(0+(r3:Int).toNat+(Q:Int).toNat)*3 from rfl) (fl 0 (0+(r3:Int).toNat+(Q:Int).toNat) 0 q3 fU kO rfl dc rfl rfl (cq l N) rfl dc rfl (aU h λr7 di h=>dF (.bool r7) [.int .i32 q3.Rune] rfl dc rfl rfl rfl Aw (Bk di) (O 1 rfl (Y (bu rfl h (λh=>bw (cu (ck (I (O 3 rfl (aU h λq4 a8 h=>gm l a8 aG iN rfl dc rfl rfl rfl (ci sZ rfl dc rfl (show _=(0+(r3:Int).toNat+(Q:Int).toNat)*3+1 from rfl) (fl 0 (0+(r3:Int).toNat+(Q:Int).toNat) 1 q4 eJ kO rfl dc rfl rfl (cq l a8) rfl dc rfl (bi h λek h=>E rfl (ni ek) (O 1 rfl (Y (bX (O 1 rfl (bi h λeg h=>E rfl (c8 (Q+1) (ac _ eg)) (O 1 rfl (bC (cg (mD (Q+1,C++q4.Text) h 3)))))))))))))))))) (λh=>dG (bS (bS (dH (mD (Q,C) h 3))))))))))))) (λh=>O 7 rfl (Y (eU rfl (dG (bS (bS (dH (mD (Q,C) h 3))))))))))))))) (λh=>O 14 rfl (O 1 rfl (Y (eU rfl (dG (bS (bS (dH (mD (Q,C) h 3)))))))))))))))
    rintro⟨i4,D⟩ h;refine cJ ((List cZ)×Hd) h 0 rfl (λj7 b=>j7 b.1=some r) (λb=>[]) (λb=>[(0,zP _p),(5,v2),(6,b.2.v),(7,zI i4),(18,.string D)]) (λb=>[fE hd2.v r2,kP b.2.v b.1]) (λj7 h cut=>?_) ?_
    ·refine cut (I (UX 6 (ct [2] kr rfl) e9 rfl o (λgT hc c5 o=>?_)))
     replace o:Rd _ _ [cells _p [_g.v,.map (some (bc _c)),_d.v,_f.v] 86,bq _g.v o1.Units,dV (bc _c) o1.Fors,bq _d.v o1.Skips,bq _f.v o1.Lines,rB (bc _c) Lf,qY Lf,nO gK 1 y d]:=o
     obtain⟨e3,k1,L1,cv,o⟩:=o.openSl (i:=7) rfl
     replace o:Rd _ _ [cells _p [_g.v,.map (some (bc _c)),_d.v,_f.v] 86,bq _g.v o1.Units,dV (bc _c) o1.Fors,bq _d.v o1.Skips,bq _f.v o1.Lines,rB (bc _c) Lf,qY Lf,nO gK 1 y d,iM gK 1 e3 k1 L1]:=o
     refine O 1 rfl (jl cv rfl dc rfl ay (O 1 rfl (Y (ck (fP ((List cZ)×Int×Hd) (xr o1 d g j7) (λa b=>a b.1 b.2.1=some r) (λb=>[]) (λb=>[(0,zP _p),(5,v2),(6,b.2.2.v),(7,zI i4),(15,.bool g),(18,.string D),(153,y.v),(154,zI (d.length:Int)),(155,zI b.2.1)]) (λb=>[fE hd2.v r2,kP b.2.2.v b.1]) (c,0,f) h 2 ?_)))));rintro g7 ⟨a0,x9,eY⟩ h;refine I (E rfl dL (Y (bV (bu rfl h (λh=>?_) (λh=>?_)))))
     ·refine bw (cu (bV (ck (I (aU h λq5 a7 h=>gm cv a7 ay gV rfl dc rfl rfl rfl (km 8 (k1+(x9:Int).toNat) 0 q5 o rfl z1 eJ rfl dc rfl (cq cv a7) rfl rfl (O 1 rfl (Y (bX (O 3 rfl (aU h λr8 dg h=>kZ (zI r8) [zP _p,.string q5] o rfl dc rfl rfl rfl Av (Cs _p o1 _g _c _d _f dg) (.ro 0 rfl (.ro 1 rfl (.ro 2 rfl (.ro 3 rfl (.ro 4 rfl .nil))))) (O 1 rfl (fH (.agg #[zI 3,.string af,zI r8,.string af,.bool g]) [(0,.const (zI 3)),(2,.tmp 162),(4,.tmp 163)] rfl dc rfl (λ_=>by kernel_rfl) (hQ [(0,.tmp 164)] 48 [zI 3,.string af,zI r8,.string af,.bool g] rfl dc rfl (λ_=>by kernel_rfl) (λb8=>bi h λec h=>jJ 1 2 [(⟨3,af,r8,af,g⟩:cZ)] bt x0 nn ym rfl dc rfl rfl rfl rfl rfl rfl ec (λv7=>jk 1 rfl (λeX gt=>?_)))))))))))))))));subst gt;exact O 1 rfl (bC (cg (cu (bX (bi h λeb h=>E rfl (c8 (x9+1) (ac _ eb)) (O 1 rfl (bC (mD (a0++[(⟨3,af,r8,af,g⟩:cZ)],x9+1,eX) h 2))))))))
     exact dG (bS (bS (dH (Hw c5 (mD (a0,eY) h 2)))))
    rintro⟨J,e0⟩ h;exact bX (O 2 rfl (io 1 rfl dc rfl rfl bt (bi h λd9 h=>E rfl (iV ((J.length:Int)-1) (ac _ d9)) (O 1 rfl (aU h λq6 a6 h=>eN 1 a6 bt ph rfl dc rfl rfl rfl rfl (ci GP rfl dc rfl (show _=(((J.length:Int)-1:Int).toNat)*5+3 from rfl) (oN 1 (((J.length:Int)-1:Int).toNat) 3 q6 (⟨q6.Sort_,q6.Digits,q6.Place,D,q6.Great⟩:cZ) gV nn rfl rfl rfl rfl (ei a6) rfl dc rfl (λ_ _=>rfl) (bC (cg (cg (mD (J.set ((J.length:Int)-1:Int).toNat (⟨q6.Sort_,q6.Digits,q6.Place,D,q6.Great⟩:cZ),i4,e0) h 2)))))))))))
   refine I (O 1 rfl (E rfl eZ (O 1 rfl (Y (bu rfl h (λh=>?_) (λh=>?_))))))
   ·refine cJ (Int×V) h 1 rfl (λj8 b=>j8 b.1 b.2=some r) (λb=>[]) (λb=>[(0,zP _p),(5,v2),(6,f.v),(7,zI b.1),(21,.string b.2)]) (λb=>[fE hd2.v r2,kP f.v c]) (λj8 h cut=>?_) ?_
    ·refine I (O 1 rfl (Y (cut (ck (fP (Int×V) (xt r2 r3 j8) (λa b=>a b.1 b.2=some r) (λb=>[]) (λb=>[(0,zP _p),(5,v2),(6,f.v),(7,zI b.1),(21,.string b.2)]) (λb=>[fE hd2.v r2,kP f.v c]) (t,(⟨#[]⟩:V)) (by exact h) 2 ?_)))));rintro g6 ⟨F,u⟩ h;exact bV (I (O 2 rfl (jl l rfl dc rfl aG (E rfl dL (O 1 rfl (du 182 rfl h (λh=>O 2 rfl (aU h λq7 M h=>gm l M aG iN rfl dc rfl rfl rfl (ci kx rfl dc rfl (show _=(0+(r3:Int).toNat+(F:Int).toNat)*3 from rfl) (fl 0 (0+(r3:Int).toNat+(F:Int).toNat) 0 q7 fU kO rfl dc rfl rfl (cq l M) rfl dc rfl (E rfl gw (O 2 rfl (du 190 rfl h (λh=>O 2 rfl (gm l M aG iN rfl dc rfl rfl rfl (ci kx rfl dc rfl (show _=(0+(r3:Int).toNat+(F:Int).toNat)*3 from rfl) (fl 0 (0+(r3:Int).toNat+(F:Int).toNat) 0 q7 fU kO rfl dc rfl rfl (cq l M) rfl dc rfl (E rfl jd (O 1 rfl (Y (bu rfl h (λh=>bw (cu (ck (I (O 3 rfl (aU h λq8 a5 h=>gm l a5 aG iN rfl dc rfl rfl rfl (ci sZ rfl dc rfl (show _=(0+(r3:Int).toNat+(F:Int).toNat)*3+1 from rfl) (fl 0 (0+(r3:Int).toNat+(F:Int).toNat) 1 q8 eJ kO rfl dc rfl rfl (cq l a5) rfl dc rfl (bi h λd8 h=>E rfl (ni d8) (O 1 rfl (Y (bX (O 1 rfl (bi h λd6 h=>E rfl (c8 (F+1) (ac _ d6)) (O 1 rfl (bC (cg (mD (F+1,u++q8.Text) h 2)))))))))))))))))) (λh=>dG (bS (bS (dH (mD (F,u) h 2))))))))))))) (λh=>O 7 rfl (Y (eU rfl (dG (bS (bS (dH (mD (F,u) h 2))))))))))))))) (λh=>O 14 rfl (O 1 rfl (Y (eU rfl (dG (bS (bS (dH (mD (F,u) h 2)))))))))))))))
    rintro⟨i8,S⟩ h;refine bX (O 2 rfl (aU h λr9 df h=>dF (.string r9) [.string S,.string (⟨#[48]⟩:V)] rfl dc rfl rfl rfl S9 (ZI df) (fH (.agg #[zI 2,.string r9,zI 0,.string af,.bool false]) [(0,.const (zI 2)),(1,.tmp 209)] rfl dc rfl (λ_=>by kernel_rfl) (hQ [(0,.tmp 210)] 48 [zI 2,.string r9,zI 0,.string af,.bool false] rfl dc rfl (λ_=>by kernel_rfl) (λb9=>bi h λd5 h=>jJ 1 2 [(⟨2,r9,0,af,false⟩:cZ)] bt x0 nn ym rfl dc rfl rfl rfl rfl rfl rfl d5 (λv8=>jk 1 rfl (λeM gs=>?_)))))));subst gs;exact O 1 rfl (bC (cg (cg (mD (c++[(⟨2,r9,0,af,false⟩:cZ)],i8,eM) h 2))))
   refine I (O 1 rfl (E rfl eZ (O 1 rfl (du 216 rfl h (λh=>?_) (λh=>?_)))))
   ·refine O 8 rfl (Y (jy rfl (cJ ((List cZ)×Hd) h 0 rfl (λj9 b=>j9 b.1=some r) (λb=>[]) (λb=>[(0,zP _p),(5,v2),(6,b.2.v),(7,zI t),(217,undef),(218,undef),(221,undef),(222,undef)]) (λb=>[fE hd2.v r2,kP b.2.v b.1]) (λj9 h cut=>?_) ?_)))
    ·refine cut (I (O 1 rfl (io 1 rfl dc rfl rfl bt (O 1 rfl (cw (O 1 rfl (E rfl kF (O 1 rfl (du 228 rfl h (λh=>?_) (λh=>?_))))))))))
     ·refine O 2 rfl (bi h λd4 h=>E rfl (iV ((c.length:Int)-1) (ac _ d4)) (aU h λq9 a4 h=>eN 1 a4 bt ph rfl dc rfl rfl rfl rfl (ci xZ rfl dc rfl (show _=(((c.length:Int)-1:Int).toNat)*5 from rfl) (fl 1 (((c.length:Int)-1:Int).toNat) 0 q9 ed nn rfl dc rfl rfl (ei a4) rfl dc rfl (E rfl nh (O 1 rfl (Y (bu rfl h (λh=>?_) (λh=>?_)))))))))
      ·refine bX (O 1 rfl (fH (.agg #[zI 1,.string af,zI 0,.string af,.bool false]) [(0,.const (zI 1))] rfl dc rfl (λ_=>by kernel_rfl) (hQ [(0,.tmp 238)] 48 [zI 1,.string af,zI 0,.string af,.bool false] rfl dc rfl (λ_=>by kernel_rfl) (λg5=>bi h λd3 h=>jJ 1 3 [(⟨1,af,0,af,false⟩:cZ)] bt x0 nn ym rfl dc rfl rfl rfl rfl rfl rfl d3 (λv9=>jk 1 rfl (λeB gr=>?_))))));subst gr;exact O 1 rfl (bC (mD (c++[(⟨1,af,0,af,false⟩:cZ)],eB) h 2))
      exact bw (mD (c,f) h 2)
     exact O 8 rfl (Y (eU rfl (bw (mD (c,f) h 2))))
    rintro⟨c0,eL⟩ h;exact bX (O 1 rfl (bi h λd2 h=>E rfl (c8 (t+1) (ac _ d2)) (O 1 rfl (bC (cg (cg (mD (c0,t+1,eL) h 2)))))))
   refine O 1 rfl (E rfl eZ (O 2 rfl (du 220 rfl h (λh=>?_) (λh=>?_))))
   ·refine O 4 rfl (Y (jy rfl (cJ ((List cZ)×Hd) h 0 rfl (λc4 b=>c4 b.1=some r) (λb=>[]) (λb=>[(0,zP _p),(5,v2),(6,b.2.v),(7,zI t),(217,zI qL),(218,.bool ((qL:Int)==5)),(221,undef),(222,undef)]) (λb=>[fE hd2.v r2,kP b.2.v b.1]) (λc4 h cut=>?_) ?_)))
    ·refine cut (I (O 1 rfl (io 1 rfl dc rfl rfl bt (O 1 rfl (cw (O 1 rfl (E rfl kF (O 1 rfl (du 228 rfl h (λh=>?_) (λh=>?_))))))))))
     ·refine O 2 rfl (bi h λd1 h=>E rfl (iV ((c.length:Int)-1) (ac _ d1)) (aU h λe6 a3 h=>eN 1 a3 bt ph rfl dc rfl rfl rfl rfl (ci xZ rfl dc rfl (show _=(((c.length:Int)-1:Int).toNat)*5 from rfl) (fl 1 (((c.length:Int)-1:Int).toNat) 0 e6 ed nn rfl dc rfl rfl (ei a3) rfl dc rfl (E rfl nh (O 1 rfl (Y (bu rfl h (λh=>?_) (λh=>?_)))))))))
      ·refine bX (O 1 rfl (fH (.agg #[zI 1,.string af,zI 0,.string af,.bool false]) [(0,.const (zI 1))] rfl dc rfl (λ_=>by kernel_rfl) (hQ [(0,.tmp 238)] 48 [zI 1,.string af,zI 0,.string af,.bool false] rfl dc rfl (λ_=>by kernel_rfl) (λg4=>bi h λd0 h=>jJ 1 3 [(⟨1,af,0,af,false⟩:cZ)] bt x0 nn ym rfl dc rfl rfl rfl rfl rfl rfl d0 (λg2=>jk 1 rfl (λez go=>?_))))));subst go;exact O 1 rfl (bC (mD (c++[(⟨1,af,0,af,false⟩:cZ)],ez) h 2))
      exact bw (mD (c,f) h 2)
     exact O 8 rfl (Y (eU rfl (bw (mD (c,f) h 2))))
    rintro⟨cc,eA⟩ h;exact bX (O 1 rfl (bi h λdY h=>E rfl (c8 (t+1) (ac _ dY)) (O 1 rfl (bC (cg (cg (mD (cc,t+1,eA) h 2)))))))
   refine O 1 rfl (E rfl eZ (O 2 rfl (Y (bu rfl h (λh=>?_) (λh=>?_)))))
   ·refine cJ ((List cZ)×Hd) h 0 rfl (λc3 b=>c3 b.1=some r) (λb=>[]) (λb=>[(0,zP _p),(5,v2),(6,b.2.v),(7,zI t),(217,zI qL),(218,.bool ((qL:Int)==5)),(221,zI qL),(222,.bool ((qL:Int)==6))]) (λb=>[fE hd2.v r2,kP b.2.v b.1]) (λc3 h cut=>?_) ?_
    ·refine cut (I (O 1 rfl (io 1 rfl dc rfl rfl bt (O 1 rfl (cw (O 1 rfl (E rfl kF (O 1 rfl (du 228 rfl h (λh=>?_) (λh=>?_))))))))))
     ·refine O 2 rfl (bi h λdX h=>E rfl (iV ((c.length:Int)-1) (ac _ dX)) (aU h λe5 a2 h=>eN 1 a2 bt ph rfl dc rfl rfl rfl rfl (ci xZ rfl dc rfl (show _=(((c.length:Int)-1:Int).toNat)*5 from rfl) (fl 1 (((c.length:Int)-1:Int).toNat) 0 e5 ed nn rfl dc rfl rfl (ei a2) rfl dc rfl (E rfl nh (O 1 rfl (Y (bu rfl h (λh=>?_) (λh=>?_)))))))))
      ·refine bX (O 1 rfl (fH (.agg #[zI 1,.string af,zI 0,.string af,.bool false]) [(0,.const (zI 1))] rfl dc rfl (λ_=>by kernel_rfl) (hQ [(0,.tmp 238)] 48 [zI 1,.string af,zI 0,.string af,.bool false] rfl dc rfl (λ_=>by kernel_rfl) (λg3=>bi h λdT h=>jJ 1 3 [(⟨1,af,0,af,false⟩:cZ)] bt x0 nn ym rfl dc rfl rfl rfl rfl rfl rfl dT (λg1=>jk 1 rfl (λex gf=>?_))))));subst gf;exact O 1 rfl (bC (mD (c++[(⟨1,af,0,af,false⟩:cZ)],ex) h 2))
      exact bw (mD (c,f) h 2)
     exact O 8 rfl (Y (eU rfl (bw (mD (c,f) h 2))))
    rintro⟨b0,ey⟩ h;exact bX (O 1 rfl (bi h λdB h=>E rfl (c8 (t+1) (ac _ dB)) (O 1 rfl (bC (cg (cg (mD (b0,t+1,ey) h 2)))))))
   exact bX (O 1 rfl (bi h λdA h=>E rfl (c8 (t+1) (ac _ dA)) (O 1 rfl (bC (cg (cg (mD (c,t+1,f) h 2)))))))
  exact dG (bS (bS (dH (iW (c,f) h rfl (gl rfl) (ct [1] kr rfl)))))
 rintro⟨z,e2⟩ h;refine cJ ((List cZ)×Hd) h 0 rfl (λc2 b=>c2 b.1=some r) (λb=>[]) (λb=>[(6,b.2.v)]) (λb=>[kP b.2.v b.1]) (λc2 h cut=>?_) ?_
 ·refine cut (I (O 1 rfl (io 0 rfl dc rfl rfl bt (O 1 rfl (cw (O 1 rfl (E rfl kF (O 1 rfl (du 247 rfl h (λh=>?_) (λh=>?_))))))))))
  ·refine O 2 rfl (bi h λdz h=>E rfl (iV ((z.length:Int)-1) (ac _ dz)) (aU h λe4 a1 h=>eN 0 a1 bt ph rfl dc rfl rfl rfl rfl (ci xZ rfl dc rfl (show _=(((z.length:Int)-1:Int).toNat)*5 from rfl) (fl 0 (((z.length:Int)-1:Int).toNat) 0 e4 ed nn rfl dc rfl rfl (ei a1) rfl dc rfl (E rfl eZ (O 1 rfl (Y (bu rfl h (λh=>?_) (λh=>?_)))))))))
   ·refine bX (O 2 rfl (bi h λdw h=>E rfl (iV ((z.length:Int)-1) (ac _ dw)) (bi h λds h=>U0 (k:=0) bt ph nn rfl dc rfl rfl rfl ds (λg0=>jk 0 rfl (λes ge=>?_)))));subst ge;exact O 1 rfl (bC (mD (z.take ((z.length:Int)-1:Int).toNat,es) h 1))
   exact bw (mD (z,e2) h 1)
  exact O 8 rfl (Y (eU rfl (bw (mD (z,e2) h 1))))
 rintro⟨e7,et⟩ h;refine I (O 2 rfl (Y (bO ?_)));cases h;exact eW [.tmp 4] et.v (.inl rfl) results16 (.cons (.tmp rfl) .nil) rfl (cO 1)
def wg (a1:Int) (b1:Int):Option Int := G (decide ((a1:Int)<b1)) (some (-1)) (G (decide ((b1:Int)<a1)) (some 1) (some 0))
theorem FO {a1:Int} {b1:Int} {r:Int} (h:wg a1 b1=some r):eO prog 17 [zI a1,zI b1] (zI r):=by
 refine eO.intro func17 rfl ntmps17 (by simp) (λw0 K=>I (O 1 rfl (Y (bV (ck (I (O 2 rfl (E rfl dL (O 1 rfl (bC (cu (bu rfl h (λh=>?_) (λh=>?_)))))))))))))
 ·refine I (O 1 rfl (Y (bO (cK (bZ ?_)))));cases h;exact dt 4 results17
 refine I (O 2 rfl (E rfl kF (O 1 rfl (Y (bu rfl h (λh=>?_) (λh=>?_))))))
 ·refine I (O 1 rfl (Y (bO (cK (bZ ?_)))));cases h;exact dt 4 results17
 refine bw (cg (cu (I (O 1 rfl (Y (bO ?_))))));cases h;exact dt 4 results17
def CE (f:(List cZ)->(List cZ)->Option (Int×Int)) (r1:(List cZ)) (r2:(List cZ)) (b:Int->Option (Int×Int)) (a:Int):Option (Int×Int) := G (decide ((a:Int)<(r1.length:Int))) (G (decide ((a:Int)<(r2.length:Int))) (cm (λ(e:Int->Option (Int×Int))=>T (cj r1 a) λ(q1:cZ)=>T (cj r2 a) λ(q2:cZ)=>T (wg q1.Sort_ q2.Sort_) λ(r3:Int)=>G ((r3:Int)==0) (T (cj r1 a) λ(q:cZ)=>T (cj r2 a) λ(o:cZ)=>T (wg q.Place o.Place) λ(j:Int)=>e j) (e r3)) (λ(c1:Int)=>cm (λ(d:Int->Option (Int×Int))=>G ((c1:Int)==0) (T (cj r1 a) λ(n:cZ)=>T (cj r2 a) λ(m:cZ)=>T (wg (n.Digits.size:Int) (m.Digits.size:Int)) λ(i:Int)=>d i) (d c1)) (λ(h:Int)=>cm (λ(c:Int->Option (Int×Int))=>G ((h:Int)==0) (T (cj r1 a) λ(l:cZ)=>T (cj r2 a) λ(k:cZ)=>c (bL l.Digits.data.toList k.Digits.data.toList)) (c h)) (λ(g:Int)=>G ((g:Int) != 0) (some (g,1)) (grd (I64 (a+1)) <|b (a+1)))))) (f r1 r2)) (f r1 r2)
def CF (x1:List cZ) (e:List cZ) (f:Option (Int×Int)) (c:Int->Option (Int×Int)) (a:Int):Option (Int×Int) := G (decide ((a:Int)<(x1.length:Int))) (T (cj x1 a) λ(d:cZ)=>T (cj e a) λ(b:cZ)=>G (((bL d.Marks.data.toList b.Marks.data.toList):Int) != 0) (some (bL d.Marks.data.toList b.Marks.data.toList,2)) (grd (I64 (a+1)) <|c (a+1))) (f)
def CG (x1:List cZ) (f:List cZ) (g:Option (Int×Int)) (e:Int->Option (Int×Int)) (a:Int):Option (Int×Int) := G (decide ((a:Int)<(x1.length:Int))) (T (cj x1 a) λ(d:cZ)=>T (cj f a) λ(c:cZ)=>G (d.Great != c.Great) (T (cj x1 a) λ(b:cZ)=>G (b.Great) (some (1,3)) (some ((-1),3))) (grd (I64 (a+1)) <|e (a+1))) (g)
def xu (o1:dv) (a1:V) (b1:V):Option (Int×Int) := cm (λ(e:(List cZ)->(List cZ)->Option (Int×Int))=>T (CD o1 a1) λ(r1:(List cZ))=>T (CD o1 b1) λ(r2:(List cZ))=>bP (λ_=>none) (CE e r1 r2) bN 0) (λ(x1:List cZ) (a:List cZ)=>T (wg (x1.length:Int) (a.length:Int)) λ(b:Int)=>G ((b:Int) != 0) (some (b,1)) (cm (λ(d:Option (Int×Int))=>bP (λ_=>none) (CF x1 a d) bN 0) (cm (λ(c:Option (Int×Int))=>bP (λ_=>none) (CG x1 a c) bN 0) (G (decide (a1=b1)) (some (0,0)) (some (bL a1.data.toList b1.data.toList,4))))))
theorem JD (_p:Nat) (o1:dv) (_g _c _d _f:Hd) {a1:V} {b1:V} {r:(Int×Int)} (h:xu o1 a1 b1=some r):gu prog 9 [zP _p,.string a1,.string b1] [cells _p [_g.v,.map (some (bc _c)),_d.v,_f.v] 86,bq _g.v o1.Units,dV (bc _c) o1.Fors,bq _d.v o1.Skips,bq _f.v o1.Lines] [] (λ_:Unit=>(.tuple #[zI r.1,zI r.2])) (λ_=>[]):=by
 refine gu.intro func9 rfl ntmps9 (by simp) (λw0 K ag=>cJ ((List cZ)×(List cZ)×Hd×Hd) h 2 rfl (λj1 b=>j1 b.1 b.2.1=some r) (λb=>[]) (λb=>[(1,.string a1),(2,.string b1),(8,b.2.2.1.v),(9,b.2.2.2.v)]) (λb=>[kP b.2.2.1.v b.1,kP b.2.2.2.v b.2.1]) (λj1 h cut=>?_) ?_)
 ·refine I (O 2 rfl (cw (O 2 rfl (aU h λr1 bb h=>oQ [zP _p,.string a1] ag rfl dc rfl rfl rfl L6 (PZ _p o1 _g _c _d _f bb) aC (.ro 0 rfl (.ro 1 rfl (.ro 2 rfl (.ro 3 rfl (.ro 4 rfl .nil))))) (λv1=>jk 0 rfl (λg b2=>?_))))));subst b2;refine O 2 rfl (aU h λr2 a9 h=>oQ [zP _p,.string b1] ag rfl dc rfl rfl rfl L6 (PZ _p o1 _g _c _d _f a9) aC (.ro 0 rfl (.ro 1 rfl (.ro 2 rfl (.ro 3 rfl (.ro 4 rfl .nil))))) (λv2=>jk 1 rfl (λf b0=>?_)));subst b0;refine O 2 rfl (Y (cut (I (O 1 rfl (Y (ck (fP Int (CE j1 r1 r2) (λa b=>a b=some r) (λb=>[]) (λb=>[(1,.string a1),(2,.string b1),(8,g.v),(9,f.v),(10,zI b)]) (λb=>[kP g.v r1,kP f.v r2]) 0 h 2 (λb5 e h=>bV (I (O 2 rfl (io 0 rfl dc rfl rfl bt (E rfl dL (O 1 rfl (du 26 rfl h (λh=>?_) (λh=>?_)))))))))))))))
  ·refine O 2 rfl (io 1 rfl dc rfl rfl bt (E rfl dL (O 1 rfl (Y (bu rfl h (λh=>?_) (λh=>?_))))))
   ·refine bw (cu (bV (ck (cJ Int h 1 rfl (λj2 b=>j2 b=some r) (λb=>[]) (λb=>[(1,.string a1),(2,.string b1),(8,g.v),(9,f.v),(10,zI e),(11,zI b),(27,zI e),(28,f.v),(29,zI (r2.length:Int)),(30,.bool (decide ((e:Int)<(r2.length:Int))))]) (λb=>[kP g.v r1,kP f.v r2]) (λj2 h cut=>bV (aU h λq1 a3 h=>aU h λq2 a2 h=>aU h λr3 a8 h=>jU 10 [(0,34,g.v),(1,35,zI e),(2,36,.pointer (some ⟨eS g.v,(e:Int).toNat*5,none⟩)),(3,37,.pointer (some ⟨eS g.v,((e:Int).toNat)*5,none⟩)),(4,38,zI q1.Sort_),(5,39,f.v),(6,40,zI e),(7,41,.pointer (some ⟨eS f.v,(e:Int).toNat*5,none⟩)),(8,42,.pointer (some ⟨eS f.v,((e:Int).toNat)*5,none⟩)),(9,43,zI q2.Sort_)] mixed kr kr dc (by rfl) kr kr (gD 2 0 rfl (bQ (λD n d c u i=>eN 0 a3 bt ph rfl dc (aX 0 u d) (aX 1 u d) rfl rfl (bf 2 u i)) (bQ (λD n d c u i=>ci xZ rfl dc (aX 2 u d) (show _=((e:Int).toNat)*5 from rfl) (bf 3 u i)) (bQ (λD n d c u i=>fl 0 ((e:Int).toNat) 0 q1 ed nn rfl dc (aX 3 u d) rfl (ei a3) rfl dc rfl (bf 4 u i)) (gD 2 5 rfl (bQ (λD n d c u i=>eN 1 a2 bt ph rfl dc (aX 5 u d) (aX 6 u d) rfl rfl (bf 7 u i)) (bQ (λD n d c u i=>ci xZ rfl dc (aX 7 u d) (show _=((e:Int).toNat)*5 from rfl) (bf 8 u i)) (bQ (λD n d c u i=>fl 1 ((e:Int).toNat) 0 q2 ed nn rfl dc (aX 8 u d) rfl (ei a2) rfl dc rfl (bf 9 u i)) bB)))))))) (dF (zI r3) [zI q1.Sort_,zI q2.Sort_] rfl dc rfl rfl rfl DP (FO a8) (O 1 rfl (Y (cut (I (O 1 rfl (E rfl eZ (Y (bu rfl h (λh=>aU h λq3 a0 h=>aU h λq4 aw h=>aU h λr4 a7 h=>jU 10 [(0,47,g.v),(1,48,zI e),(2,49,.pointer (some ⟨eS g.v,(e:Int).toNat*5,none⟩)),(3,50,.pointer (some ⟨eS g.v,((e:Int).toNat)*5+2,none⟩)),(4,51,zI q3.Place),(5,52,f.v),(6,53,zI e),(7,54,.pointer (some ⟨eS f.v,(e:Int).toNat*5,none⟩)),(8,55,.pointer (some ⟨eS f.v,((e:Int).toNat)*5+2,none⟩)),(9,56,zI q4.Place)] mixed kr kr dc (by rfl) kr kr (gD 2 0 rfl (bQ (λD n d c u i=>eN 0 a0 bt ph rfl dc (aX 0 u d) (aX 1 u d) rfl rfl (bf 2 u i)) (bQ (λD n d c u i=>ci LB rfl dc (aX 2 u d) (show _=((e:Int).toNat)*5+2 from rfl) (bf 3 u i)) (bQ (λD n d c u i=>fl 0 ((e:Int).toNat) 2 q3 ed nn rfl dc (aX 3 u d) rfl (ei a0) rfl dc rfl (bf 4 u i)) (gD 2 5 rfl (bQ (λD n d c u i=>eN 1 aw bt ph rfl dc (aX 5 u d) (aX 6 u d) rfl rfl (bf 7 u i)) (bQ (λD n d c u i=>ci LB rfl dc (aX 7 u d) (show _=((e:Int).toNat)*5+2 from rfl) (bf 8 u i)) (bQ (λD n d c u i=>fl 1 ((e:Int).toNat) 2 q4 ed nn rfl dc (aX 8 u d) rfl (ei aw) rfl dc rfl (bf 9 u i)) bB)))))))) (dF (zI r4) [zI q3.Place,zI q4.Place] rfl dc rfl rfl rfl DP (FO a7) (O 1 rfl (bC (mD r4 h 2))))) (λh=>bw (mD r3 h 2))))))))))))) (λc1 h=>cJ Int h 0 rfl (λj3 b=>j3 b=some r) (λb=>[]) (λb=>[(1,.string a1),(2,.string b1),(8,g.v),(9,f.v),(10,zI e),(11,zI b),(27,zI e),(28,f.v),(29,zI (r2.length:Int)),(30,.bool (decide ((e:Int)<(r2.length:Int))))]) (λb=>[kP g.v r1,kP f.v r2]) (λj3 h cut=>?_) ?_)))))
    ·exact cut (I (O 1 rfl (E rfl eZ (Y (bu rfl h (λh=>aU h λq5 ao h=>aU h λq6 M h=>aU h λr5 a5 h=>jU 12 [(0,60,g.v),(1,61,zI e),(2,62,.pointer (some ⟨eS g.v,(e:Int).toNat*5,none⟩)),(3,63,.pointer (some ⟨eS g.v,((e:Int).toNat)*5+1,none⟩)),(4,64,.string q5.Digits),(5,65,zI (q5.Digits.size:Int)),(6,66,f.v),(7,67,zI e),(8,68,.pointer (some ⟨eS f.v,(e:Int).toNat*5,none⟩)),(9,69,.pointer (some ⟨eS f.v,((e:Int).toNat)*5+1,none⟩)),(10,70,.string q6.Digits),(11,71,zI (q6.Digits.size:Int))] mixed kr kr dc (by rfl) kr kr (gD 2 0 rfl (bQ (λD n d c u i=>eN 0 ao bt ph rfl dc (aX 0 u d) (aX 1 u d) rfl rfl (bf 2 u i)) (bQ (λD n d c u i=>ci DF rfl dc (aX 2 u d) (show _=((e:Int).toNat)*5+1 from rfl) (bf 3 u i)) (bQ (λD n d c u i=>fl 0 ((e:Int).toNat) 1 q5 eJ nn rfl dc (aX 3 u d) rfl (ei ao) rfl dc rfl (bf 4 u i)) (bQ (λD n d c u i=>mw rfl dc (aX 4 u d) am (bf 5 u i)) (gD 2 6 rfl (bQ (λD n d c u i=>eN 1 M bt ph rfl dc (aX 6 u d) (aX 7 u d) rfl rfl (bf 8 u i)) (bQ (λD n d c u i=>ci DF rfl dc (aX 8 u d) (show _=((e:Int).toNat)*5+1 from rfl) (bf 9 u i)) (bQ (λD n d c u i=>fl 1 ((e:Int).toNat) 1 q6 eJ nn rfl dc (aX 9 u d) rfl (ei M) rfl dc rfl (bf 10 u i)) (bQ (λD n d c u i=>mw rfl dc (aX 10 u d) am (bf 11 u i)) bB)))))))))) (dF (zI r5) [zI (q5.Digits.size:Int),zI (q6.Digits.size:Int)] rfl dc rfl rfl rfl DP (FO a5) (O 1 rfl (bC (mD r5 h 2))))) (λh=>bw (mD c1 h 2)))))))
    refine λc2 h=>cJ Int h 0 rfl (λj4 b=>j4 b=some r) (λb=>[]) (λb=>[(1,.string a1),(2,.string b1),(8,g.v),(9,f.v),(10,zI e),(11,zI b),(27,zI e),(28,f.v),(29,zI (r2.length:Int)),(30,.bool (decide ((e:Int)<(r2.length:Int))))]) (λb=>[kP g.v r1,kP f.v r2]) (λj4 h cut=>cut (I (O 1 rfl (E rfl eZ (Y (bu rfl h (λh=>aU h λQ J h=>aU h λP H h=>jU 10 [(0,75,g.v),(1,76,zI e),(2,77,.pointer (some ⟨eS g.v,(e:Int).toNat*5,none⟩)),(3,78,.pointer (some ⟨eS g.v,((e:Int).toNat)*5+1,none⟩)),(4,79,.string Q.Digits),(5,80,f.v),(6,81,zI e),(7,82,.pointer (some ⟨eS f.v,(e:Int).toNat*5,none⟩)),(8,83,.pointer (some ⟨eS f.v,((e:Int).toNat)*5+1,none⟩)),(9,84,.string P.Digits)] mixed kr kr dc (by rfl) kr kr (gD 2 0 rfl (bQ (λD n d c u i=>eN 0 J bt ph rfl dc (aX 0 u d) (aX 1 u d) rfl rfl (bf 2 u i)) (bQ (λD n d c u i=>ci DF rfl dc (aX 2 u d) (show _=((e:Int).toNat)*5+1 from rfl) (bf 3 u i)) (bQ (λD n d c u i=>fl 0 ((e:Int).toNat) 1 Q eJ nn rfl dc (aX 3 u d) rfl (ei J) rfl dc rfl (bf 4 u i)) (gD 2 5 rfl (bQ (λD n d c u i=>eN 1 H bt ph rfl dc (aX 5 u d) (aX 6 u d) rfl rfl (bf 7 u i)) (bQ (λD n d c u i=>ci DF rfl dc (aX 7 u d) (show _=((e:Int).toNat)*5+1 from rfl) (bf 8 u i)) (bQ (λD n d c u i=>fl 1 ((e:Int).toNat) 1 P eJ nn rfl dc (aX 8 u d) rfl (ei H) rfl dc rfl (bf 9 u i)) bB)))))))) (dF (zI (bL Q.Digits.data.toList P.Digits.data.toList)) [.string Q.Digits,.string P.Digits] rfl dc rfl rfl rfl yh (yu Q.Digits P.Digits) (O 1 rfl (bC (mD (bL Q.Digits.data.toList P.Digits.data.toList) h 2))))) (λh=>bw (mD c2 h 2)))))))) (λc3 h=>I (O 1 rfl (E rfl nh (Y (bu rfl h (λh=>?_) (λh=>?_))))))
    ·refine I (O 3 rfl (Y (bO (cK (bZ (bZ (cK (bZ ?_))))))));cases h;exact eW [.tmp 6,.tmp 7] () (.inl rfl) nw (.cons (.tmp rfl) (.cons (.tmp rfl) .nil)) rfl aC
    exact bw (cg (cu (bX (O 1 rfl (bi h λbs h=>E rfl (c8 (e+1) (ac _ bs)) (O 1 rfl (bC (mD (e+1) h 2))))))))
   exact dG (bS (bS (dH (mD (r1,r2,g,f) h 2))))
  exact O 5 rfl (Y (eU rfl (dG (bS (bS (dH (mD (r1,r2,g,f) h 2)))))))
 rintro⟨x1,N,l,hd2⟩ h;refine bV (I (O 1 rfl (io 0 rfl dc rfl rfl bt (O 1 rfl (io 1 rfl dc rfl rfl bt (aU h λr6 a4 h=>dF (zI r6) [zI (x1.length:Int),zI (N.length:Int)] rfl dc rfl rfl rfl DP (FO a4) (O 1 rfl (cw (O 1 rfl (E rfl nh (Y (bu rfl h (λh=>?_) (λh=>?_)))))))))))))
 ·refine I (O 3 rfl (Y (bO (bZ ?_))));cases h;exact eW [.tmp 6,.tmp 7] () (.inl rfl) nw (.cons (.tmp rfl) (.cons (.tmp rfl) .nil)) rfl aC
 refine bw (cu (cJ Unit h 0 rfl (λj5 b=>j5=some r) (λb=>[]) (λb=>[(1,.string a1),(2,.string b1),(8,l.v),(9,hd2.v)]) (λb=>[kP l.v x1,kP hd2.v N]) (λj5 h cut=>?_) ?_))
 ·refine cut (I (O 1 rfl (io 0 rfl dc rfl rfl bt (O 1 rfl (Y (ck (fP Int (CF x1 N j5) (λa b=>a b=some r) (λb=>[]) (λb=>[(1,.string a1),(2,.string b1),(8,l.v),(9,hd2.v),(98,zI (x1.length:Int)),(99,zI b)]) (λb=>[kP l.v x1,kP hd2.v N]) 0 h 2 (λb4 o h=>I (E rfl dL (Y (bV (bu rfl h (λh=>?_) (λh=>?_)))))))))))))
  ·refine bw (cu (bV (ck (I (O 2 rfl (Y (bV (aU h λS F h=>aU h λt C h=>jU 10 [(0,102,l.v),(1,103,zI o),(2,104,.pointer (some ⟨eS l.v,(o:Int).toNat*5,none⟩)),(3,105,.pointer (some ⟨eS l.v,((o:Int).toNat)*5+3,none⟩)),(4,106,.string S.Marks),(5,107,hd2.v),(6,108,zI o),(7,109,.pointer (some ⟨eS hd2.v,(o:Int).toNat*5,none⟩)),(8,110,.pointer (some ⟨eS hd2.v,((o:Int).toNat)*5+3,none⟩)),(9,111,.string t.Marks)] mixed kr kr dc (by rfl) kr kr (gD 2 0 rfl (bQ (λD n d c u i=>eN 0 F bt ph rfl dc (aX 0 u d) (aX 1 u d) rfl rfl (bf 2 u i)) (bQ (λD n d c u i=>ci GP rfl dc (aX 2 u d) (show _=((o:Int).toNat)*5+3 from rfl) (bf 3 u i)) (bQ (λD n d c u i=>fl 0 ((o:Int).toNat) 3 S eJ nn rfl dc (aX 3 u d) rfl (ei F) rfl dc rfl (bf 4 u i)) (gD 2 5 rfl (bQ (λD n d c u i=>eN 1 C bt ph rfl dc (aX 5 u d) (aX 6 u d) rfl rfl (bf 7 u i)) (bQ (λD n d c u i=>ci GP rfl dc (aX 7 u d) (show _=((o:Int).toNat)*5+3 from rfl) (bf 8 u i)) (bQ (λD n d c u i=>fl 1 ((o:Int).toNat) 3 t eJ nn rfl dc (aX 8 u d) rfl (ei C) rfl dc rfl (bf 9 u i)) bB)))))))) (dF (zI (bL S.Marks.data.toList t.Marks.data.toList)) [.string S.Marks,.string t.Marks] rfl dc rfl rfl rfl yh (yu S.Marks t.Marks) (O 1 rfl (cw (O 1 rfl (E rfl nh (Y (bu rfl h (λh=>?_) (λh=>?_))))))))))))))))
   ·refine I (O 3 rfl (Y (bO (cK (bZ (bZ (cK (bZ ?_))))))));cases h;exact eW [.tmp 6,.tmp 7] () (.inl rfl) nw (.cons (.tmp rfl) (.cons (.tmp rfl) .nil)) rfl aC
   exact bw (cg (cu (bX (bi h λbk h=>E rfl (c8 (o+1) (ac _ bk)) (O 1 rfl (bC (mD (o+1) h 2)))))))
  exact dG (bS (bS (dH (mD () h 2))))
 refine λ_ h=>cJ Unit h 0 rfl (λj6 b=>j6=some r) (λb=>[]) (λb=>[(1,.string a1),(2,.string b1)]) (λb=>[]) (λj6 h cut=>?_) ?_
 ·refine cut (I (O 1 rfl (io 0 rfl dc rfl rfl bt (O 1 rfl (Y (ck (fP Int (CG x1 N j6) (λa b=>a b=some r) (λb=>[]) (λb=>[(1,.string a1),(2,.string b1),(8,l.v),(9,hd2.v),(118,zI (x1.length:Int)),(119,zI b)]) (λb=>[kP l.v x1,kP hd2.v N]) 0 h 2 (λb3 m h=>I (E rfl dL (Y (bV (bu rfl h (λh=>?_) (λh=>?_)))))))))))))
  ·refine bw (cu (bV (ck (I (O 2 rfl (Y (bV (aU h λZ z h=>aU h λW y h=>jU 10 [(0,122,l.v),(1,123,zI m),(2,124,.pointer (some ⟨eS l.v,(m:Int).toNat*5,none⟩)),(3,125,.pointer (some ⟨eS l.v,((m:Int).toNat)*5+4,none⟩)),(4,126,.bool Z.Great),(5,127,hd2.v),(6,128,zI m),(7,129,.pointer (some ⟨eS hd2.v,(m:Int).toNat*5,none⟩)),(8,130,.pointer (some ⟨eS hd2.v,((m:Int).toNat)*5+4,none⟩)),(9,131,.bool W.Great)] mixed kr kr dc (by rfl) kr kr (gD 2 0 rfl (bQ (λD n d c u i=>eN 0 z bt ph rfl dc (aX 0 u d) (aX 1 u d) rfl rfl (bf 2 u i)) (bQ (λD n d c u i=>ci GQ rfl dc (aX 2 u d) (show _=((m:Int).toNat)*5+4 from rfl) (bf 3 u i)) (bQ (λD n d c u i=>fl 0 ((m:Int).toNat) 4 Z sW nn rfl dc (aX 3 u d) rfl (ei z) rfl dc rfl (bf 4 u i)) (gD 2 5 rfl (bQ (λD n d c u i=>eN 1 y bt ph rfl dc (aX 5 u d) (aX 6 u d) rfl rfl (bf 7 u i)) (bQ (λD n d c u i=>ci GQ rfl dc (aX 7 u d) (show _=((m:Int).toNat)*5+4 from rfl) (bf 8 u i)) (bQ (λD n d c u i=>fl 1 ((m:Int).toNat) 4 W sW nn rfl dc (aX 8 u d) rfl (ei y) rfl dc rfl (bf 9 u i)) bB)))))))) (E rfl (RA underlying4) (Y (bu rfl h (λh=>?_) (λh=>?_))))))))))))
   ·refine bV (I (O 2 rfl (aU h λa6 w h=>eN 0 w bt ph rfl dc rfl rfl rfl rfl (ci GQ rfl dc rfl (show _=((m:Int).toNat)*5+4 from rfl) (fl 0 ((m:Int).toNat) 4 a6 sW nn rfl dc rfl rfl (ei w) rfl dc rfl (Y (bu rfl h (λh=>?_) (λh=>?_))))))))
    ·refine I (O 2 rfl (Y (bO (bZ (cK (bZ (bZ (cK (bZ ?_)))))))));cases h;exact eW [.tmp 6,.tmp 7] () (.inl rfl) nw (.cons (.tmp rfl) (.cons (.tmp rfl) .nil)) rfl aC
    refine bw (cu (I (O 2 rfl (Y (bO (cK (bZ (bZ (cK (bZ ?_))))))))));cases h;exact eW [.tmp 6,.tmp 7] () (.inl rfl) nw (.cons (.tmp rfl) (.cons (.tmp rfl) .nil)) rfl aC
   exact bw (cg (cu (bX (bi h λbh h=>E rfl (c8 (m+1) (ac _ bh)) (O 1 rfl (bC (mD (m+1) h 2)))))))
  exact dG (bS (bS (dH (mD () h 0))))
 refine λ_ h=>bV (I (O 2 rfl (E rfl mf (Y (bu rfl h (λh=>?_) (λh=>?_))))))
 ·refine I (O 2 rfl (Y (bO (bZ ?_))));cases h;exact eW [.tmp 6,.tmp 7] () (.inl rfl) nw (.cons (.tmp rfl) (.cons (.tmp rfl) .nil)) rfl aC
 refine bw (cu (I (O 2 rfl (dF (zI (bL a1.data.toList b1.data.toList)) [.string a1,.string b1] rfl dc rfl rfl rfl yh (yu a1 b1) (O 2 rfl (Y (bO ?_)))))));cases h;exact eW [.tmp 6,.tmp 7] () (.inl rfl) nw (.cons (.tmp rfl) (.cons (.tmp rfl) .nil)) rfl aC
structure tw (o:co) (w:dv):Prop where
 un:w.Units=o.units
 fo:w.Fors=o.fors
 li:w.Lines=o.lines
 sk:∀f,(cf f o.skips).getD false=w.Skips.any λs=>decide (s=f)
 sl:w.Skips.length<=256
section
variable {X R:Type}
theorem JE (l:List X) (p:X->Bool) (F:(Int->Option R)->Int->Option R) (bot:Int->Option R) (J:Int->Option R) (m:Nat) (he:∀ag,m<=l.length->F ag (l.length:Int)=J (l.length:Int)) (ht:∀ag A x B,l=A++x::B->m<=A.length->p x=true->F ag (A.length:Int)=ag ((A.length:Int)+1)) (hf:∀ag A x B,l=A++x::B->m<=A.length->p x=false->F ag (A.length:Int)=J (A.length:Int)) : ∀ (n:Nat) (B A:List X),l=A++B->m<=A.length->B.length<n->bP bot F n (A.length:Int)=J ((A.length+(B.takeWhile p).length:Nat):Int):=by
 intro n
 induction n with
 |zero=>intro B A _ _ h;omega
 |succ n c=>
  intro B A a hm d;rw[iB];cases B with
  |nil=>
   have e:A.length=l.length:=by rw[a,aE]
   rw[e,he _ z1];rfl
  |cons x B=>
   rw[aY];cases hp:p x with
   |true=>
    rw[ht _ A x B a hm hp,aj rfl];have b:=c B (A++[x]) (by rw[a,av];rfl) (by rw[aa];omega) (by rw[ab] at d;omega);rw[show (A++[x]).length=A.length+1 by simp] at b
    push_cast at b
    rw[b];congr 1;rw[ab];push_cast;omega
   |false=>rw[hf _ A x B a hm hp,ai (by simp)];rfl
end
theorem zD {l:List bn} (a:∀x∈l,pt x) {A:List bn} {x:bn} {B:List bn} (b:l=A++x::B):wb l (A.length:Int)=some (dx x.Rune):=by
 have ok:=a x (by rw[b];simp);have hx:l[A.length]?=some x:=by rw[b];simp
 unfold wb;refine ca (an (by rw[b];simp;omega)) (aV (iu hx) ?_);by_cases h0:0<=x.Rune
 ·exact ca (an h0) (aV (FL _ ok.i32) rfl)
 ·refine bR (ah h0) ?_;cases h:dx x.Rune with
  |false=>rfl
  |true=>exact absurd (JA h) h0
theorem ZL (l:List bn):wb l (l.length:Int)=some false:=by
 unfold wb;exact fc rfl
theorem FP (p:Tk->Bool):∀l:List bn,(l.takeWhile λx=>p (tkI x)).length=((l.map tkI).takeWhile p).length
 |[]=>rfl
 |x::l=>by
  rw[au,aY,aY];cases p (tkI x) with
  |true=>rw[aj rfl,aj rfl,ab,ab,FP p l]
  |false=>rfl
theorem xv {a:Int} (h:0<=a/\a<=1000000000):I64 a:=⟨by omega,by omega⟩
theorem ZM {l:List bn} (a:∀x∈l,pt x) (c:l.length<=1000000) (J:Int->Option Int):bP (λ_=>none) (xo l J) bN 0=J ((((l.map tkI).takeWhile λx=>!fi x).length:Nat):Int):=by
 have:=JE l (λx=>!fi (tkI x)) (xo l J) (λ_=>none) J 0 (λag _=>by
   unfold xo;exact fc rfl) (λag A x B hx _ hp=>by
   have b:l.length=A.length+(B.length+1):=by rw[hx,aa,ab]
   unfold xo;exact eQ (aV (zD a hx) (ca hp (dI (xv ⟨by omega,by omega⟩) rfl)))) (λag A x B hx _ hp=>by
   have b:l.length=A.length+(B.length+1):=by rw[hx,aa,ab]
   unfold xo;exact eQ (aV (zD a hx) (bR hp rfl))) bN l [] rfl (bT _) (by unfold bN;omega)
 refine this.trans ?_;rw[aB,bY,FP (λx=>!fi x)]
theorem ZN {l A B:List bn} (d:∀x∈l,pt x) (q:l.length<=1000000) (a:l=A++B) (hB:∀x o,B=x::o->dx x.Rune=true) (J:Int->Option Int) : bP (λ_=>none) (tv l (A.length:Int) J) bN (A.length:Int)=J ((A.length+((B.map tkI).takeWhile kh).length:Nat):Int):=by
 have step:∀ag C x D,l=C++x::D->(A.length<C.length\/dx x.Rune=true)->kh (tkI x)=true->tv l (A.length:Int) J ag (C.length:Int)=ag ((C.length:Int)+1):=λag C x D hx hc hp=>by
  have b:l.length=C.length+(D.length+1):=by rw[hx,aa,ab]
  have hg:l[C.length]?=some x:=by rw[hx];simp
  unfold tv;refine cL (aV (zD d hx) ?_);cases hL:dx x.Rune with
  |true=>exact ca rfl (dI (xv ⟨by omega,by omega⟩) rfl)
  |false=>
   have hc:A.length<C.length:=by rcases hc with h | h;exact h;rw[hL] at h;cases h
   have i:fV x.Rune=true:=by
    have hp:(dx x.Rune||fV x.Rune)=true:=hp;rw[hL,dK] at hp;exact hp
   have h0:0<=x.Rune:=Jy (tkI x) (.inr i);exact bR rfl (eQ (eQ (aV (iu hg) (ca (an h0) (aV (Cv _) (ca i (dI (xv ⟨by omega,by omega⟩) rfl)))))))
 have c:∀ag C x D,l=C++x::D->kh (tkI x)=false->tv l (A.length:Int) J ag (C.length:Int)=J (C.length:Int):=λag C x D hx hp=>by
  have b:l.length=C.length+(D.length+1):=by rw[hx,aa,ab]
  have hg:l[C.length]?=some x:=by rw[hx];simp
  have hp:(dx x.Rune||fV x.Rune)=false:=hp;rw[bU] at hp;unfold tv;refine cL (aV (zD d hx) (bR hp.1 (eQ ?_)));by_cases hc:A.length<C.length
  ·refine eQ (aV (iu hg) ?_);by_cases h0:0<=x.Rune
   ·exact ca (an h0) (aV (Cv _) (bR hp.2 rfl))
   ·exact bR (ah h0) rfl
  ·exact fc rfl
 have f:∀ag,tv l (A.length:Int) J ag (l.length:Int)=J (l.length:Int):=λag=>by
  unfold tv;exact cL (aV (ZL l) (bR rfl (fc rfl)))
 have j:=JE l (λx=>kh (tkI x)) (tv l (A.length:Int) J) (λ_=>none) J (A.length+1) (λag _=>f ag) (λag C x D hx hm hp=>step ag C x D hx (.inl z1) hp) (λag C x D hx hm hp=>c ag C x D hx hp);obtain⟨n,g⟩:∃n,bN=n+1:=⟨bN-1,by unfold bN;omega⟩;have k:1000000<n:=by unfold bN at g;omega
 rw[g,iB];cases B with
 |nil=>
  have e:A.length=l.length:=by rw[a,aE]
  have:=f (bP (λ_=>none) (tv l (A.length:Int) J) n);rw[<-e] at this;rw[this];rfl
 |cons x B=>
  have hL:=hB x B rfl;have hp:kh (tkI x)=true:=by show (dx x.Rune||fV x.Rune)=true;rw[hL];rfl
  rw[step _ A x B a (.inr hL) hp];have b:l.length=A.length+(B.length+1):=by rw[a,aa,ab]
  have:=j n B (A++[x]) (by rw[a,av];rfl) (by simp) z1;rw[show (A++[x]).length=A.length+1 by simp] at this
  push_cast at this
  rw[this,FP kh,au,aY,hp,aj rfl,ab];congr 1
  push_cast;omega
theorem ZO {t:dM} {ts:List dM} (a:fi (tkT t)=true) (d:cf (tkT t).1 eP=none):FT (t::ts)≠⟨#[]⟩:=by
 intro e;have hL:eE (fG t)=true:=a;have hr:(fG t).Rune=(tkT t).1:=rfl;have e1:ku (fG t)=[⟨(tkT t).1,ae (tkT t).1,(fG t).At⟩]:=by
  unfold ku;rw[hL,aj rfl,hr,Zr d];rfl
 unfold FT k8 at e;rw[au,Ot,e1,List.singleton_append,yS (x:=⟨(tkT t).1,ae (tkT t).1,(fG t).At⟩) a,kH,OA (c:=((⟨(tkT t).1,ae (tkT t).1,(fG t).At⟩:bn),_)) a] at e;have h2:=(Oo (r:=(tkT t).1) a).2.1;have b:=aI ByteArray.size e;rw[aM] at b;have h3:(lT (cP (tkT t).1)).size=0:=by
  have:(lT (cP (tkT t).1)).size+(J qO (cl (List.dropWhile isM (apL (ts.map fG))))).size=0:=b;omega
 have f:=xR (lT (cP (tkT t).1));exact h2 (dO.1 z1)
theorem ZP {l A B:List bn} (e:∀x∈l,pt x) (n:l.length<=1000000) (c:l=A++B) (k:Int) (d:Option Int) :
  bP (λ_=>none) (xp l k d) bN (A.length:Int)=if (B.map tkI).any (λx=>fi x||gM x) then some k else d:=by
 have f:∀x:bn,gM (tkI x)=(decide ((48:Int)<=x.Rune)&&decide ((x.Rune:Int)<=57)):=λx=>by
  unfold gM tkI;by_cases h1:48<=x.Rune<;>by_cases h2:x.Rune<=57<;>simp[h1,h2]
 have b:∀ (C:List bn) (x:bn) (D:List bn),l=C++x::D->l[C.length]?=some x/\l.length=C.length+(D.length+1):=λC x D hx=>⟨by rw[hx];simp,by rw[hx,aa,ab]⟩;have:=JE l (λx=>!(fi (tkI x)||gM (tkI x))) (xp l k d) (λ_=>none) (λi=>if i<(l.length:Int) then some k else d) 0 (λag _=>by
   unfold xp;rw[ai z1];exact fc rfl) (λag C x D hx _ hp=>by
   obtain⟨hg,a⟩:=b C x D hx;have hp:(!(fi (tkI x)||gM (tkI x)))=true:=hp;rw[cX,bU] at hp;have hd:=hp.2;rw[f] at hd;unfold xp;refine eQ (cL (aV (zD e hx) (bR hp.1 (aV (iu hg) ?_))));have g:(grd (I64 ((C.length:Int)+1))<|ag ((C.length:Int)+1))=ag ((C.length:Int)+1):=dI (xv ⟨by omega,by omega⟩) rfl;cases h1:decide ((48:Int)<=x.Rune) with
   |true=>
    rw[h1,gP] at hd;exact ca rfl (bR hd g)
   |false=>exact bR rfl g) (λag C x D hx _ hp=>by
   obtain⟨hg,a⟩:=b C x D hx;have hp:(!(fi (tkI x)||gM (tkI x)))=false:=hp;rw[cW] at hp;rw[aj z1];unfold xp;refine eQ (cL (aV (zD e hx) ?_));cases hL:dx x.Rune with
   |true=>exact ca rfl rfl
   |false=>
    rw[show fi (tkI x)=false from hL,dK,f,aN] at hp;exact bR rfl (aV (iu hg) (ca hp.1 (ca hp.2 rfl)))) bN B A c (bT _) (by
   have:l.length=A.length+B.length:=by rw[c,aa]
   unfold bN;omega)
 refine this.trans ?_;have a:l.length=A.length+B.length:=by rw[c,aa]
 show (if ((A.length+(B.takeWhile λx=>!(fi (tkI x)||gM (tkI x))).length:Nat):Int)<(l.length:Int) then some k else d)=_
 have key:∀B:List bn,((B.map tkI).any (λx=>fi x||gM x)=true↔(B.takeWhile λx=>!(fi (tkI x)||gM (tkI x))).length<B.length):=by
  intro B
  induction B with
  |nil=>simp
  |cons x B j=>
   rw[au,kq,aY,ab];cases hx:(fi (tkI x)||gM (tkI x)) with
   |true=>simp
   |false=>
    rw[dK,aj (by rfl),ab];exact j.trans ⟨λh=>by omega,λh=>by omega⟩
 have hk:=key B;by_cases ha:(B.map tkI).any (λx=>fi x||gM x)=true
 ·rw[aj ha,aj (by have:=hk.1 ha;omega)]
 ·rw[ai ha,ai (by intro h;exact ha (hk.2 z1))]
theorem ZQ (w:dv) (l:List bn){A:List bn}(B:List bn) (t:w.Skips.length<=1000000) (g:∀x∈l,pt x) (r:l.length<=1000000) (k:l=A++B) (c:Option Int) (f:V) :
  bP (λ_=>none) (zC w l (A.length:Int) c f) bN 0=if (w.Skips.any λs=>decide (s=f))=true/\f≠⟨#[]⟩/\(B.map tkI).any (λx=>fi x||gM x)=true then some (A.length:Int) else c:=by
 have key:∀ (n:Nat) (a S:List V),w.Skips=S++a->a.length<n->bP (λ_=>none) (zC w l (A.length:Int) c f) n (S.length:Int) =
   if (a.any λs=>decide (s=f))=true/\f≠⟨#[]⟩/\(B.map tkI).any (λx=>fi x||gM x)=true then some (A.length:Int) else c:=by
  intro n
  induction n with
  |zero=>intro a S _ h;omega
  |succ n o=>
   intro a S j q;rw[iB];generalize i:bP (λ_=>none) (zC w l (A.length:Int) c f) n=ag;unfold zC;have b:w.Skips.length=S.length+a.length:=by rw[j,aa]
   cases a with
   |nil=>
    rw[ai (by rintro⟨h,_⟩;cases h)];exact bR (ah (by rw[b];simp)) rfl
   |cons s a=>
    have hg:w.Skips[S.length]?=some s:=by rw[j];simp
    have d:=o a (S++[s]) (by rw[j,av];rfl) (by rw[ab] at q;omega);rw[i,show (S++[s]).length=S.length+1 by simp] at d
    push_cast at d
    rw[ab] at b;have m:(grd (I64 ((S.length:Int)+1))<|ag ((S.length:Int)+1))=if (a.any λs=>decide (s=f))=true/\f≠⟨#[]⟩/\(B.map tkI).any (λx=>fi x||gM x)=true then some (A.length:Int) else c:=dI (xv ⟨by omega,by omega⟩) d
    refine eQ (cL (aV (iu hg) ?_));rw[kq];by_cases e:s=f
    ·refine bR (by rw[an e];rfl) ?_;rw[an e,rm];by_cases hf:f=(⟨#[]⟩:V)
     ·refine ca (an hf) (m.trans ?_);rw[ai (λh=>h.2.1 hf),ai (λh=>h.2.1 hf)]
     ·refine bR (ah hf) ?_;rw[ZP g r k,m];by_cases ha:(B.map tkI).any (λx=>fi x||gM x)=true
      ·rw[aj ha,aj ⟨rfl,hf,ha⟩]
      ·rw[ai ha,ai (λh=>ha h.2.2),ai (λh=>ha h.2.2)]
    ·rw[ah e,dK];exact ca rfl m
 exact key bN w.Skips [] (bj _).symm (by unfold bN;omega)
theorem JF (l:List bn):uM l=jw (l.map tkI):=by
 have key:∀ (l:List bn) (b:V),l.foldl (λs x=>s++x.Text) b=b++jw (l.map tkI):=by
  intro l
  induction l with
  |nil=>intro b;show b=b++af;rw[bF]
  |cons x l a=>
   intro b;have c:jw ((x::l).map tkI)=x.Text++jw (l.map tkI):=by unfold jw;rw[au,kH];rfl
   rw[bz,a,c,dE]
 unfold uM;rw[key];show af++_=_;rw[el]
theorem P0:∀ {l:List bn},(∀x∈l,pt x)->qN l<=4*l.length
 |[],_=>aS _
 |x::l,h=>by
  have h1:=(h x (ar ..)).sz;have h2:=P0 λy hy=>h y (ak _ hy);unfold qN at h2 |-
  rw[au,List.sum_cons,ab];omega
theorem FQ (p:Tk->Bool):∀l:List bn,(l.map tkI).takeWhile p=(l.takeWhile λx=>p (tkI x)).map tkI
 |[]=>rfl
 |x::l=>by
  rw[au,aY,aY,FQ p l];cases p (tkI x)<;>rfl
theorem JG (p:Tk->Bool):∀l:List bn,(l.map tkI).dropWhile p=(l.dropWhile λx=>p (tkI x)).map tkI
 |[]=>rfl
 |x::l=>by
  rw[au,cS,cS,JG p l];cases p (tkI x)<;>rfl
theorem ZR {α:Type} (A H a:List α):ee (A++(H++a)) (A.length:Int) ((A.length+H.length:Nat):Int)=H:=by
 unfold ee;rw[cy,cy,List.drop_left,Nat.add_sub_cancel_left,List.take_left]
theorem ZS {o:co} {w:dv} (hr:tw o w) (t:V) (ht:qc t):FN w (ij (iw t))=some ((tr (ef o) (iE t):Nat):Int):=by
 have f:=Cw (iw t);have m:=Jz (iw t);have hL:(ij (iw t)).map tkI=iE t:=zB (iw t);have P:=hr.sl;have N:=ht.2;generalize S:ij (iw t)=l at f m hL |-
 have j:l.length<=1000000:=by omega
 unfold FN;refine cL ((ZM f j _).trans (cL ?_));have c:l=(l.takeWhile λx=>!fi (tkI x))++(l.dropWhile λx=>!fi (tkI x)):=List.takeWhile_append_dropWhile.symm;have hA:(l.takeWhile λx=>!fi (tkI x)).length=((l.map tkI).takeWhile λx=>!fi x).length:=FP (λx=>!fi x) l;have D:(l.map tkI).dropWhile (λx=>!fi x)=(l.dropWhile λx=>!fi (tkI x)).map tkI:=JG (λx=>!fi x) l;have hB:∀x K,(l.dropWhile λx=>!fi (tkI x))=x::K->dx x.Rune=true:=λx K h=>by
  have:=lA (λx:bn=>!fi (tkI x)) l;rw[h] at this;have h2:(!fi (tkI x))=false:=by simpa using this
  rw[cW] at h2;exact h2
 generalize (l.takeWhile λx=>!fi (tkI x))=A at c hA;generalize (l.dropWhile λx=>!fi (tkI x))=B at c D hB;rw[<-hA];refine (ZN f j c hB _).trans (cL ?_);have C:(B.map tkI).takeWhile kh=(B.takeWhile λx=>kh (tkI x)).map tkI:=FQ kh B;have J:(B.map tkI).dropWhile kh=(B.dropWhile λx=>kh (tkI x)).map tkI:=JG kh B;have i:B=(B.takeWhile λx=>kh (tkI x))++(B.dropWhile λx=>kh (tkI x)):=List.takeWhile_append_dropWhile.symm;generalize (B.takeWhile λx=>kh (tkI x))=H at C i;generalize (B.dropWhile λx=>kh (tkI x))=Ta at J i;have d:pp (iE t)=H.map tkI:=by unfold pp;rw[<-hL,D,C]
 have e:tq (iE t)=Ta.map tkI:=by unfold tq;rw[<-hL,D,J]
 have F:l.length=A.length+(H.length+Ta.length):=by rw[c,aa,i,aa]
 rw[C,ax];have g:l=(A++H)++Ta:=by rw[c,i,av]
 have n:ee l (A.length:Int) ((A.length+H.length:Nat):Int)=H:=by
  rw[c,i];exact ZR A H Ta
 have q:∀x∈H,pt x:=λx hx=>f x (by rw[g];exact List.mem_append_left _ (sf _ hx));have hsz:=P0 q;rw[n];have z:(uM H).size<=65536:=by
  rw[JF,<-d];have h1:c7 (fO (iw t).data.toList)=(iw t).data.toList:=vF _;have h2:pp (iE t)=(((oZ t).dropWhile λt=>!fi (tkT t)).takeWhile λt=>kh (tkT t)).map tkT:=by unfold pp iE;rw[FH,Jx]
  rw[h2,jK,zh];have h3:∀ {a b:List dM},a.Sublist b->(c7 a).length<=(c7 b).length:=λh=>by
   induction h with
   |slnil=>exact aS _
   |cons a _ M=>rw[nP,aa];omega
   |cons_cons a _ M=>rw[nP,nP,aa,aa];omega
  have W:=h3 ((List.takeWhile_sublist (λt=>kh (tkT t)) (l:=(oZ t).dropWhile λt=>!fi (tkT t))).trans (rp _));have h5:(c7 (oZ t)).length=(iw t).size:=by unfold oZ;rw[vF,<-jK]
  omega
 refine gO (aV (HU H z1 z1) (aV (Ik _ z) ?_));have h3:=ZQ w l Ta (A:=A++H) z1 f j g (some 0) (jV (uM H));rw[aa] at h3;refine h3.trans ?_;have u:(Ta.map tkI).any (λx=>fi x||gM x)=true->jV (uM H)≠⟨#[]⟩:=λha=>by
  rw[JF,<-d];have r:=Zs t ht.1;have h2:pp (iE t)=(((oZ t).dropWhile λt=>!fi (tkT t)).takeWhile λt=>kh (tkT t)).map tkT:=by unfold pp iE;rw[FH,Jx]
  cases hd:(oZ t).dropWhile λt=>!fi (tkT t) with
  |nil=>
   exfalso;have:tq (iE t)=[]:=by unfold tq iE;rw[FH,hd];rfl
   rw[e] at this;rw[this] at ha;cases ha
  |cons x xs=>
   rw[hd] at h2;have hx:fi (tkT x)=true:=by
    have:=lA (λt:dM=>!fi (tkT t)) (oZ t);rw[hd] at this;have h2:(!fi (tkT x))=false:=by simpa using this
    rw[cW] at h2;exact h2
   have k:∀y∈x::xs,PV y:=λy hy=>r y ((rp _).subset (by rw[hd];exact hy));rw[h2,Zu (λy hy=>Zt (k y (xl hy).2).1 (xl (p:=λt=>kh (tkT t)) hy).1),aY,aj (by unfold kh;rw[hx];rfl)];exact ZO hx ((k x (ar ..)).2 hx)
 have Q:(ef o).s (jV (jw (pp (iE t))))=w.Skips.any λs=>decide (s=jV (uM H)):=by
  rw[d,<-JF];exact hr.sk _
 have v:((iE t).takeWhile λx=>!fi x).length=A.length:=by rw[<-hL];exact hA.symm
 unfold tr;rw[Q,e,d,v,ax];by_cases h1:(Ta.map tkI).any (λx=>fi x||gM x)=true
 ·by_cases h2:(w.Skips.any λs=>decide (s=jV (uM H)))=true
  ·rw[aj ⟨h2,u h1,h1⟩,aj (by rw[h1,h2];rfl)]
  ·rw[ai (λh=>h2 h.1),ai (by rw[aN];exact λh=>h2 h.2)];rfl
 ·rw[ai (λh=>h1 h.2.2),ai (by rw[aN];exact λh=>h1 h.1)];rfl
theorem P1 {o:co} {w:dv} (hi:gH o) (hr:tw o w) (u:V):zA w u=some (nb o u):=by
 have a:=hi.ul;have b:=hi.ll;unfold zA nb;rw[hr.fo];cases hf:(cf u o.fors).isSome with
 |true=>rw[Bool.or_true];exact ca rfl rfl
 |false=>
  rw[oo];refine bR rfl (aV (Cx w u (by rw[hr.un];omega)) ?_);rw[hr.un,hi.pl];cases hx:na o.units u with
  |none=>rfl
  |some k=>
   have:=(xm hx).1;show some (decide ((0:Int)<=k))=some true;rw[an this]
def sJ (o:co) (a:V×Nat×Option (Nat×V)) (x:Tk):V×Nat×Option (Nat×V) :=
 let f:=a.1++ae (cP x.1)
 (f,a.2.1+1,if nb o f then some (a.2.1+1,f) else a.2.2)
def zE (o:co) (l:List Tk):Option (Nat×V):=((xi l).foldl (sJ o) (af,0,none)).2.2
def sK (o:co) (q:Nat×V):Nat×List V:=(q.1,if (cf q.2 o.place).isSome then [q.2] else (cf q.2 o.fors).getD [])
theorem P2 (o:co):∀ (l:List Tk) (f:V) (n:Nat) (r:Option (Nat×V)),
  (l.foldl (rj (ef o)) (f,n,r.map (sK o))).2.2=((l.foldl (sJ o) (f,n,r)).2.2).map (sK o)
 |[],f,n,r=>rfl
 |x::l,f,n,r=>by
  rw[bz,bz];have e:rj (ef o) (f,n,r.map (sK o)) x=(f++ae (cP x.1),n+1,(if nb o (f++ae (cP x.1)) then some (n+1,f++ae (cP x.1)) else r).map (sK o)):=by
   unfold rj;dsimp only;generalize f++ae (cP x.1)=g;show (g,n+1,if (cf g o.place).isSome then some (n+1,[g]) else match cf g o.fors with | some xs=>some (n+1,xs) | none=>r.map (sK o))=_
   unfold nb;cases hp:(cf g o.place).isSome with
   |true=>
    rw[rm,aj rfl,aj rfl];show _=(g,n+1,some (sK o (n+1,g)));unfold sK;dsimp only;rw[hp,aj rfl]
   |false=>
    rw[dK,ai (by simp)];cases hf:cf g o.fors with
    |none=>rfl
    |some xs=>
     show _=(g,n+1,some (sK o (n+1,g)));unfold sK;dsimp only;rw[hp,ai (by simp),hf];rfl
  rw[e,P2 o l];rfl
theorem P3 (o:co) (l:List Tk):vX (ef o) l=(zE o l).map (sK o):=by
 unfold vX zE;exact P2 o (xi l) af 0 none
def rS:Option (Nat×V)->V×Int
 |none=>(⟨#[]⟩,0)
 |some (m,g)=>(g,(m:Int))
theorem ZT {o:co} {w:dv} (hi:gH o) (hr:tw o w) {l:List bn} (g:∀x∈l,pt x) (t:l.length<=1000000) (J:V->Int->Option (V×Int)) : ∀ (n:Nat) (B A:List bn) (f:V) (r:Option (Nat×V)),l=A++B->B.length<n->A.length<=8->f.size<=4*A.length -> bP (λ_ _ _ _=>none) (CA w l J) n (rS r).1 (rS r).2 f ((A.length:Int)+1) = J (rS (((((B.map tkI).take (8-A.length)).takeWhile λx=>!decide (x.1<0)).foldl (sJ o) (f,A.length,r)).2.2)).1 (rS (((((B.map tkI).take (8-A.length)).takeWhile λx=>!decide (x.1<0)).foldl (sJ o) (f,A.length,r)).2.2)).2:=by
 intro n
 induction n with
 |zero=>intro B A f r _ h;omega
 |succ n k=>
  intro B A f r a q u hf;rw[iB];generalize i:bP (λ_ _ _ _=>none) (CA w l J) n=ag;unfold CA;have b:l.length=A.length+B.length:=by rw[a,aa]
  cases B with
  |nil=>exact bR (ah (by rw[b];simp;omega)) (by rw[fm,List.take_nil];rfl)
  |cons x B=>
   rw[ab] at b;refine eQ ?_;by_cases hA:A.length=8
   ·refine fc ?_;rw[show 8-A.length=0 by omega,List.take_zero];rfl
   ·have hx:cj l ((A.length:Int)+1-1)=some x:=by
     rw[show (A.length:Int)+1-1=(A.length:Int) by omega];exact iu (by rw[a];simp)
    have ok:=g x (by rw[a];simp);obtain⟨m,hm⟩:∃m,8-A.length=m+1:=⟨7-A.length,by omega⟩;have e:I64 ((A.length:Int)+1-1):=⟨by omega,by omega⟩;refine eQ (dI e (aV hx ?_));rw[hm,au,List.take_succ_cons,aY];by_cases h0:0<=x.Rune
    ·rw[aj (by show (!decide (x.Rune<0))=true;rw[ah z1];rfl),bz];refine ca (an h0) (cL (cL (dI e (aV hx (aV (FL _ ok.i32) ?_)))));have v:=oX (cP x.Rune);have j:∀d,(grd (I64 ((A.length:Int)+1+1))<|ag (rS d).1 (rS d).2 (f++ae (cP x.Rune)) ((A.length:Int)+1+1)) =
       J (rS (((((B.map tkI).take m).takeWhile λx=>!decide (x.1<0)).foldl (sJ o) (f++ae (cP x.Rune),A.length+1,d)).2.2)).1 (rS (((((B.map tkI).take m).takeWhile λx=>!decide (x.1<0)).foldl (sJ o) (f++ae (cP x.Rune),A.length+1,d)).2.2)).2:=λd=>by
      have:=k B (A++[x]) (f++ae (cP x.Rune)) d (by rw[a,av];rfl) (by rw[ab] at q;omega) (by rw[aa];show A.length+1<=8;omega) (by rw[aM,aa];show _<=4*(A.length+1);omega);rw[i,show (A++[x]).length=A.length+1 by simp,show 8-(A.length+1)=m by omega] at this
      push_cast at this
      exact gO this
     have c:(grd (f.size+(ae (cP x.Rune)).size<=9223372036854775807)<|T (zA w (f++(ae (cP x.Rune)))) λ(r3:Bool)=>
       G (r3) (grd (I64 ((A.length:Int)+1+1))<|ag (f++(ae (cP x.Rune))) ((A.length:Int)+1) (f++(ae (cP x.Rune))) ((A.length:Int)+1+1)) (grd (I64 ((A.length:Int)+1+1))<|ag (rS r).1 (rS r).2 (f++(ae (cP x.Rune))) ((A.length:Int)+1+1))) =
       J (rS (((((B.map tkI).take m).takeWhile λx=>!decide (x.1<0)).foldl (sJ o) (sJ o (f,A.length,r) (tkI x))).2.2)).1 (rS (((((B.map tkI).take m).takeWhile λx=>!decide (x.1<0)).foldl (sJ o) (sJ o (f,A.length,r) (tkI x))).2.2)).2:=by
      refine gO (aV (P1 hi hr _) ?_);have s:sJ o (f,A.length,r) (tkI x)=(f++ae (cP x.Rune),A.length+1,if nb o (f++ae (cP x.Rune)) then some (A.length+1,f++ae (cP x.Rune)) else r):=rfl
      rw[s];cases hu:nb o (f++ae (cP x.Rune)) with
      |true=>
       have:=j (some (A.length+1,f++ae (cP x.Rune)));refine ca rfl ?_;rw[aj rfl,<-this];show _=grd _ (ag _ (((A.length+1:Nat):Int)) _ _)
       push_cast;rfl
      |false=>
       refine bR rfl ?_;rw[ai (by simp)];exact j r
     cases hL:dx x.Rune with
     |true=>exact ca rfl (dI ok.i32 c)
     |false=>
      rw[YS hL] at c;exact bR rfl c
    ·rw[ai (by show ¬(!decide (x.Rune<0))=true;rw[an z1];simp)];exact bR (ah h0) rfl
theorem ZU {o:co} {w:dv} (hi:gH o) (hr:tw o w) {l:List bn} (a:∀x∈l,pt x) (c:l.length<=1000000):CB w l=some (rS (zE o (l.map tkI))):=by
 unfold CB;refine cL ?_;have:=ZT hi hr a c (λb k=>some (b,k)) bN l [] ⟨#[]⟩ none (bj _).symm (by unfold bN;omega) (bT _) (bT _);exact this
theorem ZV {o:co} {l:List Wd} {e:Int} {u:V} (h:u∈o.units):u∈(qw o l e).2.units:=by
 unfold qw;by_cases h1:o.lines.length=256
 ·rw[aj h1];exact h
 rw[ai h1];by_cases h2:0<=nV l e
 ·rw[aj h2];exact h
 rw[ai h2];cases hf:k9 (decide ((l.getD 0 w0).text=jr)) 0 l with
 |inl a=>exact h
 |inr fs=>
  obtain⟨fs,s⟩:=fs;show u∈(fv (ite _ _ _):co).units;by_cases b:(l.getD 0 w0).text=og
  ·rw[aj b];cases hb:(cf (jV (fD fs 1)) o.skips).getD false with
   |true=>rw[aj rfl];exact h
   |false=>rw[ai (by simp)];exact h
  ·rw[ai b];cases hb:nb o (fD fs 1) with
   |true=>rw[aj rfl];exact h
   |false=>
    rw[ai (by simp)];cases c:oB o 0 fs l with
    |some a=>exact h
    |none=>
     show u∈(ite _ _ _:co).units;by_cases hp:(l.getD 0 w0).text=jr
     ·rw[aj hp];unfold Fy;exact kU.2 (.inr h)
     ·rw[ai hp];exact h
theorem JH {u:V}:∀ (xs:List (List UInt8)) (o:co) (at_:Int),u∈o.units->∀a e,qT o at_ xs=(some a,e)->u∈a.units
 |[],o,at_,hi,a,e,h=>by
  have h:(some o,(⟨0,0⟩:de))=(some a,e):=h;injection h with h;injection h with h;rw[<-h];exact hi
 |x::xs,o,at_,hi,a,e,h=>by
  rw[qT] at h;by_cases h0:iL x 0 none=[]
  ·rw[aj h0] at h;exact JH xs _ _ hi _ _ h
  ·rw[ai h0] at h;by_cases h1:(qw o ((iL x 0 none).map (kS at_)) (at_+(x.length:Int))).1.Err=0
   ·rw[aj h1] at h;exact JH xs _ _ (ZV hi) _ _ h
   ·rw[ai h1] at h;injection h with h _;cases h
def zF (o:co):Prop:=∀u∈pO,u∈o.units
theorem ZW (text:V):zF (uc text):=by
 intro u hu;unfold uc;rcases Jw text with⟨o,h,hi⟩|⟨e,h,he⟩
 ·rw[h];unfold ub at h;by_cases a:65536<text.size
  ·rw[aj a] at h;injection h with h _;cases h
  ·rw[ai a] at h;exact JH _ ua _ hu _ _ h
 ·rw[h];exact hu
theorem ZX:((List.range 1120).all λn=>!dx (n:Int)||decide (cf (n:Int) eP≠none)||((fB (lT (cP (n:Int)))).all λr=>qR.contains r))=true:=by decide +kernel
theorem ZY {r:Int} (h:dx r=true):∀u∈tY r,u∈pO:=by
 obtain⟨b,hb,a,e⟩:=OU h;have hr:=ov b hb;have:=bm.1 ZX b.toNat (List.mem_range.2 z1);rw[show ((b.toNat:Nat):Int)=b by omega,hb,a] at this;have h2:((fB (lT (cP b))).all λr=>qR.contains r)=true:=by simpa using this
 intro u hu;rw[e] at hu;obtain⟨x,hx,rfl⟩:=aT.1 hu;have h3:=bm.1 h2 x hx;exact aT.2 ⟨x,by simpa using h3,rfl⟩
theorem ZZ {o:co} (hi:gH o) (hu:zF o) (x:Tk) (l:List Tk) (hx:dx x.1=true):∀u∈(lV (ef o) x l).2,u∈o.units:=by
 unfold lV;rw[P3];have a:=ZY hx;generalize tY x.1=P at a |-
 cases zE o (x::l) with
 |none=>rw[Option.map_none,Option.getD_none];exact λu h=>hu u (a u h)
 |some q=>
  rw[Option.map_some,gg];unfold sK;intro u h;dsimp only at h;cases hp:(cf q.2 o.place).isSome with
  |true=>
   rw[hp,aj rfl,bd] at h;rw[h];exact PH hi hp
  |false=>
   rw[hp,ai (by simp)] at h;cases hf:cf q.2 o.fors with
   |none=>rw[hf] at h;cases h
   |some xs=>rw[hf] at h;exact (hi.fo _ _ hf).2.2 u h
def ud (out:List El):Bool:=match out.getLast? with | some e=>decide (e.sort=1) | none=>true
def oh:List (Option (List El))->List El->List El
 |[],out=>out
 |none::cs,out=>oh cs (if ud out then out else out++[nr])
 |some es::cs,out=>oh cs (out++es)
def uX (out:List El):List El:=match out.getLast? with | some e=>if e.sort=1 then out.dropLast else out | none=>out
theorem Z0 (out:List El) (e:El):ud (out++[e])=decide (e.sort=1):=by unfold ud;rw[sQ]
def JI (a:List El):Prop:=∀e∈a,e.sort≠1
def P4 (out:List El):Prop:=∀e,out.getLast?=some e->e.sort≠1
theorem Z4 {out:List El} (h:P4 out):ud out=out.isEmpty:=by
 unfold ud;cases a:out.getLast? with
 |none=>rw[qf.1 a];rfl
 |some e=>
  show decide (e.sort=1)=_;rw[ah (h e a)];cases out with
  |nil=>cases a
  |cons x xs=>rfl
theorem FSz:∀ (cs:List (Option (List El))) (out:List El) (sp:Bool),(∀a,some a∈cs->JI a)->P4 out->uX (oh cs (out++ko sp out))=oz cs out sp
 |[],out,sp,_,hE=>by
  show uX (out++ko sp out)=out;unfold ko;cases b:sp&&!out.isEmpty with
  |true=>
   rw[aj rfl];unfold uX;rw[sQ];show (if nr.sort=1 then _ else _)=_
   rw[aj (show nr.sort=1 from rfl),List.dropLast_concat]
  |false=>
   rw[ai (by simp),aE];unfold uX;cases f:out.getLast? with
   |none=>rfl
   |some e=>exact ai (hE e f)
 |none::cs,out,sp,hc,hE=>by
  show uX (oh cs (if ud (out++ko sp out) then out++ko sp out else out++ko sp out++[nr]))=oz cs out true
  have key:(if ud (out++ko sp out) then out++ko sp out else out++ko sp out++[nr])=out++ko true out:=by
   cases b:sp&&!out.isEmpty with
   |true=>
    have hg:ko sp out=[nr]:=by unfold ko;rw[b];rfl
    rw[aN] at b;have d:ko true out=[nr]:=by unfold ko;rw[b.2];rfl
    rw[hg,d,Z0];exact aj (by decide)
   |false=>
    have hg:ko sp out=[]:=by unfold ko;rw[b];rfl
    rw[hg,aE,Z4 hE];cases out with
    |nil=>rfl
    |cons x xs=>rfl
  rw[key];exact FSz cs out true (λa h=>hc a (ak _ h)) hE
 |some []::cs,out,sp,hc,hE=>by
  show uX (oh cs (out++ko sp out++[]))=oz cs out sp;rw[aE];exact FSz cs out sp (λa h=>hc a (ak _ h)) hE
 |some (e::a)::cs,out,sp,hc,hE=>by
  show uX (oh cs (out++ko sp out++e::a))=oz cs (out++ko sp out++e::a) false;have g:=hc (e::a) (ar ..);have:=FSz cs (out++ko sp out++e::a) false (λa h=>hc a (ak _ h)) (λx hx=>by
   rw[List.getLast?_append] at hx;cases c:(e::a).getLast? with
   |none=>exact absurd (qf.1 c) (by simp)
   |some y=>
    rw[c,Option.some_or] at hx;injection hx with hx;rw[<-hx];exact g y (List.mem_of_getLast? c))
  rw[show ko false (out++ko sp out++e::a)=[] from rfl,aE] at this;exact this
def rE (e:El):cZ:=⟨e.sort,e.digits,e.place,e.marks,decide (e.great=1)⟩
theorem Z5 (r:V) (hr:r.size<=1000) (J:Int->Nat->List V->Option (List cZ)):bP (λ_ _=>none) (wc J r) bN [] 0=J 1 1 ((fB r).map ae):=by
 have b:=sE r;have:=OT (wc J r) (λ_ _=>none) (λa (p:Pc)=>a++[ae (p.r:Int)]) (J 1 1) (xs:=fK r.data.toList) (λk a=>a.length=k) (λag k x a hx hi=>by
   have hk:=(aq.1 hx).1;unfold wc;exact ca (an hk) (aV hx (gO rfl))) (λk x a _ hi=>by simp[hi]) (λag a _=>by unfold wc;exact fc rfl) (n:=bN) (jC z1) (a:=[]) rfl
 refine this.trans ?_;have e:(fK r.data.toList).map (λp=>ae (p.r:Int))=(fB r).map ae:=by
  unfold fB;rw[cF];exact dW λp _=>by rw[Function.comp_apply]
 rw[Fb,bj,e]
section
variable {R:Type}
theorem P5 (l:List bn) (p:bn->Bool) (F:(Int->V->Option R)->Int->V->Option R) (bot:Int->V->Option R) (J:Int->V->Option R) (f:∀x∈l,pt x) (he:∀ag b,F ag (l.length:Int) b=J (l.length:Int) b) (ht:∀ag A x B b,l=A++x::B->p x=true->b.size<=4*A.length->F ag (A.length:Int) b=ag ((A.length:Int)+1) (b++x.Text)) (hf:∀ag A x B b,l=A++x::B->p x=false->F ag (A.length:Int) b=J (A.length:Int) b) : ∀ (n:Nat) (B A:List bn) (b:V),l=A++B->B.length<n->b.size<=4*A.length->bP bot F n (A.length:Int) b=J ((A.length+(B.takeWhile p).length:Nat):Int) (b++jw ((B.takeWhile p).map tkI)):=by
 intro n
 induction n with
 |zero=>intro B A b _ h;omega
 |succ n g=>
  intro B A b c i hb;rw[iB];have a:b++jw (([]:List bn).map tkI)=b:=by show b++af=b;rw[bF]
  cases B with
  |nil=>
   have e:A.length=l.length:=by rw[c,aE]
   rw[e,he,List.takeWhile_nil,a];rfl
  |cons x B=>
   have ok:=f x (by rw[c];simp);have k:=ok.sz;rw[aY];cases hp:p x with
   |true=>
    rw[ht _ A x B b c hp hb,aj rfl];have d:=g B (A++[x]) (b++x.Text) (by rw[c,av];rfl) (by rw[ab] at i;omega) (by rw[aM,aa];show _<=4*(A.length+1);omega);rw[show (A++[x]).length=A.length+1 by simp] at d
    push_cast at d
    have j:jw ((x::B.takeWhile p).map tkI)=x.Text++jw ((B.takeWhile p).map tkI):=by unfold jw;rw[au,kH];rfl
    rw[d,j,dE,ab];congr 1
    push_cast;omega
   |false=>
    rw[hf _ A x B b c hp,ai (by simp),a];rfl
end
theorem P6:∀ {l:List bn},(∀x∈l,pt x/\jQ (tkI x)=true)->jw (l.map tkI)=nU (l.map tkI)
 |[],_=>rfl
 |x::l,h=>by
  obtain⟨h1,h2⟩:=h x (ar ..);have a:=P6 λy hy=>h y (ak _ hy);have e:=h1.en (Jy (tkI x) (.inr h2));unfold jw nU at a |-
  rw[au,kH,kH,a];show x.Text++_=ae x.Rune++_;rw[e]
section
variable {r2 L A B:List bn} {r3:Int}
theorem Z6 (hL:ee r2 r3 (r2.length:Int)=L) (a:∀x∈L,pt x) (f:L.length<=1000000) (c:L=A++B) (J:Int->V->Option (List cZ)) : bP (λ_ _=>none) (we r2 r3 J) bN (A.length:Int) (⟨#[]⟩:V)=J ((A.length+((B.map tkI).takeWhile jQ).length:Nat):Int) (nU ((B.map tkI).takeWhile jQ)):=by
 have d:L.length=A.length+B.length:=by rw[c,aa]
 have:=P5 L (λx=>jQ (tkI x)) (we r2 r3 J) (λ_ _=>none) J a (λag b=>by
   unfold we;rw[hL];exact fc rfl) (λag C x D b hx hp hb=>by
   have e:L.length=C.length+(D.length+1):=by rw[hx,aa,ab]
   have hg:cj L (C.length:Int)=some x:=iu (by rw[hx];simp);have g:=(a x (by rw[hx];simp)).sz;have h0:=Jy (tkI x) (.inr hp);unfold we;rw[hL];exact eQ (aV hg (ca (an h0) (aV (Cv _) (ca hp (aV hg (gO (dI (xv ⟨by omega,by omega⟩) rfl)))))))) (λag C x D b hx hp=>by
   have e:L.length=C.length+(D.length+1):=by rw[hx,aa,ab]
   have hg:cj L (C.length:Int)=some x:=iu (by rw[hx];simp);unfold we;rw[hL];refine eQ (aV hg ?_);by_cases h0:0<=x.Rune
   ·exact ca (an h0) (aV (Cv _) (bR hp rfl))
   ·exact bR (ah h0) rfl) bN B A ⟨#[]⟩ c (by unfold bN;omega) (bT _)
 refine this.trans ?_;rw[FQ jQ,ax,<-P6 (l:=B.takeWhile λx=>jQ (tkI x)) (λx hx=>⟨a x (by rw[c];exact sf _ (xl hx).2),(xl (p:=λx=>jQ (tkI x)) hx).1⟩)];show J _ (af++_)=_;rw[el]
theorem Z7 (hL:ee r2 r3 (r2.length:Int)=L) (a:∀x∈L,pt x) (g:L.length<=1000000) (d:L=A++B) (J:Int->V->Option (List cZ)) : bP (λ_ _=>none) (xt r2 r3 J) bN (A.length:Int) (⟨#[]⟩:V)=J ((A.length+((B.map tkI).takeWhile gM).length:Nat):Int) (jw ((B.map tkI).takeWhile gM)):=by
 have e:L.length=A.length+B.length:=by rw[d,aa]
 have c:∀x:bn,gM (tkI x)=(decide ((48:Int)<=x.Rune)&&decide ((x.Rune:Int)<=57)):=λx=>by
  unfold gM tkI;by_cases h1:48<=x.Rune<;>by_cases h2:x.Rune<=57<;>simp[h1,h2]
 have:=P5 L (λx=>gM (tkI x)) (xt r2 r3 J) (λ_ _=>none) J a (λag b=>by
   unfold xt;rw[hL];exact fc rfl) (λag C x D b hx hp hb=>by
   have f:L.length=C.length+(D.length+1):=by rw[hx,aa,ab]
   have hg:cj L (C.length:Int)=some x:=iu (by rw[hx];simp);have h:=(a x (by rw[hx];simp)).sz;have hp:gM (tkI x)=true:=hp;rw[c,aN] at hp;unfold xt;rw[hL];exact eQ (aV hg (ca hp.1 (ca hp.2 (aV hg (gO (dI (xv ⟨by omega,by omega⟩) rfl))))))) (λag C x D b hx hp=>by
   have f:L.length=C.length+(D.length+1):=by rw[hx,aa,ab]
   have hg:cj L (C.length:Int)=some x:=iu (by rw[hx];simp);have hp:gM (tkI x)=false:=hp;rw[c] at hp;unfold xt;rw[hL];refine eQ (aV hg ?_);cases h1:decide ((48:Int)<=x.Rune) with
   |true=>rw[h1,gP] at hp;exact ca rfl (bR hp rfl)
   |false=>exact bR rfl rfl) bN B A ⟨#[]⟩ d (by unfold bN;omega) (bT _)
 refine this.trans ?_;rw[FQ gM,ax];show J _ (af++_)=_;rw[el]
end
theorem Z8 {o:co} {w:dv} (hi:gH o) (hr:tw o w) (g:Int) (us:List V) (hu:∀u∈us,u∈o.units) (h:us.length<=1000) (out:List cZ) (d:out.length<=2000000000) (J:List cZ->Option (List cZ)) : bP (λ_ _=>none) (xr w us (decide (g=1)) J) bN out 0=J (out++(us.map (jx (ef o) g)).map rE):=by
 have b:=hi.ul;have c:=hi.ll;have:=tj us (λout u=>out++[rE (jx (ef o) g u)]) J (F:=xr w us (decide (g=1)) J) (bot:=λ_ _=>none) (λk a=>a.length<=2000000000+k) (λag k x a hx hb=>by
   have hk:=(aq.1 hx).1;have hm:=hu x (aF hx);obtain⟨i,h1,h2⟩:=Zy hi hm;unfold xr;refine ca (oa hx) (aV (mY hx) (aV (Cx w x (by rw[hr.un];omega)) (gO (dI (kG z1) ?_))));rw[hr.un,h2];have e:rE (jx (ef o) g x)=⟨3,af,i,af,decide (g=1)⟩:=by
    show (⟨3,af,(cf x o.place).getD 0,af,decide (g=1)⟩:cZ)=_;rw[h1];rfl
   rw[e];rfl) (λk x a hx hb=>by rw[aa];show a.length+1<=_;omega) (λag a _=>by unfold xr;exact bR nR rfl) (n:=bN) (jC z1) (a:=out) z1
 refine this.trans ?_;rw[Fb,cF];rfl
theorem Z9 {r2 M:List bn} {r3 b c:Int} (e:ee (ee r2 r3 (r2.length:Int)) b (b+c)=M) (d:∀x∈M,pt x) (i:M.length<=1000000) (J:Bool->Option (List cZ)) : bP (λ_ _=>none) (xq r2 r3 b c J) bN false 0=J (decide (sG (M.map tkI)=1)):=by
 have:=tj M (λ(g:Bool) (x:bn)=>g||great x.Rune) J (F:=xq r2 r3 b c J) (bot:=λ_ _=>none) (λk a=>True) (λag k x a hx hb=>by
   have hk:=(aq.1 hx).1;unfold xq;rw[e];refine ca (oa hx) (cL (aV (mY hx) ?_));cases a with
   |true=>exact ca rfl (dI (kG z1) rfl)
   |false=>exact bR rfl (dI (d x (aF hx)).i32 (dI (kG z1) (by rw[dK])))) (λk x a hx hb=>trivial) (λag a _=>by unfold xq;rw[e];exact bR nR rfl) (n:=bN) (jC z1) (a:=false) trivial
 refine this.trans ?_;have key:∀ (l:List bn) (a:Bool),l.foldl (λ(g:Bool) (x:bn)=>g||great x.Rune) a=(a||(l.map tkI).any λx=>great x.1):=by
  intro l
  induction l with
  |nil=>intro a;rw[List.foldl_nil,fm,List.any_nil,oo]
  |cons x l h=>intro a;rw[bz,h,au,kq,Bool.or_assoc];rfl
 rw[key,dK];unfold sG;cases (M.map tkI).any λx=>great x.1<;>rfl
theorem j' {b:V} (h:0<b.size):kY b 0=some (mj b):=by
 rw[jK] at h;cases hd:b.data.toList with
 |nil=>rw[hd] at h;exact absurd h (by simp)
 |cons c l=>
  have:=Ch b 0 c (by rw[hd];rfl);rw[show ((0:Nat):Int)=0 from rfl] at this;rw[this];unfold mj;rw[hd];rfl
theorem u' (J:V->Option V):∀ (n:Nat) (s:V),s.size<n->s.size<=1000000000->bP (λ_=>none) (Cy 48 J) n s=J (ba (uQ s.data.toList)):=by
 intro n
 induction n with
 |zero=>intro s h;omega
 |succ n e=>
  intro s i g;rw[iB];generalize b:bP (λ_=>none) (Cy 48 J) n=ag;unfold Cy;cases hd:s.data.toList with
  |nil=>
   have h0:s.size=0:=by rw[jK,hd];rfl
   refine fc (aI J ?_);apply rP;rw[hd,tu];rfl
  |cons c l=>
   have hsz:s.size=l.length+1:=by rw[jK,hd];rfl
   have hg:=Ch s 0 c (by rw[hd];rfl);rw[show ((0:Nat):Int)=0 from rfl] at hg;refine eQ (aV hg ?_);have d:(((c.toNat:Int):Int)==48)=(c==48):=by
    rw[Bool.eq_iff_iff,beq_iff_eq,beq_iff_eq];constructor
    ·intro h;exact UInt8.toNat_inj.1 (by show c.toNat=48;omega)
    ·intro h;subst h;rfl
   rw[d];cases hc:c==48 with
   |true=>
    have a:(c6 s 1 (s.size:Int)).data.toList=l:=by
     have:=uS s 1 s.size
     push_cast at this
     rw[this,hd,List.drop_succ_cons,fj,ff z1]
    have f:(c6 s 1 (s.size:Int)).size=l.length:=by rw[jK,a]
    have:=e (c6 s 1 (s.size:Int)) z1 z1;rw[b,a] at this;refine ca rfl (gO (this.trans ?_));unfold uQ;rw[cS,hc,aj rfl]
   |false=>
    refine bR rfl (aI J ?_);apply rP;unfold uQ;rw[tu,cS,hc,ai (by simp),hd]
theorem y' (s:V) (b:s.size<=1000000000):FM s=some (ba (uQ s.data.toList)):=by
 unfold FM;by_cases h:s=(⟨#[]⟩:V)
 ·refine ca (an h) ?_;subst h;rfl
 ·refine bR (ah h) (bR (by decide) (cL (ca (by decide) (aV (a:=48) (by decide) (ca (by decide) (aV (a:=48) (by decide) (aV (a:=ba (uQ s.data.toList)) ?_ rfl)))))));unfold JB;exact cL (u' some bN s (by unfold bN;omega) b)
end Go.Proofs.YtncjnoakkghmmaaGreatDoor
