/-
  Texts laid together: LcN, Vk, Vm, Vn, Vp, LcX, Vq, LcV, LcW, Vr, LcP, LcQ, PlCollateHeadings. Nothing is assumed.
-/
import Derived.Test.YtifpjbgnikjglaaGreatDoorCollateHeadings6
import Derived.Test.YtifpjbgnikjglaaGreatDoorCollateHeadings2
set_option maxRecDepth 100000
set_option maxHeartbeats 4000000
namespace Go.Proofs.YtifpjbgnikjglaaGreatDoor
open Go.RowKit Go.Lib
open Tryz
set_option linter.unusedVariables false
set_option linter.unusedSimpArgs false
open _root_.ByteArray renaming empty→ad,append_empty→aX,size_append→aJ,append_assoc→cu
open _root_.Go.IntWalk renaming i64_in→ai
open _root_.Go.Proofs.Tryz renaming underlying36→aG,underlying58→dz,results27→gi,underlying9→al,underlying153→cx,underlying46→cO,underlying96→cF,results24→rS,underlying29→gh,results6→fw
open bW renaming nil→ce
open Hd renaming nil→eu
open Rd renaming nil→tV
open am renaming nil→ah
open cN renaming broken→pN
open Vw renaming get→bX
open aP renaming one1→aQ
open _root_.Go.Utf8 renaming encode→ac
open _root_.Go.Value renaming bool→ay
open _root_.Int renaming le_refl→fg
open _root_.List renaming length_append→aa,length_map→ar,getElem?_eq_some_iff→az,getElem?_map→bT,getElem?_append_right→fT,length_take→bw,length_drop→aR,length_nil→aI,length_cons→ab,takeWhile_cons→aV,append_assoc→aB,append_nil→aE,head?_dropWhile_not→jS,length_pos_iff→cU,length→fu,drop_drop→fa,take_left→jZ,nil_append→aW,replicate→bF,mem_of_getElem?→aL,length_replicate→pV,cons_append→bq,getElem?_range→kV,getD_eq_getElem?_getD→cB,take_append_drop→bO,drop_zero→jY,mem_map→aS,map_append→cQ,eq_nil_or_concat→pK,concat_eq_append→pW,mem_cons_of_mem→ak,mem_cons_self→aq
open _root_.Nat renaming le_refl→bi,sub_self→mR,zero_add→bL,zero_le→cm
open _root_.Option renaming getD_some→ei
open _root_.Or renaming inr→jf
open _root_.UInt8 renaming toNat_inj→kA
def zdv (d:List gI) (c:(List ae)→Option (zaw×db)) (b:(List ae)→Option (zaw×db)) (a:List ae):Option (zaw×db) := aM (decide (((a.length:Int):Int)<((d.length:Int)-1))) (aM (decide (((a.length:Int):Int)<6)) (aU (a.length+1≤2147483648) <|b (a++[(⟨#[]⟩:ae)])) (c a)) (c a)
def zdu (o1:db) (c:List gI) (a:List ae) (n:Option (zaw×db)) (g:Int→Option (zaw×db)) (b:Int):Option (zaw×db) := cn (fun (j:Option (zaw×db))=>aM (decide ((b:Int)<(a.length:Int))) (j) (aM (decide ((b:Int)<((c.length:Int)-1))) (j) (n))) (cn (fun (i:ae→Bool→Bool→Bool→Option (zaw×db))=>aM (decide ((((c.length:Int)-1):Int)≤b)) (aT (zcx c (min b ((c.length:Int)-1))) fun (m:gI)=>some ((⟨220,m.at_⟩:zaw),o1)) (aM (decide (((a.length:Int):Int)≤b)) (aT (zcx c (min b ((c.length:Int)-1))) fun (l:gI)=>some ((⟨220,l.at_⟩:zaw),o1)) (aT (zcx a b) fun (d:ae)=>aM (!decide (d=(⟨#[]⟩:ae))) (aT (zcx c b) fun (h:gI)=>aM (!decide (d=h.text)) (aT (zcx c (min b ((c.length:Int)-1))) fun (k:gI)=>some ((⟨220,k.at_⟩:zaw),o1)) (i d true true (!decide (d=h.text)))) (i d false false false)))) (fun (x1:ae) (x2:Bool) (p:Bool) (o:Bool)=>aU (cp (b+1)) <|g (b+1)))
def zdt (o1:db) (n:List gI) (c:List ae) (q:(List ae)→ae→Option (zaw×db)) (m:(List ae)→ae→Int→Option (zaw×db)) (a:List ae) (b:ae) (i:Int):Option (zaw×db) := aM (decide ((i:Int)<(c.length:Int))) (cn (fun (p:(List ae)→ae→Option (zaw×db))=>aT (zcx c i) fun (j:ae)=>aM (!decide (j=(⟨#[]⟩:ae))) (cn (fun (o:ae→Option (zaw×db))=>aU (a.length+1≤2147483648) <|aM (decide (j=(⟨#[97,102,116,101,114]⟩:ae))) (aU (b.size+(⟨#[32,97,102,116,101,114]⟩:ae).size≤9223372036854775807) <|o (b++(⟨#[32,97,102,116,101,114]⟩:ae))) (o b)) (fun (g:ae)=>p (a++[(⟨#[]⟩:ae)]) g)) (aT (zcx n i) fun (l:gI)=>aT (zi l.text) fun (r1:ae)=>aM (decide (r1=(⟨#[]⟩:ae))) (aT (zcx n i) fun (k:gI)=>some ((⟨221,k.at_⟩:zaw),o1)) (aU (a.length+1≤2147483648) <|aT (wE r1) fun (r2:ae)=>aU ((⟨#[32]⟩:ae).size+r2.size≤9223372036854775807) <|aU (b.size+((⟨#[32]⟩:ae)++r2).size≤9223372036854775807) <|p (a++[r1]) (b++((⟨#[32]⟩:ae)++r2))))) (fun (d:List ae) (h:ae)=>aU (cp (i+1)) <|m d h (i+1))) (q a b)
def zds (o1:db) (g:List gI) (h:ae→Option (zaw×db)) (r3:ae) (d:Int→Option (zaw×db)) (a:Int):Option (zaw×db) := aM (decide ((a:Int)<(o1.Skips.length:Int))) (aT (zcx o1.Skips a) fun (c:ae)=>aM (decide (c=r3)) (aT (zcx g 1) fun (b:gI)=>some ((⟨222,b.at_⟩:zaw),o1)) (aU (cp (a+1)) <|d (a+1))) (h r3)
def zdr (o1:db) (m:List gI) (b:List ae) (a:List ae) (j:Option (zaw×db)) (k:Int→Option (zaw×db)) (c:Int):Option (zaw×db) := aM (decide ((c:Int)<(a.length:Int))) (cn (fun (d:Option (zaw×db))=>aT (zcx b c) fun (i:ae)=>aM (decide (i=(⟨#[]⟩:ae))) (aT (zcx a c) fun (h:ae)=>aT (rH o1 h) fun (l:Int)=>aM (decide ((l:Int)<0)) (aT (zcx m c) fun (g:gI)=>some ((⟨223,g.at_⟩:zaw),o1)) (d)) (d)) (aU (cp (c+1)) <|k (c+1))) (j)
def zt (o1:db) (g:List gI):Option (zaw×db) := aM (((o1.Lines.length:Int):Int)==256) (aT (zcx g 0) fun (q1:gI)=>some ((⟨3,q1.at_⟩:zaw),o1)) (cn (fun (r:(List ae)→Option (zaw×db))=>aU (cp ((g.length:Int)-1)) <|aT (zcx g 0) fun (q2:gI)=>aM (decide (q2.text=(⟨#[112,117,116]⟩:ae))) (r ([(⟨#[112,117,116]⟩:ae),(⟨#[]⟩:ae),(⟨#[97,102,116,101,114]⟩:ae),(⟨#[]⟩:ae)]:List ae)) (aM (decide (q2.text=(⟨#[115,107,105,112]⟩:ae))) (r ([(⟨#[115,107,105,112]⟩:ae),(⟨#[]⟩:ae)]:List ae)) (aM (decide (q2.text=(⟨#[97,115]⟩:ae))) (zaC (fun _=>none) (zdv g r) zbC ([(⟨#[97,115]⟩:ae),(⟨#[]⟩:ae),(⟨#[]⟩:ae)]:List ae)) (aT (zcx g 0) fun (u:gI)=>some ((⟨220,u.at_⟩:zaw),o1))))) (fun (b:List ae)=>cn (fun (A:Option (zaw×db))=>zaC (fun _=>none) (zdu o1 g b A) zbC 0) (cn (fun (z:(List ae)→ae→Option (zaw×db))=>aT (zcx b 0) fun (t:ae)=>zaC (fun _ _ _=>none) (zdt o1 g b z) zbC ([]:List ae) t 0) (fun (a:List ae) (c:ae)=>cn (fun (y:Option (zaw×db))=>aT (zcx b 0) fun (p:ae)=>aM (decide (p=(⟨#[115,107,105,112]⟩:ae))) (cn (fun (x:ae→Option (zaw×db))=>aT (zcx a 1) fun (o:ae)=>aT (sA o) fun (r3:ae)=>zaC (fun _=>none) (zds o1 g x r3) zbC 0) (fun (fold1:ae)=>aU (o1.Skips.length+1≤2147483648) <|aU (o1.Lines.length+1≤2147483648) <|some ((⟨0,0⟩:zaw),(⟨o1.Units,o1.Fors,o1.Skips++[fold1],o1.Lines++[c]⟩:db)))) (y)) (aT (zcx a 1) fun (n:ae)=>aT (uT o1 n) fun (s:Bool)=>aM (s) (aT (zcx g 1) fun (m:gI)=>some ((⟨222,m.at_⟩:zaw),o1)) (cn (fun (q:Option (zaw×db))=>zaC (fun _=>none) (zdr o1 g b a q) zbC 2) (cn (fun (i:(List ae)→(List (ae×List ae))→Option (zaw×db))=>aT (zcx b 0) fun (l:ae)=>aM (decide (l=(⟨#[97,115]⟩:ae))) (aT (zcx a 1) fun (k:ae)=>aU (0≤(2:Int)∧(2:Int)≤(a.length:Int)∧((a.length:Int):Int)≤(a.length:Int)) <|i o1.Units (hU k (dM a 2 (a.length:Int)) o1.Fors)) (aT (zcx a 3) fun (j:ae)=>aT (rH o1 j) fun (d:Int)=>aU (cp (d+1)) <|aU (0≤(0:Int)∧(0:Int)≤(d+1)∧(d+1:Int)≤(o1.Units.length:Int)) <|aU (([]:List ae).length+(dM o1.Units 0 (d+1)).length≤2147483648) <|aT (zcx a 1) fun (h:ae)=>aU ((([]:List ae)++(dM o1.Units 0 (d+1))).length+1≤2147483648) <|aU (0≤(d+1:Int)∧(d+1:Int)≤(o1.Units.length:Int)∧((o1.Units.length:Int):Int)≤(o1.Units.length:Int)) <|aU (((([]:List ae)++(dM o1.Units 0 (d+1)))++[h]).length+(dM o1.Units (d+1) (o1.Units.length:Int)).length≤2147483648) <|i (((([]:List ae)++(dM o1.Units 0 (d+1)))++[h])++(dM o1.Units (d+1) (o1.Units.length:Int))) o1.Fors)) (fun (w:List ae) (v:List (ae×List ae))=>aU (o1.Lines.length+1≤2147483648) <|some ((⟨0,0⟩:zaw),(⟨w,v,o1.Skips,o1.Lines++[c]⟩:db))))))))))
theorem UW {_g:Nat} {o1:db} {_f _a _c _d:Hd} {U G:Value} {f7:List gI} {z:Nat} {F:List gI} (p:Vw U f7 2 z G F) {r:(zaw×db)} (h:zt o1 F=some r):iu prog 27 [zP _g,G] [iX vO 2 U z f7] [cells _g [_f.v,.map (some (bm _a)),_c.v,_d.v] 39,bD _f.v o1.Units,dU (bm _a) o1.Fors,bD _c.v o1.Skips,bD _d.v o1.Lines] (fun b:Hd×Hd×Hd×Hd=>.agg (kD r.1).toArray) (fun b=>[cells _g [b.1.v,.map (some (bm b.2.1)),b.2.2.1.v,b.2.2.2.v] 39,bD b.1.v r.2.Units,dU (bm b.2.1) r.2.Fors,bD b.2.2.1.v r.2.Skips,bD b.2.2.2.v r.2.Lines]):=by
 unfold zt at h
 refine iu.intro func27 rfl ntmps27 (by simp) (fun w0 K I=>zyG (zbk zrj rfl dc (fun b1=>zyN (zaL (zyG (zyR 1 rfl (za8 rfl dc rfl (zab zpZ rfl dc rfl (show _=3 from rfl) (zat (k:=0) nK rfl dc rfl rfl rfl (gK (k:=4) rfl dc rfl rfl aG (zaR rfl zbe (zyN (zyB rfl h (fun h=>?_) (fun h=>?_))))))))))))))
 ·refine zyG (zyR 1 rfl (zbl h fun q1 e1 h=>fm p e1 dz pY rfl dc rfl rfl rfl (zab si rfl dc rfl (show _=(z+(0:Int).toNat)*2 from rfl) (jr (n:=z+(0:Int).toNat) (j:=0) (i:=0) (q:=q1) I rfl (by omega) dQ rfl dc rfl (bX p e1) rfl rfl (zbb (v:=.agg #[zI 3,zI q1.at_]) (ps:=[(0,.const (zI 3)),(1,.tmp 27)]) rfl dc rfl (fun _=>by kernel_rfl) (eK (k:=5) (vs:=[zI 3,zI q1.at_]) (l':=[zI 3,zI q1.at_]) kn rfl rfl rfl rfl rfl (show _≤_ by simp) rfl rfl (zyN (zaz (bP ?_)))))))))
  cases h
  exact eB (rs:=[.cell 4 26]) (_f,_a,_c,_d) (.inl rfl) gi (.cons (.cells kM (k:=5) rfl rfl rfl) .nil) rfl (cj 5)
 refine bA (ct (zbp h fun j1 hk h=>zaM (β:=(List ae)×Hd) 2 rfl (fun b=>j1 b.1=some r) (fun b=>[]) (fun b=>[(0,zP _g),(1,G),(4,zP b1),(5,zI ((F.length:Int)-1)),(6,b.2.v)]) (fun b=>[cells _g [_f.v,.map (some (bm _a)),_c.v,_d.v] 39,bD _f.v o1.Units,dU (bm _a) o1.Fors,bD _c.v o1.Skips,bD _d.v o1.Lines,cells b1 [zI 0,zI 0] 26,bD b.2.v b.1]) (fun cut=>?_) ?_))
 ·refine zyG (zyR 1 rfl (zbV p rfl dc rfl dz (zbt h fun hu h=>zaR rfl (jH (r:=(F.length:Int)-1) (ai _ hu)) (zyR 1 rfl (zyH (zyR 1 rfl (zyN (cut (zyG (zyR 1 rfl (zbl h fun q2 ez h=>fm p ez dz pY rfl dc rfl rfl rfl (zab CB rfl dc rfl (show _=(z+(0:Int).toNat)*2+1 from rfl) (jr (n:=z+(0:Int).toNat) (j:=1) (i:=0) (q:=q2) I rfl (by omega) eb rfl dc rfl (bX p ez) rfl rfl (zyN (zau (zyG (zaR rfl zdn (zyR 1 rfl (zyN (zyB rfl h (fun h=>bV (fE (cs:=[.string (⟨#[112,117,116]⟩:ae),.string (⟨#[]⟩:ae),.string (⟨#[97,102,116,101,114]⟩:ae),.string (⟨#[]⟩:ae)]) (te:=9) (ps:=[(0,.const (.string (⟨#[112,117,116]⟩:ae))),(1,.const (.string (⟨#[]⟩:ae))),(2,.const (.string (⟨#[97,102,116,101,114]⟩:ae))),(3,.const (.string (⟨#[]⟩:ae)))]) rfl dc rfl (fun _=>by kernel_rfl) (fun b2=>zyR 1 rfl (mA ([(⟨#[112,117,116]⟩:ae),(⟨#[]⟩:ae),(⟨#[97,102,116,101,114]⟩:ae),(⟨#[]⟩:ae)]:List ae) (k:=6) rfl gj rfl (show 4≤maxLen by decide) (bG (ca (mD (([(⟨#[112,117,116]⟩:ae),(⟨#[]⟩:ae),(⟨#[97,102,116,101,114]⟩:ae),(⟨#[]⟩:ae)]:List ae),(⟨some ⟨b2,0,none⟩,4,4⟩:Hd)) h 7))))))) (fun h=>zyG (zaR rfl zdn (zyR 1 rfl (zyN (zyB rfl h (fun h=>bV (fE (cs:=[.string (⟨#[115,107,105,112]⟩:ae),.string (⟨#[]⟩:ae)]) (te:=9) (ps:=[(0,.const (.string (⟨#[115,107,105,112]⟩:ae))),(1,.const (.string (⟨#[]⟩:ae)))]) rfl dc rfl (fun _=>by kernel_rfl) (fun b3=>zyR 1 rfl (mA ([(⟨#[115,107,105,112]⟩:ae),(⟨#[]⟩:ae)]:List ae) (k:=6) rfl gj rfl (show 2≤maxLen by decide) (bG (ca (mD (([(⟨#[115,107,105,112]⟩:ae),(⟨#[]⟩:ae)]:List ae),(⟨some ⟨b3,0,none⟩,2,2⟩:Hd)) h 7))))))) (fun h=>zyG (zaR rfl zdn (zyR 1 rfl (zyN (zyB rfl h (fun h=>?_) (fun h=>?_)))))))))))))))))))))))))))))))
  ·refine zyG (fE (cs:=[.string (⟨#[97,115]⟩:ae),.string (⟨#[]⟩:ae),.string (⟨#[]⟩:ae)]) (te:=9) (ps:=[(0,.const (.string (⟨#[97,115]⟩:ae))),(1,.const (.string (⟨#[]⟩:ae))),(2,.const (.string (⟨#[]⟩:ae)))]) rfl dc rfl (fun _=>by kernel_rfl) (fun b4=>zyR 1 rfl (mA ([(⟨#[97,115]⟩:ae),(⟨#[]⟩:ae),(⟨#[]⟩:ae)]:List ae) (k:=6) rfl gj rfl (show 3≤maxLen by decide) (zyN (zau (eO (β:=Nat×(List ae)×Hd) (fun b=>zaC (fun _=>none) (zdv F j1) b.1 b.2.1=some r) (fun b=>[]) (fun b=>[(0,zP _g),(1,G),(4,zP b1),(5,zI ((F.length:Int)-1)),(6,b.2.2.v)]) (fun b=>[cells _g [_f.v,.map (some (bm _a)),_c.v,_d.v] 39,bD _f.v o1.Units,dU (bm _a) o1.Fors,bD _c.v o1.Skips,bD _d.v o1.Lines,cells b1 [zI 0,zI 0] 26,bD b.2.2.v b.2.1]) (fun b=>b.1) (zbC,([(⟨#[97,115]⟩:ae),(⟨#[]⟩:ae),(⟨#[]⟩:ae)]:List ae),(⟨some ⟨b4,0,none⟩,3,3⟩:Hd)) (by exact h) rfl (bE rfl) (cj 7) ?_))))))
   rintro⟨n1,O,f0⟩ h
   cases n1 with
   |zero=>exact eG h
   |succ n1=>
    obtain⟨hL,d0⟩:∃ag,ag=zaC (fun _=>none) (zdv F j1) n1:=⟨_,rfl⟩
    have h:zdv F j1 hL O=some r:=by rw[d0];exact h
    unfold zdv at h
    refine zaL (zyG (zyR 1 rfl (gK (k:=6) rfl dc rfl rfl aG (zyR 1 rfl (zaR rfl zbi (zyR 1 rfl (zyS (s:=54) rfl h (fun h=>?_) (fun h=>?_))))))))
    ·refine zyR 1 rfl (gK (k:=6) rfl dc rfl rfl aG (zaR rfl zbi (zyR 1 rfl (zyN (zyB rfl h (fun h=>?_) (fun h=>?_))))))
     ·refine bA (ct (zau (bV (zyR 1 rfl (fE (cs:=[.string (⟨#[]⟩:ae)]) (te:=9) (ps:=[(0,.const (.string (⟨#[]⟩:ae)))]) rfl dc rfl (fun _=>by kernel_rfl) (fun b5=>zbt h fun ht h=>iC (k:=6) (k2:=7) (ys:=[(⟨#[]⟩:ae)]) aG oq gj oG rfl dc rfl rfl rfl rfl rfl rfl ht (fun v1=>iq (k:=6) rfl (fun hG hE=>?_))))))))
      subst hE
      refine zyR 1 rfl (bG (ca ?_))
      subst d0
      exact aD (n1,O++[(⟨#[]⟩:ae)],hG) h 7
     exact dF (bU (bU (dG (ca (mD (O,f0) h 7)))))
    exact zyR 4 rfl (zyN (eh rfl (dF (bU (bU (dG (ca (mD (O,f0) h 7))))))))
  refine zyG (zyR 1 rfl (zbl h fun q3 et h=>fm p et dz pY rfl dc rfl rfl rfl (zab si rfl dc rfl (show _=(z+(0:Int).toNat)*2 from rfl) (jr (n:=z+(0:Int).toNat) (j:=0) (i:=0) (q:=q3) I rfl (by omega) dQ rfl dc rfl (bX p et) rfl rfl (zbb (v:=.agg #[zI 220,zI q3.at_]) (ps:=[(0,.const (zI 220)),(1,.tmp 39)]) rfl dc rfl (fun _=>by kernel_rfl) (eK (k:=5) (vs:=[zI 220,zI q3.at_]) (l':=[zI 220,zI q3.at_]) kn rfl rfl rfl rfl rfl (show _≤_ by simp) rfl rfl (zyN (zaz (cD (bP ?_))))))))))
  cases h
  exact eB (rs:=[.cell 4 26]) (_f,_a,_c,_d) (.inl rfl) gi (.cons (.cells kM (k:=5) rfl rfl rfl) .nil) rfl (cj 5)
 rintro⟨a,l⟩ h
 rw[hk] at h
 refine zbp h fun j2 hj h=>zaM (β:=Unit) 0 rfl (fun b=>j2=some r) (fun b=>[]) (fun b=>[(0,zP _g),(1,G),(4,zP b1),(6,l.v)]) (fun b=>[cells _g [_f.v,.map (some (bm _a)),_c.v,_d.v] 39,bD _f.v o1.Units,dU (bm _a) o1.Fors,bD _c.v o1.Skips,bD _d.v o1.Lines,cells b1 [zI 0,zI 0] 26,bD l.v a]) (fun cut=>?_) ?_
 ·refine cut (zyG (zyR 1 rfl (zyN (zau (eO (β:=Nat×Int) (fun b=>zaC (fun _=>none) (zdu o1 F a j2) b.1 b.2=some r) (fun b=>[]) (fun b=>[(0,zP _g),(1,G),(4,zP b1),(5,zI ((F.length:Int)-1)),(6,l.v),(7,zI b.2)]) (fun b=>[cells _g [_f.v,.map (some (bm _a)),_c.v,_d.v] 39,bD _f.v o1.Units,dU (bm _a) o1.Fors,bD _c.v o1.Skips,bD _d.v o1.Lines,cells b1 [zI 0,zI 0] 26,bD l.v a]) (fun b=>b.1) (zbC,0) h rfl (bE rfl) (cj 7) ?_)))))
  rintro⟨n2,E⟩ h
  cases n2 with
  |zero=>exact eG h
  |succ n2=>
   obtain⟨hK,dT⟩:∃ag,ag=zaC (fun _=>none) (zdu o1 F a j2) n2:=⟨_,rfl⟩
   have h:zdu o1 F a j2 hK E=some r:=by rw[dT];exact h
   unfold zdu at h
   refine zbp h fun j3 hh h=>zaM (β:=Unit) 0 rfl (fun b=>j3=some r) (fun b=>[]) (fun b=>[(0,zP _g),(1,G),(4,zP b1),(5,zI ((F.length:Int)-1)),(6,l.v),(7,zI E)]) (fun b=>[cells _g [_f.v,.map (some (bm _a)),_c.v,_d.v] 39,bD _f.v o1.Units,dU (bm _a) o1.Fors,bD _c.v o1.Skips,bD _d.v o1.Lines,cells b1 [zI 0,zI 0] 26,bD l.v a]) (fun cut=>cut (zyG (zyR 2 rfl (gK (k:=6) rfl dc rfl rfl aG (zaR rfl zbi (zyR 1 rfl (zyS (s:=66) rfl h (fun h=>zyR 4 rfl (zyN (gM rfl (bA (mD () h 7))))) (fun h=>zyR 2 rfl (zaR rfl zbi (zyR 1 rfl (zyN (zyB rfl h (fun h=>bA (mD () h 7)) (fun h=>dF (bU (bU (dG (mD () h 7))))))))))))))))) (fun _ h=>?_)
   rw[hh] at h
   refine zbp h fun j4 hg h=>zaM (β:=ae×Bool×Bool×Bool) 0 rfl (fun b=>j4 b.1 b.2.1 b.2.2.1 b.2.2.2=some r) (fun b=>[]) (fun b=>[(0,zP _g),(1,G),(4,zP b1),(5,zI ((F.length:Int)-1)),(6,l.v),(7,zI E),(77,zI E),(78,l.v),(79,zI (a.length:Int)),(80,.bool false),(83,l.v),(84,zI E),(85,.pointer (some ⟨gn l.v,(E:Int).toNat*1,none⟩)),(86,.string b.1),(87,.bool b.2.1),(88,.bool b.2.2.1),(99,.bool b.2.2.2)]) (fun b=>[cells _g [_f.v,.map (some (bm _a)),_c.v,_d.v] 39,bD _f.v o1.Units,dU (bm _a) o1.Fors,bD _c.v o1.Skips,bD _d.v o1.Lines,cells b1 [zI 0,zI 0] 26,bD l.v a]) (fun cut=>?_) ?_
   ·refine cut (zau (zaL (vj (b:=decide ((((F.length:Int)-1):Int)≤E)) (fun T=>?_) (fun T=>?_))))
    ·have h:=nG T h
     refine zdb 25 [(0,73,zI E),(1,74,zI ((F.length:Int)-1)),(2,75,.bool true),(3,76,.bool true),(4,77,undef),(5,78,undef),(6,79,undef),(7,80,undef),(8,81,.bool true),(9,82,.bool true),(10,83,undef),(11,84,undef),(12,85,undef),(13,86,undef),(14,87,undef),(15,88,undef),(16,89,undef),(17,90,undef),(18,91,undef),(19,92,undef),(20,93,undef),(21,94,undef),(22,95,undef),(23,96,undef),(24,97,undef)] mixed kr kr dc (by rfl) kr kr (zyP 2 0 rfl (zae (fun D n d c u i=>lU rfl dc (bC 0 u d) (bC 1 u d) zbF (oX (show ay (decide ((((F.length:Int)-1):Int)≤E))=ay true from aH ay T) (zaT 2 u i))) (zyP 22 3 rfl ce))) (zyR 3 rfl (zyN (gM rfl (zyG (zyR 3 rfl (zT rfl dc rfl rfl (zbl h fun q4 eq h=>fm p eq dz pY rfl dc rfl rfl rfl (zab si rfl dc rfl (show _=(z+(min E ((F.length:Int)-1):Int).toNat)*2 from rfl) (jr (n:=z+(min E ((F.length:Int)-1):Int).toNat) (j:=0) (i:=0) (q:=q4) I rfl (by omega) dQ rfl dc rfl (bX p eq) rfl rfl (zbb (v:=.agg #[zI 220,zI q4.at_]) (ps:=[(0,.const (zI 220)),(1,.tmp 107)]) rfl dc rfl (fun _=>by kernel_rfl) (eK (k:=5) (vs:=[zI 220,zI q4.at_]) (l':=[zI 220,zI q4.at_]) kn rfl rfl rfl rfl rfl (show _≤_ by simp) rfl rfl (zyN (zaz (cD (bP (bP (cD (bP ?_))))))))))))))))))
     cases h
     exact eB (rs:=[.cell 4 26]) (_f,_a,_c,_d) (.inl rfl) gi (.cons (.cells kM (k:=5) rfl rfl rfl) .nil) rfl (cj 5)
    have h:=nH T h
    refine vj (b:=decide (((a.length:Int):Int)≤E)) (fun Q=>?_) (fun Q=>?_)
    ·have h:=nG Q h
     refine zdb 25 [(0,73,zI E),(1,74,zI ((F.length:Int)-1)),(2,75,.bool false),(3,76,.bool false),(4,77,zI E),(5,78,l.v),(6,79,zI (a.length:Int)),(7,80,.bool true),(8,81,.bool true),(9,82,.bool true),(10,83,undef),(11,84,undef),(12,85,undef),(13,86,undef),(14,87,undef),(15,88,undef),(16,89,undef),(17,90,undef),(18,91,undef),(19,92,undef),(20,93,undef),(21,94,undef),(22,95,undef),(23,96,undef),(24,97,undef)] mixed kr kr dc (by rfl) kr kr (zyP 2 0 rfl (zae (fun D n d c u i=>lU rfl dc (bC 0 u d) (bC 1 u d) zbF (oX (show ay (decide ((((F.length:Int)-1):Int)≤E))=ay false from aH ay T) (zaT 2 u i))) (zyP 3 3 rfl (zae (fun D n d c u i=>gK (k:=6) (lI rfl (bC 3 u d)) dc (bC 5 u d) rfl aG (zaT 6 u i)) (zae (fun D n d c u i=>lU (lI rfl (bC 3 u d)) dc (bC 4 u d) (bC 6 u d) zbF (oX (show ay (decide (((a.length:Int):Int)≤E))=ay true from aH ay Q) (zaT 7 u i))) (zyP 17 8 rfl ce)))))) (zyR 3 rfl (zyN (gM rfl (zyG (zyR 3 rfl (zT rfl dc rfl rfl (zbl h fun q5 en h=>fm p en dz pY rfl dc rfl rfl rfl (zab si rfl dc rfl (show _=(z+(min E ((F.length:Int)-1):Int).toNat)*2 from rfl) (jr (n:=z+(min E ((F.length:Int)-1):Int).toNat) (j:=0) (i:=0) (q:=q5) I rfl (by omega) dQ rfl dc rfl (bX p en) rfl rfl (zbb (v:=.agg #[zI 220,zI q5.at_]) (ps:=[(0,.const (zI 220)),(1,.tmp 107)]) rfl dc rfl (fun _=>by kernel_rfl) (eK (k:=5) (vs:=[zI 220,zI q5.at_]) (l':=[zI 220,zI q5.at_]) kn rfl rfl rfl rfl rfl (show _≤_ by simp) rfl rfl (zyN (zaz (cD (bP (bP (cD (bP ?_))))))))))))))))))
     cases h
     exact eB (rs:=[.cell 4 26]) (_f,_a,_c,_d) (.inl rfl) gi (.cons (.cells kM (k:=5) rfl rfl rfl) .nil) rfl (cj 5)
    have h:=nH Q h
    refine zbl h fun Z X h=>vj (b:=!decide (Z=(⟨#[]⟩:ae))) (fun S=>?_) (fun S=>?_)
    ·have h:=nG S h
     refine zbl h fun q7 em h=>zdb 25 [(0,73,zI E),(1,74,zI ((F.length:Int)-1)),(2,75,.bool false),(3,76,.bool false),(4,77,zI E),(5,78,l.v),(6,79,zI (a.length:Int)),(7,80,.bool false),(8,81,.bool false),(9,82,.bool false),(10,83,l.v),(11,84,zI E),(12,85,.pointer (some ⟨gn l.v,(E:Int).toNat*1,none⟩)),(13,86,.string Z),(14,87,.bool true),(15,88,.bool true),(16,89,l.v),(17,90,zI E),(18,91,.pointer (some ⟨gn l.v,(E:Int).toNat*1,none⟩)),(19,92,.string Z),(20,93,G),(21,94,zI E),(22,95,.pointer (some ⟨gn U,(z+(E:Int).toNat)*2,none⟩)),(23,96,.pointer (some ⟨gn U,(z+(E:Int).toNat)*2+1,none⟩)),(24,97,.string q7.text)] mixed kr kr dc (by rfl) kr kr (zyP 2 0 rfl (zae (fun D n d c u i=>lU rfl dc (bC 0 u d) (bC 1 u d) zbF (oX (show ay (decide ((((F.length:Int)-1):Int)≤E))=ay false from aH ay T) (zaT 2 u i))) (zyP 3 3 rfl (zae (fun D n d c u i=>gK (k:=6) (lI rfl (bC 3 u d)) dc (bC 5 u d) rfl aG (zaT 6 u i)) (zae (fun D n d c u i=>lU (lI rfl (bC 3 u d)) dc (bC 4 u d) (bC 6 u d) zbF (oX (show ay (decide (((a.length:Int):Int)≤E))=ay false from aH ay Q) (zaT 7 u i))) (zyP 4 8 rfl (zae (fun D n d c u i=>eY (k:=6) X aG gG (lI rfl (bC 9 u d)) dc (bC 10 u d) (bC 11 u d) rfl rfl (zaT 12 u i)) (zae (fun D n d c u i=>fW (i:=(E:Int).toNat) (j:=0) (k:=6) (q:=Z) eb gj (lI rfl (bC 9 u d)) dc (bC 12 u d) rfl (ep X) rfl dc rfl (zaT 13 u i)) (zae (fun D n d c u i=>lU (lI rfl (bC 9 u d)) dc (bC 13 u d) rfl qV (oX (show ay (!decide (Z=(⟨#[]⟩:ae)))=ay true from aH ay S) (zaT 14 u i))) (zyP 3 15 rfl (zae (fun D n d c u i=>eY (k:=6) X aG gG (lI rfl (bC 15 u d)) dc (bC 16 u d) (bC 17 u d) rfl rfl (zaT 18 u i)) (zae (fun D n d c u i=>fW (i:=(E:Int).toNat) (j:=0) (k:=6) (q:=Z) eb gj (lI rfl (bC 15 u d)) dc (bC 18 u d) rfl (ep X) rfl dc rfl (zaT 19 u i)) (zyP 2 20 rfl (zae (fun D n d c u i=>fm p em dz pY (lI rfl (bC 15 u d)) dc (bC 20 u d) (bC 21 u d) rfl (zaT 22 u i)) (zae (fun D n d c u i=>zab CB (lI rfl (bC 15 u d)) dc (bC 22 u d) (show _=(z+(E:Int).toNat)*2+1 from rfl) (zaT 23 u i)) (zae (fun D n d c u i=>jr (n:=z+(E:Int).toNat) (j:=1) (i:=0) (q:=q7) I rfl (by omega) eb (lI rfl (bC 15 u d)) dc (bC 23 u d) (bX p em) rfl rfl (zaT 24 u i)) ce)))))))))))))))) (zaR rfl qV (zyR 2 rfl (zyN (zyB rfl h (fun h=>?_) (fun h=>?_)))))
     ·refine zyG (zyR 3 rfl (zT rfl dc rfl rfl (zbl h fun q8 eg h=>fm p eg dz pY rfl dc rfl rfl rfl (zab si rfl dc rfl (show _=(z+(min E ((F.length:Int)-1):Int).toNat)*2 from rfl) (jr (n:=z+(min E ((F.length:Int)-1):Int).toNat) (j:=0) (i:=0) (q:=q8) I rfl (by omega) dQ rfl dc rfl (bX p eg) rfl rfl (zbb (v:=.agg #[zI 220,zI q8.at_]) (ps:=[(0,.const (zI 220)),(1,.tmp 107)]) rfl dc rfl (fun _=>by kernel_rfl) (eK (k:=5) (vs:=[zI 220,zI q8.at_]) (l':=[zI 220,zI q8.at_]) kn rfl rfl rfl rfl rfl (show _≤_ by simp) rfl rfl (zyN (zaz (cD (bP (bP (cD (bP ?_))))))))))))))
      cases h
      exact eB (rs:=[.cell 4 26]) (_f,_a,_c,_d) (.inl rfl) gi (.cons (.cells kM (k:=5) rfl rfl rfl) .nil) rfl (cj 5)
     exact bA (ca (mD (Z,true,true,!decide (Z=q7.text)) h 7))
    have h:=nH S h
    exact zdb 25 [(0,73,zI E),(1,74,zI ((F.length:Int)-1)),(2,75,.bool false),(3,76,.bool false),(4,77,zI E),(5,78,l.v),(6,79,zI (a.length:Int)),(7,80,.bool false),(8,81,.bool false),(9,82,.bool false),(10,83,l.v),(11,84,zI E),(12,85,.pointer (some ⟨gn l.v,(E:Int).toNat*1,none⟩)),(13,86,.string Z),(14,87,.bool false),(15,88,.bool false),(16,89,undef),(17,90,undef),(18,91,undef),(19,92,undef),(20,93,undef),(21,94,undef),(22,95,undef),(23,96,undef),(24,97,undef)] mixed kr kr dc (by rfl) kr kr (zyP 2 0 rfl (zae (fun D n d c u i=>lU rfl dc (bC 0 u d) (bC 1 u d) zbF (oX (show ay (decide ((((F.length:Int)-1):Int)≤E))=ay false from aH ay T) (zaT 2 u i))) (zyP 3 3 rfl (zae (fun D n d c u i=>gK (k:=6) (lI rfl (bC 3 u d)) dc (bC 5 u d) rfl aG (zaT 6 u i)) (zae (fun D n d c u i=>lU (lI rfl (bC 3 u d)) dc (bC 4 u d) (bC 6 u d) zbF (oX (show ay (decide (((a.length:Int):Int)≤E))=ay false from aH ay Q) (zaT 7 u i))) (zyP 4 8 rfl (zae (fun D n d c u i=>eY (k:=6) X aG gG (lI rfl (bC 9 u d)) dc (bC 10 u d) (bC 11 u d) rfl rfl (zaT 12 u i)) (zae (fun D n d c u i=>fW (i:=(E:Int).toNat) (j:=0) (k:=6) (q:=Z) eb gj (lI rfl (bC 9 u d)) dc (bC 12 u d) rfl (ep X) rfl dc rfl (zaT 13 u i)) (zae (fun D n d c u i=>lU (lI rfl (bC 9 u d)) dc (bC 13 u d) rfl qV (oX (show ay (!decide (Z=(⟨#[]⟩:ae)))=ay false from aH ay S) (zaT 14 u i))) (zyP 10 15 rfl ce)))))))))) (zyR 3 rfl (zyN (eh rfl (bA (ca (mD (Z,false,false,false) h 7))))))
   rintro⟨x1,x2,x3,x4⟩ h
   rw[hg] at h
   refine bV (zyR 1 rfl (zbt h fun hs h=>zaR rfl (dE (r:=E+1) (ai _ hs)) (zyR 1 rfl (bG ?_))))
   subst dT
   exact aD (n2,E+1) h 7
 rintro _ h
 rw[hj] at h
 refine zbp h fun j5 hf h=>zaM (β:=(List ae)×ae×Hd) 2 rfl (fun b=>j5 b.1 b.2.1=some r) (fun b=>[]) (fun b=>[(0,zP _g),(1,G),(4,zP b1),(6,l.v),(8,b.2.2.v),(9,.string b.2.1)]) (fun b=>[cells _g [_f.v,.map (some (bm _a)),_c.v,_d.v] 39,bD _f.v o1.Units,dU (bm _a) o1.Fors,bD _c.v o1.Skips,bD _d.v o1.Lines,cells b1 [zI 0,zI 0] 26,bD l.v a,bD b.2.2.v b.1]) (fun cut=>?_) ?_
 ·refine zyG (zyR 1 rfl (zyH (zyR 1 rfl (zbl h fun q9 ec h=>eY (k:=6) ec aG gG rfl dc rfl rfl rfl rfl (fW (i:=(0:Int).toNat) (j:=0) (k:=6) (q:=q9) eb gj rfl dc rfl rfl (ep ec) rfl dc rfl (zyR 1 rfl (zyN (cut (zyG (zyR 1 rfl (gK (k:=6) rfl dc rfl rfl aG (zyR 1 rfl (zyN (zau (mU (enc:=gN) (e:=9) (size:=1) (eO (β:=Nat×(List ae)×ae×Int×Hd) (fun b=>zaC (fun _ _ _=>none) (zdt o1 F a j5) b.1 b.2.1 b.2.2.1 b.2.2.2.1=some r) (fun b=>[]) (fun b=>[(0,zP _g),(1,G),(4,zP b1),(6,l.v),(8,b.2.2.2.2.v),(9,.string b.2.2.1),(112,l.v),(113,zI (a.length:Int)),(114,zI b.2.2.2.1)]) (fun b=>[cells _g [_f.v,.map (some (bm _a)),_c.v,_d.v] 39,bD _f.v o1.Units,dU (bm _a) o1.Fors,bD _c.v o1.Skips,bD _d.v o1.Lines,cells b1 [zI 0,zI 0] 26,bD l.v a,bD b.2.2.2.2.v b.2.1]) (fun b=>b.1) (zbC,([]:List ae),q9,0,eu) h rfl (bE rfl) (cj 8) ?_))))))))))))))))
  rintro⟨n3,N,P,x7,hF⟩ h
  cases n3 with
  |zero=>exact eG h
  |succ n3=>
   obtain⟨hJ,ds⟩:∃ag,ag=zaC (fun _ _ _=>none) (zdt o1 F a j5) n3:=⟨_,rfl⟩
   have h:zdt o1 F a j5 hJ N P x7=some r:=by rw[ds];exact h
   unfold zdt at h
   refine zyG (zaR rfl zbi (zyN (zaL (zyB rfl h (fun h=>?_) (fun h=>?_)))))
   ·refine bA (ct (zbp h fun j6 he h=>zaM (β:=(List ae)×ae×Hd) 0 rfl (fun b=>j6 b.1 b.2.1=some r) (fun b=>[]) (fun b=>[(0,zP _g),(1,G),(4,zP b1),(6,l.v),(8,b.2.2.v),(9,.string b.2.1),(112,l.v),(113,zI (a.length:Int)),(114,zI x7)]) (fun b=>[cells _g [_f.v,.map (some (bm _a)),_c.v,_d.v] 39,bD _f.v o1.Units,dU (bm _a) o1.Fors,bD _c.v o1.Skips,bD _d.v o1.Lines,cells b1 [zI 0,zI 0] 26,bD l.v a,bD b.2.2.v b.1]) (fun cut=>?_) ?_))
    ·refine cut (zau (zyG (zyR 1 rfl (zbl h fun gB c5 h=>eY (k:=6) c5 aG gG rfl dc rfl rfl rfl rfl (fW (i:=(x7:Int).toNat) (j:=0) (k:=6) (q:=gB) eb gj rfl dc rfl rfl (ep c5) rfl dc rfl (zyR 2 rfl (zyN (zaL (zyG (zyR 1 rfl (zaR rfl qV (zyN (zyB rfl h (fun h=>?_) (fun h=>?_))))))))))))))
     ·refine zbp h fun j7 hc h=>zaM (β:=ae×Hd) 1 rfl (fun b=>j7 b.1=some r) (fun b=>[]) (fun b=>[(0,zP _g),(1,G),(4,zP b1),(6,l.v),(8,b.2.v),(9,.string b.1),(112,l.v),(113,zI (a.length:Int)),(114,zI x7)]) (fun b=>[cells _g [_f.v,.map (some (bm _a)),_c.v,_d.v] 39,bD _f.v o1.Units,dU (bm _a) o1.Fors,bD _c.v o1.Skips,bD _d.v o1.Lines,cells b1 [zI 0,zI 0] 26,bD l.v a,bD b.2.v (N++[(⟨#[]⟩:ae)])]) (fun cut=>?_) ?_
      ·refine zyG (zyR 1 rfl (fE (cs:=[.string (⟨#[]⟩:ae)]) (te:=9) (ps:=[(0,.const (.string (⟨#[]⟩:ae)))]) rfl dc rfl (fun _=>by kernel_rfl) (fun b6=>zbt h fun hr h=>iC (k:=7) (k2:=8) (ys:=[(⟨#[]⟩:ae)]) aG oq gj oG rfl dc rfl rfl rfl rfl rfl rfl hr (fun v2=>iq (k:=7) rfl (fun di hC=>?_)))))
       subst hC
       exact zyR 1 rfl (zyN (cut (zyG (zyR 1 rfl (zaR rfl zdn (zyN (zyB rfl h (fun h=>bV (zyR 1 rfl (zbt h fun hq h=>zaR rfl (lx hq) (zyR 1 rfl (bG (mD (P++(⟨#[32,97,102,116,101,114]⟩:ae),di) h 8)))))) (fun h=>bA (mD (P,di) h 8)))))))))
      rintro⟨d2,f4⟩ h
      rw[hc] at h
      exact dF (bU (dG (mD (N++[(⟨#[]⟩:ae)],d2,f4) h 8)))
     refine bA (ct (zyG (zyR 2 rfl (zbl h fun d8 c4 h=>fm p c4 dz pY rfl dc rfl rfl rfl (zab CB rfl dc rfl (show _=(z+(x7:Int).toNat)*2+1 from rfl) (jr (n:=z+(x7:Int).toNat) (j:=1) (i:=0) (q:=d8) I rfl (by omega) eb rfl dc rfl (bX p c4) rfl rfl (zbl h fun r1 e0 h=>zaI (v:=.string r1) (vs:=[.string d8.text]) rfl dc rfl rfl rfl NC (T8 e0) (zyR 1 rfl (zyN (zaL (zyG (zyR 1 rfl (zaR rfl zdn (zyN (zyB rfl h (fun h=>?_) (fun h=>?_))))))))))))))))
     ·refine zyG (zyR 2 rfl (zbl h fun a3 c3 h=>fm p c3 dz pY rfl dc rfl rfl rfl (zab si rfl dc rfl (show _=(z+(x7:Int).toNat)*2 from rfl) (jr (n:=z+(x7:Int).toNat) (j:=0) (i:=0) (q:=a3) I rfl (by omega) dQ rfl dc rfl (bX p c3) rfl rfl (zbb (v:=.agg #[zI 221,zI a3.at_]) (ps:=[(0,.const (zI 221)),(1,.tmp 140)]) rfl dc rfl (fun _=>by kernel_rfl) (eK (k:=5) (vs:=[zI 221,zI a3.at_]) (l':=[zI 221,zI a3.at_]) kn rfl rfl rfl rfl rfl (show _≤_ by simp) rfl rfl (zyN (zaz (bP (cD (bP (bP (cD (bP ?_))))))))))))))
      cases h
      exact eB (rs:=[.cell 4 26]) (_f,_a,_c,_d) (.inl rfl) gi (.cons (.cells kM (k:=5) rfl rfl rfl) .nil) rfl (cj 5)
     refine bA (ct (zyG (zyR 2 rfl (fE (cs:=[.string r1]) (te:=9) (ps:=[(0,.tmp 143)]) rfl dc rfl (fun _=>by kernel_rfl) (fun b7=>zbt h fun hp h=>iC (k:=7) (k2:=8) (ys:=[r1]) aG oq gj oG rfl dc rfl rfl rfl rfl rfl rfl hp (fun v3=>iq (k:=7) rfl (fun f2 hB=>?_)))))))
     subst hB
     exact zyR 1 rfl (zyN (bV (zyR 2 rfl (zbl h fun r2 eM h=>zaI (v:=.string r2) (vs:=[.string r1]) rfl dc rfl rfl rfl GZ (I7 eM) (zbt h fun ho h=>zaR rfl (lx ho) (zbt h fun hm h=>zaR rfl (lx hm) (zyR 1 rfl (bG (ca (mD (N++[r1],P++((⟨#[32]⟩:ae)++r2),f2) h 8))))))))))
    rintro⟨a5,d3,f5⟩ h
    rw[he] at h
    refine bV (zbt h fun hl h=>zaR rfl (dE (r:=x7+1) (ai _ hl)) (zyR 1 rfl (bG ?_)))
    subst ds
    exact aD (n3,a5,d3,x7+1,f5) h 8
   exact dF (bU (bU (dG (mD (N,P,hF) h 8))))
 rintro⟨g,C,M⟩ h
 rw[hf] at h
 refine zbp h fun j8 hb h=>zaM (β:=Unit) 0 rfl (fun b=>j8=some r) (fun b=>[]) (fun b=>[(0,zP _g),(1,G),(4,zP b1),(6,l.v),(8,M.v),(9,.string C)]) (fun b=>[cells _g [_f.v,.map (some (bm _a)),_c.v,_d.v] 39,bD _f.v o1.Units,dU (bm _a) o1.Fors,bD _c.v o1.Skips,bD _d.v o1.Lines,cells b1 [zI 0,zI 0] 26,bD l.v a,bD M.v g]) (fun cut=>?_) ?_
 ·refine cut (zyG (zyR 1 rfl (zbl h fun gz c2 h=>eY (k:=6) c2 aG gG rfl dc rfl rfl rfl rfl (fW (i:=(0:Int).toNat) (j:=0) (k:=6) (q:=gz) eb gj rfl dc rfl rfl (ep c2) rfl dc rfl (zaR rfl zdn (zyN (zyB rfl h (fun h=>?_) (fun h=>?_))))))))
  ·refine zbp h fun j9 ha h=>zaM (β:=ae) 1 rfl (fun b=>j9 b=some r) (fun b=>[]) (fun b=>[(0,zP _g),(4,zP b1),(9,.string C),(13,.string b)]) (fun b=>[cells _g [_f.v,.map (some (bm _a)),_c.v,_d.v] 39,bD _f.v o1.Units,dU (bm _a) o1.Fors,bD _c.v o1.Skips,bD _d.v o1.Lines,cells b1 [zI 0,zI 0] 26]) (fun cut=>?_) ?_
   ·refine zyG (zyR 1 rfl (zbl h fun d7 c0 h=>eY (k:=7) c0 aG gG rfl dc rfl rfl rfl rfl (fW (i:=(1:Int).toNat) (j:=0) (k:=7) (q:=d7) eb gj rfl dc rfl rfl (ep c0) rfl dc rfl (zbl h fun r3 eL h=>zaI (v:=.string r3) (vs:=[.string d7]) rfl dc rfl rfl rfl An (AM eL) (zyR 1 rfl (zyN (cut (zyG (zyR 1 rfl (za8 rfl dc rfl (zab Ab rfl dc rfl (show _=2 from rfl) (zat (k:=0) nK rfl dc rfl rfl rfl (gK (k:=3) rfl dc rfl rfl aG (zyR 1 rfl (bG (ct (zau (eO (β:=Nat×Int) (fun b=>zaC (fun _=>none) (zds o1 F j9 r3) b.1 b.2=some r) (fun b=>[]) (fun b=>[(0,zP _g),(1,G),(4,zP b1),(9,.string C),(13,.string r3),(163,_c.v),(164,zI (o1.Skips.length:Int)),(165,zI b.2)]) (fun b=>[cells _g [_f.v,.map (some (bm _a)),_c.v,_d.v] 39,bD _f.v o1.Units,dU (bm _a) o1.Fors,bD _c.v o1.Skips,bD _d.v o1.Lines,cells b1 [zI 0,zI 0] 26]) (fun b=>b.1) (zbC,0) h rfl (bE rfl) (cj 6) ?_))))))))))))))))))
    rintro⟨n4,aw⟩ h
    cases n4 with
    |zero=>exact eG h
    |succ n4=>
     obtain⟨hI,dn⟩:∃ag,ag=zaC (fun _=>none) (zds o1 F j9 r3) n4:=⟨_,rfl⟩
     have h:zds o1 F j9 r3 hI aw=some r:=by rw[dn];exact h
     unfold zds at h
     refine zyG (zaR rfl zbi (zyN (zaL (zyB rfl h (fun h=>?_) (fun h=>?_)))))
     ·refine bA (ct (zaL (zau (zyG (zbl h fun gx ch h=>eY (k:=3) ch aG gG rfl dc rfl rfl rfl rfl (fW (i:=(aw:Int).toNat) (j:=0) (k:=3) (q:=gx) eb gj rfl dc rfl rfl (ep ch) rfl dc rfl (zyR 1 rfl (zyH (zyR 2 rfl (zaR rfl zdn (zyN (zyB rfl h (fun h=>?_) (fun h=>?_)))))))))))))
      ·refine zyG (zyR 1 rfl (zbl h fun a2 cc h=>fm p cc dz pY rfl dc rfl rfl rfl (zab si rfl dc rfl (show _=(z+(1:Int).toNat)*2 from rfl) (jr (n:=z+(1:Int).toNat) (j:=0) (i:=0) (q:=a2) I rfl (by omega) dQ rfl dc rfl (bX p cc) rfl rfl (zbb (v:=.agg #[zI 222,zI a2.at_]) (ps:=[(0,.const (zI 222)),(1,.tmp 175)]) rfl dc rfl (fun _=>by kernel_rfl) (eK (k:=5) (vs:=[zI 222,zI a2.at_]) (l':=[zI 222,zI a2.at_]) kn rfl rfl rfl rfl rfl (show _≤_ by simp) rfl rfl (zyN (zaz (cD (bP (bP (cD (bP (bP ?_))))))))))))))
       cases h
       exact eB (rs:=[.cell 4 26]) (_f,_a,_c,_d) (.inl rfl) gi (.cons (.cells kM (k:=5) rfl rfl rfl) .nil) rfl (cj 5)
      refine bA (ca (ct (bV (zbt h fun fz h=>zaR rfl (dE (r:=aw+1) (ai _ fz)) (zyR 1 rfl (bG ?_))))))
      subst dn
      exact aD (n4,aw+1) h 6
     exact dF (bU (bU (dG (mD r3 h 6))))
   rintro fold1 h
   rw[ha] at h
   refine zyG (zyR 2 rfl (za8 rfl dc rfl (zab Ab rfl dc rfl (show _=2 from rfl) (zat (k:=0) nK rfl dc rfl rfl rfl (zyR 1 rfl (fE (cs:=[.string fold1]) (te:=9) (ps:=[(0,.tmp 183)]) rfl dc rfl (fun _=>by kernel_rfl) (fun b8=>zbt h fun ft h=>iC (k:=3) (k2:=6) (ys:=[fold1]) aG oq gj oG rfl dc rfl rfl rfl rfl rfl rfl ft (fun v4=>iq (k:=3) rfl (fun ao hA=>?_)))))))))
   subst hA
   refine za8 rfl dc rfl (zab Ab rfl dc rfl (show _=2 from rfl) (ef (k:=0) (l':=[_f.v,.map (some (bm _a)),ao.v,_d.v]) se rfl rfl rfl rfl rfl (fun _ _=>rfl) rfl (zyH (zyR 2 rfl (za8 rfl dc rfl (zab zpZ rfl dc rfl (show _=3 from rfl) (zat (k:=0) nK rfl dc rfl rfl rfl (zyR 1 rfl (fE (cs:=[.string C]) (te:=9) (ps:=[(0,.tmp 193)]) rfl dc rfl (fun _=>by kernel_rfl) (fun b9=>zbt h fun fs h=>iC (k:=4) (k2:=7) (ys:=[C]) aG oq gj oG rfl dc rfl rfl rfl rfl rfl rfl fs (fun v5=>iq (k:=4) rfl (fun dg hz=>?_))))))))))))
   subst hz
   refine za8 rfl dc rfl (zab zpZ rfl dc rfl (show _=3 from rfl) (ef (k:=0) (l':=[_f.v,.map (some (bm _a)),ao.v,dg.v]) se rfl rfl rfl rfl rfl (fun _ _=>rfl) rfl (zyH (zbb (v:=.agg #[zI 0,zI 0]) (ps:=[]) rfl dc rfl (fun _=>by kernel_rfl) (eK (k:=5) (vs:=[zI 0,zI 0]) (l':=[zI 0,zI 0]) kn rfl rfl rfl rfl rfl (show _≤_ by simp) rfl rfl (zyN (zaz (bP ?_))))))))
   cases h
   exact eB (rs:=[.cell 4 26]) (_f,_a,ao,dg) (.inl rfl) gi (.cons (.cells kM (k:=5) rfl rfl rfl) .nil) rfl (cj 5)
  exact bA (mD () h 8)
 rintro _ h
 rw[hb] at h
 refine zaL (zyG (zyR 2 rfl (zbl h fun d6 b0 h=>eY (k:=7) b0 aG gG rfl dc rfl rfl rfl rfl (fW (i:=(1:Int).toNat) (j:=0) (k:=7) (q:=d6) eb gj rfl dc rfl rfl (ep b0) rfl dc rfl (zbl h fun r4 ey h=>kZ (v:=.bool r4) (vs:=[zP _g,.string d6]) I rfl dc rfl rfl rfl G7 (KW (_g:=_g) (o1:=o1) (_f:=_f) (_a:=_a) (_c:=_c) (_d:=_d) ey) (.own (cj 1) (fun _ _ h=>aQ.1 h) (.own (cg [1] kr rfl) (fun _ _ h=>aQ.1 h) (.own (cg [2] kr rfl) (fun _ _ h=>aQ.1 h) (.own (cg [3] kr rfl) (fun _ _ h=>aQ.1 h) (.own (cg [4] kr rfl) (fun _ _ h=>aQ.1 h) .nil))))) (zyN (zyB rfl h (fun h=>?_) (fun h=>?_))))))))
 ·refine zyG (zyR 1 rfl (zbl h fun a1 bs h=>fm p bs dz pY rfl dc rfl rfl rfl (zab si rfl dc rfl (show _=(z+(1:Int).toNat)*2 from rfl) (jr (n:=z+(1:Int).toNat) (j:=0) (i:=0) (q:=a1) I rfl (by omega) dQ rfl dc rfl (bX p bs) rfl rfl (zbb (v:=.agg #[zI 222,zI a1.at_]) (ps:=[(0,.const (zI 222)),(1,.tmp 207)]) rfl dc rfl (fun _=>by kernel_rfl) (eK (k:=5) (vs:=[zI 222,zI a1.at_]) (l':=[zI 222,zI a1.at_]) kn rfl rfl rfl rfl rfl (show _≤_ by simp) rfl rfl (zyN (zaz (bP ?_)))))))))
  cases h
  exact eB (rs:=[.cell 4 26]) (_f,_a,_c,_d) (.inl rfl) gi (.cons (.cells kM (k:=5) rfl rfl rfl) .nil) rfl (cj 5)
 refine bA (ct (zbp h fun a4 e4 h=>zaM (β:=Unit) 0 rfl (fun b=>a4=some r) (fun b=>[]) (fun b=>[(0,zP _g),(4,zP b1),(6,l.v),(8,M.v),(9,.string C)]) (fun b=>[cells _g [_f.v,.map (some (bm _a)),_c.v,_d.v] 39,bD _f.v o1.Units,dU (bm _a) o1.Fors,bD _c.v o1.Skips,bD _d.v o1.Lines,cells b1 [zI 0,zI 0] 26,bD l.v a,bD M.v g]) (fun cut=>?_) ?_))
 ·refine cut (zyG (zyR 1 rfl (zyN (zau (eO (β:=Nat×Int) (fun b=>zaC (fun _=>none) (zdr o1 F a g a4) b.1 b.2=some r) (fun b=>[]) (fun b=>[(0,zP _g),(1,G),(4,zP b1),(6,l.v),(8,M.v),(9,.string C),(16,zI b.2)]) (fun b=>[cells _g [_f.v,.map (some (bm _a)),_c.v,_d.v] 39,bD _f.v o1.Units,dU (bm _a) o1.Fors,bD _c.v o1.Skips,bD _d.v o1.Lines,cells b1 [zI 0,zI 0] 26,bD l.v a,bD M.v g]) (fun b=>b.1) (zbC,2) h rfl (bE rfl) (cj 8) ?_)))))
  rintro⟨n5,i6⟩ h
  cases n5 with
  |zero=>exact eG h
  |succ n5=>
   obtain⟨hH,dj⟩:∃ag,ag=zaC (fun _=>none) (zdr o1 F a g a4) n5:=⟨_,rfl⟩
   have h:zdr o1 F a g a4 hH i6=some r:=by rw[dj];exact h
   unfold zdr at h
   refine zaL (zyG (zyR 2 rfl (gK (k:=7) rfl dc rfl rfl aG (zaR rfl zbi (zyN (zyB rfl h (fun h=>?_) (fun h=>?_)))))))
   ·refine bA (ct (zbp h fun g0 e3 h=>zaM (β:=Unit) 0 rfl (fun b=>g0=some r) (fun b=>[]) (fun b=>[(0,zP _g),(1,G),(4,zP b1),(6,l.v),(8,M.v),(9,.string C),(16,zI i6)]) (fun b=>[cells _g [_f.v,.map (some (bm _a)),_c.v,_d.v] 39,bD _f.v o1.Units,dU (bm _a) o1.Fors,bD _c.v o1.Skips,bD _d.v o1.Lines,cells b1 [zI 0,zI 0] 26,bD l.v a,bD M.v g]) (fun cut=>?_) ?_))
    ·refine cut (zau (zyG (zyR 2 rfl (zbl h fun gt bk h=>eY (k:=6) bk aG gG rfl dc rfl rfl rfl rfl (fW (i:=(i6:Int).toNat) (j:=0) (k:=6) (q:=gt) eb gj rfl dc rfl rfl (ep bk) rfl dc rfl (zaR rfl zdn (zyR 1 rfl (zyS (s:=220) rfl h (fun h=>?_) (fun h=>?_)))))))))
     ·refine zyR 3 rfl (zbl h fun d5 bh h=>eY (k:=7) bh aG gG rfl dc rfl rfl rfl rfl (fW (i:=(i6:Int).toNat) (j:=0) (k:=7) (q:=d5) eb gj rfl dc rfl rfl (ep bh) rfl dc rfl (zbl h fun r5 ex h=>kZ (v:=zI r5) (vs:=[zP _g,.string d5]) I rfl dc rfl rfl rfl xy (zj (_g:=_g) (o1:=o1) (_f:=_f) (_a:=_a) (_c:=_c) (_d:=_d) ex) (.own (cj 1) (fun _ _ h=>aQ.1 h) (.own (cg [1] kr rfl) (fun _ _ h=>aQ.1 h) (.own (cg [2] kr rfl) (fun _ _ h=>aQ.1 h) (.own (cg [3] kr rfl) (fun _ _ h=>aQ.1 h) (.own (cg [4] kr rfl) (fun _ _ h=>aQ.1 h) .nil))))) (zaR rfl zbi (zyR 1 rfl (zyN (zyB rfl h (fun h=>?_) (fun h=>?_))))))))
      ·refine zyG (zyR 2 rfl (zbl h fun a0 bb h=>fm p bb dz pY rfl dc rfl rfl rfl (zab si rfl dc rfl (show _=(z+(i6:Int).toNat)*2 from rfl) (jr (n:=z+(i6:Int).toNat) (j:=0) (i:=0) (q:=a0) I rfl (by omega) dQ rfl dc rfl (bX p bb) rfl rfl (zbb (v:=.agg #[zI 223,zI a0.at_]) (ps:=[(0,.const (zI 223)),(1,.tmp 233)]) rfl dc rfl (fun _=>by kernel_rfl) (eK (k:=5) (vs:=[zI 223,zI a0.at_]) (l':=[zI 223,zI a0.at_]) kn rfl rfl rfl rfl rfl (show _≤_ by simp) rfl rfl (zyN (zaz (cD (bP (bP (cD (bP ?_)))))))))))))
       cases h
       exact eB (rs:=[.cell 4 26]) (_f,_a,_c,_d) (.inl rfl) gi (.cons (.cells kM (k:=5) rfl rfl rfl) .nil) rfl (cj 5)
      exact bA (ca (mD () h 8))
     exact zyR 8 rfl (zyN (eh rfl (bA (ca (mD () h 8)))))
    rintro _ h
    rw[e3] at h
    refine bV (zyR 1 rfl (zbt h fun fo h=>zaR rfl (dE (r:=i6+1) (ai _ fo)) (zyR 1 rfl (bG ?_))))
    subst dj
    exact aD (n5,i6+1) h 8
   exact dF (bU (bU (dG (mD () h 8))))
 rintro _ h
 rw[e4] at h
 refine zbp h fun gF e2 h=>zaM (β:=(List ae)×(List (ae×List ae))×Hd) 0 rfl (fun b=>gF b.1 b.2.1=some r) (fun b=>[]) (fun b=>[(0,zP _g),(4,zP b1),(9,.string C)]) (fun b=>[cells _g [b.2.2.v,.map (some (bm _a)),_c.v,_d.v] 39,bD b.2.2.v b.1,dU (bm _a) b.2.1,bD _c.v o1.Skips,bD _d.v o1.Lines,cells b1 [zI 0,zI 0] 26]) (fun cut=>?_) ?_
 ·refine cut (zyG (zyR 1 rfl (zbl h fun gs a9 h=>eY (k:=6) a9 aG gG rfl dc rfl rfl rfl rfl (fW (i:=(0:Int).toNat) (j:=0) (k:=6) (q:=gs) eb gj rfl dc rfl rfl (ep a9) rfl dc rfl (zaR rfl zdn (zyN (zyB rfl h (fun h=>?_) (fun h=>?_))))))))
  ·refine zbl h fun W a8 h=>zbt h fun fn h=>zS (k:=7) rfl (fun g3=>?_)
   obtain⟨v6,d9,g8⟩:=om (lo:=some (zI 2)) (hi:=none) g3 aG gG (.inr rfl) (.inl ⟨rfl,rfl⟩) fn
   refine zdb 9 [(0,239,zP _g),(1,240,zP _g),(2,241,.pointer (some ⟨_g,1,none⟩)),(3,242,.map (some (bm _a))),(4,243,M.v),(5,244,.pointer (some ⟨gn M.v,(1:Int).toNat*1,none⟩)),(6,245,.string W),(7,246,M.v),(8,247,v6)] mixed kr kr dc (by rfl) kr kr (zyP 1 0 rfl (zae (fun D n d c u i=>za8 rfl dc (bC 0 u d) (zaT 1 u i)) (zae (fun D n d c u i=>zab zut rfl dc (bC 1 u d) (show _=1 from rfl) (zaT 2 u i)) (zae (fun D n d c u i=>zat (k:=0) vC rfl dc (bC 2 u d) rfl rfl (zaT 3 u i)) (zyP 1 4 rfl (zae (fun D n d c u i=>eY (k:=7) a8 aG gG rfl dc (bC 4 u d) rfl rfl rfl (zaT 5 u i)) (zae (fun D n d c u i=>fW (i:=(1:Int).toNat) (j:=0) (k:=7) (q:=W) eb gj rfl dc (bC 5 u d) rfl (ep a8) rfl dc rfl (zaT 6 u i)) (zyP 1 7 rfl (zae (fun D n d c u i=>ia rfl dc (bC 7 u d) (evO.some rfl) xb g8 (zaT 8 u i)) ce))))))))) ?_
   obtain⟨V,f1⟩:=Vw.head d9
   have g9:=h
   subst f1
   have h:=g9
   exact qX (As:=[dU (bm _a) o1.Fors]) (cg [2] kr rfl) Gz (fun f8 f6=>vA (k:=8) (ek:=(fun s:ae=>Value.string s)) (ev':=pr) (kk:=W) (vv:=(dM g 2 (g.length:Int),V)) (mC al) underlying37 rfl rfl rfl rfl rfl (pX (k:=7) rfl (HR gj d9) (qX (As:=[pt (bm _a) (hU W (dM g 2 (g.length:Int),V) f8),o6 f8,lV gN 1 V (dM g 2 (g.length:Int))]) (cg [8,9,7] kr rfl) (GB W (dM g 2 (g.length:Int)) V f6) (fun _ _=>bG (cH (o1.Units,hU W (dM g 2 (g.length:Int)) o1.Fors,_f) h rfl (bE rfl) (cg [0,1,10,3,4,5] kr rfl))))))
  refine zyG (zyR 2 rfl (zbl h fun d4 a7 h=>eY (k:=7) a7 aG gG rfl dc rfl rfl rfl rfl (fW (i:=(3:Int).toNat) (j:=0) (k:=7) (q:=d4) eb gj rfl dc rfl rfl (ep a7) rfl dc rfl (zbl h fun Y es h=>kZ (v:=zI Y) (vs:=[zP _g,.string d4]) I rfl dc rfl rfl rfl xy (zj (_g:=_g) (o1:=o1) (_f:=_f) (_a:=_a) (_c:=_c) (_d:=_d) es) (.own (cj 1) (fun _ _ h=>aQ.1 h) (.own (cg [1] kr rfl) (fun _ _ h=>aQ.1 h) (.own (cg [2] kr rfl) (fun _ _ h=>aQ.1 h) (.own (cg [3] kr rfl) (fun _ _ h=>aQ.1 h) (.own (cg [4] kr rfl) (fun _ _ h=>aQ.1 h) .nil))))) (zbt h fun fk h=>zaR rfl (dE (r:=Y+1) (ai _ fk)) (zyR 1 rfl (zyN (zbt h fun fd h=>zbt h fun e9 h=>zbl h fun R a6 h=>zbt h fun e8 h=>zbt h fun e7 h=>zbt h fun e6 h=>zS (k:=1) rfl (fun g2=>?_)))))))))
  obtain⟨v7,g5,g7⟩:=om (lo:=none) (hi:=some (zI (Y+1))) g2 aG gG (.inl ⟨rfl,rfl⟩) (.inr rfl) fd
  refine zS (k:=1) rfl (fun g1=>?_)
  obtain⟨gr,g4,g6⟩:=om (lo:=some (zI (Y+1))) (hi:=none) g1 aG gG (.inr rfl) (.inl ⟨rfl,rfl⟩) e7
  refine vp 2 (let d1:(Nat×Hd×Nat×Hd×Hd)→List (Nat×Nat×Value):=fun b=>[(0,254,zP _g),(1,255,.slice (some ⟨b.1,0,none⟩) 0 0),(2,256,zP _g),(3,257,zP _g),(4,258,zP _g),(5,259,_f.v),(6,260,zI (Y+1)),(7,261,v7),(8,262,b.2.1.v),(9,263,M.v),(10,264,.pointer (some ⟨gn M.v,(1:Int).toNat*1,none⟩)),(11,265,.string R),(12,266,.slice (some ⟨b.2.2.1,0,none⟩) 1 1),(13,267,b.2.2.2.1.v),(14,268,zP _g),(15,269,zP _g),(16,270,zP _g),(17,271,_f.v),(18,272,zI (Y+1)),(19,273,gr),(20,274,b.2.2.2.2.v)];let f9:(Nat→Prop)→(Nat×Hd×Nat×Hd×Hd)→List Asn:=fun D b=>[cells _g [_f.v,.map (some (bm _a)),_c.v,_d.v] 39,bD _f.v o1.Units,dU (bm _a) o1.Fors,bD _c.v o1.Skips,bD _d.v o1.Lines,cells b1 [zI 0,zI 0] 26,bD l.v a,bD M.v g,eD D cy [(20,bD b.2.2.2.2.v (((([]:List ae)++(dM o1.Units 0 (Y+1)))++[R])++(dM o1.Units (Y+1) (o1.Units.length:Int)))),(13,bD b.2.2.2.1.v ((([]:List ae)++(dM o1.Units 0 (Y+1)))++[R])),(8,bD b.2.1.v (([]:List ae)++(dM o1.Units 0 (Y+1)))),(1,cells b.1 [] 9)],eD D cy [(12,cells b.2.2.1 [.string R] 9)]];?_)
  have H:tz [1,8,12,13,20] f9:=fun i h D b=>bZ rfl (bZ rfl (bZ rfl (bZ rfl (bZ rfl (bZ rfl (bZ rfl (bZ rfl (bZ (qC rfl h) (bZ (qC rfl h) rfl)))))))))
  refine vo (β:=Nat×Hd×Nat×Hd×Hd) 21 ((0:Nat),eu,(0:Nat),eu,eu) d1 f9 mixed kr kr dc (fun _=>rfl) (nO (bZ oI (bZ oI rfl))) (px H (fun _=>rfl) (fun _=>rfl) 1 0 (fun _=>rfl) rfl (lA ?_ (px H (fun _=>rfl) (fun _=>rfl) 1 2 (fun _=>rfl) rfl (qD H rfl (fun _=>rfl) (fun _=>rfl) (fun D ⟨B,w,A,t,o⟩ n d c u i=>za8 rfl dc (bC 2 u d) (zaT 3 u i)) (qD H rfl (fun _=>rfl) (fun _=>rfl) (fun D ⟨B,w,A,t,o⟩ n d c u i=>zab uf rfl dc (bC 3 u d) (show _=0 from rfl) (zaT 4 u i)) (lC H rfl (fun _=>rfl) (fun _=>rfl) (fun D ⟨B,w,A,t,o⟩ n d c u i=>⟨_,(nO (bZ (dO (fun x=>n (c 7 _ rfl (c 8 _ rfl (c 13 _ rfl (c 20 _ rfl x 13 dc) 8 dc) 7 dc) 5 dc)) (dO (fun x=>n (c 7 _ rfl (c 8 _ rfl (c 13 _ rfl x 8 dc) 7 dc) 5 dc)) (dO (fun x=>n (c 7 _ rfl (c 8 _ rfl x 7 dc) 5 dc)) rfl))) rfl)),zat (k:=0) nK rfl dc (bC 4 u d) rfl rfl (zaT 5 u i)⟩) (px H (fun _=>rfl) (fun _=>rfl) 1 6 (fun _=>rfl) rfl (lC H rfl (fun _=>rfl) (fun _=>rfl) (fun D ⟨B,w,A,t,o⟩ n d c u i=>⟨_,(nO (bZ (dO (fun x=>n (c 8 _ rfl (c 13 _ rfl (c 20 _ rfl x 13 dc) 8 dc) 7 dc)) (dO (fun x=>n (c 8 _ rfl (c 13 _ rfl x 8 dc) 7 dc)) (dO (fun x=>n (c 8 _ rfl x 7 dc)) rfl))) rfl)),ia rfl dc (bC 5 u d) xb (evO.some (bC 6 u d)) g7 (zaT 7 u i)⟩) (lA ?_ (px H (fun _=>rfl) (fun _=>rfl) 1 9 (fun _=>rfl) rfl (lC H rfl (fun _=>rfl) (fun _=>rfl) (fun D ⟨B,w,A,t,o⟩ n d c u i=>⟨_,(nO (bZ (dO (fun x=>n (c 11 _ rfl (c 12 _ rfl (c 13 _ rfl (c 20 _ rfl x 13 dc) 12 dc) 11 dc) 10 dc)) (dO (fun x=>n (c 11 _ rfl (c 12 _ rfl (c 13 _ rfl x 12 dc) 11 dc) 10 dc)) rfl)) (bZ (dO (fun x=>n (c 11 _ rfl (c 12 _ rfl x 11 dc) 10 dc)) fi) rfl))),eY (k:=7) a6 aG gG rfl dc (bC 9 u d) rfl rfl rfl (zaT 10 u i)⟩) (lC H rfl (fun _=>rfl) (fun _=>rfl) (fun D ⟨B,w,A,t,o⟩ n d c u i=>⟨_,(nO (bZ (dO (fun x=>n (c 12 _ rfl (c 13 _ rfl (c 20 _ rfl x 13 dc) 12 dc) 11 dc)) (dO (fun x=>n (c 12 _ rfl (c 13 _ rfl x 12 dc) 11 dc)) rfl)) (bZ (dO (fun x=>n (c 12 _ rfl x 11 dc)) fi) rfl))),fW (i:=(1:Int).toNat) (j:=0) (k:=7) (q:=R) eb gj rfl dc (bC 10 u d) rfl (ep a6) rfl dc rfl (zaT 11 u i)⟩) (lA ?_ (lA ?_ (px H (fun _=>rfl) (fun _=>rfl) 1 14 (fun _=>rfl) rfl (qD H rfl (fun _=>rfl) (fun _=>rfl) (fun D ⟨B,w,A,t,o⟩ n d c u i=>za8 rfl dc (bC 14 u d) (zaT 15 u i)) (qD H rfl (fun _=>rfl) (fun _=>rfl) (fun D ⟨B,w,A,t,o⟩ n d c u i=>zab uf rfl dc (bC 15 u d) (show _=0 from rfl) (zaT 16 u i)) (lC H rfl (fun _=>rfl) (fun _=>rfl) (fun D ⟨B,w,A,t,o⟩ n d c u i=>⟨_,(nO (bZ (dO (fun x=>n (c 19 _ rfl (c 20 _ rfl x 19 dc) 17 dc)) rfl) rfl)),zat (k:=0) nK rfl dc (bC 16 u d) rfl rfl (zaT 17 u i)⟩) (px H (fun _=>rfl) (fun _=>rfl) 1 18 (fun _=>rfl) rfl (lC H rfl (fun _=>rfl) (fun _=>rfl) (fun D ⟨B,w,A,t,o⟩ n d c u i=>⟨_,(nO (bZ (dO (fun x=>n (c 20 _ rfl x 19 dc)) rfl) rfl)),ia rfl dc (bC 17 u d) (evO.some (bC 18 u d)) xb g6 (zaT 19 u i)⟩) (lA ?_ fp.nil))))))))))))))))))))) ?_
  ·intro D b J hd y
   obtain⟨go,w,A,t,o⟩:=b
   exact km (nO (bZ (dO (fun x=>J (y 8 _ rfl (y 13 _ rfl (y 20 _ rfl x 13 dc) 8 dc) 1 dc)) (dO (fun x=>J (y 8 _ rfl (y 13 _ rfl x 8 dc) 1 dc)) (dO (fun x=>J (y 8 _ rfl x 1 dc)) (dO J fi)))) rfl)) (fE (cs:=[]) (te:=9) (ps:=[]) rfl dc evP.nil (fun _=>by kernel_rfl) (fun B=>pp 8 rfl rfl (lL (b:=(go,w,A,t,o)) (B,w,A,t,o) 1 (by rfl) (by rfl) rfl (dV (fun _=>rfl) (dV (fun x=>absurd x J) (Di (uq rfl)))) (nO (bZ (dO (fun h=>h.elim (fun x=>J (y 8 _ rfl (y 13 _ rfl (y 20 _ rfl x 13 dc) 8 dc) 1 dc)) (fun h=>absurd h dc)) (dO (fun h=>h.elim (fun x=>J (y 8 _ rfl (y 13 _ rfl x 8 dc) 1 dc)) (fun h=>absurd h dc)) (dO (fun h=>h.elim (fun x=>J (y 8 _ rfl x 1 dc)) (fun h=>absurd h dc)) (il (jf rfl) rfl)))) (bZ (ir (by rfl)) rfl))))))
  ·intro D b J hd y
   obtain⟨B,gf,A,t,o⟩:=b
   refine km (nO (bZ (dO (fun x=>J (y 13 _ rfl (y 20 _ rfl x 13 dc) 8 dc)) (dO (fun x=>J (y 13 _ rfl x 8 dc)) (dO J (il (hd 1 dc) rfl)))) rfl)) (mA ([]:List ae) (k:=8) rfl gj rfl (show 0≤maxLen by decide) (Cj (k:=8) (k2:=1) aG oq gj oG g5 rfl dc (jG (m:=1) rfl rfl (hd 1 dc)) (jG (m:=7) rfl rfl (hd 7 dc)) rfl rfl e9 (fun v8=>iq (k:=8) rfl (fun w hy=>?_))))
   subst hy
   exact lL (b:=(B,gf,A,t,o)) (B,w,A,t,o) 8 (by rfl) (by rfl) rfl (Dj (dV (fun x=>absurd x J) (uq rfl))) (nO (bZ (dO (fun h=>h.elim (fun x=>J (y 13 _ rfl (y 20 _ rfl x 13 dc) 8 dc)) (fun h=>absurd h dc)) (dO (fun h=>h.elim (fun x=>J (y 13 _ rfl x 8 dc)) (fun h=>absurd h dc)) (il (jf rfl) rfl))) (bZ (ir (by rfl)) rfl)))
  ·intro D b J hd y
   obtain⟨B,w,ge,t,o⟩:=b
   exact km (nO (bZ (dO (fun x=>J (y 13 _ rfl (y 20 _ rfl x 13 dc) 12 dc)) (dO (fun x=>J (y 13 _ rfl x 12 dc)) rfl)) (bZ (dO J fi) rfl))) (fE (cs:=[.string R]) (te:=9) (ps:=[(0,.tmp 265)]) rfl dc (evP.cons (jG (m:=11) rfl rfl (hd 11 dc)) evP.nil) (fun _=>by kernel_rfl) (fun A=>pp 9 rfl rfl (lL (b:=(B,w,ge,t,o)) (B,w,A,t,o) 12 (by rfl) (by rfl) rfl (uq (dV (fun x=>absurd x J) (Dj rfl))) (nO (bZ ((ir (by rfl)).trans (dO (fun x=>J (y 13 _ rfl (y 20 _ rfl x 13 dc) 12 dc)) (dO (fun x=>J (y 13 _ rfl x 12 dc)) rfl))) (bZ (il (jf rfl) rfl) rfl))))))
  ·intro D b J hd y
   obtain⟨B,w,A,gc,o⟩:=b
   refine km (nO (bZ (dO (fun x=>J (y 20 _ rfl x 13 dc)) (dO J (il (hd 8 dc) rfl))) (bZ (il (hd 12 dc) rfl) rfl))) (iC (k:=8) (k2:=9) (ys:=[R]) aG oq gj oG rfl dc (jG (m:=8) rfl rfl (hd 8 dc)) (jG (m:=12) rfl rfl (hd 12 dc)) rfl rfl rfl rfl e8 (fun v9=>iq (k:=8) rfl (fun t hx=>?_)))
   subst hx
   exact lL (b:=(B,w,A,gc,o)) (B,w,A,t,o) 13 (by rfl) (by rfl) rfl (dV (fun _=>rfl) (uq (dV (fun x=>absurd x J) (Di rfl)))) (nO (bZ (dO (fun h=>h.elim (fun x=>J (y 20 _ rfl x 13 dc)) (fun h=>absurd h dc)) (il (jf rfl) rfl)) (bZ ((ir (by rfl)).trans (il (hd 12 dc) rfl)) rfl)))
  ·intro D b J hd y
   obtain⟨B,w,A,t,gb⟩:=b
   refine km (nO (bZ (dO J (il (hd 13 dc) rfl)) (bZ (il (y 13 _ rfl (hd 13 dc) 12 dc) rfl) rfl))) (Cj (k:=8) (k2:=1) aG oq gj oG g4 rfl dc (jG (m:=13) rfl rfl (hd 13 dc)) (jG (m:=19) rfl rfl (hd 19 dc)) rfl rfl e6 (fun hN=>iq (k:=8) rfl (fun o hw=>?_)))
   subst hw
   exact lL (b:=(B,w,A,t,gb)) (B,w,A,t,o) 20 (by rfl) (by rfl) rfl (Dj (uq (dV (fun x=>absurd x J) rfl))) (nO (bZ (il (jf rfl) rfl) (bZ ((ir (by rfl)).trans (il (y 13 _ rfl (hd 13 dc) 12 dc) rfl)) rfl)))
  intro D b hall
  obtain⟨B,w,A,t,o⟩:=b
  exact km (nO (bZ (il (hall 20 dc) rfl) (bZ (il (hall 12 dc) rfl) rfl))) (za8 rfl dc rfl (zab uf rfl dc rfl (show _=0 from rfl) (ef (k:=0) (l':=[o.v,.map (some (bm _a)),_c.v,_d.v]) se rfl rfl rfl rfl rfl (fun _ _=>rfl) rfl (bG (cH (((([]:List ae)++(dM o1.Units 0 (Y+1)))++[R])++(dM o1.Units (Y+1) (o1.Units.length:Int)),o1.Fors,o) h rfl (bE rfl) (cg [0,8,2,3,4,5] kr rfl))))))
 rintro⟨l2,m1,df⟩ h
 rw[e2] at h
 refine zyG (zyR 2 rfl (za8 rfl dc rfl (zab zpZ rfl dc rfl (show _=3 from rfl) (zat (k:=0) nK rfl dc rfl rfl rfl (zyR 1 rfl (fE (cs:=[.string C]) (te:=9) (ps:=[(0,.tmp 282)]) rfl dc rfl (fun _=>by kernel_rfl) (fun hP=>zbt h fun e5 h=>iC (k:=4) (k2:=6) (ys:=[C]) aG oq gj oG rfl dc rfl rfl rfl rfl rfl rfl e5 (fun hM=>iq (k:=4) rfl (fun dd hv=>?_)))))))))
 subst hv
 refine za8 rfl dc rfl (zab zpZ rfl dc rfl (show _=3 from rfl) (ef (k:=0) (l':=[df.v,.map (some (bm _a)),_c.v,dd.v]) se rfl rfl rfl rfl rfl (fun _ _=>rfl) rfl (zyH (zbb (v:=.agg #[zI 0,zI 0]) (ps:=[]) rfl dc rfl (fun _=>by kernel_rfl) (eK (k:=5) (vs:=[zI 0,zI 0]) (l':=[zI 0,zI 0]) kn rfl rfl rfl rfl rfl (show _≤_ by simp) rfl rfl (zyN (zaz ?_)))))))
 cases h
 exact eB (rs:=[.cell 4 26]) (df,_a,_c,dd) (.inl rfl) gi (.cons (.cells kM (k:=5) rfl rfl rfl) .nil) rfl (cj 5)
def zfx (b:ae) (d:Int→Option ((Option db)×zaw)) (c:Int→Option ((Option db)×zaw)) (a:Int):Option ((Option db)×zaw) := aM (decide ((a:Int)<(b.size:Int))) (aT (jz b a) fun (c1:Int)=>aM ((c1:Int) != 10) (aU (cp (a+1)) <|c (a+1)) (d a)) (d a)
def zdC (a:ae) (q:(List ae)→(List (ae×List ae))→(List ae)→(List ae)→Option ((Option db)×zaw)) (n:(List ae)→(List (ae×List ae))→(List ae)→(List ae)→Int→Option ((Option db)×zaw)) (h:List ae) (g:List (ae×List ae)) (d:List ae) (c:List ae) (i:Int):Option ((Option db)×zaw) := aM (decide ((i:Int)≤(a.size:Int))) (cn (fun (p:Int→Option ((Option db)×zaw))=>zaC (fun _=>none) (zfx a p) zbC i) (fun (b:Int)=>cn (fun (o:(List ae)→(List (ae×List ae))→(List ae)→(List ae)→Option ((Option db)×zaw))=>aT (zk a i b) fun (r2:(List gI))=>aM (decide ((1:Int)<(r2.length:Int))) (aT (zt (⟨h,g,d,c⟩:db) r2) fun (r3:(zaw×db))=>aM ((r3.1.Err:Int) != 0) (some (none,r3.1)) (o r3.2.Units r3.2.Fors r3.2.Skips r3.2.Lines)) (o h g d c)) (fun (m:List ae) (l:List (ae×List ae)) (k:List ae) (j:List ae)=>aU (cp (b+1)) <|n m l k j (b+1)))) (q h g d c)
def uV (a:ae):Option ((Option db)×zaw) := aM (decide ((65536:Int)<(a.size:Int))) (some (none,(⟨3,65536⟩:zaw))) (cn (fun (g:(List ae)→(List (ae×List ae))→(List ae)→(List ae)→Option ((Option db)×zaw))=>aT (wW) fun (r1:db)=>zaC (fun _ _ _ _ _=>none) (zdC a g) zbC r1.Units r1.Fors r1.Skips r1.Lines 0) (fun (o1:List ae) (d:List (ae×List ae)) (c:List ae) (b:List ae)=>some ((some (⟨o1,d,c,b⟩:db)),(⟨0,0⟩:zaw))))
theorem K8 {a:ae} {r:((Option db)×zaw)} (h:uV a=some r):Fn prog 8 [.string a] [] (fun v0:Value=>.tuple #[v0,.agg (kD r.2).toArray]) (fun v0=>[jA pu pv 39 v0 r.1]):=by
 unfold uV at h
 refine _root_.Go.Proofs.YtifpjbgnikjglaaGreatDoor.Fn.intro func8 rfl ntmps8 (by simp) (fun w0 K=>zyG (zyR 1 rfl (zbk zrj rfl dc (fun b1=>zyN (zaL (zyG (zyR 1 rfl (zcX rfl dc rfl al (zaR rfl zdV (zyN (zyB rfl h (fun h=>?_) (fun h=>?_))))))))))))
 ·refine zyG (zbb (v:=.agg #[zI 3,zI 65536]) (ps:=[(0,.const (zI 3)),(1,.const (zI 65536))]) rfl dc rfl (fun _=>by kernel_rfl) (zyR 1 rfl (eK (k:=0) (vs:=[zI 3,zI 65536]) (l':=[zI 3,zI 65536]) kn rfl rfl rfl rfl rfl (show _≤_ by simp) rfl rfl (zyN (zaz (bP (z1 pu pv 39 ?_)))))))
  cases h
  exact eB (rs:=[.tmp 2,.cell 3 26]) (.pointer none) (.inl rfl) results8 (.cons (.tmp rfl) (.cons (.cells kM (k:=0) rfl rfl rfl) .nil)) rfl (cg [1] kr rfl)
 refine bA (ct (zbp h fun Z a9 h=>zaM (β:=(List ae)×(List (ae×List ae))×(List ae)×(List ae)×Nat×Hd×Nat×Hd×Hd) 1 rfl (fun b=>Z b.1 b.2.1 b.2.2.1 b.2.2.2.1=some r) (fun b=>[]) (fun b=>[(3,zP b1),(4,zP b.2.2.2.2.1)]) (fun b=>[cells b1 [zI 0,zI 0] 26,cells b.2.2.2.2.1 [b.2.2.2.2.2.1.v,.map (some b.2.2.2.2.2.2.1),b.2.2.2.2.2.2.2.1.v,b.2.2.2.2.2.2.2.2.v] 39,bD b.2.2.2.2.2.1.v b.1,dU b.2.2.2.2.2.2.1 b.2.1,bD b.2.2.2.2.2.2.2.1.v b.2.2.1,bD b.2.2.2.2.2.2.2.2.v b.2.2.2.1]) (fun cut=>?_) ?_))
 ·refine zyG (zbl h fun r1 a6 h=>zbJ (vs:=[]) rfl dc rfl rfl rfl Nk (T9 a6) ah ?_)
  rintro⟨z,O,N,M,J⟩
  refine lm (L':=[cells b1 [zI 0,zI 0] 26,cells z [O.v,.map (some (bm N)),M.v,J.v] 39,bD O.v r1.Units,dU (bm N) r1.Fors,bD M.v r1.Skips,bD J.v r1.Lines]) (cj 6) (zyR 1 rfl (zyN (cut (zyG (zyR 1 rfl (zyN (zau (eO (β:=Nat×(List ae)×(List (ae×List ae))×(List ae)×(List ae)×Int×Hd×Nat×Hd×Hd) (fun b=>zaC (fun _ _ _ _ _=>none) (zdC a Z) b.1 b.2.1 b.2.2.1 b.2.2.2.1 b.2.2.2.2.1 b.2.2.2.2.2.1=some r) (fun b=>[]) (fun b=>[(0,.string a),(3,zP b1),(4,zP z),(5,zI b.2.2.2.2.2.1)]) (fun b=>[cells b1 [zI 0,zI 0] 26,cells z [b.2.2.2.2.2.2.1.v,.map (some b.2.2.2.2.2.2.2.1),b.2.2.2.2.2.2.2.2.1.v,b.2.2.2.2.2.2.2.2.2.v] 39,bD b.2.2.2.2.2.2.1.v b.2.1,dU b.2.2.2.2.2.2.2.1 b.2.2.1,bD b.2.2.2.2.2.2.2.2.1.v b.2.2.2.1,bD b.2.2.2.2.2.2.2.2.2.v b.2.2.2.2.1]) (fun b=>b.1) (zbC,r1.Units,r1.Fors,r1.Skips,r1.Lines,0,O,(bm N),M,J) h rfl (bE rfl) (cj 6) ?_))))))))
  rintro⟨X,y,w,q,p,G,l,S,j,g⟩ h
  cases X with
  |zero=>exact eG h
  |succ X=>
   obtain⟨b0,I⟩:∃ag,ag=zaC (fun _ _ _ _ _=>none) (zdC a Z) X:=⟨_,rfl⟩
   have h:zdC a Z b0 y w q p G=some r:=by rw[I];exact h
   unfold zdC at h
   refine zaL (zyG (zyR 2 rfl (zcX rfl dc rfl al (zaR rfl hQ (zyN (zyB rfl h (fun h=>?_) (fun h=>?_)))))))
   ·refine bA (ct (zau (zbp h fun Y a8 h=>zaM (β:=Int) 1 rfl (fun b=>Y b=some r) (fun b=>[]) (fun b=>[(0,.string a),(3,zP b1),(4,zP z),(5,zI G),(6,zI b)]) (fun b=>[cells b1 [zI 0,zI 0] 26,cells z [l.v,.map (some S),j.v,g.v] 39,bD l.v y,dU S w,bD j.v q,bD g.v p]) (fun cut=>?_) ?_)))
    ·refine zyG (zyR 2 rfl (zyN (cut (zau (eO (β:=Nat×Int) (fun b=>zaC (fun _=>none) (zfx a Y) b.1 b.2=some r) (fun b=>[]) (fun b=>[(0,.string a),(3,zP b1),(4,zP z),(5,zI G),(6,zI b.2)]) (fun b=>[cells b1 [zI 0,zI 0] 26,cells z [l.v,.map (some S),j.v,g.v] 39,bD l.v y,dU S w,bD j.v q,bD g.v p]) (fun b=>b.1) (zbC,G) h rfl (bE rfl) (cj 6) ?_)))))
     rintro⟨W,m⟩ h
     cases W with
     |zero=>exact eG h
     |succ W=>
      obtain⟨bs,H⟩:∃ag,ag=zaC (fun _=>none) (zfx a Y) W:=⟨_,rfl⟩
      have h:zfx a Y bs m=some r:=by rw[H];exact h
      unfold zfx at h
      refine zaL (zyG (zyR 2 rfl (zcX rfl dc rfl al (zaR rfl zbi (zyR 1 rfl (zyS (s:=23) rfl h (fun h=>?_) (fun h=>?_)))))))
      ·refine zyR 2 rfl (zbl h fun c1 a5 h=>mS rfl dc rfl rfl (oY al a5) (zaR rfl zf8 (zyR 1 rfl (zyN (zyB rfl h (fun h=>?_) (fun h=>?_))))))
       ·refine bA (ct (zau (bV (zyR 1 rfl (zbt h fun bh h=>zaR rfl (dE (r:=m+1) (ai _ bh)) (zyR 1 rfl (bG (ca ?_))))))))
        subst H
        exact aD (W,m+1) h 6
       exact dF (bU (bU (dG (mD m h 6))))
      exact zyR 5 rfl (zyN (eh rfl (dF (bU (bU (dG (mD m h 6)))))))
    rintro o h
    rw[a8] at h
    refine zbp h fun j3 a7 h=>zaM (β:=(List ae)×(List (ae×List ae))×(List ae)×(List ae)×Hd×Nat×Hd×Hd) 0 rfl (fun b=>j3 b.1 b.2.1 b.2.2.1 b.2.2.2.1=some r) (fun b=>[]) (fun b=>[(0,.string a),(3,zP b1),(4,zP z),(6,zI o)]) (fun b=>[cells b1 [zI 0,zI 0] 26,cells z [b.2.2.2.2.1.v,.map (some b.2.2.2.2.2.1),b.2.2.2.2.2.2.1.v,b.2.2.2.2.2.2.2.v] 39,bD b.2.2.2.2.1.v b.1,dU b.2.2.2.2.2.1 b.2.1,bD b.2.2.2.2.2.2.1.v b.2.2.1,bD b.2.2.2.2.2.2.2.v b.2.2.2.1]) (fun cut=>?_) ?_
    ·refine cut (zyG (zyR 3 rfl (zbl h fun r2 a4 h=>zbJ (vs:=[.string a,zI G,zI o]) rfl dc rfl rfl rfl Nm (Ua a4) ah (fun v1=>iq (k:=6) rfl (fun F bk=>?_)))))
     subst bk
     refine zyR 1 rfl (zyH (zyR 1 rfl (gK (k:=6) rfl dc rfl rfl dz (zaR rfl zdV (zyN (zyB rfl h (fun h=>?_) (fun h=>?_)))))))
     ·refine zyG (zyR 2 rfl (kj (k:=6) rfl (fun a2=>zbl h fun r3 a3 h=>zlS (vs:=[zP z,F.v]) (tV:Rd _ _ []) rfl dc rfl rfl rfl Nn (UW (_g:=z) (o1:=(⟨y,w,q,p⟩:db)) (_f:=l) (_a:=(⟨some ⟨S,0,none⟩,0,0⟩:Hd)) (_c:=j) (_d:=g) a2 a3) (cg [1,2,3,4,5] kr rfl) (.own (As:=[ur F.v r2]) (cg [6] kr rfl) (fun _ _ h=>oo CW (aQ.1 h)) .nil) ?_)))
      rintro⟨E,C,B,A⟩
      refine lm (L':=[cells b1 [zI 0,zI 0] 26,cells z [E.v,.map (some (bm C)),B.v,A.v] 39,bD E.v r3.2.Units,dU (bm C) r3.2.Fors,bD B.v r3.2.Skips,bD A.v r3.2.Lines,ur F.v r2]) (cg [0,7,8,9,10,11,6] kr rfl) (zbk zrj rfl dc (fun b9=>eK (k:=7) (vs:=(kD r3.1)) (l':=(kD r3.1)) kn rfl rfl rfl rfl rfl (show _≤_ by simp) rfl rfl (zyH (zab Cw rfl dc rfl (show _=0 from rfl) (zat (k:=7) Cv rfl dc rfl rfl rfl (zaR rfl zf8 (zyN (zyB rfl h (fun h=>?_) (fun h=>?_)))))))))
      ·refine zaL (zdb 2 [(0,44,.agg (kD r3.1).toArray),(1,2,.pointer none)] mixed kr kr dc (by rfl) kr kr (zae (fun D n d c u i=>zbT (k:=7) (cs:=(kD r3.1)) kM rfl dc (zbA (by rfl) rfl) rfl rfl rfl (zaT 0 u i)) (zae (fun D n d c u i=>zyR 1 rfl (zaT 1 u i)) ce)) (eK (k:=0) (vs:=(kD r3.1)) (l':=(kD r3.1)) kn rfl rfl rfl rfl rfl (show _≤_ by simp) rfl rfl (zyN (zaz (bP (cD (bP (cD (bP (z1 pu pv 39 ?_))))))))))
       cases h
       exact eB (rs:=[.tmp 2,.cell 3 26]) (.pointer none) (.inl rfl) results8 (.cons (.tmp rfl) (.cons (.cells kM (k:=0) rfl rfl rfl) .nil)) rfl (cg [8] kr rfl)
      exact bA (mD (r3.2.Units,r3.2.Fors,r3.2.Skips,r3.2.Lines,E,(bm C),B,A) h 6)
     exact bA (mD (y,w,q,p,l,S,j,g) h 6)
    rintro⟨a1,a0,aw,ao,V,b8,U,T⟩ h
    rw[a7] at h
    refine bV (zyR 1 rfl (zbt h fun bb h=>zaR rfl (dE (r:=o+1) (ai _ bb)) (zyR 1 rfl (bG (ca ?_)))))
    subst I
    exact aD (X,a1,a0,aw,ao,o+1,V,b8,U,T) h 6
   exact dF (bU (bU (dG (mD (y,w,q,p,z,l,S,j,g) h 6))))
 rintro⟨o1,o2,o3,o4,b2,R,b3,Q,P⟩ h
 rw[a9] at h
 refine zyG (zyR 1 rfl (zbb (v:=.agg #[zI 0,zI 0]) (ps:=[]) rfl dc rfl (fun _=>by kernel_rfl) (zyR 1 rfl (eK (k:=0) (vs:=[zI 0,zI 0]) (l':=[zI 0,zI 0]) kn rfl rfl rfl rfl rfl (show _≤_ by simp) rfl rfl (zyN (zaz (F3 (As:=[cells b2 [R.v,.map (some b3),Q.v,P.v] 39,bD R.v o1,dU b3 o2,bD Q.v o3,bD P.v o4]) (cg [1,2,3,4,5] kr rfl) (Gq (enc:=pu) (nest:=pv) (t:=39) (x:=(⟨o1,o2,o3,o4⟩:db)) (b:=b2) (hd:=(R,(⟨some ⟨b3,0,none⟩,0,0⟩:Hd),Q,P))) (fun _ _=>?_))))))))
 cases h
 exact eB (rs:=[.tmp 2,.cell 3 26]) (zP b2) (.inl rfl) results8 (.cons (.tmp rfl) (.cons (.cells kM (k:=0) rfl rfl rfl) .nil)) rfl (cg [6] kr rfl)
theorem UX:(match wW with | some o=>decide (o.Units=us0)&&o.Fors.isEmpty&&o.Skips.isEmpty&&o.Lines.isEmpty | none=>false)=true:=by decide +kernel
theorem UY:wW=some (⟨us0,[],[],[]⟩:db):=by
 have h:=UX
 cases hb:wW with
 |none=>rw[hb] at h;cases h
 |some o=>
  rw[hb] at h
  simp only[Bool.and_eq_true,decide_eq_true_eq,List.isEmpty_iff] at h
  obtain⟨⟨⟨h1,h2⟩,h3⟩,a⟩:=h
  obtain⟨u,f,s,l⟩:=o
  simp only at h1 h2 h3 a
  subst h1;subst h2;subst h3;subst a
  rfl
structure k8 (o:cw) (w:db):Prop where
 un:w.Units=o.units
 fo:w.Fors=o.fors
 li:w.Lines=o.lines
 sk:∀f,(zbO f o.skips).getD false=w.Skips.any fun s=>decide (s=f)
 sl:w.Skips.length≤w.Lines.length
theorem k8.rel {o:cw} {w:db} (h:k8 o w) (hi:fj o):rI o w:=⟨h.un,h.fo,h.li,h.sk,by have h1:=h.sl;have h2:=hi.ll;rw[h.li] at h1;omega⟩
theorem UZ:k8 rF (⟨us0,[],[],[]⟩:db):=⟨rfl,rfl,rfl,fun f=>rfl,bi _⟩
abbrev Wr:=gI
def rW (w:Wd):Wr:=⟨w.at_,w.text⟩
def lE (a:List Wd) (e:Int):List Wr:=a.map rW++[⟨e,zfn⟩]
theorem zu (a:List Wd) (e:Int):(lE a e).length=a.length+1:=by unfold lE;rw[aa,ar];rfl
theorem sS {a:List Wd} {e:Int} {k:Nat} {w:Wd} (h:a[k]?=some w):(lE a e)[k]?=some (rW w):=by
 have hk:=(az.1 h).1
 unfold lE
 rw[List.getElem?_append_left (by rw[ar];exact hk),bT,h];rfl
theorem U0 (a:List Wd) (e:Int):(lE a e)[a.length]?=some (⟨e,zfn⟩:Wr):=by
 unfold lE
 rw[fT (by rw[ar];exact bi _),ar,mR];rfl
theorem U1 {run a:List UInt8} (b:run≠[]) (h:∀c∈run,c≠32) (hr:a=[]∨∃l,a=32::l) (i:Nat):gC (run++a) i none=(i,run)::gC a (i+run.length) none:=by
 rw[TY b h]
 rcases hr with rfl|⟨l,rfl⟩
 ·rfl
 ·rw[y9,y9];rfl
section
variable {text:ae} {L:List UInt8} {f e:Nat}
theorem K9 (hL:(text.data.toList.drop f).take (e-f)=L) {k:Nat} {c:UInt8} (h:L[k]?=some c):jz text ((f:Int)+(k:Int))=some (c.toNat:Int)∧f+k<e:=by
 have hk:=(az.1 h).1
 rw[←hL] at h hk
 rw[bw] at hk
 rw[List.getElem?_take_of_lt (by omega),List.getElem?_drop] at h
 have:=za h
 push_cast at this
 exact⟨this,by omega⟩
theorem U2 (hL:(text.data.toList.drop f).take (e-f)=L) (l:f≤e) (he:e≤text.size) (p:text.size≤1000000000) (J:Int→Option (List Wr)) :
  ∀ (n:Nat) (B A:List UInt8),L=A++B→B.length<n→zaC (fun _=>none) (ze3 text (e:Int) J) n ((f:Int)+(A.length:Int))=J ((f:Int)+((A.length+(B.takeWhile fun c=>c != 32).length:Nat):Int)):=by
 have m:L.length=e-f:=by
  rw[←hL,bw,aR,←gJ];omega
 intro n
 induction n with
 |zero=>intro B A _ h;omega
 |succ n i=>
  intro B A b j
  rw[fX]
  generalize g:zaC (fun _=>none) (ze3 text (e:Int) J) n=ag
  unfold ze3
  have a:L.length=A.length+B.length:=by rw[b,aa]
  cases B with
  |nil=>
   rw[aI] at a
   exact fP rfl
  |cons c B=>
   rw[ab] at a j
   obtain⟨o,q⟩:=K9 hL (k:=A.length) (c:=c) (by rw[b];simp)
   refine eW (bf o ?_)
   rw[aV]
   by_cases hc:c=32
   ·subst hc
    exact bM rfl rfl
   ·have h1:(((c.toNat:Int):Int) != 32)=true:=du.2 fun h=>hc (kA.1 (by show c.toNat=32;omega))
    have h2:(c != 32)=true:=du.2 hc
    rw[h2,ax rfl]
    have d:=i B (A++[c]) (by rw[b,aB];rfl) (by omega)
    rw[g,show (A++[c]).length=A.length+1 by simp] at d
    push_cast at d
    refine bQ h1 (gO ?_)
    rw[show (f:Int)+(A.length:Int)+1=(f:Int)+((A.length:Int)+1) by omega,d,ab]
    congr 1
    push_cast;omega
theorem U3 (hL:(text.data.toList.drop f).take (e-f)=L) (s:f≤e) (he:e≤text.size) (v:text.size≤1000000000) (J:List Wr→Option (List Wr)) :
  ∀ (n:Nat) (B A:List UInt8) (E:List Wr),L=A++B→B.length<n→E.length+B.length≤1000000000 →
   zaC (fun _ _=>none) (ze4 text (e:Int) J) n E ((f:Int)+(A.length:Int))=J (E++((gC B A.length none).map (jv (f:Int))).map rW):=by
 have z:L.length=e-f:=by
  rw[←hL,bw,aR,←gJ];omega
 intro n
 induction n with
 |zero=>intro B A E _ h;omega
 |succ n t=>
  intro B A E b x C
  rw[fX]
  generalize r:zaC (fun _ _=>none) (ze4 text (e:Int) J) n=ag
  unfold ze4
  have i:L.length=A.length+B.length:=by rw[b,aa]
  cases B with
  |nil=>
   rw[aI] at i
   refine fP ?_
   show J E=J (E++[])
   rw[aE]
  |cons c B=>
   rw[ab] at i x C
   obtain⟨D,F⟩:=K9 hL (k:=A.length) (c:=c) (by rw[b];simp)
   refine eW (bf D ?_)
   by_cases hc:c=32
   ·subst hc
    have m:=t B (A++[32]) E (by rw[b,aB];rfl) (by omega) (by omega)
    rw[r,show (A++[(32:UInt8)]).length=A.length+1 by simp] at m
    push_cast at m
    refine bQ rfl (gO ?_)
    rw[show (f:Int)+(A.length:Int)+1=(f:Int)+((A.length:Int)+1) by omega,m,y9]
    rfl
   ·have h1:(((c.toNat:Int):Int)==32)=false:=aA.2 fun h=>hc (kA.1 (by show c.toNat=32;omega))
    have h2:(c != 32)=true:=du.2 hc
    refine bM h1 (cA ?_)
    refine (U2 hL s he v _ zbC (c::B) A b (by rw[ab];unfold zbC;omega)).trans ?_
    have a:c::B=(c::B).takeWhile (fun c=>c != 32)++(c::B).dropWhile fun c=>c != 32:=List.takeWhile_append_dropWhile.symm
    have j:(c::B).takeWhile (fun c=>c != 32)≠[]:=by rw[aV,h2,ax rfl];simp
    have o:∀d∈(c::B).takeWhile (fun c=>c != 32),d≠32:=fun d hd=>du.1 (List.all_eq_true.1 (List.all_takeWhile (p:=fun c:UInt8=>c != 32) (l:=c::B)) d hd)
    have g:(c::B).dropWhile (fun c=>c != 32)=[]∨∃l,(c::B).dropWhile (fun c=>c != 32)=32::l:=by
     have:=jS (fun c:UInt8=>c != 32) (c::B)
     cases hd:(c::B).dropWhile (fun c=>c != 32) with
     |nil=>exact .inl rfl
     |cons d l=>
      rw[hd] at this
      have h3:(d != 32)=false:=by simpa using this
      exact .inr ⟨l,by rw[bne_eq_false_iff_eq.1 h3]⟩
    generalize (c::B).takeWhile (fun c=>c != 32)=run at a j o ⊢
    generalize (c::B).dropWhile (fun c=>c != 32)=rest at a g
    have w:=cU.2 j
    have y:B.length+1=run.length+rest.length:=by
     have:=aH fu a
     rw[ab,aa] at this;exact this
    have m:=t rest (A++run) (E++[(⟨(f:Int)+(A.length:Int),ba run⟩:Wr)]) (by rw[b,a,aB]) (by omega) (by rw[aa];show _+1+_≤_;omega)
    rw[r,aa] at m
    have q:cL text ((f:Int)+(A.length:Int)) ((f:Int)+((A.length+run.length:Nat):Int))=ba run:=by
     apply qM
     have:=rD text (f+A.length) (f+(A.length+run.length))
     push_cast at this
     push_cast
     rw[this,qN,show f+(A.length+run.length)-(f+A.length)=run.length by omega]
     have u:L.drop A.length=run++rest:=by rw[b,List.drop_left,a]
     rw[←hL,List.drop_take,fa] at u
     have h5:=aH (List.take run.length) u
     rw[List.take_take,jZ,Nat.min_eq_left (by omega)] at h5
     exact h5
    refine gO (gO ?_)
    rw[q,m,a,U1 j o g]
    congr 1
    rw[aB];rfl
end
theorem U4 (text:ae) (f e:Nat) (a:f≤e) (he:e≤text.size) (d:text.size≤1000000000) :
  zk text (f:Int) (e:Int)=some (lE ((gC ((text.data.toList.drop f).take (e-f)) 0 none).map (jv (f:Int))) (e:Int)):=by
 unfold zk
 refine cA ?_
 have g:((text.data.toList.drop f).take (e-f)).length=e-f:=by
  rw[bw,aR,←gJ];omega
 have:=U3 (L:=(text.data.toList.drop f).take (e-f)) rfl a he d (fun (b:List Wr)=>
  aU (b.length+1≤2147483648)<|some (b++[(⟨(e:Int),(⟨#[]⟩:ae)⟩:Wr)])) zbC ((text.data.toList.drop f).take (e-f)) [] [] (aW _).symm (by unfold zbC;omega) (by rw[aI];omega)
 rw[aI,show (f:Int)+((0:Nat):Int)=(f:Int) by omega] at this
 refine this.trans ?_
 have c:=(uS ((text.data.toList.drop f).take (e-f)) 0 none).2
 have c:(gC ((text.data.toList.drop f).take (e-f)) 0 none).length≤((text.data.toList.drop f).take (e-f)).length+0:=c
 rw[aW]
 exact zdG (by rw[ar,ar];omega) rfl
def nQ (e:Int):List ae→List Wd→Option Int
 |[],[]=>none
 |[],w::_=>some w.at_
 |_::_,[]=>some e
 |s::S,w::W=>if s≠zfn∧s≠w.text then some w.at_ else nQ e S W
def uW (put:Bool) (a:ae) (n:Nat):List ae:=(List.range n).map fun i=>if i=0 then a else if put=true∧i=2 then qd else zfn
theorem U5 (w:db) (b:List Wd) (e:Int) (S:List ae) (J:Option (zaw×db)) (y:b.length≤1000000000) (z:S.length≤1000) :
  ∀ (n:Nat) (T:List ae) (W:List Wd) (A:List ae) (C:List Wd),S=A++T→b=C++W→A.length=C.length→T.length+W.length<n →
   zaC (fun _=>none) (zdu w (lE b e) S J) n (A.length:Int)=match nQ e T W with | some a=>some ((⟨220,a⟩:zaw),w) | none=>J:=by
 intro n
 induction n with
 |zero=>intro T W A C _ _ _ h;omega
 |succ n t=>
  intro T W A C hA j d p
  rw[fX]
  generalize o:zaC (fun _=>none) (zdu w (lE b e) S J) n=ag
  unfold zdu
  have m:((lE b e).length:Int)-1=(b.length:Int):=by rw[zu];omega
  have i:S.length=A.length+T.length:=by rw[hA,aa]
  have c:b.length=C.length+W.length:=by rw[j,aa]
  rw[m]
  have g:∀k v,min A.length b.length=k→(lE b e)[k]?=some v→(aT (zcx (lE b e) (min (A.length:Int) (b.length:Int))) fun (r:gI)=>some ((⟨220,r.at_⟩:zaw),w))=some ((⟨220,v.at_⟩:zaw),w):=fun k v hk hv=>by
   rw[show min (A.length:Int) (b.length:Int)=(k:Int) by omega]
   exact bf (gw hv) rfl
  refine cA ?_
  cases T with
  |nil=>
   rw[aI] at i
   refine fP ?_
   cases W with
   |nil=>
    rw[aI] at c
    exact fP rfl
   |cons x W=>
    rw[ab] at c
    have hx:b[A.length]?=some x:=by rw[j,d];simp
    refine eW (cA (fP (eW ?_)))
    exact g A.length (rW x) (by omega) (sS hx)
  |cons s T=>
   rw[ab] at i p
   refine eW (cA ?_)
   cases W with
   |nil=>
    rw[aI] at c
    refine eW ?_
    exact g b.length ⟨e,zfn⟩ (by omega) (U0 b e)
   |cons x W=>
    rw[ab] at c p
    have hx:b[A.length]?=some x:=by rw[j,d];simp
    have u:S[A.length]?=some s:=by rw[hA];simp
    have l:=t T W (A++[s]) (C++[x]) (by rw[hA,aB];rfl) (by rw[j,aB];rfl) (by simp[d]) (by omega)
    rw[o,show (A++[s]).length=A.length+1 by simp] at l
    push_cast at l
    have q:(aU (cp ((A.length:Int)+1))<|ag ((A.length:Int)+1))=match nQ e T W with | some a=>some ((⟨220,a⟩:zaw),w) | none=>J:=gO l
    refine fP (fP (bf (gw u) ?_))
    rw[nQ]
    by_cases h1:s=zfn
    ·rw[ap (fun h=>h.1 h1)]
     exact bM (by rw[au h1];rfl) q
    ·refine bQ (by rw[aj h1];rfl) (bf (gw (sS hx)) ?_)
     by_cases h2:s=x.text
     ·rw[ap (fun h=>h.2 h2)]
      exact bM (by show (!decide (s=x.text))=false;rw[au h2];rfl) q
     ·rw[ax ⟨h1,h2⟩]
      refine bQ (by show (!decide (s=x.text))=true;rw[aj h2];rfl) ?_
      exact g A.length (rW x) (by omega) (sS hx)
theorem BM (e:Int):∀ (W:List Wd) (n:Nat),nQ e (bF n zfn) W=if W.length<n then some e else if n<W.length then some (nu W n) else none
 |[],0=>rfl
 |w::W,0=>by
  show some w.at_=_
  rw[ap (by omega),ax (by rw[ab];omega)];rfl
 |[],n+1=>by
  show some e=_
  rw[ax (by show 0<n+1;omega)]
 |w::W,n+1=>by
  rw[List.replicate_succ,nQ,ap (fun h=>h.1 rfl),BM e W n,ab]
  by_cases h1:W.length<n
  ·rw[ax h1,ax (show W.length+1<n+1 by omega)]
  ·rw[ap h1,ap (show ¬W.length+1<n+1 by omega)]
   by_cases h2:n<W.length
   ·rw[ax h2,ax (show n+1<W.length+1 by omega)];rfl
   ·rw[ap h2,ap (show ¬n+1<W.length+1 by omega)]
def tQ (a:Int):Option Int:=if 0≤a then some a else none
theorem gP:cAs≠ig∧mj≠ig∧mj≠cAs∧ig≠zfn∧cAs≠zfn∧mj≠zfn∧qd≠zfn:=by decide
theorem zw {l:List Wd} {e:Int} (he:0≤e) (ha:∀w∈l,0≤w.at_) (a b:Nat):tQ (sO l e a b)=if l.length<a then some e else if b<l.length then some (nu l b) else none:=by
 unfold sO tQ
 by_cases h1:l.length<a
 ·rw[ax h1,ax h1,ax he]
 ·rw[ap h1,ap h1]
  by_cases h2:b<l.length
  ·rw[ax h2,ax h2,ax (show 0≤nu l b from ha _ (aL (oT (d:=w0) h2)))]
  ·rw[ap h2,ap h2];rfl
theorem La (w:Wd) (W:List Wd) (n:Nat):nu (w::W) (n+1)=nu W n:=rfl
theorem U6 {a:List Wd} {e:Int} (he:0≤e) (ha:∀w∈a,0≤w.at_) (h0:0<a.length) (hv:(a.getD 0 w0).text=ig):nQ e [ig,zfn,qd,zfn] a=tQ (l8 a e):=by
 unfold l8
 rw[ax hv]
 match a,ha,h0,hv with
 |[w],ha,_,hv=>
  have hv:w.text=ig:=hv
  rw[nQ,ap (fun h=>h.2 hv.symm),ap (fun h=>by have:=h.1;simp at this),zw he ha]
  rfl
 |[w,x],ha,_,hv=>
  have hv:w.text=ig:=hv
  rw[nQ,ap (fun h=>h.2 hv.symm),nQ,ap (fun h=>h.1 rfl),ap (fun h=>by have:=h.1;simp at this),zw he ha]
  rfl
 |w::x::y::W,ha,_,hv=>
  have hv:w.text=ig:=hv
  rw[nQ,ap (fun h=>h.2 hv.symm),nQ,ap (fun h=>h.1 rfl),nQ]
  by_cases hy:y.text=qd
  ·rw[ap (fun h=>h.2 hy.symm),ap (fun h=>h.2 hy),zw he ha,show [zfn]=bF 1 zfn from rfl,BM]
   simp only[ab,La]
   by_cases h1:W.length<1
   ·rw[ax h1,ax (show W.length+1+1+1<4 by omega)]
   ·rw[ap h1,ap (show ¬W.length+1+1+1<4 by omega)]
    by_cases h2:1<W.length
    ·rw[ax h2,ax (show 4<W.length+1+1+1 by omega)]
    ·rw[ap h2,ap (show ¬4<W.length+1+1+1 by omega)]
  ·rw[ax ⟨gP.2.2.2.2.2.2,fun h=>hy h.symm⟩,ax ⟨by simp,hy⟩]
   unfold tQ
   rw[ax (show 0≤nu (w::x::y::W) 2 from ha y (by simp))];rfl
theorem U7 {a:List Wd} {e:Int} (he:0≤e) (ha:∀w∈a,0≤w.at_) (h0:0<a.length) (hv:(a.getD 0 w0).text=mj):nQ e [mj,zfn] a=tQ (l8 a e):=by
 unfold l8
 rw[hv,ap gP.2.1,ap gP.2.2.1,ax rfl]
 match a,ha,h0,hv with
 |w::W,ha,_,hv=>
  have hv:w.text=mj:=hv
  rw[nQ,ap (fun h=>h.2 hv.symm),zw he ha,show [zfn]=bF 1 zfn from rfl,BM]
  simp only[ab,La]
  by_cases h1:W.length<1
  ·rw[ax h1,ax (show W.length+1<2 by omega)]
  ·rw[ap h1,ap (show ¬W.length+1<2 by omega)]
   by_cases h2:1<W.length
   ·rw[ax h2,ax (show 2<W.length+1 by omega)]
   ·rw[ap h2,ap (show ¬2<W.length+1 by omega)]
theorem U9 {a:List Wd} {e:Int} (he:0≤e) (ha:∀w∈a,0≤w.at_) (h0:0<a.length) (hv:(a.getD 0 w0).text=cAs):nQ e (cAs::bF (max 3 (min a.length 6)-1) zfn) a=tQ (l8 a e):=by
 unfold l8
 rw[hv,ap gP.1,ax rfl]
 match a,ha,h0,hv with
 |w::W,ha,_,hv=>
  have hv:w.text=cAs:=hv
  rw[nQ,ap (fun h=>h.2 hv.symm),zw he ha,BM]
  simp only[ab]
  by_cases h1:W.length+1<3
  ·rw[ax h1,ax (show W.length<max 3 (min (W.length+1) 6)-1 by omega)]
  ·rw[ap h1,ap (show ¬W.length<max 3 (min (W.length+1) 6)-1 by omega)]
   by_cases h2:6<W.length+1
   ·rw[ax h2,ax (show max 3 (min (W.length+1) 6)-1<W.length by omega),show max 3 (min (W.length+1) 6)-1=5 by omega];rfl
   ·rw[ap h2,ap (show ¬max 3 (min (W.length+1) 6)-1<W.length by omega)]
theorem Vo (a:List Wd) (e:Int) (J:List ae→Option (zaw×db)):∀ (n k:Nat),3≤k→k≤max 3 (min a.length 6)→10<n+k →
  zaC (fun _=>none) (zdv (lE a e) J) n (cAs::bF (k-1) zfn)=J (cAs::bF (max 3 (min a.length 6)-1) zfn):=by
 intro n
 induction n with
 |zero=>intro k h1 h2 h3;omega
 |succ n c=>
  intro k h1 h2 h3
  rw[fX]
  generalize d:zaC (fun _=>none) (zdv (lE a e) J) n=ag at c
  unfold zdv
  have b:((lE a e).length:Int)-1=(a.length:Int):=by rw[zu];omega
  have hk:(cAs::bF (k-1) zfn).length=k:=by rw[ab,pV];omega
  rw[b,hk]
  by_cases h:k<a.length
  ·refine eW ?_
   by_cases g:k<6
   ·refine eW (gO ?_)
    have:=c (k+1) (by omega) (by omega) (by omega)
    rw[←this]
    congr 1
    rw[bq,show k+1-1=(k-1)+1 by omega,List.replicate_succ']
   ·refine fP ?_
    rw[show max 3 (min a.length 6)=k by omega]
  ·refine fP ?_
   rw[show max 3 (min a.length 6)=k by omega]
theorem Vt (w:db) (d:List Wd) (e:Int) (S:List ae) (put:Bool) (b:ae) (J:List ae→ae→Option (zaw×db)) (O:d.length≤1000) (C:∀w∈d,w.text.size≤65536)
  (u:S=uW put b d.length) (l:b≠zfn) (k:b≠qd) :
  ∀ (n:Nat) (B A:List Wd) (D:List ae) (said:ae),d=A++B→D.length=A.length→B.length<n→said.size≤65536+1000*A.length →
   zaC (fun _ _ _=>none) (zdt w (lE d e) S J) n D said (A.length:Int) =
    match jD put A.length B with
    |.inl a=>some ((⟨221,a⟩:zaw),w)
    |.inr (f,s)=>J (D++f) (said++s):=by
 have H:S.length=d.length:=by rw[u];unfold uW;rw[ar,List.length_range]
 have q:∀i,i<d.length→S[i]?=some (if i=0 then b else if put=true∧i=2 then qd else zfn):=fun i hi=>by
  rw[u];unfold uW
  rw[bT,kV hi];rfl
 intro n
 induction n with
 |zero=>intro B A D said _ _ h;omega
 |succ n v=>
  intro B A D said hA K F N
  rw[fX]
  generalize p:zaC (fun _ _ _=>none) (zdt w (lE d e) S J) n=ag
  unfold zdt
  have g:d.length=A.length+B.length:=by rw[hA,aa]
  cases B with
  |nil=>
   rw[aI] at g
   refine fP ?_
   show J D said=J (D++[]) (said++zfn)
   rw[aE,show zfn=ad from rfl,aX]
  |cons x B=>
   rw[ab] at g F
   have hx:d[A.length]?=some x:=by rw[hA];simp
   have hg:=q A.length (by omega)
   have j:=fun (y:ae) (c:ae) (o:c.size≤65536+1000*(A.length+1))=>v B (A++[x]) (D++[y]) c (by rw[hA,aB];rfl) (by rw[aa,aa,K];rfl) (by omega) (by rw[aa];exact o)
   rw[p,show (A++[x]).length=A.length+1 by simp] at j
   push_cast at j
   have t:∀ (y z:ae),z.size≤1000→(aU (cp ((A.length:Int)+1))<|ag (D++[y]) (said++z) ((A.length:Int)+1))=match jD put (A.length+1) B with | .inl a=>some ((⟨221,a⟩:zaw),w) | .inr (f,s)=>J (D++y::f) (said++(z++s)):=fun y z hz=>by
    refine gO ((j y (said++z) (by rw[aJ];omega)).trans ?_)
    cases jD put (A.length+1) B with
    |inl a=>rfl
    |inr fs=>
     obtain⟨f,s⟩:=fs
     show J ((D++[y])++f) ((said++z)++s)=_
     rw[aB,cu];rfl
   have r:∀y:ae,(aU (cp ((A.length:Int)+1))<|ag (D++[y]) said ((A.length:Int)+1))=match jD put (A.length+1) B with | .inl a=>some ((⟨221,a⟩:zaw),w) | .inr (f,s)=>J (D++y::f) (said++(zfn++s)):=fun y=>by
    have:=t y zfn (by show 0≤1000;omega)
    rw[show said++zfn=said from aX] at this
    exact this
   have I:D.length≤1000:=by omega
   refine eW (cA (bf (gw hg) ?_))
   rw[jD]
   by_cases h0:A.length=0
   ·rw[ax (show A.length=0∨(put=true∧A.length=2) from .inl h0),ax h0,ax h0]
    refine bQ (by rw[aj l];rfl) (cA (gO (bM (aj k) ((r zfn).trans ?_))))
    cases jD put (A.length+1) B with
    |inl a=>rfl
    |inr fs=>rfl
   ·rw[ap h0]
    by_cases h2:put=true∧A.length=2
    ·rw[ax (show A.length=0∨(put=true∧A.length=2) from .inr h2),ax h2,ap h0]
     refine bQ (by decide) (cA (gO (bQ (by decide) (zdG (by show said.size+6≤_;omega) ((t zfn zu5 (by show 6≤1000;omega)).trans ?_)))))
     cases jD put (A.length+1) B with
     |inl a=>rfl
     |inr fs=>rfl
    ·rw[ap (show ¬(A.length=0∨(put=true∧A.length=2)) from fun h=>by rcases h with h | h;exact h0 h;exact h2 h),ap h2]
     have M:=zc x.text
     have m:=C x (aL hx)
     have E:=(sJ (zfV x.text) (by omega)).2.2.2
     refine bM (by decide) (bf (gw (sS hx)) (bf (Ue x.text m) ?_))
     by_cases he:zfV x.text=zfn
     ·rw[ax he]
      exact bQ (au he) (bf (gw (sS hx)) rfl)
     ·rw[ap he]
      have G:(⟨#[32]⟩:ae).size=1:=rfl
      refine bM (aj he) (gO (bf (Ji _ (by omega)) (gO (zdG (by rw[aJ];omega) ((t (zfV x.text) (zxJ++zzN (zfV x.text)) (by rw[aJ];show 1+_≤1000;omega)).trans ?_)))))
      cases jD put (A.length+1) B with
      |inl a=>rfl
      |inr fs=>rfl
def w4 (w:db) (o:cw) (l:List Wd) (e:Int):zaw×db :=
 if o.lines.length=256 then (⟨3,nu l 0⟩,w)
 else if 0≤l8 l e then (⟨220,l8 l e⟩,w)
 else match jD (decide ((l.getD 0 w0).text=ig)) 0 l with
  |.inl a=>(⟨221,a⟩,w)
  |.inr (fs,s)=>
   if (l.getD 0 w0).text=mj then
    (if (zbO (iH (fD fs 1)) o.skips).getD false=true then (⟨222,nu l 1⟩,w) else (⟨0,0⟩,⟨w.Units,w.Fors,w.Skips++[iH (fD fs 1)],w.Lines++[wT l s]⟩))
   else if lr o (fD fs 1)=true then (⟨222,nu l 1⟩,w)
   else match mK o 0 fs l with
    |some a=>(⟨223,a⟩,w)
    |none=>(⟨0,0⟩,if (l.getD 0 w0).text=ig then ⟨jh w.Units ((zbO (fD fs 3) o.place).getD 0+1) (fD fs 1),w.Fors,w.Skips,w.Lines++[wT l s]⟩ else ⟨w.Units,hU (fD fs 1) (fs.drop 2) w.Fors,w.Skips,w.Lines++[wT l s]⟩)
theorem Vu {o:cw} {w:db} (hr:k8 o w) (l:List Wd) (e:Int):(w4 w o l e).1=(ox o l e).1∧k8 (ox o l e).2 (w4 w o l e).2:=by
 unfold w4 ox
 by_cases h1:o.lines.length=256
 ·rw[ax h1,ax h1];exact⟨rfl,hr⟩
 rw[ap h1,ap h1]
 by_cases h2:0≤l8 l e
 ·rw[ax h2,ax h2];exact⟨rfl,hr⟩
 rw[ap h2,ap h2]
 cases hf:jD (decide ((l.getD 0 w0).text=ig)) 0 l with
 |inl a=>exact⟨rfl,hr⟩
 |inr fs=>
  obtain⟨fs,s⟩:=fs
  show ((ite _ _ _:zaw×db)).1=((ite _ _ _:zaw×cw)).1∧k8 ((ite _ _ _:zaw×cw)).2 ((ite _ _ _:zaw×db)).2
  by_cases b:(l.getD 0 w0).text=mj
  ·rw[ax b,ax b]
   by_cases hb:(zbO (iH (fD fs 1)) o.skips).getD false=true
   ·rw[ax hb,ax hb];exact⟨rfl,hr⟩
   ·rw[ap hb,ap hb]
    refine⟨rfl,hr.un,hr.fo,?_,fun f=>?_,?_⟩
    ·show w.Lines++_=o.lines++_
     rw[hr.li]
    ·show (zbO f (hU (iH (fD fs 1)) true o.skips)).getD false=(w.Skips++[iH (fD fs 1)]).any fun s=>decide (s=f)
     rw[wS,List.any_append,←hr.sk]
     by_cases c:f=iH (fD fs 1)
     ·rw[ax c,c]
      simp
     ·rw[ap c]
      have:decide (iH (fD fs 1)=f)=false:=aj fun h=>c h.symm
      simp[this]
    ·show (w.Skips++[_]).length≤(w.Lines++[_]).length
     have:=hr.sl
     rw[aa,aa]
     show _+1≤_+1
     omega
  ·rw[ap b,ap b]
   by_cases hb:lr o (fD fs 1)=true
   ·rw[ax hb,ax hb];exact⟨rfl,hr⟩
   ·rw[ap hb,ap hb]
    cases d:mK o 0 fs l with
    |some a=>exact⟨rfl,hr⟩
    |none=>
     have sl:∀x:ae,w.Skips.length≤(w.Lines++[x]).length:=fun x=>by
      have:=hr.sl
      rw[aa];omega
     refine⟨rfl,?_⟩
     show k8 (ite _ _ _:cw) (ite _ _ _:db)
     by_cases hp:(l.getD 0 w0).text=ig
     ·rw[ax hp,ax hp]
      refine⟨?_,hr.fo,?_,hr.sk,sl _⟩
      ·show jh w.Units _ _=jh o.units _ _
       rw[hr.un]
      ·show w.Lines++_=o.lines++_
       rw[hr.li]
     ·rw[ap hp,ap hp]
      refine⟨hr.un,?_,?_,hr.sk,sl _⟩
      ·show hU _ _ w.Fors=hU _ _ o.fors
       rw[hr.fo]
      ·show w.Lines++_=o.lines++_
       rw[hr.li]
theorem Vv (w:db) (l:List Wd) (e:Int) (h1:1<l.length) (f:ae) (J:ae→Option (zaw×db)) (m:w.Skips.length≤1000000):∀ (n:Nat) (T S:List ae),w.Skips=S++T→T.length<n →
  zaC (fun _=>none) (zds w (lE l e) J f) n (S.length:Int)=if (T.any fun s=>decide (s=f))=true then some ((⟨222,nu l 1⟩:zaw),w) else J f:=by
 intro n
 induction n with
 |zero=>intro T S _ h;omega
 |succ n j=>
  intro T S g k
  rw[fX]
  generalize c:zaC (fun _=>none) (zds w (lE l e) J f) n=ag
  unfold zds
  have a:w.Skips.length=S.length+T.length:=by rw[g,aa]
  cases T with
  |nil=>
   rw[aI] at a
   rw[ap (by rintro h;cases h)]
   exact fP rfl
  |cons s T=>
   rw[ab] at a k
   have hg:w.Skips[S.length]?=some s:=by rw[g];simp
   have b:=j T (S++[s]) (by rw[g,aB];rfl) (by omega)
   rw[c,show (S++[s]).length=S.length+1 by simp] at b
   push_cast at b
   refine eW (bf (gw hg) ?_)
   rw[List.any_cons]
   by_cases i:s=f
   ·rw[au i,Bool.true_or,ax rfl]
    exact bQ rfl (bf (gw (sS (oT (d:=w0) h1))) rfl)
   ·rw[aj i,Bool.false_or]
    exact bM rfl (gO b)
theorem Vx {o:cw} {w:db} (hi:fj o) (hr:k8 o w) (l:List Wd) (e:Int) (S fs:List ae) (put:Bool) (b:ae) (I:S=uW put b l.length) (H:fs.length=l.length) (hb:l.length≤1000) (J:Option (zaw×db))
  (s:∀k,k<l.length→1<k→(fs.getD k zfn=zfn↔(put=true∧k=2))) :
  ∀ (n:Nat) (A B:List ae) (C D:List Wd),fs=A++B→l=C++D→A.length=C.length→1<A.length→B.length<n →
  zaC (fun _=>none) (zdr w (lE l e) S fs J) n (A.length:Int)=match mK o A.length B D with | some a=>some ((⟨223,a⟩:zaw),w) | none=>J:=by
 have E:=hi.ul;have G:=hi.ll
 intro n
 induction n with
 |zero=>intro A B C D _ _ _ _ h;omega
 |succ n z=>
  intro A B C D hA v i h1 F
  rw[fX]
  generalize t:zaC (fun _=>none) (zdr w (lE l e) S fs J) n=ag
  unfold zdr
  have d:fs.length=A.length+B.length:=by rw[hA,aa]
  have u:l.length=C.length+D.length:=by rw[v,aa]
  cases B with
  |nil=>
   rw[aI] at d
   exact fP rfl
  |cons f B=>
   cases D with
   |nil=>rw[ab] at d;rw[aI] at u;omega
   |cons x D=>
    rw[ab] at d F
    have g:fs[A.length]?=some f:=by rw[hA];simp
    have q:l[A.length]?=some x:=by rw[v,i];simp
    have r:S[A.length]?=some (if put=true∧A.length=2 then qd else zfn):=by
     rw[I];unfold uW
     rw[bT,kV (by omega)]
     show some (if A.length=0 then b else _)=_
     rw[ap (by omega)]
    have c:=s A.length (by omega) h1
    rw[show fs.getD A.length zfn=f by rw[cB,g];rfl] at c
    have j:=z (A++[f]) B (C++[x]) D (by rw[hA,aB];rfl) (by rw[v,aB];rfl) (by simp[i]) (by rw[aa];omega) (by omega)
    rw[t,show (A++[f]).length=A.length+1 by simp] at j
    push_cast at j
    have y:(aU (cp ((A.length:Int)+1))<|ag ((A.length:Int)+1))=match mK o (A.length+1) B D with | some a=>some ((⟨223,a⟩:zaw),w) | none=>J:=gO j
    refine eW (cA (bf (gw r) ?_))
    rw[mK]
    by_cases h2:put=true∧A.length=2
    ·rw[ax h2,ap (fun h=>h.2.1 (c.2 h2))]
     exact bM (by decide) y
    ·rw[ap h2]
     refine bQ (by decide) (bf (gw g) (bf (zn w f (by rw[hr.un];omega)) ?_))
     rw[hr.un,←hi.pl]
     have m:f≠zfn:=fun h=>h2 (c.1 h)
     cases hp:zbO f o.place with
     |none=>
      rw[ax ⟨h1,m,rfl⟩]
      exact bQ (by decide) (bf (gw (sS q)) rfl)
     |some p=>
      have h3:=hp
      rw[hi.pl] at h3
      have K:=(tO h3).1
      rw[ap (fun h=>by cases h.2.2)]
      exact bM (aj (by show ¬p<0;omega)) y
structure Vy (l:List Wd) (e:Int) (S:List ae):Prop where
 err:nQ e S l=tQ (l8 l e)
 ok:¬0≤l8 l e→S=uW (decide ((l.getD 0 w0).text=ig)) (l.getD 0 w0).text l.length
 len:S.length≤10
 vb:(l.getD 0 w0).text=ig∨(l.getD 0 w0).text=cAs∨(l.getD 0 w0).text=mj
theorem Vz {R T:Type} {f:(T→Option R)→Option R} {j:T→Option R} {r:Option R} (G:T→Prop) (h:∀J,(∀S,G S→J S=r)→f J=r) (hj:∀S,G S→j S=r):cn f j=r:=cA (h j hj)
set_option maxHeartbeats 1000000 in
theorem VA {o:cw} {w:db} (hi:fj o) (hr:k8 o w) (l:List Wd) (e:Int) (he:0≤e) (h0:0<l.length) (hl:l.length≤1000000) (ha:∀w∈l,0≤w.at_) (W:∀w∈l,w.text.size≤65536):zt w (lE l e)=some (w4 w o l e):=by
 have aw:=hi.ul;have a0:=hi.ll
 have I:=hr.sl
 rw[hr.li] at I
 have t:zcx (lE l e) 0=some (rW (l.getD 0 w0)):=gw (i:=0) (sS (oT (d:=w0) h0))
 have ag:=zu l e
 unfold zt w4
 by_cases h1:o.lines.length=256
 ·rw[ax h1]
  exact bQ (by rw[hr.li,h1];rfl) (bf t rfl)
 rw[ap h1]
 refine bM (by rw[hr.li];exact aA.2 (by omega)) (Vz (Vy l e) (fun J R=>?_) (fun S E=>?_))
 ·refine gO (bf t ?_)
  by_cases hp:(l.getD 0 w0).text=ig
  ·refine bQ (au hp) (R _ ⟨U6 he ha h0 hp,fun h=>?_,by decide,.inl hp⟩)
   rcases wU he ha h0 h with h|h|h
   ·rw[h.2.1,hp];decide
   ·rw[h.1] at hp;exact absurd hp gP.1
   ·rw[h.1] at hp;exact absurd hp gP.2.1
  ·refine bM (aj hp) ?_
   by_cases c:(l.getD 0 w0).text=mj
   ·refine bQ (au c) (R _ ⟨U7 he ha h0 c,fun h=>?_,by decide,.inr (.inr c)⟩)
    rcases wU he ha h0 h with h|h|h
    ·exact absurd h.1 hp
    ·rw[h.1] at c;exact absurd c (fun h=>gP.2.2.1 h.symm)
    ·rw[h.2,c];decide
   ·refine bM (aj c) ?_
    by_cases g:(l.getD 0 w0).text=cAs
    ·refine bQ (au g) ((Vo l e J zbC 3 (by omega) (by omega) (by unfold zbC;omega)).trans (R _ ⟨U9 he ha h0 g,fun h=>?_,by rw[ab,pV];omega,.inr (.inl g)⟩))
     rcases wU he ha h0 h with h|h|h
     ·exact absurd h.1 hp
     ·have h5:l.length=3∨l.length=4∨l.length=5∨l.length=6:=by omega
      rcases h5 with h5|h5|h5|h5<;>rw[h5,g]<;>decide
     ·exact absurd h.1 c
    ·refine bM (aj g) (bf t ?_)
     have m:l8 l e=nu l 0:=by unfold l8;rw[ap hp,ap g,ap c]
     have V:0≤nu l 0:=ha _ (aL (oT (d:=w0) h0))
     rw[m,ax V];rfl
 ·refine cA ((U5 w l e S _ (by omega) (by have:=E.len;omega) zbC S l [] [] rfl rfl rfl (by have:=E.len;unfold zbC;omega)).trans ?_)
  rw[E.err]
  unfold tQ
  by_cases h2:0≤l8 l e
  ·rw[ax h2,ax h2]
  rw[ap h2,ap h2]
  have v:=E.ok h2
  have q:=wU he ha h0 h2
  have n:=E.vb
  have hg:zcx S 0=some (l.getD 0 w0).text:=by
   rw[v]
   refine gw (i:=0) ?_
   unfold uW
   rw[bT,kV h0];rfl
  have G:(l.getD 0 w0).text≠zfn:=by
   rcases n with h|h|h<;>rw[h]
   ·exact gP.2.2.2.1
   ·exact gP.2.2.2.2.1
   ·exact gP.2.2.2.2.2.1
  have F:(l.getD 0 w0).text≠qd:=by
   rcases n with h|h|h<;>rw[h]<;>decide
  have h6:l.length≤6:=by rcases q with h | h | h<;>omega
  have U:2≤l.length:=by rcases q with h | h | h<;>omega
  have ao:(l.getD 0 w0).text.size≤65536:=W _ (aL (oT (d:=w0) h0))
  refine cA (bf hg ((Vt w l e S (decide ((l.getD 0 w0).text=ig)) (l.getD 0 w0).text _ (by omega) W v G F zbC l [] [] (l.getD 0 w0).text rfl rfl (by unfold zbC;omega) (by rw[aI];omega)).trans ?_))
  cases hf:jD (decide ((l.getD 0 w0).text=ig)) ([]:List Wd).length l with
  |inl a=>
   rfl
  |inr fs=>
   obtain⟨fs,s⟩:=fs
   have hf:jD (decide ((l.getD 0 w0).text=ig)) 0 l=.inr (fs,s):=hf
   have u:=zd _ _ _ _ _ hf
   have j:=fun (k:Nat) (hk:k<l.length)=>pg (l:=fs) (k:=k) zfn (by omega)
   have O:zcx (lE l e) 1=some (rW (l.getD 1 w0)):=gw (i:=1) (sS (oT (d:=w0) (by omega)))
   show cn _ _=some (ite ((l.getD 0 w0).text=mj) _ _)
   rw[aW]
   refine cA (bf hg ?_)
   by_cases c:(l.getD 0 w0).text=mj
   ·rw[ax c]
    have T:(fD fs 1).size≤65536:=by
     have:=(wV hf 1 (by omega) (by omega)).1
     rw[this];have:=zc (l.getD 1 w0).text;omega
    refine bQ (au c) (cA (bf (j 1 (by omega)) (bf (DY _ T) ((Vv w l e (by omega) _ _ (by omega) zbC w.Skips [] rfl (by unfold zbC;omega)).trans ?_))))
    show (if (w.Skips.any fun s=>decide (s=iH (fD fs 1)))=true then _ else _)=_
    rw[←hr.sk]
    by_cases hb:(zbO (iH (fD fs 1)) o.skips).getD false=true
    ·rw[ax hb,ax hb]
    ·rw[ap hb,ap hb]
     exact gO (zdG (by rw[hr.li];omega) rfl)
   ·rw[ap c]
    refine bM (aj c) (bf (j 1 (by omega)) (bf (KY hi (hr.rel hi) _) ?_))
    show aM (lr o (fD fs 1)) _ _=_
    cases hb:lr o (fD fs 1) with
    |true=>rw[ax rfl];exact bQ rfl (bf O rfl)
    |false=>
     rw[ap (by simp)]
     refine bM rfl (cA ?_)
     have P:∀k,k<l.length→1<k→(fs.getD k zfn=zfn↔(decide ((l.getD 0 w0).text=ig)=true∧k=2)):=fun k hk a1=>by
      obtain⟨g1,g2⟩:=EQ _ _ _ _ _ hf k _ (oT (d:=w0) hk)
      rw[bL] at g1 g2
      rw[cB,g1,ei]
      by_cases hc:decide ((l.getD 0 w0).text=ig)=true∧k=2
      ·rw[ax (.inr hc)];exact⟨fun _=>hc,fun _=>rfl⟩
      ·have Z:¬(k=0∨(decide ((l.getD 0 w0).text=ig)=true∧k=2)):=fun h=>by rcases h with h | h;omega;exact hc h
       rw[ap Z]
       exact⟨fun h=>absurd h (g2 Z),fun h=>absurd h hc⟩
     have Q:fs.take 2++fs.drop 2=fs:=bO ..
     have N:l.take 2++l.drop 2=l:=bO ..
     have m:=fun J=>Vx hi hr l e S fs (decide ((l.getD 0 w0).text=ig)) (l.getD 0 w0).text v u (by omega) J P zbC (fs.take 2) (fs.drop 2) (l.take 2) (l.drop 2) Q.symm N.symm (by rw[bw,bw];omega) (by rw[bw];omega) (by rw[aR];unfold zbC;omega)
     have H:(fs.take 2).length=2:=by rw[bw];omega
     rw[H] at m
     refine (m _).trans ?_
     have B:mK o 0 fs l=mK o 2 (fs.drop 2) (l.drop 2):=by
      match fs,l,u,U with
      |a::b::fs,x::y::l,_,_=>
       rw[mK,ap (fun h=>by omega),mK,ap (fun h=>by omega)];rfl
     rw[B]
     have C:=B
     cases M:mK o 2 (fs.drop 2) (l.drop 2) with
     |some a=>rfl
     |none=>
      rw[M] at C
      show cn _ _=some ((⟨0,0⟩:zaw),ite ((l.getD 0 w0).text=ig) _ _)
      refine cA (bf hg ?_)
      by_cases hp:(l.getD 0 w0).text=ig
      ·rw[ax hp]
       have h4:l.length=4:=by
        rcases q with h|h|h
        ·exact h.2.1
        ·rw[h.1] at hp;exact absurd hp gP.1
        ·exact absurd h.1 c
       have K:=(wV hf 3 (by omega) (by omega)).2
       have h3:=Bw o fs l 0 u C 3 _ (Bx (by omega)) (by omega) K
       obtain⟨p,A⟩:=Option.isSome_iff_exists.1 h3
       have r:=A
       rw[hi.pl] at r
       have Y:=tO r
       have z:=zn w (fD fs 3) (by rw[hr.un];omega)
       rw[hr.un,r,ei] at z
       have X:w.Units.length=o.units.length:=by rw[hr.un]
       have c1:dM w.Units 0 (p+1)=w.Units.take (p+1).toNat:=by
        unfold dM
        show (List.drop 0 _).take _=_
        rw[jY]
        congr 1
       have c2:dM w.Units (p+1) (w.Units.length:Int)=w.Units.drop (p+1).toNat:=by
        unfold dM
        rw[List.take_of_length_le (by rw[aR];omega)]
       refine bM (by rw[hp];exact aj (fun h=>gP.1 h.symm)) (bf (j 3 (by omega)) (bf z (gO (gO ?_))))
       rw[c1,c2,A,ei,aW]
       have lt:(w.Units.take (p+1).toNat).length≤w.Units.length:=by rw[bw];omega
       have ld:(w.Units.drop (p+1).toNat).length≤w.Units.length:=by rw[aR];omega
       refine zdG (by show 0+_≤_;omega) (bf (j 1 (by omega)) (gO (zdG ⟨by omega,by omega,fg _⟩ (zdG (by rw[aa];show _+1+_≤_;omega) (zdG (by rw[hr.li];omega) ?_)))))
       unfold jh
       rw[aB];rfl
      ·rw[ap hp]
       have g:(l.getD 0 w0).text=cAs:=by rcases n with h | h | h;exact absurd h hp;exact h;exact absurd h c
       have D:dM fs 2 ((fs.length:Nat):Int)=fs.drop 2:=Ew fs 2
       refine bQ (by rw[g];rfl) (bf (j 1 (by omega)) (zdG ⟨by omega,by omega,fg _⟩ ?_))
       rw[D]
       exact zdG (by rw[hr.li];omega) rfl
theorem Lb:∀ (l a:List UInt8),lns l a=match l.dropWhile (fun c=>c != 10) with | []=>[a++l] | _::r=>(a++l.takeWhile fun c=>c != 10)::lns r []
 |[],a=>by rw[lns,aE];rfl
 |c::l,a=>by
  rw[lns,List.dropWhile_cons,aV]
  by_cases h:c=10
  ·subst h
   rw[ax rfl]
   show a::lns l []=(a++[])::lns l []
   rw[aE]
  ·have hc:(c != 10)=true:=du.2 h
   rw[ap h,hc,ax rfl,ax rfl,Lb l]
   cases l.dropWhile fun c=>c != 10 with
   |nil=>show [a++[c]++l]=[a++c::l];rw[aB];rfl
   |cons d r=>show (a++[c]++_)::_=(a++c::_)::_;rw[aB];rfl
theorem VB (l:List UInt8):∃a,l=(l.takeWhile fun c=>c != 10)++a∧((a=[]∧lns l []=[l.takeWhile fun c=>c != 10])∨∃r,a=10::r∧lns l []=(l.takeWhile fun c=>c != 10)::lns r []):=by
 have b:l=l.takeWhile (fun c=>c != 10)++l.dropWhile fun c=>c != 10:=List.takeWhile_append_dropWhile.symm
 refine⟨l.dropWhile fun c=>c != 10,b,?_⟩
 have g:=Lb l []
 have h:=jS (fun c:UInt8=>c != 10) l
 cases hd:l.dropWhile (fun c=>c != 10) with
 |nil=>
  rw[hd] at g b
  rw[aE] at b
  refine .inl ⟨rfl,?_⟩
  rw[g,←b];rfl
 |cons d r=>
  rw[hd] at g h
  have h3:(d != 10)=false:=by simpa using h
  rw[bne_eq_false_iff_eq.1 h3]
  refine .inr ⟨r,rfl,?_⟩
  rw[g];rfl
theorem VC (text:ae) (l:text.size≤1000000) (J:Int→Option ((Option db)×zaw)) :
  ∀ (n:Nat) (B A:List UInt8),text.data.toList=A++B→B.length<n→zaC (fun _=>none) (zfx text J) n (A.length:Int)=J ((A.length+(B.takeWhile fun c=>c != 10).length:Nat):Int):=by
 intro n
 induction n with
 |zero=>intro B A _ h;omega
 |succ n i=>
  intro B A b j
  rw[fX]
  generalize g:zaC (fun _=>none) (zfx text J) n=ag
  unfold zfx
  have a:text.size=A.length+B.length:=by rw[gJ,b,aa]
  cases B with
  |nil=>
   rw[aI] at a
   exact fP rfl
  |cons c B=>
   rw[ab] at a j
   have hg:=za (s:=text) (k:=A.length) (c:=c) (by rw[b];simp)
   refine eW (bf hg ?_)
   rw[aV]
   by_cases hc:c=10
   ·subst hc
    exact bM rfl rfl
   ·have h1:(((c.toNat:Int):Int) != 10)=true:=du.2 fun h=>hc (kA.1 (by show c.toNat=10;omega))
    have h2:(c != 10)=true:=du.2 hc
    rw[h2,ax rfl]
    have d:=i B (A++[c]) (by rw[b,aB];rfl) (by omega)
    rw[g,show (A++[c]).length=A.length+1 by simp] at d
    push_cast at d
    refine bQ h1 (gO ?_)
    rw[d,ab]
    congr 1
    push_cast;omega
def RR (q:Option cw×zaw) (r:Option ((Option db)×zaw)):Prop :=
 (∃a w',q=(some a,⟨0,0⟩)∧r=some (some w',⟨0,0⟩)∧k8 a w')∨(q.1=none∧r=some (none,q.2))
theorem VD (text:ae) (R:text.size≤65536):∀ (n at_:Nat) (o:cw) (w:db),fj o→k8 o w→at_≤text.size+1→text.size+1-at_<n →
  RR (oV o (at_:Int) (if at_≤text.size then lns (text.data.toList.drop at_) [] else []))
   (zaC (fun _ _ _ _ _=>none) (zdC text (fun (o1:List ae) (t:List (ae×List ae)) (s:List ae) (m:List ae)=>some ((some (⟨o1,t,s,m⟩:db)),(⟨0,0⟩:zaw)))) n w.Units w.Fors w.Skips w.Lines (at_:Int)):=by
 intro n
 induction n with
 |zero=>intro at_ o w _ _ _ h;omega
 |succ n H=>
  intro at_ o w hi hr O S
  rw[fX]
  generalize P:zaC (fun _ _ _ _ _=>none) (zdC text (fun (o1:List ae) (t:List (ae×List ae)) (s:List ae) (m:List ae)=>some ((some (⟨o1,t,s,m⟩:db)),(⟨0,0⟩:zaw)))) n=ag at H
  by_cases ha:at_≤text.size
  ·rw[ax ha]
   have hA:(text.data.toList.take at_).length=at_:=by rw[bw,←gJ];omega
   have d:=fun J=>VC text (by omega) J zbC (text.data.toList.drop at_) (text.data.toList.take at_) (bO _ _).symm (by rw[aR,←gJ];unfold zbC;omega)
   rw[hA] at d
   obtain⟨v,g,b⟩:=VB (text.data.toList.drop at_)
   generalize I:(text.data.toList.drop at_).takeWhile (fun c=>c != 10)=run at d g b
   have j:text.size-at_=run.length+v.length:=by
    have:=aH fu g
    rw[aR,←gJ,aa] at this;exact this
   have Q:∃xs,lns (text.data.toList.drop at_) []=run::xs∧xs=(if at_+run.length+1≤text.size then lns (text.data.toList.drop (at_+run.length+1)) [] else []):=by
    rcases b with⟨h,F⟩|⟨r,h,F⟩
    ·rw[h,aI] at j
     exact⟨[],F,by rw[ap (by omega)]⟩
    ·rw[h,ab] at j
     refine⟨lns r [],F,?_⟩
     rw[ax (by omega)]
     congr 1
     rw[show at_+run.length+1=at_+(run.length+1) by omega,←fa,g,h,show run++10::r=(run++[10])++r by simp,List.drop_left' (by simp)]
   obtain⟨xs,D,C⟩:=Q
   rw[D]
   have next:=fun (B:cw) (w':db) (h1:fj B) (h2:k8 B w')=>H (at_+run.length+1) B w' h1 h2 (by omega) (by omega)
   rw[←C] at next
   push_cast at next
   have hc:(at_:Int)+((run.length:Int)+1)=(at_:Int)+(run.length:Int)+1:=by omega
   have M:∀K:Option ((Option db)×zaw),zdC text (fun (o1:List ae) (t:List (ae×List ae)) (s:List ae) (m:List ae)=>some ((some (⟨o1,t,s,m⟩:db)),(⟨0,0⟩:zaw))) ag w.Units w.Fors w.Skips w.Lines (at_:Int)=K→RR (oV o (at_:Int) (run::xs)) K→RR (oV o (at_:Int) (run::xs)) (zdC text (fun (o1:List ae) (t:List (ae×List ae)) (s:List ae) (m:List ae)=>some ((some (⟨o1,t,s,m⟩:db)),(⟨0,0⟩:zaw))) ag w.Units w.Fors w.Skips w.Lines (at_:Int)):=fun K h1 h2=>by rw[h1];exact h2
   have a:=U4 text at_ (at_+run.length) (by omega) (by omega) (by omega)
   have E:(text.data.toList.drop at_).take (at_+run.length-at_)=run:=by
    rw[show at_+run.length-at_=run.length by omega,g,jZ]
   rw[E] at a
   push_cast at a
   have A:cp ((at_:Int)+(run.length:Int)+1):=⟨by omega,by omega⟩
   obtain⟨w1,G⟩:=uS run 0 none
   have G:(gC run 0 none).length≤run.length+0:=G
   rw[oV]
   by_cases h0:gC run 0 none=[]
   ·rw[ax h0,hc]
    refine Eq.mp (aH (RR _) ?_) (next o w hi hr)
    symm
    unfold zdC
    refine eW (cA ((d _).trans ?_))
    push_cast
    refine cA (bf a (bM (aj (by rw[zu,h0];show ¬(1:Int)<((0+1:Nat):Int);omega)) (zdG A rfl)))
   ·rw[ap h0]
    have i:0<(gC run 0 none).length:=cU.2 h0
    have l:∀x∈(gC run 0 none).map (jv (at_:Int)),0≤x.at_:=fun x hx=>by
     obtain⟨p,hp,rfl⟩:=aS.1 hx
     show 0≤(at_:Int)+(p.1:Int)
     omega
    have y:∀x∈(gC run 0 none).map (jv (at_:Int)),x.text.size≤65536:=fun x hx=>by
     obtain⟨p,hp,rfl⟩:=aS.1 hx
     show (ba p.2).size≤65536
     rw[wR]
     have:p.2.length≤run.length+0:=w1 p hp
     omega
    have u:=VA hi hr ((gC run 0 none).map (jv (at_:Int))) ((at_:Int)+(run.length:Int)) (by omega) (by rw[ar];exact i) (by rw[ar];omega) l y
    obtain⟨e1,e2⟩:=Vu hr ((gC run 0 none).map (jv (at_:Int))) ((at_:Int)+(run.length:Int))
    have k:=ER hi ((gC run 0 none).map (jv (at_:Int))) ((at_:Int)+(run.length:Int)) (by omega) (by rw[ar];exact i) l y
    have N:(lE ((gC run 0 none).map (jv (at_:Int))) ((at_:Int)+(run.length:Int))).length=(gC run 0 none).length+1:=by rw[zu,ar]
    have z:(⟨w.Units,w.Fors,w.Skips,w.Lines⟩:db)=w:=rfl
    generalize w4 w o ((gC run 0 none).map (jv (at_:Int))) ((at_:Int)+(run.length:Int))=r at u e1 e2
    generalize ox o ((gC run 0 none).map (jv (at_:Int))) ((at_:Int)+(run.length:Int))=q at e1 e2 k ⊢
    by_cases h1:q.1.Err=0
    ·rw[ax h1,hc]
     refine Eq.mp (aH (RR _) ?_) (next q.2 r.2 k e2)
     symm
     unfold zdC
     refine eW (cA ((d _).trans ?_))
     push_cast
     refine cA (bf a (eW ?_))
     rw[z]
     exact bf u (bM (by rw[e1,h1];rfl) (zdG A rfl))
    ·rw[ap h1]
     refine .inr ⟨rfl,?_⟩
     unfold zdC
     refine eW (cA ((d _).trans ?_))
     push_cast
     refine cA (bf a (eW ?_))
     rw[z]
     refine bf u (bQ (by rw[e1];exact du.2 h1) ?_)
     rw[e1]
  ·rw[ap ha]
   refine .inl ⟨o,w,rfl,?_,hr⟩
   unfold zdC
   exact fP rfl
theorem Lc (text:ae):RR (rG text) (uV text):=by
 unfold rG
 by_cases h:65536<text.size
 ·rw[ax h]
  refine .inr ⟨rfl,?_⟩
  unfold uV
  exact eW rfl
 ·rw[ap h]
  have:=VD text (by omega) zbC 0 rF ⟨us0,[],[],[]⟩ Bz UZ (cm _) (by unfold zbC;omega)
  rw[ax (cm _),jY] at this
  refine Eq.mp (aH (RR _) ?_) this
  symm
  unfold uV
  exact fP (cA (bf UY rfl))
def zx (a:ae):Option ((Option cw)×(Option db)) := cn (fun (b:(Option cw)→(Option db)→Option ((Option cw)×(Option db)))=>aT (uQ a) fun (r1:((Option cw)×zaw))=>aT (uV a) fun (r2:((Option db)×zaw))=>aM ((r2.2.Err:Int) != 0) (aT (uQ (⟨#[]⟩:ae)) fun (r3:((Option cw)×zaw))=>aT (uV (⟨#[]⟩:ae)) fun (c:((Option db)×zaw))=>b r3.1 c.1) (b r1.1 r2.1)) (fun (g:Option cw) (d:Option db)=>some (g,d))
theorem VE {a:ae} {r:((Option cw)×(Option db))} (h:zx a=some r):Fn prog 14 [.string a] [] (fun b:Value×Value=>.tuple #[b.1,b.2]) (fun b=>[jA nj nk 72 b.1 r.1,jA pu pv 39 b.2 r.2]):=by
 unfold zx at h
 refine _root_.Go.Proofs.YtifpjbgnikjglaaGreatDoor.Fn.intro func14 rfl ntmps14 (by simp) (fun w0 K=>zbp h fun t n h=>zaM (β:=(Option cw)×(Option db)×Value×Value) 3 rfl (fun b=>t b.1 b.2.1=some r) (fun b=>[]) (fun b=>[(4,b.2.2.1),(6,b.2.2.2)]) (fun b=>[jA nj nk 72 b.2.2.1 b.1,jA pu pv 39 b.2.2.2 b.2.1]) (fun cut=>zyG (zyR 2 rfl (zyH (zyR 1 rfl (zbl h fun r1 m h=>zbJ (vs:=[.string a]) rfl dc rfl rfl rfl CE (EO m) ah (fun c=>lm (L':=[jA nj nk 72 c r1.1]) (cj 1) (zyR 1 rfl (eT rfl dc rfl rfl (eT rfl dc rfl rfl (zbk zrj rfl dc (fun b1=>zyR 1 rfl (eK (k:=1) (vs:=(kD r1.2)) (l':=(kD r1.2)) kn rfl rfl rfl rfl rfl (show _≤_ by simp) rfl rfl (zyH (zyR 1 rfl (zbl h fun r2 l h=>zbJ (vs:=[.string a]) rfl dc rfl rfl rfl GY (K8 l) ah (fun d=>lm (L':=[jA nj nk 72 c r1.1,cells b1 (kD r1.2) 26,jA pu pv 39 d r2.1]) (cj 3) (zyR 1 rfl (eT rfl dc rfl rfl (eT rfl dc rfl rfl (zbk zrj rfl dc (fun q=>zyR 1 rfl (eK (k:=3) (vs:=(kD r2.2)) (l':=(kD r2.2)) kn rfl rfl rfl rfl rfl (show _≤_ by simp) rfl rfl (zyN (cut (zyG (zab Cw rfl dc rfl (show _=0 from rfl) (zat (k:=3) Cv rfl dc rfl rfl rfl (zaR rfl zf8 (zyN (zyB rfl h (fun h=>zyG (zbl h fun r3 j h=>zbJ (vs:=[.string (⟨#[]⟩:ae)]) rfl dc rfl rfl rfl CE (EO j) ah (fun g=>lm (L':=[jA nj nk 72 c r1.1,cells b1 (kD r1.2) 26,jA pu pv 39 d r2.1,cells q (kD r2.2) 26,jA nj nk 72 g r3.1]) (cj 5) (zyR 1 rfl (eT rfl dc rfl rfl (eT rfl dc rfl rfl (zyR 1 rfl (zyN (bV (zbl h fun p i h=>zbJ (vs:=[.string (⟨#[]⟩:ae)]) rfl dc rfl rfl rfl GY (K8 i) ah (fun o=>lm (L':=[jA nj nk 72 c r1.1,cells b1 (kD r1.2) 26,jA pu pv 39 d r2.1,cells q (kD r2.2) 26,jA nj nk 72 g r3.1,jA pu pv 39 o p.1]) (cj 6) (zyR 1 rfl (eT rfl dc rfl rfl (eT rfl dc rfl rfl (zyR 1 rfl (bG (cH (r3.1,p.1,g,o) h rfl (bE rfl) (cg [4,5] kr rfl)))))))))))))))))) (fun h=>bA (cH (r1.1,r2.1,c,d) h rfl (bE rfl) (cg [0,2] kr rfl))))))))))))))))))))))))))))))))) ?_)
 rintro⟨v,u,v1,s⟩ h
 rw[n] at h
 refine zyG (zyR 4 rfl (zyN (zaz ?_)))
 cases h
 exact eB (rs:=[.tmp 2,.tmp 3]) (v1,s) (.inl rfl) results14 (.cons (.tmp rfl) (.cons (.tmp rfl) .nil)) rfl (cj 2)
theorem VF (text:ae):∃w,zx text=some (some (sP text),some w)∧k8 (sP text) w:=by
 have a:=Lc text
 have h0:=Lc (⟨#[]⟩:ae)
 unfold zx sP
 rcases ET text with⟨o,h,hi⟩|⟨e,h,he⟩
 ·rw[h] at a ⊢
  rcases a with⟨b,w',e1,e2,c⟩|⟨e1,_⟩
  ·injection e1 with e1 _
   injection e1 with e1
   subst e1
   exact⟨w',cA (bf ((ES text).trans (by rw[h])) (bf e2 (bM rfl rfl))),c⟩
  ·cases e1
 ·rw[h] at a ⊢
  rcases a with⟨b,w',e1,_,_⟩|⟨_,e2⟩
  ·injection e1 with e1 _
   cases e1
  ·rw[KJ] at h0
   rcases h0 with⟨b,w',f1,f2,f3⟩|⟨f1,_⟩
   ·injection f1 with f1 _
    injection f1 with f1
    subst f1
    exact⟨w',cA (bf ((ES text).trans (by rw[h])) (bf e2 (bQ (du.2 he) (bf ((ES _).trans (by rw[KJ])) (bf f2 rfl))))),f3⟩
   ·cases f1
def zeF (d:ae) (j:(List eC)→Option (List eC)) (c:(List eC)→Nat→Option (List eC)) (a:List eC) (b:Nat):Option (List eC) := aM (decide (b<(eA d.data.toList).length)) (aT ((eA d.data.toList)[b]?) fun (p1:Pc)=>cn (fun (h:(List eC)→Option (List eC))=>aM (decide ((0:Int)<(a.length:Int))) (aU (cp ((a.length:Int)-1)) <|aU (cp ((a.length:Int)-1)) <|aT (zcx a ((a.length:Int)-1)) fun (q1:eC)=>aU (cp ((p1.i:Int)-q1.At)) <|h (a.set ((a.length:Int)-1:Int).toNat (⟨q1.At,(p1.i:Int)-q1.At,q1.Rune,q1.Broken⟩:eC))) (h a)) (fun (g:List eC)=>aU (g.length+1≤2147483648) <|c (g++[(⟨(p1.i:Int),0,(p1.r:Int),false⟩:eC)]) (b+1))) (j a)
def zee (i:(List eC)→Option (List eC)) (g:(List eC)→Int→Option (List eC)) (a:List eC) (c:Int):Option (List eC) := aM (decide ((c:Int)<(a.length:Int))) (cn (fun (h:(List eC)→Option (List eC))=>aT (zcx a c) fun (b:eC)=>aM ((b.Rune:Int)==65533) (h (a.set (c:Int).toNat (⟨b.At,b.Width,b.Rune,(b.Width:Int)==1⟩:eC))) (h (a.set (c:Int).toNat (⟨b.At,b.Width,b.Rune,false⟩:eC)))) (fun (d:List eC)=>aU (cp (c+1)) <|g d (c+1))) (i a)
def zy (b:ae):Option (List eC) := cn (fun (i:(List eC)→Option (List eC))=>zaC (fun _ _=>none) (zeF b i) zbC ([]:List eC) 0) (fun (a:List eC)=>cn (fun (c:(List eC)→Option (List eC))=>aM (decide ((0:Int)<(a.length:Int))) (aU (cp ((a.length:Int)-1)) <|aU (cp ((a.length:Int)-1)) <|aT (zcx a ((a.length:Int)-1)) fun (q2:eC)=>aU (cp ((b.size:Int)-q2.At)) <|c (a.set ((a.length:Int)-1:Int).toNat (⟨q2.At,(b.size:Int)-q2.At,q2.Rune,q2.Broken⟩:eC))) (c a)) (fun (g:List eC)=>cn (fun (h:(List eC)→Option (List eC))=>zaC (fun _ _=>none) (zee h) zbC g 0) (fun (d:List eC)=>some d)))
theorem VG {d:ae} {r:(List eC)} (h:zy d=some r):Fn prog 108 [.string d] [] (fun v0:Value=>v0) (fun v0=>[rn v0 r]):=by
 unfold zy at h
 refine _root_.Go.Proofs.YtifpjbgnikjglaaGreatDoor.Fn.intro func108 rfl ntmps108 (by simp) (fun w0 K=>zbp h fun D N h=>zaM (β:=(List eC)×Value) 2 rfl (fun b=>D b.1=some r) (fun b=>[]) (fun b=>[(0,.string d),(3,b.2)]) (fun b=>[rn b.2 b.1]) (fun cut=>?_) ?_)
 ·refine zyG (zyR 1 rfl (zyH (zyR 1 rfl (zyN (cut (zyG (zyR 1 rfl (tu al rfl dc rfl (fun b1=>zyN (zau (mU (enc:=xF) (e:=155) (size:=4) (eO (β:=Nat×(List eC)×Nat×Value) (fun b=>zaC (fun _ _=>none) (zeF d D) b.1 b.2.1 b.2.2.1=some r) (fun b=>[]) (fun b=>[(0,.string d),(3,b.2.2.2),(8,zP b1)]) (fun b=>[rn b.2.2.2 b.2.1,obj b1 (.stringIter d (lO d b.2.2.1))]) (fun b=>b.1) (zbC,([]:List eC),0,(.slice none 0 0)) (by exact h) rfl (bE rfl) (cg [1,0] kr rfl) ?_))))))))))))
  rintro⟨B,l,z,E⟩ h
  cases B with
  |zero=>exact eG h
  |succ B=>
   obtain⟨X,y⟩:∃ag,ag=zaC (fun _ _=>none) (zeF d D) B:=⟨_,rfl⟩
   have h:zeF d D X l z=some r:=by rw[y];exact h
   unfold zeF at h
   refine zyG (qW (b:=decide (z<(eA d.data.toList).length)) (fun w=>?_) (fun w=>?_))
   ·have h:=nG w h
    refine zbl h fun p1 G h=>tv (k:=1) (m:=z) (p:=p1) rfl dc rfl rfl G (eT rfl dc rfl rfl (zyN (zaL (gM rfl (bA (ct (zau (zbp h fun j2 M h=>zaM (β:=(List eC)) 1 rfl (fun b=>j2 b=some r) (fun b=>[]) (fun b=>[(0,.string d),(3,E),(4,zI (p1.i:Int)),(5,.int .i32 (p1.r:Int)),(8,zP b1)]) (fun b=>[rn E b,obj b1 (.stringIter d (lO d (z+1)))]) (fun cut=>zyG (eT rfl dc rfl rfl (eT rfl dc rfl rfl (zyR 2 rfl (zyN (cut (zyG (zyR 1 rfl (gK (k:=0) rfl dc rfl rfl cx (zaR rfl zdV (zyN (zyB rfl h (fun h=>bV (zyR 2 rfl (gK (k:=0) rfl dc rfl rfl cx (zbt h fun V h=>zaR rfl (jH (r:=(l.length:Int)-1) (ai _ V)) (zyR 3 rfl (gK (k:=0) rfl dc rfl rfl cx (zbt h fun U h=>zaR rfl (jH (r:=(l.length:Int)-1) (ai _ U)) (zbl h fun q1 u h=>eY (k:=0) u cx re rfl dc rfl rfl rfl rfl (zab Aj rfl dc rfl (show _=(((l.length:Int)-1:Int).toNat)*4 from rfl) (fW (i:=((l.length:Int)-1:Int).toNat) (j:=0) (k:=0) (q:=q1) dQ ri rfl dc rfl rfl (ep u) rfl dc rfl (zbt h fun T h=>zaR rfl (jH (r:=(p1.i:Int)-q1.At) (ai _ T)) (eY (k:=0) u cx re rfl dc rfl rfl rfl rfl (zab Ak rfl dc rfl (show _=(((l.length:Int)-1:Int).toNat)*4+1 from rfl) (oF (i:=((l.length:Int)-1:Int).toNat) (j:=1) (k:=0) (q:=q1) (q':=(⟨q1.At,(p1.i:Int)-q1.At,q1.Rune,q1.Broken⟩:eC)) jJ ri rfl rfl rfl rfl (ep u) rfl dc rfl (fun _ _=>rfl) (bG (mD (l.set ((l.length:Int)-1:Int).toNat (⟨q1.At,(p1.i:Int)-q1.At,q1.Rune,q1.Broken⟩:eC)) h 2)))))))))))))))) (fun h=>bA (mD l h 2)))))))))))))) (fun l5 h=>?_)))))))))
    rw[M] at h
    refine bV (zyR 3 rfl (zbb (v:=.agg #[zI (p1.i:Int),zI 0,.int .i32 (p1.r:Int),.bool false]) (ps:=[(0,.tmp 32),(2,.tmp 33)]) rfl dc rfl (fun _=>by kernel_rfl) (fE (cs:=[zI (p1.i:Int),zI 0,.int .i32 (p1.r:Int),.bool false]) (te:=155) (ps:=[(0,.tmp 34)]) rfl dc rfl (fun _=>by kernel_rfl) (fun b2=>zbt h fun S h=>iC (k:=0) (k2:=2) (ys:=[(⟨(p1.i:Int),0,(p1.r:Int),false⟩:eC)]) cx Nb ri OG rfl dc rfl rfl rfl rfl rfl rfl S (fun Y=>zyR 1 rfl (bG (ca ?_)))))))
    subst y
    exact aD (B,l5++[(⟨(p1.i:Int),0,(p1.r:Int),false⟩:eC)],z+1,Y) h 2
   have h:=nH w h
   exact tw (k:=1) (m:=z) rfl dc rfl rfl (Nat.le_of_not_lt (of_decide_eq_false w)) (eT rfl dc rfl rfl (zyN (zaL (eh rfl (dF (bU (bU (dG (mD (l,E) h 1)))))))))
 rintro⟨o,v1⟩ h
 rw[N] at h
 refine zbp h fun j3 J h=>zaM (β:=(List eC)) 0 rfl (fun b=>j3 b=some r) (fun b=>[]) (fun b=>[(3,v1)]) (fun b=>[rn v1 b]) (fun cut=>cut (zyG (zyR 1 rfl (gK (k:=0) rfl dc rfl rfl cx (zaR rfl zdV (zyN (zyB rfl h (fun h=>bV (zyR 2 rfl (gK (k:=0) rfl dc rfl rfl cx (zbt h fun R h=>zaR rfl (jH (r:=(o.length:Int)-1) (ai _ R)) (zyR 1 rfl (zcX rfl dc rfl al (zyR 2 rfl (gK (k:=0) rfl dc rfl rfl cx (zbt h fun Q h=>zaR rfl (jH (r:=(o.length:Int)-1) (ai _ Q)) (zbl h fun q2 t h=>eY (k:=0) t cx re rfl dc rfl rfl rfl rfl (zab Aj rfl dc rfl (show _=(((o.length:Int)-1:Int).toNat)*4 from rfl) (fW (i:=((o.length:Int)-1:Int).toNat) (j:=0) (k:=0) (q:=q2) dQ ri rfl dc rfl rfl (ep t) rfl dc rfl (zbt h fun P h=>zaR rfl (jH (r:=(d.size:Int)-q2.At) (ai _ P)) (eY (k:=0) t cx re rfl dc rfl rfl rfl rfl (zab Ak rfl dc rfl (show _=(((o.length:Int)-1:Int).toNat)*4+1 from rfl) (oF (i:=((o.length:Int)-1:Int).toNat) (j:=1) (k:=0) (q:=q2) (q':=(⟨q2.At,(d.size:Int)-q2.At,q2.Rune,q2.Broken⟩:eC)) jJ ri rfl rfl rfl rfl (ep t) rfl dc rfl (fun _ _=>rfl) (bG (mD (o.set ((o.length:Int)-1:Int).toNat (⟨q2.At,(d.size:Int)-q2.At,q2.Rune,q2.Broken⟩:eC)) h 1)))))))))))))))))) (fun h=>bA (mD o h 1))))))))) (fun Z h=>?_)
 rw[J] at h
 refine zbp h fun C I h=>zaM (β:=(List eC)) 0 rfl (fun b=>C b=some r) (fun b=>[]) (fun b=>[(3,v1)]) (fun b=>[rn v1 b]) (fun cut=>?_) ?_
 ·refine cut (zyG (zyR 1 rfl (zyN (zau (eO (β:=Nat×(List eC)×Int) (fun b=>zaC (fun _ _=>none) (zee C) b.1 b.2.1 b.2.2=some r) (fun b=>[]) (fun b=>[(3,v1),(6,zI b.2.2)]) (fun b=>[rn v1 b.2.1]) (fun b=>b.1) (zbC,Z,0) h rfl (bE rfl) (cj 1) ?_)))))
  rintro⟨A,n,g⟩ h
  cases A with
  |zero=>exact eG h
  |succ A=>
   obtain⟨W,x⟩:∃ag,ag=zaC (fun _ _=>none) (zee C) A:=⟨_,rfl⟩
   have h:zee C W n g=some r:=by rw[x];exact h
   unfold zee at h
   refine zaL (zyG (zyR 2 rfl (gK (k:=0) rfl dc rfl rfl cx (zaR rfl zbi (zyN (zyB rfl h (fun h=>?_) (fun h=>?_)))))))
   ·refine bA (ct (zbp h fun j5 H h=>zaM (β:=(List eC)) 0 rfl (fun b=>j5 b=some r) (fun b=>[]) (fun b=>[(3,v1),(6,zI g)]) (fun b=>[rn v1 b]) (fun cut=>cut (zau (bV (zyR 4 rfl (zbl h fun a c h=>eY (k:=0) c cx re rfl dc rfl rfl rfl rfl (zab Al rfl dc rfl (show _=((g:Int).toNat)*4+2 from rfl) (fW (i:=(g:Int).toNat) (j:=2) (k:=0) (q:=a) eP ri rfl dc rfl rfl (ep c) rfl dc rfl (zaR rfl zbe (zyR 1 rfl (zyS (s:=70) rfl h (fun h=>zyR 2 rfl (eY (k:=0) c cx re rfl dc rfl rfl rfl rfl (zab Ak rfl dc rfl (show _=((g:Int).toNat)*4+1 from rfl) (fW (i:=(g:Int).toNat) (j:=1) (k:=0) (q:=a) dQ ri rfl dc rfl rfl (ep c) rfl dc rfl (zaR rfl zbe (zyR 1 rfl (eY (k:=0) c cx re rfl dc rfl rfl rfl rfl (zab zrS rfl dc rfl (show _=((g:Int).toNat)*4+3 from rfl) (oF (i:=(g:Int).toNat) (j:=3) (k:=0) (q:=a) (q':=(⟨a.At,a.Width,a.Rune,(a.Width:Int)==1⟩:eC)) jX ri rfl rfl rfl rfl (ep c) rfl dc rfl (fun _ _=>rfl) (bG (ca (mD (n.set (g:Int).toNat (⟨a.At,a.Width,a.Rune,(a.Width:Int)==1⟩:eC)) h 1)))))))))))) (fun h=>zyR 7 rfl (eY (k:=0) c cx re rfl dc rfl rfl rfl rfl (zab zrS rfl dc rfl (show _=((g:Int).toNat)*4+3 from rfl) (oF (i:=(g:Int).toNat) (j:=3) (k:=0) (q:=a) (q':=(⟨a.At,a.Width,a.Rune,false⟩:eC)) jX ri rfl rfl rfl rfl (ep c) rfl dc rfl (fun _ _=>rfl) (bG (ca (mD (n.set (g:Int).toNat (⟨a.At,a.Width,a.Rune,false⟩:eC)) h 1))))))))))))))))) (fun F h=>?_)))
    rw[H] at h
    refine bV (zyR 1 rfl (zbt h fun O h=>zaR rfl (dE (r:=g+1) (ai _ O)) (zyR 1 rfl (bG ?_))))
    subst x
    exact aD (A,F,g+1) h 1
   exact dF (bU (bU (dG (mD n h 1))))
 rintro l7 h
 rw[I] at h
 refine zyG (zyR 2 rfl (zyN (zaz ?_)))
 cases h
 exact eB (rs:=[.tmp 2]) v1 (.inl rfl) results108 (.cons (.tmp rfl) .nil) rfl (cj 1)
def zz (p1:eC):Option Int := aM (p1.Broken) (some 11) (aU (fl p1.Rune) <|some (kind p1.Rune))
theorem VH {p1:eC} {r:Int} (h:zz p1=some r):dB prog 109 [.agg #[zI p1.At,zI p1.Width,.int .i32 p1.Rune,.bool p1.Broken]] (zI r):=by
 unfold zz at h
 refine dB.intro func109 rfl ntmps109 (by simp) (fun w0 K=>zyG (zeV rfl dc rfl (fun b1=>zyR 1 rfl (zyN (zaL (zyG (zab zrS rfl dc rfl (show _=3 from rfl) (zat (k:=0) lW rfl dc rfl rfl rfl (zyN (zyB rfl h (fun h=>?_) (fun h=>?_)))))))))))
 ·refine zyG (zyR 1 rfl (zyN (zaz (bP ?_))))
  cases h
  exact cZ 2 results109
 refine bA (ct (zyG (zab Al rfl dc rfl (show _=2 from rfl) (zat (k:=0) eP rfl dc rfl rfl rfl (zbt h fun a h=>zaI (v:=zI (kind p1.Rune)) (vs:=[.int .i32 p1.Rune]) rfl dc rfl rfl rfl Hh (mw fun w=>HO p1.Rune w a.1 a.2) (zyR 1 rfl (zyN (zaz ?_))))))))
 cases h
 exact cZ 2 results109
def zdJ (c:ae) (h:ae→Option ae) (r1:(List eC)) (g:ae→Int→Option ae) (a:ae) (k3:Int):Option ae := aM (decide ((k3:Int)<(r1.length:Int))) (cn (fun (d:ae→Option ae)=>aT (zcx r1 k3) fun (q1:eC)=>aT (zz q1) fun (r2:Int)=>aM ((r2:Int) != 1) (aU (cp (q1.At+q1.Width)) <|aU (0≤(q1.At:Int)∧(q1.At:Int)≤(q1.At+q1.Width)∧(q1.At+q1.Width:Int)≤(c.size:Int)) <|aU (a.size+(cL c q1.At (q1.At+q1.Width)).size≤140737488355328) <|d (a++(cL c q1.At (q1.At+q1.Width)))) (aM ((q1.Rune:Int)==223) (aU (a.size+2≤140737488355328) <|d (a++(⟨#[83,83]⟩))) (aU (fl q1.Rune) <|aU (a.size+(ac (mY q1.Rune)).size≤140737488355328) <|d (a++(ac (mY q1.Rune)))))) (fun (b:ae)=>aU (cp (k3+1)) <|g b (k3+1))) (h a)
def zA (b:ae):Option ae := cn (fun (c:ae→Option ae)=>aT (zy b) fun (r1:(List eC))=>zaC (fun _ _=>none) (zdJ b c r1) zbC ad 0) (fun (a:ae)=>some a)
theorem VI {c:ae} {r:ae} (h:zA c=some r):dB prog 56 [.string c] (.string r):=by
 unfold zA at h
 refine dB.intro func56 rfl ntmps56 (by simp) (fun w0 K=>zbp h fun p x h=>zaM (β:=ae×Value) 3 rfl (fun b=>p b.1=some r) (fun b=>[]) (fun b=>[(4,b.2)]) (fun b=>[byt 5 b.2 b.1]) (fun cut=>?_) ?_)
 ·refine zyG (zyR 1 rfl (zyH (zyR 1 rfl (zbl h fun r1 t h=>zbJ (vs:=[.string c]) rfl dc rfl rfl rfl NZ (VG t) ah (fun n=>zyR 1 rfl (zyH (zyR 1 rfl (zyN (cut (zyG (zyR 1 rfl (zyN (zau (xr (e:=5) (eO (β:=Nat×ae×Int×Value) (fun b=>zaC (fun _ _=>none) (zdJ c p r1) b.1 b.2.1 b.2.2.1=some r) (fun b=>[]) (fun b=>[(0,.string c),(3,n),(4,b.2.2.2),(5,zI b.2.2.1)]) (fun b=>[rn n r1,byt 5 b.2.2.2 b.2.1]) (fun b=>b.1) (zbC,ad,0,(.slice none 0 0)) h rfl (bE rfl) (cj 2) ?_)))))))))))))))
  rintro⟨o,a,k3,M⟩ h
  cases o with
  |zero=>exact eG h
  |succ o=>
   obtain⟨E,d⟩:∃ag,ag=zaC (fun _ _=>none) (zdJ c p r1) o:=⟨_,rfl⟩
   have h:zdJ c p r1 E a k3=some r:=by rw[d];exact h
   unfold zdJ at h
   refine zaL (zyG (zyR 2 rfl (gK (k:=0) rfl dc rfl rfl cx (zaR rfl zbi (zyN (zyB rfl h (fun h=>?_) (fun h=>?_)))))))
   ·refine bA (ct (zbp h fun N u h=>zaM (β:=ae×Value) 0 rfl (fun b=>N b.1=some r) (fun b=>[]) (fun b=>[(0,.string c),(3,n),(4,b.2),(5,zI k3)]) (fun b=>[rn n r1,byt 5 b.2 b.1]) (fun cut=>cut (zau (zyG (zyR 2 rfl (zbl h fun q1 l h=>eY (k:=0) l cx re rfl dc rfl rfl rfl rfl (mz (i:=(k3:Int).toNat) (j:=0) (k:=0) (q:=q1) (cs:=[zI q1.At,zI q1.Width,.int .i32 q1.Rune,.bool q1.Broken]) GW ri rfl dc rfl rfl (ep l) rfl rfl rfl (zbk Na rfl dc (fun b1=>eK (k:=2) (vs:=[zI q1.At,zI q1.Width,.int .i32 q1.Rune,.bool q1.Broken]) (l':=[zI q1.At,zI q1.Width,.int .i32 q1.Rune,.bool q1.Broken]) re rfl rfl rfl rfl rfl (show _≤_ by simp) rfl rfl (zyH (zbT (k:=2) (cs:=[zI q1.At,zI q1.Width,.int .i32 q1.Rune,.bool q1.Broken]) GW rfl dc rfl rfl rfl rfl (zbl h fun r2 s h=>zaI (v:=zI r2) (vs:=[.agg #[zI q1.At,zI q1.Width,.int .i32 q1.Rune,.bool q1.Broken]]) rfl dc rfl rfl rfl N0 (VH (p1:=q1) s) (zaR rfl zf8 (zyN (zyB rfl h (fun h=>bV (zyR 2 rfl (zab Aj rfl dc rfl (show _=0 from rfl) (zat (k:=2) dQ rfl dc rfl rfl rfl (zab Aj rfl dc rfl (show _=0 from rfl) (zat (k:=2) dQ rfl dc rfl rfl rfl (zab Ak rfl dc rfl (show _=1 from rfl) (zat (k:=2) dQ rfl dc rfl rfl rfl (zbt h fun D h=>zaR rfl (dE (r:=q1.At+q1.Width) (ai _ D)) (zbt h fun C h=>ia rfl dc rfl rfl rfl (ka (i:=q1.At) (j:=q1.At+q1.Width) al (.inr rfl) (.inr rfl) C) (zbt h fun B h=>ub (k:=1) cO al qu rfl dc rfl rfl rfl B (fun I=>zyR 1 rfl (bG (ca (mD (a++(cL c q1.At (q1.At+q1.Width)),I) h 2))))))))))))))) (fun h=>zyG (zab Al rfl dc rfl (show _=2 from rfl) (zat (k:=2) eP rfl dc rfl rfl rfl (zaR rfl zbe (zyN (zyB rfl h (fun h=>bV (zyR 1 rfl (fE (cs:=[.int .u8 83,.int .u8 83]) (te:=5) (ps:=[(0,.const (.int .u8 83)),(1,.const (.int .u8 83))]) rfl dc rfl (fun _=>by kernel_rfl) (fun O=>zbt h fun A h=>zM (k:=1) (k2:=3) (ys:=(⟨#[83,83]⟩)) cO qu rfl dc rfl rfl rfl rfl rfl rfl A (fun H=>zyR 1 rfl (bG (ca (mD (a++(⟨#[83,83]⟩),H) h 2)))))))) (fun h=>bV (zyR 1 rfl (zab Al rfl dc rfl (show _=2 from rfl) (zat (k:=2) eP rfl dc rfl rfl rfl (zbt h fun m h=>zaI (v:=.int .i32 (mY q1.Rune)) (vs:=[.int .i32 q1.Rune]) rfl dc rfl rfl rfl N1 (mw fun w=>Pw q1.Rune w m.1 m.2) (zdi rfl dc rfl (lJ underlying21 al) (zbt h fun z h=>ub (k:=1) cO al qu rfl dc rfl rfl rfl z (fun G=>zyR 1 rfl (bG (ca (mD (a++(ac (mY q1.Rune)),G) h 2))))))))))))))))))))))))))))))) ?_))
    rintro⟨g,J⟩ h
    rw[u] at h
    refine bV (zyR 1 rfl (zbt h fun y h=>zaR rfl (dE (r:=k3+1) (ai _ y)) (zyR 1 rfl (bG ?_))))
    subst d
    exact aD (o,g,k3+1,J) h 2
   exact dF (bU (bU (dG (cH (a,M) h rfl (bE rfl) (cg [1] kr rfl)))))
 rintro⟨F,v1⟩ h
 rw[x] at h
 refine zyG (zyR 1 rfl (qq (k:=0) rfl dc rfl rfl cO underlying5 al (zyR 1 rfl (zyN (zaz ?_)))))
 cases h
 exact cZ 2 results56
def w5 (o1:db) (a:ae):Option ae := aT (zq o1 a) fun (r1:(List dr))=>aM (((r1.length:Int):Int)==0) (some (⟨#[63]⟩:ae)) (aT (zcx r1 0) fun (q1:dr)=>aM ((q1.Sort_:Int)==4) (some (⟨#[63]⟩:ae)) (aT (zcx r1 0) fun (q2:dr)=>aM ((q2.Sort_:Int)==2) (some (⟨#[48,45,57]⟩:ae)) (aT (zcx r1 0) fun (c:dr)=>aT (zcx o1.Units c.Place) fun (b:ae)=>aT (wE b) fun (r2:ae)=>aT (zA r2) fun (r3:ae)=>some r3)))
theorem Ld {_g:Nat} {o1:db} {_f _a _c _d:Hd} {p:ae} {r:ae} (h:w5 o1 p=some r):iu prog 24 [zP _g,.string p] [cells _g [_f.v,.map (some (bm _a)),_c.v,_d.v] 39,bD _f.v o1.Units,dU (bm _a) o1.Fors,bD _c.v o1.Skips,bD _d.v o1.Lines] [] (fun _:Unit=>(.string r)) (fun _=>[]):=by
 unfold w5 at h
 refine iu.intro func24 rfl ntmps24 (by simp) (fun w0 K a=>zyG (zyR 1 rfl (zyH (zyR 2 rfl (zbl h fun r1 y h=>zlS (vs:=[zP _g,.string p]) a rfl dc rfl rfl rfl Nz (Uk (_g:=_g) (o1:=o1) (_f:=_f) (_a:=_a) (_c:=_c) (_d:=_d) y) ah (.ro 0 rfl (.ro 1 rfl (.ro 2 rfl (.ro 3 rfl (.ro 4 rfl .nil))))) (fun v1=>iq (k:=0) rfl (fun b z=>?_)))))))
 subst z
 refine zyR 1 rfl (zyN (zaL (zyG (zyR 1 rfl (gK (k:=0) rfl dc rfl rfl cF (zaR rfl zbe (zyR 1 rfl (zyS (s:=12) rfl h (fun h=>?_) (fun h=>?_)))))))))
 ·refine zyR 6 rfl (zyN (gM rfl (zyG (zyR 1 rfl (zyN (zaz (bP ?_)))))))
  cases h
  exact cZ 4 rS
 refine zyR 1 rfl (zbl h fun q1 o h=>eY (k:=0) o cF sf rfl dc rfl rfl rfl rfl (zab vF rfl dc rfl (show _=((0:Int).toNat)*5 from rfl) (fW (i:=(0:Int).toNat) (j:=0) (k:=0) (q:=q1) dQ oM rfl dc rfl rfl (ep o) rfl dc rfl (zaR rfl zbe (zyR 1 rfl (zyN (zyB rfl h (fun h=>?_) (fun h=>?_))))))))
 ·refine zyG (zyR 1 rfl (zyN (zaz (bP ?_))))
  cases h
  exact cZ 4 rS
 refine bA (ct (zaL (zyG (zyR 1 rfl (zbl h fun q2 m h=>eY (k:=0) m cF sf rfl dc rfl rfl rfl rfl (zab vF rfl dc rfl (show _=((0:Int).toNat)*5 from rfl) (fW (i:=(0:Int).toNat) (j:=0) (k:=0) (q:=q2) dQ oM rfl dc rfl rfl (ep m) rfl dc rfl (zaR rfl zbe (zyN (zyB rfl h (fun h=>?_) (fun h=>?_)))))))))))
 ·refine zyG (zyR 1 rfl (zyN (zaz (bP ?_))))
  cases h
  exact cZ 4 rS
 refine bA (ct (zaL (zbl h fun t l h=>zbl h fun A g h=>zbl h fun r2 x h=>zbl h fun r3 w h=>zdb 8 [(0,24,zP _g),(1,25,zP _g),(2,26,zP _g),(3,27,_f.v),(4,28,b.v),(5,29,.pointer (some ⟨gn b.v,(0:Int).toNat*5,none⟩)),(6,30,.pointer (some ⟨gn b.v,((0:Int).toNat)*5+2,none⟩)),(7,31,zI t.Place)] mixed kr kr dc (by rfl) kr kr (zyP 1 0 rfl (zae (fun D n d c u i=>za8 rfl dc (bC 0 u d) (zaT 1 u i)) (zae (fun D n d c u i=>zab uf rfl dc (bC 1 u d) (show _=0 from rfl) (zaT 2 u i)) (zae (fun D n d c u i=>zd3 (i:=0) a rfl nK rfl dc (bC 2 u d) rfl (zaT 3 u i)) (zyP 1 4 rfl (zae (fun D n d c u i=>eY (k:=0) l cF sf rfl dc (bC 4 u d) rfl rfl rfl (zaT 5 u i)) (zae (fun D n d c u i=>zab M0 rfl dc (bC 5 u d) (show _=((0:Int).toNat)*5+2 from rfl) (zaT 6 u i)) (zae (fun D n d c u i=>fW (i:=(0:Int).toNat) (j:=2) (k:=0) (q:=t) dQ oM rfl dc (bC 6 u d) rfl (ep l) rfl dc rfl (zaT 7 u i)) ce)))))))) (fm (a.vw (i:=1) rfl) g aG gG rfl dc rfl rfl rfl (zY (n:=0+(t.Place:Int).toNat) (j:=0) (i:=1) (q:=A) a rfl eb gj rfl dc rfl (bX (a.vw (i:=1) rfl) g) rfl dc rfl (zaI (v:=.string r2) (vs:=[.string A]) rfl dc rfl rfl rfl GZ (I7 x) (zaI (v:=.string r3) (vs:=[.string r2]) rfl dc rfl rfl rfl NB (VI w) (zyR 1 rfl (zyN (zaz ?_))))))))))
 cases h
 exact cZ 4 rS
theorem E8:∀ (A B:List cN) (i:Nat),pL i (A++B)=pL i A++pL (i+(bJ A).length) B
 |[],B,i=>by simp[pL,bJ]
 |t::A,B,i=>by rw[bq,pL,pL,E8 A B,ko,aa,bq,Nat.add_assoc]
def f3 (x:cT):eC:=⟨x.At,x.Width,x.Rune,false⟩
def r3 (x:cT):eC:=⟨x.At,x.Width,x.Rune,x.Broken⟩
def h3 (A:List cN) (t:cN):eC:=⟨((bJ A).length:Int),0,(t.r:Int),false⟩
def w6:List cN→List cN→List eC
 |A,[]=>[]
 |A,[t]=>(pL 0 A).map f3++[h3 A t]
 |A,t::u::ts=>w6 (A++[t]) (u::ts)
theorem BN:∀ (B A:List cN) (t:cN),w6 A (B++[t])=(pL 0 (A++B)).map f3++[h3 (A++B) t]
 |[],A,t=>by rw[aE];rfl
 |[b],A,t=>rfl
 |b::c::B,A,t=>by
  show w6 (A++[b]) ((c::B)++[t])=_
  rw[BN (c::B) (A++[b]) t,aB];rfl
theorem Le (A:List cN) (t:cN) (w:Int) (a:w=(t.bs.length:Int)) :
  ((pL 0 A).map f3++[h3 A t]).set ((((pL 0 A).map f3++[h3 A t]).length:Int)-1).toNat (⟨(h3 A t).At,w,(h3 A t).Rune,(h3 A t).Broken⟩:eC)=(pL 0 (A++[t])).map f3:=by
 have e:((((pL 0 A).map f3++[h3 A t]).length:Int)-1)=(((pL 0 A).map f3).length:Int):=by rw[aa];show (((_+1:Nat):Int))-1=_;omega
 rw[e,Bu,E8,cQ,a]
 show _=_++[f3 (pT (0+(bJ A).length) t)]
 rw[bL];rfl
theorem Lg (A:List cN) (t:cN):zcx ((pL 0 A).map f3++[h3 A t]) ((((pL 0 A).map f3++[h3 A t]).length:Int)-1)=some (h3 A t):=by
 have e:((((pL 0 A).map f3++[h3 A t]).length:Int)-1)=(((pL 0 A).map f3).length:Int):=by rw[aa];show (((_+1:Nat):Int))-1=_;omega
 rw[e]
 exact gw (by simp)
theorem BO (A:List cN) (t:cN):(bJ (A++[t])).length=(bJ A).length+t.bs.length:=by rw[kp,aa];simp[bJ]
theorem VJ (s:ae) (y:s.size≤1000000000) (J:List eC→Option (List eC)):∀ (n:Nat) (B A:List cN),dK s.data.toList=A++B→B.length<n →
  zaC (fun _ _=>none) (zeF s J) n (w6 [] A) A.length=J (w6 [] (dK s.data.toList)):=by
 intro n
 induction n with
 |zero=>intro B A _ h;omega
 |succ n m=>
  intro B A d w
  rw[fX]
  generalize k:zaC (fun _ _=>none) (zeF s J) n=ag
  unfold zeF
  have b:(eA s.data.toList).length=A.length+B.length:=by
   rw[←aa,←d,←mJ (dK s.data.toList) 0,←sI,ar]
  have q:=qc s
  have hall:(dK s.data.toList).length=A.length+B.length:=by rw[d,aa]
  cases B with
  |nil=>
   rw[aI] at b
   refine fP ?_
   rw[d,aE]
  |cons t B=>
   rw[ab] at w b hall
   obtain⟨p,hp,hi,hr⟩:=KR d
   have g:s.size=(bJ A).length+(t.bs.length+(bJ B).length):=by
    rw[gJ,←pa s.data.toList,d,kp,ko,aa,aa]
   have l:=m B (A++[t]) (by rw[d,aB];rfl) (by omega)
   rw[k,show (A++[t]).length=A.length+1 by simp,BN,aW] at l
   refine eW (bf hp (cA ?_))
   have v:((pL 0 A).map f3).length=A.length:=by rw[ar,mJ]
   have a:(aU (((pL 0 A).map f3).length+1≤2147483648)<|ag ((pL 0 A).map f3++[(⟨(p.i:Int),0,(p.r:Int),false⟩:eC)]) (A.length+1))=J (w6 [] (dK s.data.toList)):=by
    refine gO ?_
    rw[hi,hr];exact l
   rcases pK A with h0|⟨c,u,h0⟩
   ·rw[h0] at a ⊢
    exact bM (aj (by show ¬(0:Int)<((0:Nat):Int);omega)) a
   ·rw[pW] at h0
    rw[h0] at a hi g hall ⊢
    rw[BN,aW]
    have x:((pL 0 c).map f3++[h3 c u]).length=c.length+1:=by rw[aa,ar,mJ];rfl
    rw[aa,ab,aI] at hall
    have j:(p.i:Int)-(h3 c u).At=(u.bs.length:Int):=by
     show (p.i:Int)-((bJ c).length:Int)=_
     rw[hi,BO];push_cast;omega
    have o:u.bs.length≤s.size:=by rw[BO] at g;omega
    refine eW (gO (gO (bf (Lg c u) (zdG ⟨by rw[j];omega,by rw[j];omega⟩ ?_))))
    rw[Le c u _ j]
    exact a
theorem VK (ts:List cN) (p:ts.length≤1000000000) (J:List eC→Option (List eC)):∀ (n:Nat) (B A:List cN),ts=A++B→B.length<n →
  zaC (fun _ _=>none) (zee J) n ((pL 0 A).map r3++(pL (bJ A).length B).map f3) (A.length:Int)=J ((pL 0 ts).map r3):=by
 intro n
 induction n with
 |zero=>intro B A _ h;omega
 |succ n l=>
  intro B A j m
  rw[fX]
  generalize i:zaC (fun _ _=>none) (zee J) n=ag
  unfold zee
  have c:((pL 0 A).map r3).length=A.length:=by rw[ar,mJ]
  have a:((pL 0 A).map r3++(pL (bJ A).length B).map f3).length=A.length+B.length:=by rw[aa,c,ar,mJ]
  have hall:ts.length=A.length+B.length:=by rw[j,aa]
  cases B with
  |nil=>
   rw[aI] at a
   refine fP ?_
   rw[j,aE]
   show J ((pL 0 A).map r3++[])=_
   rw[aE]
  |cons t B=>
   rw[ab] at a m hall
   have d:=l B (A++[t]) (by rw[j,aB];rfl) (by omega)
   rw[i,show (A++[t]).length=A.length+1 by simp,BO,E8,cQ,bL,aB] at d
   push_cast at d
   have hx:((pL 0 A).map r3++(pL (bJ A).length (t::B)).map f3)[A.length]?=some (f3 (pT (bJ A).length t)):=by
    rw[fT (by omega),c,mR];rfl
   have g:∀y:eC,((pL 0 A).map r3++(pL (bJ A).length (t::B)).map f3).set ((A.length:Int)).toNat y=(pL 0 A).map r3++y::(pL ((bJ A).length+t.bs.length) B).map f3:=fun y=>by
    have:=Bu ((pL 0 A).map r3) (f3 (pT (bJ A).length t)) y ((pL ((bJ A).length+t.bs.length) B).map f3)
    rw[c] at this
    exact this
   have o:(r3 (pT (bJ A).length t)).Broken=t.broken:=rfl
   refine eW (cA (bf (gw hx) ?_))
   have k:∀b:Bool,b=t.broken→(aU (cp ((A.length:Int)+1))<|ag (((pL 0 A).map r3++(pL (bJ A).length (t::B)).map f3).set ((A.length:Int)).toNat (⟨(f3 (pT (bJ A).length t)).At,(f3 (pT (bJ A).length t)).Width,(f3 (pT (bJ A).length t)).Rune,b⟩:eC)) ((A.length:Int)+1))=J ((pL 0 ts).map r3):=fun b hb=>by
    rw[g,hb]
    exact gO d
   by_cases h5:t.r=65533
   ·refine bQ (by show ((t.r:Int)==65533)=true;rw[h5];rfl) (k _ ?_)
    show ((t.bs.length:Int)==1)=t.broken
    unfold pN
    rw[h5,Bool.eq_iff_iff]
    simp
    omega
   ·refine bM (aA.2 (by show (t.r:Int)≠65533;omega)) (k _ ?_)
    unfold pN
    rw[aA.2 h5];rfl
theorem VL (s:ae) (h:s.size≤1000000000):zy s=some ((pL 0 (dK s.data.toList)).map r3):=by
 have g:=qc s
 unfold zy
 refine cA ((VJ s h _ zbC (dK s.data.toList) [] rfl (by unfold zbC;omega)).trans (cA ?_))
 have a:=fun J=>VK (dK s.data.toList) (by omega) J zbC (dK s.data.toList) [] rfl (by unfold zbC;omega)
 have key:∀l:List eC,l=(pL 0 (dK s.data.toList)).map f3→(cn (fun (d:(List eC)→Option (List eC))=>zaC (fun _ _=>none) (zee d) zbC l 0) (fun (c:List eC)=>some c))=some ((pL 0 (dK s.data.toList)).map r3):=fun l j=>by
  rw[j]
  exact cA (a _)
 rcases pK (dK s.data.toList) with h0|⟨A,t,h0⟩
 ·rw[h0]
  refine bM rfl ?_
  rw[h0] at key
  exact key [] rfl
 ·rw[pW] at h0
  have hsz:s.size=(bJ A).length+t.bs.length:=by
   rw[gJ,←pa s.data.toList,h0,BO]
  have hall:(dK s.data.toList).length=A.length+1:=by rw[h0,aa];rfl
  rw[h0] at key ⊢
  rw[BN,aW]
  have i:((pL 0 A).map f3++[h3 A t]).length=A.length+1:=by rw[aa,ar,mJ];rfl
  have b:(s.size:Int)-(h3 A t).At=(t.bs.length:Int):=by
   show (s.size:Int)-((bJ A).length:Int)=_
   omega
  refine eW (gO (gO (bf (Lg A t) (zdG ⟨by rw[b];omega,by rw[b];omega⟩ ?_))))
  exact key _ (Le A t _ b)
theorem VM (s:ae) (E:s.size≤1000000000):∀ (n:Nat) (B A:List cN) (b:ae),dK s.data.toList=A++B→B.length<n→b.size+4*B.length≤100000000000 →
  zaC (fun _ _=>none) (zdJ s some ((pL 0 (dK s.data.toList)).map r3)) n b (A.length:Int)=some (b++J nv B):=by
 intro n
 induction n with
 |zero=>intro B A b _ h;omega
 |succ n w=>
  intro B A b i C hb
  rw[fX]
  generalize u:zaC (fun _ _=>none) (zdJ s some ((pL 0 (dK s.data.toList)).map r3)) n=ag
  unfold zdJ
  have y:=qc s
  have g:((pL 0 (dK s.data.toList)).map r3).length=A.length+B.length:=by rw[ar,mJ,i,aa]
  have hall:(dK s.data.toList).length=A.length+B.length:=by rw[i,aa]
  cases B with
  |nil=>
   rw[aI] at g
   refine fP ?_
   show some b=some (b++ad)
   rw[aX]
  |cons t B=>
   rw[ab] at g C hall hb
   have ht:jC t:=nX s.data.toList t (by rw[i];simp)
   have D:s.size=(bJ A).length+(t.bs.length+(bJ B).length):=by
    rw[gJ,←pa s.data.toList,i,kp,ko,aa,aa]
   have hx:((pL 0 (dK s.data.toList)).map r3)[A.length]?=some (r3 (pT (bJ A).length t)):=by
    have:=qL (dK s.data.toList) 0 A.length t (by rw[i];simp)
    have hA:(dK s.data.toList).take A.length=A:=by rw[i];simp
    rw[hA,bL] at this
    rw[bT,this];rfl
   have m:∀x:ae,x.size≤4→x=nv t→(aU (cp ((A.length:Int)+1))<|ag (b++x) ((A.length:Int)+1))=some (b++J nv (t::B)):=fun x v o=>by
    have:=w B (A++[t]) (b++x) (by rw[i,aB];rfl) (by omega) (by rw[aJ];omega)
    rw[u,show (A++[t]).length=A.length+1 by simp] at this
    push_cast at this
    refine gO (this.trans ?_)
    rw[iN,o,cu]
   have q:zz (r3 (pT (bJ A).length t))=some (kT (tkT t)):=by
    unfold zz
    have hk:=rC t
    unfold fq at hk
    cases d:t.broken with
    |true=>
     rw[d,ax rfl] at hk
     exact bQ d (by rw[←hk])
    |false=>
     rw[d,ap (by simp)] at hk
     exact bM d (zdG (nt ht) (aH some hk))
   refine eW (cA (bf (gw hx) (bf q ?_)))
   have j:((kT (tkT t):Int)==1)=dY (tkT t):=tL (tkT t)
   cases l:dY (tkT t) with
   |true=>
    have e1:kT (tkT t)=1:=beq_iff_eq.1 (j.trans l)
    have a:nv t=if t.r=223 then ⟨#[83,83]⟩ else ac (mY (t.r:Int)):=by unfold nv;rw[l];rfl
    refine bM (bne_eq_false_iff_eq.2 e1) ?_
    by_cases c:t.r=223
    ·rw[ax c] at a
     exact bQ (by show ((t.r:Int)==223)=true;rw[c];rfl) (gO (m _ (by decide) a.symm))
    ·rw[ap c] at a
     have v:=mh (mY (t.r:Int))
     exact bM (aA.2 (by show (t.r:Int)≠223;omega)) (zdG (nt ht) (zdG (by show b.size+(ac (mY (t.r:Int))).size≤_;omega) (m _ v a.symm)))
   |false=>
    have e1:kT (tkT t)≠1:=aA.1 (j.trans l)
    have a:nv t=(tkT t).2:=by unfold nv;rw[l];rfl
    have hsz:=sM ht
    have p:(tkT t).2.size≤4:=by rw[gJ];show t.bs.toArray.toList.length≤4;simpa using hsz
    have z:(r3 (pT (bJ A).length t)).At+(r3 (pT (bJ A).length t)).Width=(((bJ A).length+t.bs.length:Nat):Int):=by
     show ((bJ A).length:Int)+(t.bs.length:Int)=_;push_cast;rfl
    have hd:s.data.toList=bJ (A++([t]++B)):=by rw[←pa s.data.toList,i];rfl
    have k:cL s (r3 (pT (bJ A).length t)).At (((bJ A).length+t.bs.length:Nat):Int)=(tkT t).2:=by
     have:=yW (s:=s) (A:=A) (W:=[t]) (Z:=B) hd rfl (b:=(bJ A).length+t.bs.length) (by simp[bJ])
     rw[show (r3 (pT (bJ A).length t)).At=((bJ A).length:Int) from rfl,this]
     show J (·.2) [tkT t]=_
     rw[iN,pA,aX]
    refine bQ (du.2 e1) ?_
    rw[z,k]
    exact gO (zdG ⟨by show (0:Int)≤((bJ A).length:Int);omega,by show ((bJ A).length:Int)≤_;omega,by omega⟩ (gO (m _ p a.symm)))
theorem VN (s:ae) (a:s.size≤1000000000):zA s=some (EV s):=by
 have b:=qc s
 unfold zA
 refine cA (bf (VL s a) ?_)
 have:=VM s a zbC (dK s.data.toList) [] ad rfl (by unfold zbC;omega) (by show 0+_≤_;omega)
 rw[ByteArray.empty_append] at this
 exact this
theorem BP:∀ (cs:List (Option (List El))) (out:List El) (sp:Bool),(∀a,some a∈cs→BK a)→(∀e l,out=e::l→e.sort≠1)→∀e l,l0 cs out sp=e::l→e.sort≠1
 |[],out,sp,_,h,e,l,he=>h e l he
 |none::cs,out,sp,hc,h,e,l,he=>BP cs out true (fun a b=>hc a (ak _ b)) h e l he
 |some []::cs,out,sp,hc,h,e,l,he=>BP cs out sp (fun a b=>hc a (ak _ b)) h e l he
 |some (x::a)::cs,out,sp,hc,h,e,l,he=>by
  refine BP cs _ false (fun a b=>hc a (ak _ b)) (fun c l' h'=>?_) e l he
  cases out with
  |nil=>
   have h':([]:List El)++(if sp&&!([]:List El).isEmpty then [kH] else [])++x::a=c::l':=h'
   rw[show ([]:List El).isEmpty=true from rfl,Bool.not_true,Bool.and_false] at h'
   injection h' with h' _
   rw[←h']
   exact hc (x::a) (aq ..) x (aq ..)
  |cons y out=>
   injection h' with h' _
   rw[←h']
   exact h y out rfl
theorem VO (o:cw) (t:ae):∀e l,pC o t=e::l→e.sort≠1:=by
 unfold pC sH
 exact BP _ [] false (E6 _ _ _) (fun e l h=>by cases h)
theorem VP {o:cw} {w:db} (hi:fj o) (hu:zr o) (hr:rI o w) (t:ae) (ht:sK t):w5 w t=some (BF o t):=by
 unfold w5 BF
 have c:=KV hi t
 have g:=VO o t
 have hg:=(S9 hi.ok t ht).1
 refine bf (UV hi hu hr t ht) ?_
 generalize pC o t=l at c g hg ⊢
 cases l with
 |nil=>exact bQ rfl rfl
 |cons e l=>
  have h0:zcx ((e::l).map rE) 0=some (rE e):=gw (i:=0) rfl
  have j:=(hg e (aq ..)).so
  have h1:=g e l rfl
  refine bM (aA.2 (by rw[ar,ab];omega)) (bf h0 ?_)
  show aM ((e.sort:Int)==4) _ _=some (ite (e.sort=3) _ _)
  by_cases h:e.sort=4
  ·rw[ap (by omega),ap (by omega)]
   exact bQ (beq_iff_eq.2 h) rfl
  ·refine bM (aA.2 h) (bf h0 ?_)
   show aM ((e.sort:Int)==2) _ _=_
   by_cases h2:e.sort=2
   ·rw[ap (by omega),ax h2]
    exact bQ (beq_iff_eq.2 h2) rfl
   ·have h3:e.sort=3:=by omega
    rw[ax h3]
    have m:=c e (aq ..) h3
    have hk:e.place.toNat<o.units.length:=by omega
    have a:=pg (l:=o.units) (k:=e.place.toNat) zfn hk
    rw[show ((e.place.toNat:Nat):Int)=e.place by omega,←hr.un] at a
    have b:=hi.us _ (aL (oT (d:=zfn) hk))
    rw[hr.un] at a
    generalize o.units.getD e.place.toNat zfn=u at a b ⊢
    refine bM (aA.2 h2) (bf h0 (bf (by rw[hr.un];exact a) (bf (Ji u (by have:=BD b;omega)) (bf (VN _ (by have:=KP b;omega)) rfl))))
def E9 (a1:ae) (b1:ae):Option (Int×Int) := some (0,0)
theorem VQ {a1:ae} {b1:ae} {r:(Int×Int)} (h:E9 a1 b1=some r):dB prog 16 [.pointer none,.string a1,.string b1] (.tuple #[zI r.1,zI r.2]):=by
 unfold E9 at h
 refine dB.intro func16 rfl ntmps16 (by simp) (fun w0 K=>zyG (zyR 2 rfl (zyN (zaL (zyG (zyR 1 rfl (zaR rfl (ziw (m:=(none:Option Unit)) gh (.inl ⟨rfl,rfl⟩)) (zyR 3 rfl (zyR 2 rfl (zyN (gM rfl (zyG (zyR 2 rfl (zyN (zaz (bP ?_))))))))))))))))
 cases h
 exact eB (rs:=[.tmp 6,.tmp 7]) () (.inl rfl) results16 (.cons (.tmp rfl) (.cons (.tmp rfl) .nil)) rfl ah
def Fa (a:ae) (b:List ae):Option (Int×Bool) := some (0,false)
theorem VR {g:ae} {a c:Value} {b:List ae} {d:Nat} {i:List ae} (j:Vw a b 1 d c i) {r:(Int×Bool)} (h:Fa g i=some r):Fn prog 22 [.pointer none,.string g,c] [bD a b] (fun _b:Unit=>.tuple #[zI r.1,.bool r.2]) (fun _b=>[bD a b]):=by
 unfold Fa at h
 refine _root_.Go.Proofs.YtifpjbgnikjglaaGreatDoor.Fn.intro func22 rfl ntmps22 (by simp) (fun w0 K=>zyG (zyR 2 rfl (zyN (zaL (zyG (zyR 1 rfl (zaR rfl (ziw (m:=(none:Option Unit)) gh (.inl ⟨rfl,rfl⟩)) (zyN (gM rfl (zyG (zyR 2 rfl (zyN (zaz (bP ?_))))))))))))))
 cases h
 exact eB (rs:=[.tmp 6,.tmp 7]) () (.inl rfl) results22 (.cons (.tmp rfl) (.cons (.tmp rfl) .nil)) rfl (cj 1)
def Fb  : Option ae := some (⟨#[]⟩:ae)
theorem VS  {r:ae} (h:Fb=some r):dB prog 10 [.pointer none] (.string r):=by
 unfold Fb at h
 refine dB.intro func10 rfl ntmps10 (by simp) (fun w0 K=>zyG (zyR 1 rfl (zyN (zaL (zyG (zyR 1 rfl (zaR rfl (ziw (m:=(none:Option Unit)) gh (.inl ⟨rfl,rfl⟩)) (zyN (gM rfl (zaL (bV (zyR 1 rfl (zyN (zaz (bP ?_)))))))))))))))
 cases h
 exact cZ 2 results10
def Fc (a:ae):Option ae := some ad
theorem VT {a:ae} {r:ae} (h:Fc a=some r):Fn prog 18 [.pointer none,.string a] [] (fun v0:Value=>v0) (fun v0=>[byt 5 v0 r]):=by
 unfold Fc at h
 refine _root_.Go.Proofs.YtifpjbgnikjglaaGreatDoor.Fn.intro func18 rfl ntmps18 (by simp) (fun w0 K=>zyG (zyR 1 rfl (zyN (zaL (zyG (zyR 1 rfl (zaR rfl (ziw (m:=(none:Option Unit)) gh (.inl ⟨rfl,rfl⟩)) (zyN (gM rfl (zaL (bV (zyR 1 rfl (zyN (zaz (bP (L4 (e:=5) ?_))))))))))))))))
 cases h
 exact eB (rs:=[.tmp 4]) (.slice none 0 0) (.inl rfl) results18 (.cons (.tmp rfl) .nil) rfl (cj 1)
def Fe (a:List ae):Option (List Int) := some ([]:List Int)
theorem VU {a c:Value} {b:List ae} {g:Nat} {i:List ae} (d:Vw a b 1 g c i) {r:(List Int)} (h:Fe i=some r):Fn prog 21 [.pointer none,c] [bD a b] (fun v0:Value=>v0) (fun v0=>[bD a b,vec (kl (.i64)) 3 1 v0 r]):=by
 unfold Fe at h
 refine _root_.Go.Proofs.YtifpjbgnikjglaaGreatDoor.Fn.intro func21 rfl ntmps21 (by simp) (fun w0 K=>zyG (zeV rfl dc rfl (fun b1=>zzC (fun _ _=>Vw.one d) rfl dc rfl (fun j=>zyR 1 rfl (zyN (zaL (zyG (zat (k:=1) oJ rfl dc rfl rfl rfl (zaR rfl (ziw (m:=(none:Option Unit)) gh (.inl ⟨rfl,rfl⟩)) (zyN (gM rfl (zyG (zyR 1 rfl (zyN (zaz (bP (xe (enc:=(kl (.i64))) (e:=3) (size:=1) ?_)))))))))))))))))
 cases h
 exact eB (rs:=[.tmp 4]) (.slice none 0 0) (.inl rfl) results21 (.cons (.tmp rfl) .nil) rfl (cg [0,3] kr rfl)
def BQ (b:ae):Option ae := cn (fun (a:Option ae)=>a) (some (⟨#[63]⟩:ae))
theorem Lh {c:ae} {r:ae} (h:BQ c=some r):dB prog 23 [.pointer none,.string c] (.string r):=by
 unfold BQ at h
 refine dB.intro func23 rfl ntmps23 (by simp) (fun w0 K=>zbp h fun d a h=>zaM (β:=Unit) 1 rfl (fun b=>d=some r) (fun b=>[]) (fun b=>[]) (fun b=>[]) (fun cut=>zyG (zyR 1 rfl (zyN (cut (zyG (zyR 1 rfl (zaR rfl (MJ (m:=(none:Option Unit)) gh (.inl ⟨rfl,rfl⟩)) (zyN (eh rfl (bA (cH () h rfl (qo) ah))))))))))) (fun _ h=>?_))
 rw[a] at h
 refine zyG (zyR 1 rfl (zyN (zaz ?_)))
 cases h
 exact cZ 4 results23
def Ff  : Option (List ae) := some []
theorem VV {a:Nat} {xs:(List ae)} (h:Ff=some xs):qt prog 34 [zP a] (fun q:ae=>[.string q]) xs [cells a [.pointer none] 29]:=by
 unfold Ff at h
 refine qt.intro func34 rfl ntmps34 (by simp) (fun l w0 K I X c hy=>?_)
 obtain⟨r0,b⟩:∃r,xs=[]++r:=⟨xs,rfl⟩
 have d:xs=r0:=b
 rw[d] at h
 refine zaL (zyG (zd3 (i:=0) c rfl oJ rfl dc rfl rfl (zaR rfl (ziw (m:=(none:Option Unit)) gh (.inl ⟨rfl,rfl⟩)) (zyN (gM rfl (zaz (bP ?_)))))))
 cases h
 exact u6 (ds:=[]) (.inl rfl) ah results34 (aH I (b.trans (aE _))) (cj 1)
def Fg  : Option Unit := some ()
theorem VW  {r:Unit} (h:Fg=some r):Fn prog 12 [.pointer none] [] (fun v0:Nat=>.func (.func 34) #[] #[zP v0]) (fun v0=>[cells v0 [.pointer none] 29]):=by
 unfold Fg at h
 refine _root_.Go.Proofs.YtifpjbgnikjglaaGreatDoor.Fn.intro func12 rfl ntmps12 (by simp) (fun w0 K=>zyG (zeV rfl dc rfl (fun b1=>zyR 1 rfl (zyH (ziy (x1:=[]) (x2:=[.tmp 1]) rfl dc rfl rfl (zyR 1 rfl (zyN (zaz ?_))))))))
 cases h
 exact eB (rs:=[.tmp 2]) b1 (.inl rfl) results12 (.cons (.tmp rfl) .nil) rfl (cj 1)
def zd1 (a:Option Bool) (x1:ae) (b:Option Bool):Option Bool := a
def BR (a:ae) (p:ae):Option Bool := aT (ze) fun (r1:Bool)=>aM (!r1) (some false) (cn (fun (o:ae→Option Bool)=>aT (zx a) fun (r2:((Option cw)×(Option db)))=>aT (zf p) fun (r3:ae)=>aM (r2.1.isNone) (some false) (aM (r2.1.isNone) (aT (BQ r3) fun (t:ae)=>aT (r2.2) fun (p1:db)=>aT (w5 p1 r3) fun (s:ae)=>aM (!decide (t=s)) (some false) (o r3)) (aT (r2.1) fun (v:cw)=>aT (wP v r3) fun (r:ae)=>aT (r2.2) fun (u:db)=>aT (w5 u r3) fun (q:ae)=>aM (!decide (r=q)) (some false) (o r3)))) (fun (b:ae)=>cn (fun (w:Option Bool)=>aT (Fg) fun (x:Unit)=>aT (Ff) fun (d:(List ae))=>cn (fun (l:Option Bool)=>cn (fun (m:Option Bool)=>zdw m (zd1 l) d) (w)) (some false)) (aT (E9 b (⟨#[97]⟩:ae)) fun (n:(Int×Int))=>aT (Fa b ([b]:List ae)) fun (c:(Int×Bool))=>aT (Fb) fun (k:ae)=>aM (decide (k=(⟨#[]⟩:ae))) (aM ((n.1:Int)==0) (aM ((n.2:Int)==0) (aT (Fc b) fun (j:ae)=>aM (((j.size:Int):Int)==0) (aT (Fe ([b,(⟨#[97]⟩:ae)]:List ae)) fun (i:(List Int))=>aM (((i.length:Int):Int)==0) (aM ((c.1:Int)==0) (aM (!c.2) (aT (BQ b) fun (h:ae)=>aM (decide (h=(⟨#[63]⟩:ae))) (aT (ze) fun (g:Bool)=>some g) (some false)) (some false)) (some false)) (some false)) (some false)) (some false)) (some false)) (some false))))
theorem VX {d:ae} {Y:ae} {r:Bool} (h:BR d Y=some r):dB prog 6 [.string d,.string Y] (.bool r):=by
 unfold BR at h
 refine dB.intro func6 rfl ntmps6 (by simp) (fun w0 K=>ziX (zyG (zbk zFC rfl dc (fun b1=>zyN (zaL (zyG (zbl h fun r1 b9 h=>zaI (v:=.bool r1) (vs:=[]) rfl dc rfl rfl rfl GX (KK b9) (jU rfl dc rfl jV (zyN (zyB rfl h (fun h=>?_) (fun h=>?_)))))))))))
 ·refine zyG (ef (k:=1) (l':=[.bool false]) jX rfl rfl rfl rfl rfl (fun _ _=>rfl) rfl (zyN (zaz (bP ?_))))
  cases h
  exact lj (rs:=[.cell 4 4]) ([]:List Nat) () (.inl rfl) (lg (k:=0) rfl) fw (.cons (.cell lW (k:=1) rfl rfl) .nil) rfl ah
 refine bA (ct (zbp h fun j1 ch h=>zaM (β:=ae) 2 rfl (fun b=>j1 b=some r) (fun b=>oj ([]:List Nat)) (fun b=>[(1,.string b),(4,zP b1)]) (fun b=>[cells b1 [.bool false] 4,zhW ((([]:List Nat):List Nat).map fx)]) (fun cut=>?_) ?_))
 ·refine zyG (zyR 1 rfl (zbl h fun r2 b8 h=>zbJ (vs:=[.string d]) rfl dc rfl rfl rfl Nf (VE b8) ah ?_))
  rintro⟨v1,X⟩
  refine lm (L':=[zhW ((([]:List Nat):List Nat).map fx),cells b1 [.bool false] 4,jA nj nk 72 v1 r2.1,jA pu pv 39 X r2.2]) (cj 4) (zyR 1 rfl (eT rfl dc rfl rfl (eT rfl dc rfl rfl (zyR 2 rfl (zyH (zyR 1 rfl (zbl h fun r3 b0 h=>zaI (v:=.string r3) (vs:=[.string Y]) rfl dc rfl rfl rfl Ng (TI b0) (zyR 1 rfl (zyN (cut (zyG (zyR 1 rfl (Gu (k:=2) rfl (fun a6=>zaR rfl (ziw gh a6) (zyR 1 rfl (zyS (s:=23) rfl h (fun h=>?_) (fun h=>?_)))))))))))))))))
  ·refine zyR 8 rfl (zyN (gM rfl (zyG (ef (k:=1) (l':=[.bool false]) jX rfl rfl rfl rfl rfl (fun _ _=>rfl) rfl (zyN (zaz (bP ?_)))))))
   cases h
   exact lj (rs:=[.cell 4 4]) ([]:List Nat) () (.inl rfl) (lg (k:=0) rfl) fw (.cons (.cell lW (k:=1) rfl rfl) .nil) rfl ah
  refine zyR 2 rfl (Gu (k:=2) rfl (fun a5=>qW (b:=r2.1.isNone) (fun p=>?_) (fun p=>?_)))
  ·have h:=nG p h
   obtain⟨_,rfl⟩:=a5.resolve_right (fun h9=>by have h8:=h9.1;rw[p] at h8;cases h8)
   refine zbl h fun r4 bs h=>zaI (v:=.string r4) (vs:=[.pointer none,.string r3]) rfl dc rfl rfl rfl Am (Lh bs) (zyR 2 rfl (zbl h fun p1 bk h=>qX (As:=[jA pu pv 39 X r2.2]) (cg [3] kr rfl) (z6 bk) ?_))
   rintro⟨b2,dj,di,dg,df⟩ a4
   have n:=h
   subst a4
   have h:=n
   refine zbl h fun r5 bh h=>kZ (v:=.string r5) (vs:=[zP b2,.string r3]) (tV:Rd _ _ []) rfl dc rfl rfl rfl G1 (Ld (_g:=b2) (o1:=p1) (_f:=dj) (_a:=di) (_c:=dg) (_d:=df) bh) (.own (cg [4] kr rfl) (fun _ _ h=>aQ.1 h) (.own (cg [5] kr rfl) (fun _ _ h=>aQ.1 h) (.own (cg [6] kr rfl) (fun _ _ h=>aQ.1 h) (.own (cg [7] kr rfl) (fun _ _ h=>aQ.1 h) (.own (cg [8] kr rfl) (fun _ _ h=>aQ.1 h) .nil))))) (zaR rfl qV (zyR 1 rfl (zyN (zyB rfl h (fun h=>?_) (fun h=>?_)))))
   ·refine zyG (ef (k:=1) (l':=[.bool false]) jX rfl rfl rfl rfl rfl (fun _ _=>rfl) rfl (zyN (zaz (bP ?_))))
    cases h
    exact lj (rs:=[.cell 4 4]) ([]:List Nat) () (.inl rfl) (lg (k:=0) rfl) fw (.cons (.cell lW (k:=1) rfl rfl) .nil) rfl ah
   exact bA (cH r3 h rfl (bE rfl) (cg [1,0] kr rfl))
  have h:=nH p h
  refine zbl h fun p2 bb h=>qX (As:=[jA nj nk 72 v1 r2.1]) (cg [2] kr rfl) (z6 bb) ?_
  rintro⟨b3,dd,c5,c4,c3,c2⟩ a3
  have n:=h
  subst a3
  have h:=n
  refine zbl h fun r6 a9 h=>kZ (v:=.string r6) (vs:=[zP b3,.string r3]) (tV:Rd _ _ []) rfl dc rfl rfl rfl Am (JZ (_g:=b3) (o1:=p2) (_f:=dd) (_a:=c5) (_c:=c4) (_d:=c3) (_h:=c2) a9) (.own (cg [4] kr rfl) (fun _ _ h=>aQ.1 h) (.own (cg [5] kr rfl) (fun _ _ h=>aQ.1 h) (.own (cg [6] kr rfl) (fun _ _ h=>aQ.1 h) (.own (cg [7] kr rfl) (fun _ _ h=>aQ.1 h) (.own (cg [8] kr rfl) (fun _ _ h=>aQ.1 h) (.own (cg [9] kr rfl) (fun _ _ h=>aQ.1 h) .nil)))))) (zyR 2 rfl (zbl h fun p3 a8 h=>qX (As:=[jA pu pv 39 X r2.2]) (cg [3] kr rfl) (z6 a8) ?_))
  rintro⟨b4,U,T,S,R⟩ a2
  have n:=h
  subst a2
  have h:=n
  refine zbl h fun r7 N h=>kZ (v:=.string r7) (vs:=[zP b4,.string r3]) (tV:Rd _ _ []) rfl dc rfl rfl rfl G1 (Ld (_g:=b4) (o1:=p3) (_f:=U) (_a:=T) (_c:=S) (_d:=R) N) (.own (cg [10] kr rfl) (fun _ _ h=>aQ.1 h) (.own (cg [11] kr rfl) (fun _ _ h=>aQ.1 h) (.own (cg [12] kr rfl) (fun _ _ h=>aQ.1 h) (.own (cg [13] kr rfl) (fun _ _ h=>aQ.1 h) (.own (cg [14] kr rfl) (fun _ _ h=>aQ.1 h) .nil))))) (zaR rfl qV (zyR 1 rfl (zyN (zyB rfl h (fun h=>?_) (fun h=>?_)))))
  ·refine zyG (ef (k:=1) (l':=[.bool false]) jX rfl rfl rfl rfl rfl (fun _ _=>rfl) rfl (zyN (zaz (bP ?_))))
   cases h
   exact lj (rs:=[.cell 4 4]) ([]:List Nat) () (.inl rfl) (lg (k:=0) rfl) fw (.cons (.cell lW (k:=1) rfl rfl) .nil) rfl ah
  exact bA (cH r3 h rfl (bE rfl) (cg [1,0] kr rfl))
 rintro l h
 rw[ch] at h
 refine zbp h fun j2 cc h=>zaM (β:=(List Nat)) 1 rfl (fun b=>j2=some r) (fun b=>oj b) (fun b=>[(1,.string l),(4,zP b1),(7,.pointer none)]) (fun b=>[cells b1 [.bool false] 4,zhW ((b:List Nat).map fx)]) (fun cut=>?_) ?_
 ·refine zyG (zyR 1 rfl (zyN (cut (zyG (zyR 1 rfl (zbl h fun r8 M h=>zbJ (vs:=[.pointer none]) rfl dc rfl rfl rfl Nd (VW M) ah (fun W=>lm (L':=[cells b1 [.bool false] 4,zhW ((([]:List Nat):List Nat).map fx),cells W [.pointer none] 29]) (cj 3) (zyN (zau (zbl h fun B J h=>zbp h fun q P h=>zbp h fun u Q h=>MK (α:=ae) (β:=Unit) (γ:=Unit) (δ:=Unit) (ps:=[34]) (tV:Rd _ _ []) Ro.nil rfl Nu (VV J) (fun pre b=>∀post,B=pre++post→zdw u (zd1 q) post=some r) (fun pre b=>[cells b1 [.bool false] 4]) (fun c pre g=>(fun g=>c=.ret∧q=some r) g) (fun c pre g=>(fun g=>[cells b1 [.bool false] 4]) g) (fun pre x b j=>[(1,.string l),(4,zP b1),(7,.pointer none),(33,.func (.func 34) #[] #[zP W])]) (fun pre x b j=>[cells b1 [.bool false] 4]) () (fun post e=>by rw[aW] at e;subst e;exact h) (cj 1) (.own (As:=[cells W [.pointer none] 29]) (cg [2] kr rfl) (fun _ _ h=>aQ.1 h) .nil) (fun _=>rfl) dc (fun lp rc pre x1 post _ w1 K1 t O a7 i=>bA (fun a w ha hw=>⟨(),(bE rfl) _ _ _ ha,hw.weaken (cj 1)⟩)) ?_ ?_ ?_))))))))))
  ·rintro lp rc pre x1 m _ _ w1 K1 t O a7 i
   have h:=i (x1::m) t
   obtain⟨dn,V⟩:∃ag,ag=zdw u (zd1 q) m:=⟨_,rfl⟩
   have h:zd1 q x1 dn=some r:=by have h2:=h;rw[nI,←V] at h2;exact h2
   unfold zd1 at h
   exact zau (zyG (ef (k:=0) (l':=[.bool false]) jX rfl rfl rfl rfl rfl (fun _ _=>rfl) rfl (zyN (zaz (cD (my () (show _∧_ from ⟨rfl,h⟩) (cj 1)))))))
  ·rintro o _ i
   have h:u=some r:=i [] (aE _).symm
   rw[Q] at h
   show TX _ _ _ _ _ _ _ [cy,zhW ((([]:List Nat):List Nat).map fx),cells W [.pointer none] 29,cells b1 [.bool false] 4,fx o]
   exact rU (k:=4) (j:=1) rfl rfl dc (ca (cH (o::([]:List Nat)) h rfl (bE rfl) (cg [3,1] kr rfl)))
  rintro o c pre x1 post g dT hX
  obtain⟨rfl,h⟩:=(show _∧_ from hX)
  rw[P] at h
  show TC _ _ _ _ _ _ _ _ _ [cy,zhW ((([]:List Nat):List Nat).map fx),cells W [.pointer none] 29,cells b1 [.bool false] 4,fx o]
  refine zU (k:=4) (j:=1) rfl rfl dc (zaz (cD (bP ?_)))
  cases h
  exact lj (rs:=[.cell 4 4]) (o::([]:List Nat)) () (.inl rfl) (lg (k:=1) rfl) fw (.cons (.cell lW (k:=3) rfl rfl) .nil) rfl ah
 rintro ds1 h
 rw[cc] at h
 refine zyG (zyR 2 rfl (zbl h fun r9 I h=>zaI (v:=.tuple #[zI r9.1,zI r9.2]) (vs:=[.pointer none,.string l,.string (⟨#[97]⟩:ae)]) rfl dc rfl rfl rfl G0 (VQ I) (zyR 1 rfl (eT rfl dc rfl rfl (eT rfl dc rfl rfl (zyR 2 rfl (zyH (zyR 3 rfl (fE (cs:=[.string l]) (te:=9) (ps:=[(0,.tmp 44)]) rfl dc rfl (fun _=>by kernel_rfl) (fun b6=>mA ([l]:List ae) (k:=2) rfl gj rfl (show 1≤maxLen by decide) (kj (k:=2) rfl (fun a1=>zbl h fun A H h=>oZ (v:=.tuple #[zI A.1,.bool A.2]) (vs:=[.pointer none,.string l,.slice (some ⟨b6,0,none⟩) 1 1]) rfl dc rfl rfl rfl Nj (VR a1 H) [2] kr rfl (zyR 1 rfl (eT rfl dc rfl rfl (eT rfl dc rfl rfl (zyR 2 rfl (zyH (zyR 1 rfl (zbl h fun aw G h=>zaI (v:=.string aw) (vs:=[.pointer none]) rfl dc rfl rfl rfl Nc (VS G) (zaR rfl zdn (zyR 1 rfl (zyS (s:=52) rfl h (fun h=>?_) (fun h=>?_)))))))))))))))))))))))
 ·refine zyR 1 rfl (zaR rfl zbe (zyR 2 rfl (zyS (s:=56) rfl h (fun h=>?_) (fun h=>?_))))
  ·refine zyR 1 rfl (zaR rfl zbe (zyR 2 rfl (zyS (s:=60) rfl h (fun h=>?_) (fun h=>?_))))
   ·refine zyR 2 rfl (zbl h fun z F h=>zbJ (vs:=[.pointer none,.string l]) rfl dc rfl rfl rfl Nh (VT F) ah (fun v3=>lm (L':=[cells b1 [.bool false] 4,zhW ((ds1:List Nat).map fx),bD (.slice (some ⟨b6,0,none⟩) 1 1) ([l]:List ae),byt 5 v3 z]) (cj 4) (MD (k:=3) rfl dc rfl rfl cO (zaR rfl zbe (zyR 2 rfl (zyS (s:=67) rfl h (fun h=>?_) (fun h=>?_)))))))
    ·refine zyR 2 rfl (fE (cs:=[.string l,.string (⟨#[97]⟩:ae)]) (te:=9) (ps:=[(0,.tmp 69),(1,.const (.string (⟨#[97]⟩:ae)))]) rfl dc rfl (fun _=>by kernel_rfl) (fun b7=>mA ([l,(⟨#[97]⟩:ae)]:List ae) (k:=4) rfl gj rfl (show 2≤maxLen by decide) (kj (k:=4) rfl (fun a0=>zbl h fun ao E h=>zbJ (vs:=[.pointer none,.slice (some ⟨b7,0,none⟩) 2 2]) rfl dc rfl rfl rfl Ni (VU a0 E) (cg [4] kr rfl) (fun v4=>lm (L':=[cells b1 [.bool false] 4,zhW ((ds1:List Nat).map fx),bD (.slice (some ⟨b6,0,none⟩) 1 1) ([l]:List ae),byt 5 v3 z,bD (.slice (some ⟨b7,0,none⟩) 2 2) ([l,(⟨#[97]⟩:ae)]:List ae),vec (kl (.i64)) 3 1 v4 ao]) (cg [0,1,2,3,5,6] kr rfl) (iq (k:=5) rfl (fun ds c0=>?_)))))))
     subst c0
     refine gK (k:=5) rfl dc rfl rfl underlying51 (zaR rfl zbe (zyR 2 rfl (zyS (s:=75) rfl h (fun h=>?_) (fun h=>?_))))
     ·refine zyR 1 rfl (zaR rfl zbe (zyR 2 rfl (zyS (s:=79) rfl h (fun h=>?_) (fun h=>?_))))
      ·refine zyR 1 rfl (jU rfl dc rfl jV (zyR 2 rfl (zyS (s:=83) rfl h (fun h=>?_) (fun h=>?_))))
       ·refine zyR 2 rfl (zbl h fun Z D h=>zaI (v:=.string Z) (vs:=[.pointer none,.string l]) rfl dc rfl rfl rfl Am (Lh D) (zaR rfl zdn (zyR 2 rfl (zyS (s:=89) rfl h (fun h=>?_) (fun h=>?_)))))
        ·refine zbl h fun y C h=>zaI (v:=.bool y) (vs:=[]) rfl dc rfl rfl rfl GX (KK C) (zyR 1 rfl (ef (k:=0) (l':=[.bool y]) jX rfl rfl rfl rfl rfl (fun _ _=>rfl) rfl (zyN (zaz ?_))))
         cases h
         exact lj (rs:=[.cell 4 4]) ds1 () (.inl rfl) (lg (k:=1) rfl) fw (.cons (.cell lW (k:=0) rfl rfl) .nil) rfl ah
        refine zyR 2 rfl (ef (k:=0) (l':=[.bool false]) jX rfl rfl rfl rfl rfl (fun _ _=>rfl) rfl (zyN (zaz ?_)))
        cases h
        exact lj (rs:=[.cell 4 4]) ds1 () (.inl rfl) (lg (k:=1) rfl) fw (.cons (.cell lW (k:=0) rfl rfl) .nil) rfl ah
       refine zyR 8 rfl (ef (k:=0) (l':=[.bool false]) jX rfl rfl rfl rfl rfl (fun _ _=>rfl) rfl (zyN (zaz ?_)))
       cases h
       exact lj (rs:=[.cell 4 4]) ds1 () (.inl rfl) (lg (k:=1) rfl) fw (.cons (.cell lW (k:=0) rfl rfl) .nil) rfl ah
      refine zyR 12 rfl (ef (k:=0) (l':=[.bool false]) jX rfl rfl rfl rfl rfl (fun _ _=>rfl) rfl (zyN (zaz ?_)))
      cases h
      exact lj (rs:=[.cell 4 4]) ds1 () (.inl rfl) (lg (k:=1) rfl) fw (.cons (.cell lW (k:=0) rfl rfl) .nil) rfl ah
     refine zyR 14 rfl (zyR 2 rfl (ef (k:=0) (l':=[.bool false]) jX rfl rfl rfl rfl rfl (fun _ _=>rfl) rfl (zyN (zaz ?_))))
     cases h
     exact lj (rs:=[.cell 4 4]) ds1 () (.inl rfl) (lg (k:=1) rfl) fw (.cons (.cell lW (k:=0) rfl rfl) .nil) rfl ah
    refine zyR 14 rfl (zyR 10 rfl (ef (k:=0) (l':=[.bool false]) jX rfl rfl rfl rfl rfl (fun _ _=>rfl) rfl (zyN (zaz ?_))))
    cases h
    exact lj (rs:=[.cell 4 4]) ds1 () (.inl rfl) (lg (k:=1) rfl) fw (.cons (.cell lW (k:=0) rfl rfl) .nil) rfl ah
   refine zyR 14 rfl (zyR 14 rfl (zyR 3 rfl (ef (k:=0) (l':=[.bool false]) jX rfl rfl rfl rfl rfl (fun _ _=>rfl) rfl (zyN (zaz ?_)))))
   cases h
   exact lj (rs:=[.cell 4 4]) ds1 () (.inl rfl) (lg (k:=1) rfl) fw (.cons (.cell lW (k:=0) rfl rfl) .nil) rfl ah
  refine zyR 14 rfl (zyR 14 rfl (zyR 7 rfl (ef (k:=0) (l':=[.bool false]) jX rfl rfl rfl rfl rfl (fun _ _=>rfl) rfl (zyN (zaz ?_)))))
  cases h
  exact lj (rs:=[.cell 4 4]) ds1 () (.inl rfl) (lg (k:=1) rfl) fw (.cons (.cell lW (k:=0) rfl rfl) .nil) rfl ah
 refine zyR 14 rfl (zyR 14 rfl (zyR 11 rfl (ef (k:=0) (l':=[.bool false]) jX rfl rfl rfl rfl rfl (fun _ _=>rfl) rfl (zyN (zaz ?_)))))
 cases h
 exact lj (rs:=[.cell 4 4]) ds1 () (.inl rfl) (lg (k:=1) rfl) fw (.cons (.cell lW (k:=0) rfl rfl) .nil) rfl ah
theorem VY (text c:ae):BR text c=some true:=by
 obtain⟨w,g,b⟩:=VF text
 have hi:=TH text
 have hu:=Uy text
 unfold BR
 refine bf KL (bM rfl (cA (bf g (bf (TJ _) (bM rfl (bM rfl (bf (a:=sP text) rfl ?_)))))))
 generalize sP text=o at hi hu b
 have hr:=b.rel hi
 have d:=TK c
 generalize zg c=s at d ⊢
 have fs:sK s:=SM (by omega)
 refine bf (T6 hi s fs) (bf (a:=w) rfl (bf (VP hi hu hr s fs) (bM (by rw[au rfl];rfl) ?_)))
 refine cA (bf (a:=()) rfl (bf (a:=([]:List ae)) rfl (cA (cA ?_))))
 rw[xc]
 refine bf (a:=((0:Int),(0:Int))) rfl (bf (a:=((0:Int),false)) rfl (bf (a:=(⟨#[]⟩:ae)) rfl (bQ (au rfl) (bQ rfl (bQ rfl ?_)))))
 refine bf (a:=ad) rfl (bQ rfl (bf (a:=([]:List Int)) rfl (bQ rfl (bQ rfl (bQ rfl ?_)))))
 exact bf (a:=(⟨#[63]⟩:ae)) rfl (bQ (au rfl) (bf KL rfl))
theorem collateHeadings_any (text s:ae) (w:World) (h0:text.size≤140737488351232) (h1:s.size≤140737488351232):Calls prog 6 #[.string text,.string s] w fun e w'=>e=.returned (.bool true)∧Below w.heap.size w w' :=
 VX (VY text s) w
end Go.Proofs.YtifpjbgnikjglaaGreatDoor
