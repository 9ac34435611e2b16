/-
  Texts laid together: LcD, Kn, Ko, Kp, Kq, LcH, Kr, Kt, Ku, Kv, Kw, Kx, LcG, Ky, LcM, Va, LcO, Vb, Vc, Vd, Ve, Vf, Vg, Vh. Nothing is assumed.
-/
import Derived.Test.YtifpjbgnikjglaaGreatDoorCollateCompares4
import Derived.Test.YtifpjbgnikjglaaGreatDoorCollateCompares2
import Derived.Test.YtifpjbgnikjglaaGreatDoorCollateCompares5
import Derived.Test.YtifpjbgnikjglaaGreatDoorCollateCompares3
set_option maxRecDepth 100000
set_option maxHeartbeats 4000000
namespace Go.Proofs.YtifpjbgnikjglaaGreatDoor
open Go.RowKit Go.Lib
open Tryz
set_option linter.unusedVariables false
set_option linter.unusedSimpArgs false
open _root_.Bool renaming and_eq_true→aQ,false_or→dp,or_eq_false_iff→bL,not_eq_true'→cK,false_eq_true→bj,true_and→fG,true_or→pC,not_eq_false'→cI,or_false→mQ
open _root_.ByteArray renaming empty→ac,append_empty→bx,size_append→aE,append_assoc→de,empty_append→dD
open _root_.Go.IntWalk renaming i64_in→ai
open _root_.Go.Lib renaming indexByte→br,compareBytes→bc
open _root_.Go.Proofs.Tryz renaming underlying36→aK,underlying63→cF,results31→jr,underlying9→an,underlying37→tu,underlying77→aI,results60→iL,underlying21→aZ,underlying96→bm,results17→kz
open bR renaming nil→bQ
open Hd renaming nil→eB
open Rd renaming nil→lW
open aq renaming nil→ah
open Vw renaming get→ce
open evL renaming cons→dv
open aO renaming one1→aF
open _root_.Go.Utf8 renaming encode→ae
open _root_.Go.Value renaming string→af,int→aB,bool→ay
open _root_.Int renaming toNat_natCast→bz,le_refl→eN,zero_add→qm
open _root_.List renaming replicate→bE,nil_append→bg,append_nil→aH,getD_eq_getElem?_getD→cC,getElem?_eq_getElem→aJ,length_cons→ab,mem_map→aU,length_map→az,length_append→aa,append_assoc→aA,nodup_cons→iY,drop_zero→el,mem_of_getElem?→aP,map_map→cn,map_congr_left→dw,length_take→bD,length_drop→aS,mem_append→bY,mem_cons→bo,take_append_drop→bZ,length_nil→aL,length→gq,getElem?_eq_some_iff→au,map_cons→av,all_eq_true→bd,take_of_length_le→ee,mem_singleton→bO,mem_cons_self→ar,mem_cons_of_mem→ak,length_pos_iff→cV,takeWhile_cons→aW,dropWhile_cons→cD,cons_append→aX,foldl_cons→bn,length_eq_zero_iff→gY,any_cons→jl,head?_dropWhile_not→kj,mem_append_right→qh,dropWhile_sublist→pE,map_nil→ed,getLast?_concat→qL,getLast?_eq_none_iff→oA
open _root_.Nat renaming le_refl→bq,zero_le→bG,zero_add→cf,lt_succ_self→ct
open _root_.Option renaming isSome_iff_exists→jx,getD_some→fi
open _root_.Or renaming inr→jq
open _root_.Prod renaming snd→eC,fst→bw
def zc3 (o1:cw) (m:List gw) (t:ad→ad→(List ad)→Option (zaw×cw)) (q2:gw) (l:ad→(List ad)→Int→Option (zaw×cw)) (a:ad) (b:List ad) (c:Int):Option (zaw×cw) := aN (decide ((c:Int)<(m.length:Int))) (co (fun (k:ad→(List ad)→Option (zaw×cw))=>co (fun (q:Int→ad→Bool→Bool→Option (zaw×cw))=>aT (zca m c) fun (h:gw)=>aN ((c:Int)==0) (co (fun (o:ad→Option (zaw×cw))=>aN (decide ((0:Int)<c)) (aV (a.size+(⟨#[32,97,102,116,101,114]⟩:ad).size≤9223372036854775807) <|o (a++(⟨#[32,97,102,116,101,114]⟩:ad))) (o a)) (fun (f:ad)=>k f b)) (aN (decide (q2.text=(⟨#[112,117,116]⟩:ad))) (aN ((c:Int)==2) (co (fun (n:ad→Option (zaw×cw))=>aN (decide ((0:Int)<c)) (aV (a.size+(⟨#[32,97,102,116,101,114]⟩:ad).size≤9223372036854775807) <|n (a++(⟨#[32,97,102,116,101,114]⟩:ad))) (n a)) (fun (e:ad)=>k e b)) (q h.at_ h.text true ((c:Int)==2))) (q h.at_ h.text false false))) (fun (j:Int) (i:ad) (v:Bool) (u:Bool)=>aT (xb i) fun (r2:ad)=>aT (zca b c) fun (w:ad)=>aT (zca (b.set (c:Int).toNat r2) c) fun (s:ad)=>aN (decide (s=(⟨#[]⟩:ad))) (some ((⟨221,j⟩:zaw),o1)) (aT (zca (b.set (c:Int).toNat r2) c) fun (r:ad)=>aT (ve r) fun (r3:ad)=>aV ((⟨#[32]⟩:ad).size+r3.size≤9223372036854775807) <|aV (a.size+((⟨#[32]⟩:ad)++r3).size≤9223372036854775807) <|k (a++((⟨#[32]⟩:ad)++r3)) (b.set (c:Int).toNat r2)))) (fun (g:ad) (d:List ad)=>aV (cr (c+1)) <|l g d (c+1))) (t q2.text a b)
def zc2 (o1:cw) (g:List gw) (a:List ad) (h:Option (zaw×cw)) (f:Int→Option (zaw×cw)) (b:Int):Option (zaw×cw) := aN (decide ((b:Int)<(a.length:Int))) (co (fun (e:Option (zaw×cw))=>aT (zca a b) fun (c:ad)=>aN (decide ((1:Int)<b)) (aN (!decide (c=(⟨#[]⟩:ad))) (aN (!((zbP c o1.place).isSome)) (aT (zca g b) fun (d:gw)=>some ((⟨223,d.at_⟩:zaw),o1)) (e)) (e)) (e)) (aV (cr (b+1)) <|f (b+1))) (h)
def zK (o1:cw) (d:List gw) (g:Int):Option (zaw×cw) := aN (((o1.lines.length:Int):Int)==256) (aT (zca d 0) fun (q1:gw)=>some ((⟨3,q1.at_⟩:zaw),o1)) (aT (zm d g) fun (r1:Int)=>aN (decide ((0:Int)≤r1)) (some ((⟨220,r1⟩:zaw),o1)) (co (fun (y:ad→ad→(List ad)→Option (zaw×cw))=>aT (zca d 0) fun (q2:gw)=>aV (0≤(d.length:Int)∧(d.length:Int)≤2147483648) <|zaC (fun _ _ _=>none) (zc3 o1 d y q2) zbx q2.text (bE ((d.length:Int):Int).toNat ac:List ad) 0) (fun (b:ad) (c:ad) (a:List ad)=>aN (decide (b=(⟨#[115,107,105,112]⟩:ad))) (aT (zca a 1) fun (r:ad)=>aT (pf r) fun (k:ad)=>aN (((zbP k o1.skips).getD false)) (aT (zca d 1) fun (q:gw)=>some ((⟨222,q.at_⟩:zaw),o1)) (aV (o1.lines.length+1≤2147483648) <|some ((⟨0,0⟩:zaw),(⟨o1.units,o1.place,o1.fors,iq k true o1.skips,o1.lines++[c]⟩:cw)))) (aT (zca a 1) fun (o:ad)=>aT (zo o1 o) fun (n:Bool)=>aN (n) (aT (zca d 1) fun (j:gw)=>some ((⟨222,j.at_⟩:zaw),o1)) (co (fun (w:Option (zaw×cw))=>zaC (fun _=>none) (zc2 o1 d a w) zbx 0) (co (fun (m:(List ad)→(List (ad×Int))→(List (ad×List ad))→(List (ad×Bool))→(List ad)→Option (zaw×cw))=>aN (decide (b=(⟨#[112,117,116]⟩:ad))) (aT (zca a 3) fun (e:ad)=>aV (cr (((zbP e o1.place).getD 0)+1)) <|aT (zca a 1) fun (i:ad)=>aV (0≤(((zbP e o1.place).getD 0)+1:Int)∧(((zbP e o1.place).getD 0)+1:Int)≤(o1.units.length:Int)∧o1.units.length≤2147483648) <|aT (xc (⟨js o1.units (((zbP e o1.place).getD 0)+1) i,o1.place,o1.fors,o1.skips,o1.lines⟩:cw)) fun (f:cw)=>m f.units f.place f.fors f.skips f.lines) (aT (zca a 1) fun (h:ad)=>aV (0≤(2:Int)∧(2:Int)≤(a.length:Int)∧((a.length:Int):Int)≤(a.length:Int)) <|m o1.units o1.place (iq h (dK a 2 (a.length:Int)) o1.fors) o1.skips o1.lines)) (fun (v:List ad) (u:List (ad×Int)) (t:List (ad×List ad)) (s:List (ad×Bool)) (l:List ad)=>aV (l.length+1≤2147483648) <|some ((⟨0,0⟩:zaw),(⟨v,u,t,s,l++[c]⟩:cw)))))))))
theorem T5 {_h:Nat} {o1:cw} {_f _a _c _d _g:Hd} {Z y:Value} {d5:List gw} {C:Nat} {N:List gw} (f:Vw Z d5 2 C y N) {T:Int} {r:(zaw×cw)} (h:zK o1 N T=some r):iu prog 31 [zP _h,y,zI T] [jh uG 2 Z C d5] [cells _h [_f.v,.map (some (bi _a)),.map (some (bi _c)),.map (some (bi _d)),_g.v] 72,bH _f.v o1.units,cz (fun n:ad=>af n) (fun n:Int=>aB .i64 n) (bi _a) o1.place,dQ (bi _c) o1.fors,cz (fun n:ad=>af n) (fun n:Bool=>ay n) (bi _d) o1.skips,bH _g.v o1.lines] (fun b:Hd×Hd×Hd×Hd×Hd=>.agg (kN r.1).toArray) (fun b=>[cells _h [b.1.v,.map (some (bi b.2.1)),.map (some (bi b.2.2.1)),.map (some (bi b.2.2.2.1)),b.2.2.2.2.v] 72,bH b.1.v r.2.units,cz (fun n:ad=>af n) (fun n:Int=>aB .i64 n) (bi b.2.1) r.2.place,dQ (bi b.2.2.1) r.2.fors,cz (fun n:ad=>af n) (fun n:Bool=>ay n) (bi b.2.2.2.1) r.2.skips,bH b.2.2.2.2.v r.2.lines]):=by
 unfold zK at h
 refine iu.intro func31 rfl ntmps31 (by simp) (fun w0 K H=>zyG (zbi zq8 rfl dc (fun b1=>zyN (zaJ (zyG (zyR 1 rfl (zbc rfl dc rfl (zab zpG rfl dc rfl (show _=4 from rfl) (zas (k:=0) oq rfl dc rfl rfl rfl (gZ (k:=5) rfl dc rfl rfl aK (zaT rfl zbm (zyN (zyB rfl h (fun h=>?_) (fun h=>?_))))))))))))))
 ·refine zyG (zyR 1 rfl (zbk h fun q1 dn h=>fy f dn cF pt rfl dc rfl rfl rfl (zab tN rfl dc rfl (show _=(C+(0:Int).toNat)*2 from rfl) (jG (n:=C+(0:Int).toNat) (j:=0) (i:=0) (q:=q1) H rfl (by omega) dO rfl dc rfl (ce f dn) rfl rfl (zbf (v:=.agg #[zI 3,zI q1.at_]) (ps:=[(0,.const (zI 3)),(1,.tmp 27)]) rfl dc rfl (fun _=>by kernel_rfl) (eE (k:=6) (vs:=[zI 3,zI q1.at_]) (l':=[zI 3,zI q1.at_]) kC rfl rfl rfl rfl rfl (show _≤_ by simp) rfl rfl (zyN (zaA (bP ?_)))))))))
  cases h
  exact eu (rs:=[.cell 6 26]) (_f,_a,_c,_d,_g) (.inl rfl) jr (.cons (.cells kW (k:=6) rfl rfl rfl) .nil) rfl (cp 6)
 refine zap (zaz (zaJ (zyG (zyR 2 rfl (zbk h fun r1 en h=>lg (v:=zI r1) (vs:=[y,zI T]) H rfl dc rfl rfl rfl Od (Ss f en) (.ro 0 rfl .nil) (zyR 1 rfl (zyH (zyR 1 rfl (zaT rfl zbF (zyN (zyB rfl h (fun h=>?_) (fun h=>?_))))))))))))
 ·refine zyG (zyR 1 rfl (zbf (v:=.agg #[zI 220,zI r1]) (ps:=[(0,.const (zI 220)),(1,.tmp 34)]) rfl dc rfl (fun _=>by kernel_rfl) (eE (k:=6) (vs:=[zI 220,zI r1]) (l':=[zI 220,zI r1]) kC rfl rfl rfl rfl rfl (show _≤_ by simp) rfl rfl (zyN (zaA (bP ?_))))))
  cases h
  exact eu (rs:=[.cell 6 26]) (_f,_a,_c,_d,_g) (.inl rfl) jr (.cons (.cells kW (k:=6) rfl rfl rfl) .nil) rfl (cp 6)
 refine zap (zaz (zbq h fun j1 e0 h=>zaL (β:=ad×ad×(List ad)×Value) 3 rfl (fun b=>j1 b.1 b.2.1 b.2.2.1=some r) (fun b=>[]) (fun b=>[(0,zP _h),(1,y),(6,zP b1),(8,.string b.1),(9,.string b.2.1),(10,b.2.2.2)]) (fun b=>[cells _h [_f.v,.map (some (bi _a)),.map (some (bi _c)),.map (some (bi _d)),_g.v] 72,bH _f.v o1.units,cz (fun n:ad=>af n) (fun n:Int=>aB .i64 n) (bi _a) o1.place,dQ (bi _c) o1.fors,cz (fun n:ad=>af n) (fun n:Bool=>ay n) (bi _d) o1.skips,bH _g.v o1.lines,cells b1 [zI 0,zI 0] 26,bH b.2.2.2 b.2.2.1]) (fun cut=>?_) ?_))
 ·refine zyG (zyR 1 rfl (zbk h fun q2 df h=>fy f df cF pt rfl dc rfl rfl rfl (zab wi rfl dc rfl (show _=(C+(0:Int).toNat)*2+1 from rfl) (jG (n:=C+(0:Int).toNat) (j:=1) (i:=0) (q:=q2) H rfl (by omega) dU rfl dc rfl (ce f df) rfl rfl (zyR 1 rfl (zyH (zyR 2 rfl (zyH (zyR 1 rfl (zbT f rfl dc rfl cF (zbs h fun e9 h=>GE (z:=ac) aK oM Hb gK rfl dc rfl e9 (fun v2=>zyR 1 rfl (zyN (cut (zyG (zyR 1 rfl (zbT f rfl dc rfl cF (zyR 1 rfl (zyN (zat (eF (β:=Nat×ad×(List ad)×Int) (fun b=>zaC (fun _ _ _=>none) (zc3 o1 N j1 q2) b.1 b.2.1 b.2.2.1 b.2.2.2=some r) (fun b=>[]) (fun b=>[(0,zP _h),(1,y),(6,zP b1),(8,.string q2.text),(9,.string b.2.1),(10,v2),(44,y),(45,zI (N.length:Int)),(46,zI b.2.2.2)]) (fun b=>[cells _h [_f.v,.map (some (bi _a)),.map (some (bi _c)),.map (some (bi _d)),_g.v] 72,bH _f.v o1.units,cz (fun n:ad=>af n) (fun n:Int=>aB .i64 n) (bi _a) o1.place,dQ (bi _c) o1.fors,cz (fun n:ad=>af n) (fun n:Bool=>ay n) (bi _d) o1.skips,bH _g.v o1.lines,cells b1 [zI 0,zI 0] 26,bH v2 b.2.2.1]) (fun b=>b.1) (zbx,q2.text,(bE ((N.length:Int):Int).toNat ac:List ad),0) h rfl (bI rfl) (cp 8) ?_)))))))))))))))))))))
  rintro⟨n1,o,g,G⟩ h
  cases n1 with
  |zero=>exact ew h
  |succ n1=>
   obtain⟨fn,a9⟩:∃ag,ag=zaC (fun _ _ _=>none) (zc3 o1 N j1 q2) n1:=⟨_,rfl⟩
   have h:zc3 o1 N j1 q2 fn o g G=some r:=by rw[a9];exact h
   unfold zc3 at h
   refine zyG (zaT rfl zbd (zyN (zaJ (zyB rfl h (fun h=>?_) (fun h=>?_)))))
   ·refine zap (zaz (zbq h fun j2 eM h=>zaL (β:=ad×(List ad)) 0 rfl (fun b=>j2 b.1 b.2=some r) (fun b=>[]) (fun b=>[(0,zP _h),(1,y),(6,zP b1),(8,.string q2.text),(9,.string b.1),(10,v2),(44,y),(45,zI (N.length:Int)),(46,zI G)]) (fun b=>[cells _h [_f.v,.map (some (bi _a)),.map (some (bi _c)),.map (some (bi _d)),_g.v] 72,bH _f.v o1.units,cz (fun n:ad=>af n) (fun n:Int=>aB .i64 n) (bi _a) o1.place,dQ (bi _c) o1.fors,cz (fun n:ad=>af n) (fun n:Bool=>ay n) (bi _d) o1.skips,bH _g.v o1.lines,cells b1 [zI 0,zI 0] 26,bH v2 b.2]) (fun cut=>?_) ?_))
    ·refine cut (zat (zbq h fun j3 eL h=>zaL (β:=Int×ad×Bool×Bool×Nat) 1 rfl (fun b=>j3 b.1 b.2.1 b.2.2.1 b.2.2.2.1=some r) (fun b=>[]) (fun b=>[(0,zP _h),(1,y),(6,zP b1),(8,.string q2.text),(9,.string o),(10,v2),(11,zI G),(12,zP b.2.2.2.2),(44,y),(45,zI (N.length:Int)),(46,zI G),(54,.string q2.text),(55,.bool (decide (q2.text=(⟨#[112,117,116]⟩:ad)))),(56,.bool b.2.2.1),(59,.bool b.2.2.2.1)]) (fun b=>[cells _h [_f.v,.map (some (bi _a)),.map (some (bi _c)),.map (some (bi _d)),_g.v] 72,bH _f.v o1.units,cz (fun n:ad=>af n) (fun n:Int=>aB .i64 n) (bi _a) o1.place,dQ (bi _c) o1.fors,cz (fun n:ad=>af n) (fun n:Bool=>ay n) (bi _d) o1.skips,bH _g.v o1.lines,cells b1 [zI 0,zI 0] 26,bH v2 g,cells b.2.2.2.2 [zI b.1,.string b.2.1] 111]) (fun cut=>?_) ?_))
     ·refine zyG (zyR 1 rfl (zbk h fun S dd h=>fy f dd cF pt rfl dc rfl rfl rfl (pJ (m:=C+(G:Int).toNat) (j:=0) (i:=0) (q:=S) (cs:=[zI S.at_,.string S.text]) H rfl (by omega) NI rfl dc rfl (ce f dd) rfl rfl rfl (zbi NJ rfl dc (fun b3=>zyR 1 rfl (eE (k:=8) (vs:=[zI S.at_,.string S.text]) (l':=[zI S.at_,.string S.text]) pt rfl rfl rfl rfl rfl (show _≤_ by simp) rfl rfl (zyN (cut (zyG (zyR 1 rfl (zaT rfl zbm (zyR 1 rfl (zyS (s:=53) rfl h (fun h=>?_) (fun h=>?_))))))))))))))
      ·refine zyR 7 rfl (zyN (ir rfl (zbq h fun j4 ez h=>zaL (β:=ad) 0 rfl (fun b=>j4 b=some r) (fun b=>[]) (fun b=>[(0,zP _h),(1,y),(6,zP b1),(8,.string q2.text),(9,.string b),(10,v2),(44,y),(45,zI (N.length:Int)),(46,zI G),(54,undef),(55,undef),(56,undef),(57,undef),(58,undef),(59,undef)]) (fun b=>[cells _h [_f.v,.map (some (bi _a)),.map (some (bi _c)),.map (some (bi _d)),_g.v] 72,bH _f.v o1.units,cz (fun n:ad=>af n) (fun n:Int=>aB .i64 n) (bi _a) o1.place,dQ (bi _c) o1.fors,cz (fun n:ad=>af n) (fun n:Bool=>ay n) (bi _d) o1.skips,bH _g.v o1.lines,cells b1 [zI 0,zI 0] 26,bH v2 g]) (fun cut=>cut (zyG (zyR 1 rfl (zaT rfl zd4 (zyN (zyB rfl h (fun h=>bX (zyR 1 rfl (zbs h fun e8 h=>zaT rfl (lJ e8) (zyR 1 rfl (zaB (mD (o++(⟨#[32,97,102,116,101,114]⟩:ad)) h 8)))))) (fun h=>zap (mD o h 8)))))))) (fun bs h=>?_))))
       rw[ez] at h
       exact dy (bV (dz (mD (bs,g) h 8)))
      refine zyR 1 rfl (zaT rfl zdp (zyR 1 rfl (zyS (s:=56) rfl h (fun h=>?_) (fun h=>?_))))
      ·refine zyR 1 rfl (zaT rfl zbm (zyR 2 rfl (zyN (zyB rfl h (fun h=>?_) (fun h=>?_)))))
       ·refine zbq h fun j5 ey h=>zaL (β:=ad) 0 rfl (fun b=>j5 b=some r) (fun b=>[]) (fun b=>[(0,zP _h),(1,y),(6,zP b1),(8,.string q2.text),(9,.string b),(10,v2),(44,y),(45,zI (N.length:Int)),(46,zI G),(54,.string q2.text),(55,.bool (decide (q2.text=(⟨#[112,117,116]⟩:ad)))),(56,.bool true),(57,zI G),(58,.bool ((G:Int)==2)),(59,.bool ((G:Int)==2))]) (fun b=>[cells _h [_f.v,.map (some (bi _a)),.map (some (bi _c)),.map (some (bi _d)),_g.v] 72,bH _f.v o1.units,cz (fun n:ad=>af n) (fun n:Int=>aB .i64 n) (bi _a) o1.place,dQ (bi _c) o1.fors,cz (fun n:ad=>af n) (fun n:Bool=>ay n) (bi _d) o1.skips,bH _g.v o1.lines,cells b1 [zI 0,zI 0] 26,bH v2 g]) (fun cut=>cut (zyG (zyR 1 rfl (zaT rfl zd4 (zyN (zyB rfl h (fun h=>bX (zyR 1 rfl (zbs h fun e7 h=>zaT rfl (lJ e7) (zyR 1 rfl (zaB (mD (o++(⟨#[32,97,102,116,101,114]⟩:ad)) h 8)))))) (fun h=>zap (mD o h 8)))))))) (fun bk h=>?_)
        rw[ey] at h
        exact dy (bV (dz (mD (bk,g) h 8)))
       exact zap (mD (S.at_,S.text,true,(G:Int)==2,b3) h 9)
      exact zyR 4 rfl (zyN (za8 rfl (zap (mD (S.at_,S.text,false,false,b3) h 9))))
     rintro⟨bb,ea,x5,x6,b2⟩ h
     rw[eL] at h
     refine zaJ (zyG (zyR 2 rfl (zab wi rfl dc rfl (show _=1 from rfl) (zas (k:=8) dU rfl dc rfl rfl rfl (zbk h fun r2 em h=>zaI (v:=.string r2) (vs:=[.string ea]) rfl dc rfl rfl rfl Oe (Sv em) (zbk h fun q4 db h=>eJ (k:=7) db aK gV rfl dc rfl rfl rfl rfl (qs (i:=(G:Int).toNat) (j:=0) (k:=7) (q:=q4) (q':=r2) gV gK rfl rfl rfl rfl (ei db) rfl dc rfl (fun _ _=>rfl) (zyH (zyR 2 rfl (zbk h fun q5 da h=>eJ (k:=7) da aK gV rfl dc rfl rfl rfl rfl (fw (i:=(G:Int).toNat) (j:=0) (k:=7) (q:=q5) dU gK rfl dc rfl rfl (ei da) rfl dc rfl (zaT rfl zdp (zyN (zyB rfl h (fun h=>?_) (fun h=>?_)))))))))))))))
     ·refine zyG (zab tN rfl dc rfl (show _=0 from rfl) (zas (k:=8) dO rfl dc rfl rfl rfl (zbf (v:=.agg #[zI 221,zI bb]) (ps:=[(0,.const (zI 221)),(1,.tmp 77)]) rfl dc rfl (fun _=>by kernel_rfl) (eE (k:=6) (vs:=[zI 221,zI bb]) (l':=[zI 221,zI bb]) kC rfl rfl rfl rfl rfl (show _≤_ by simp) rfl rfl (zyN (zaA (bP (cx (bP (bP (cx (bP ?_))))))))))))
      cases h
      exact eu (rs:=[.cell 6 26]) (_f,_a,_c,_d,_g) (.inl rfl) jr (.cons (.cells kW (k:=6) rfl rfl rfl) .nil) rfl (cp 6)
     exact zap (zaz (bX (zyR 3 rfl (zbk h fun q6 c5 h=>eJ (k:=7) c5 aK gV rfl dc rfl rfl rfl rfl (fw (i:=(G:Int).toNat) (j:=0) (k:=7) (q:=q6) dU gK rfl dc rfl rfl (ei c5) rfl dc rfl (zbk h fun r3 eg h=>zaI (v:=.string r3) (vs:=[.string q6]) rfl dc rfl rfl rfl HD (JG eg) (zbs h fun e6 h=>zaT rfl (lJ e6) (zbs h fun e5 h=>zaT rfl (lJ e5) (zyR 1 rfl (zaB (cd (mD (o++((⟨#[32]⟩:ad)++r3),g.set (G:Int).toNat r2) h 8))))))))))))
    rintro⟨b0,Y⟩ h
    rw[eM] at h
    refine bX (zbs h fun e4 h=>zaT rfl (dA (r:=G+1) (ai _ e4)) (zyR 1 rfl (zaB ?_)))
    subst a9
    exact aD (n1,b0,Y,G+1) h 8
   exact dy (bV (bV (dz (mD (q2.text,o,g,v2) h 8))))
 rintro⟨I,t,a,v1⟩ h
 rw[e0] at h
 refine zaJ (zyG (zyR 1 rfl (zaT rfl zdp (zyN (zyB rfl h (fun h=>?_) (fun h=>?_))))))
 ·refine zyG (zyR 1 rfl (zbk h fun q7 a6 h=>eJ (k:=7) a6 aK gV rfl dc rfl rfl rfl rfl (fw (i:=(1:Int).toNat) (j:=0) (k:=7) (q:=q7) dU gK rfl dc rfl rfl (ei a6) rfl dc rfl (zbk h fun r4 dj h=>zaI (v:=.string r4) (vs:=[.string q7]) rfl dc rfl rfl rfl rK (rU dj) (zyR 1 rfl (zyN (zaJ (zyG (zyR 1 rfl (zbc rfl dc rfl (zab rI rfl dc rfl (show _=3 from rfl) (zas (k:=0) rH rfl dc rfl rfl rfl (zyR 1 rfl (G2 (k:=4) (ek:=(fun n:ad=>af n)) (ev':=(fun n:Bool=>ay n)) (kk:=r4) (z0:=false) (mT an) underlying70 kr rfl dc rfl rfl rfl (zyN (zyB rfl h (fun h=>?_) (fun h=>?_)))))))))))))))))
  ·refine zyG (zyR 1 rfl (zbk h fun q8 a5 h=>fy f a5 cF pt rfl dc rfl rfl rfl (zab tN rfl dc rfl (show _=(C+(1:Int).toNat)*2 from rfl) (jG (n:=C+(1:Int).toNat) (j:=0) (i:=0) (q:=q8) H rfl (by omega) dO rfl dc rfl (ce f a5) rfl rfl (zbf (v:=.agg #[zI 222,zI q8.at_]) (ps:=[(0,.const (zI 222)),(1,.tmp 103)]) rfl dc rfl (fun _=>by kernel_rfl) (eE (k:=6) (vs:=[zI 222,zI q8.at_]) (l':=[zI 222,zI q8.at_]) kC rfl rfl rfl rfl rfl (show _≤_ by simp) rfl rfl (zyN (zaA (bP (bP ?_))))))))))
   cases h
   exact eu (rs:=[.cell 6 26]) (_f,_a,_c,_d,_g) (.inl rfl) jr (.cons (.cells kW (k:=6) rfl rfl rfl) .nil) rfl (cp 6)
  refine zap (zaz (zyG (zyR 1 rfl (zbc rfl dc rfl (zab rI rfl dc rfl (show _=3 from rfl) (zas (k:=0) rH rfl dc rfl rfl rfl (zyR 1 rfl (vW (k:=4) (ek:=(fun n:ad=>af n)) (ev':=(fun n:Bool=>ay n)) (kk:=r4) (vv:=true) (mT an) underlying70 rfl rfl rfl rfl rfl (zyH (zyR 2 rfl (zbc rfl dc rfl (zab zpG rfl dc rfl (show _=4 from rfl) (zas (k:=0) oq rfl dc rfl rfl rfl (zyR 1 rfl (fx (cs:=[.string t]) (te:=9) (ps:=[(0,.tmp 115)]) rfl dc rfl (fun _=>by kernel_rfl) (fun b4=>zbs h fun e3 h=>iT (k:=5) (k2:=8) (ys:=[t]) aK oM gK o6 rfl dc rfl rfl rfl rfl rfl rfl e3 (fun v3=>iB (k:=5) rfl (fun d3 fd=>?_))))))))))))))))))
  subst fd
  refine zbc rfl dc rfl (zab zpG rfl dc rfl (show _=4 from rfl) (eP (k:=0) (l':=[_f.v,.map (some (bi _a)),.map (some (bi _c)),.map (some (bi _d)),d3.v]) sG rfl rfl rfl rfl rfl (fun _ _=>rfl) rfl (zyH (zbf (v:=.agg #[zI 0,zI 0]) (ps:=[]) rfl dc rfl (fun _=>by kernel_rfl) (eE (k:=6) (vs:=[zI 0,zI 0]) (l':=[zI 0,zI 0]) kC rfl rfl rfl rfl rfl (show _≤_ by simp) rfl rfl (zyN (zaA (bP ?_))))))))
  cases h
  exact eu (rs:=[.cell 6 26]) (_f,_a,_c,_d,d3) (.inl rfl) jr (.cons (.cells kW (k:=6) rfl rfl rfl) .nil) rfl (cp 6)
 refine zap (zaz (zaJ (zyG (zyR 2 rfl (zbk h fun q9 a4 h=>eJ (k:=7) a4 aK gV rfl dc rfl rfl rfl rfl (fw (i:=(1:Int).toNat) (j:=0) (k:=7) (q:=q9) dU gK rfl dc rfl rfl (ei a4) rfl dc rfl (zbk h fun r5 di h=>lg (v:=.bool r5) (vs:=[zP _h,.string q9]) H rfl dc rfl rfl rfl Of (Sw (_h:=_h) (o1:=o1) (_f:=_f) (_a:=_a) (_c:=_c) (_d:=_d) (_g:=_g) di) (.own (cp 1) (fun _ _ h=>aF.1 h) (.own (bW [1] kr rfl) (fun _ _ h=>aF.1 h) (.own (bW [2] kr rfl) (fun _ _ h=>aF.1 h) (.own (bW [3] kr rfl) (fun _ _ h=>aF.1 h) (.own (bW [4] kr rfl) (fun _ _ h=>aF.1 h) (.own (bW [5] kr rfl) (fun _ _ h=>aF.1 h) .nil)))))) (zyN (zyB rfl h (fun h=>?_) (fun h=>?_))))))))))
 ·refine zyG (zyR 1 rfl (zbk h fun W a3 h=>fy f a3 cF pt rfl dc rfl rfl rfl (zab tN rfl dc rfl (show _=(C+(1:Int).toNat)*2 from rfl) (jG (n:=C+(1:Int).toNat) (j:=0) (i:=0) (q:=W) H rfl (by omega) dO rfl dc rfl (ce f a3) rfl rfl (zbf (v:=.agg #[zI 222,zI W.at_]) (ps:=[(0,.const (zI 222)),(1,.tmp 129)]) rfl dc rfl (fun _=>by kernel_rfl) (eE (k:=6) (vs:=[zI 222,zI W.at_]) (l':=[zI 222,zI W.at_]) kC rfl rfl rfl rfl rfl (show _≤_ by simp) rfl rfl (zyN (zaA (bP ?_)))))))))
  cases h
  exact eu (rs:=[.cell 6 26]) (_f,_a,_c,_d,_g) (.inl rfl) jr (.cons (.cells kW (k:=6) rfl rfl rfl) .nil) rfl (cp 6)
 refine zap (zaz (zbq h fun j6 ex h=>zaL (β:=Unit) 0 rfl (fun b=>j6=some r) (fun b=>[]) (fun b=>[(0,zP _h),(6,zP b1),(8,.string I),(9,.string t),(10,v1)]) (fun b=>[cells _h [_f.v,.map (some (bi _a)),.map (some (bi _c)),.map (some (bi _d)),_g.v] 72,bH _f.v o1.units,cz (fun n:ad=>af n) (fun n:Int=>aB .i64 n) (bi _a) o1.place,dQ (bi _c) o1.fors,cz (fun n:ad=>af n) (fun n:Bool=>ay n) (bi _d) o1.skips,bH _g.v o1.lines,cells b1 [zI 0,zI 0] 26,bH v1 a]) (fun cut=>?_) ?_))
 ·refine cut (zyG (zyR 1 rfl (gZ (k:=7) rfl dc rfl rfl aK (zyR 1 rfl (zyN (zat (eF (β:=Nat×Int) (fun b=>zaC (fun _=>none) (zc2 o1 N a j6) b.1 b.2=some r) (fun b=>[]) (fun b=>[(0,zP _h),(1,y),(6,zP b1),(8,.string I),(9,.string t),(10,v1),(131,v1),(132,zI (a.length:Int)),(133,zI b.2)]) (fun b=>[cells _h [_f.v,.map (some (bi _a)),.map (some (bi _c)),.map (some (bi _d)),_g.v] 72,bH _f.v o1.units,cz (fun n:ad=>af n) (fun n:Int=>aB .i64 n) (bi _a) o1.place,dQ (bi _c) o1.fors,cz (fun n:ad=>af n) (fun n:Bool=>ay n) (bi _d) o1.skips,bH _g.v o1.lines,cells b1 [zI 0,zI 0] 26,bH v1 a]) (fun b=>b.1) (zbx,0) h rfl (bI rfl) (cp 8) ?_)))))))
  rintro⟨n2,x9⟩ h
  cases n2 with
  |zero=>exact ew h
  |succ n2=>
   obtain⟨fk,a8⟩:∃ag,ag=zaC (fun _=>none) (zc2 o1 N a j6) n2:=⟨_,rfl⟩
   have h:zc2 o1 N a j6 fk x9=some r:=by rw[a8];exact h
   unfold zc2 at h
   refine zyG (zaT rfl zbd (zyN (zaJ (zyB rfl h (fun h=>?_) (fun h=>?_)))))
   ·refine zap (zaz (zbq h fun j7 et h=>zaL (β:=Unit) 0 rfl (fun b=>j7=some r) (fun b=>[]) (fun b=>[(0,zP _h),(1,y),(6,zP b1),(8,.string I),(9,.string t),(10,v1),(131,v1),(132,zI (a.length:Int)),(133,zI x9)]) (fun b=>[cells _h [_f.v,.map (some (bi _a)),.map (some (bi _c)),.map (some (bi _d)),_g.v] 72,bH _f.v o1.units,cz (fun n:ad=>af n) (fun n:Int=>aB .i64 n) (bi _a) o1.place,dQ (bi _c) o1.fors,cz (fun n:ad=>af n) (fun n:Bool=>ay n) (bi _d) o1.skips,bH _g.v o1.lines,cells b1 [zI 0,zI 0] 26,bH v1 a]) (fun cut=>?_) ?_))
    ·refine cut (zat (zyG (zyR 1 rfl (zbk h fun c3 a2 h=>eJ (k:=7) a2 aK gV rfl dc rfl rfl rfl rfl (fw (i:=(x9:Int).toNat) (j:=0) (k:=7) (q:=c3) dU gK rfl dc rfl rfl (ei a2) rfl dc rfl (zyR 2 rfl (zyH (zyR 1 rfl (zbc rfl dc rfl (zab znS rfl dc rfl (show _=1 from rfl) (zas (k:=0) wa rfl dc rfl rfl rfl (zyR 1 rfl (zkJ (k:=2) (ek:=(fun n:ad=>af n)) (ev':=(fun n:Int=>aB .i64 n)) (kk:=c3) (z0:=0) (mT an) underlying69 kr rfl dc rfl rfl rfl (zyR 1 rfl (eY rfl dc rfl rfl (eY rfl dc rfl rfl (zyR 2 rfl (zyH (zyR 1 rfl (zaT rfl zd4 (zyR 1 rfl (zyS (s:=149) rfl h (fun h=>?_) (fun h=>?_)))))))))))))))))))))))
     ·refine zyR 1 rfl (zaT rfl tE (zyR 2 rfl (zyS (s:=153) rfl h (fun h=>?_) (fun h=>?_))))
      ·refine zyR 1 rfl (jW rfl dc rfl km (zyR 1 rfl (zyN (zyB rfl h (fun h=>?_) (fun h=>?_)))))
       ·refine zyG (zyR 2 rfl (zbk h fun V a1 h=>fy f a1 cF pt rfl dc rfl rfl rfl (zab tN rfl dc rfl (show _=(C+(x9:Int).toNat)*2 from rfl) (jG (n:=C+(x9:Int).toNat) (j:=0) (i:=0) (q:=V) H rfl (by omega) dO rfl dc rfl (ce f a1) rfl rfl (zbf (v:=.agg #[zI 223,zI V.at_]) (ps:=[(0,.const (zI 223)),(1,.tmp 161)]) rfl dc rfl (fun _=>by kernel_rfl) (eE (k:=6) (vs:=[zI 223,zI V.at_]) (l':=[zI 223,zI V.at_]) kC rfl rfl rfl rfl rfl (show _≤_ by simp) rfl rfl (zyN (zaA (cx (bP (bP (cx (bP ?_)))))))))))))
        cases h
        exact eu (rs:=[.cell 6 26]) (_f,_a,_c,_d,_g) (.inl rfl) jr (.cons (.cells kW (k:=6) rfl rfl rfl) .nil) rfl (cp 6)
       exact zap (cd (mD () h 8))
      exact zyR 3 rfl (zyN (za8 rfl (zap (cd (mD () h 8)))))
     exact zyR 7 rfl (zyN (za8 rfl (zap (cd (mD () h 8)))))
    rintro _ h
    rw[et] at h
    refine bX (zbs h fun e2 h=>zaT rfl (dA (r:=x9+1) (ai _ e2)) (zyR 1 rfl (zaB ?_)))
    subst a8
    exact aD (n2,x9+1) h 8
   exact dy (bV (bV (dz (mD () h 8))))
 rintro _ h
 rw[ex] at h
 refine zbq h fun j8 es h=>zaL (β:=(List ad)×(List (ad×Int))×(List (ad×List ad))×(List (ad×Bool))×(List ad)×Hd×Nat×Nat×Nat×Hd) 0 rfl (fun b=>j8 b.1 b.2.1 b.2.2.1 b.2.2.2.1 b.2.2.2.2.1=some r) (fun b=>[]) (fun b=>[(0,zP _h),(6,zP b1),(9,.string t)]) (fun b=>[cells _h [b.2.2.2.2.2.1.v,.map (some b.2.2.2.2.2.2.1),.map (some b.2.2.2.2.2.2.2.1),.map (some b.2.2.2.2.2.2.2.2.1),b.2.2.2.2.2.2.2.2.2.v] 72,bH b.2.2.2.2.2.1.v b.1,cz (fun n:ad=>af n) (fun n:Int=>aB .i64 n) b.2.2.2.2.2.2.1 b.2.1,dQ b.2.2.2.2.2.2.2.1 b.2.2.1,cz (fun n:ad=>af n) (fun n:Bool=>ay n) b.2.2.2.2.2.2.2.2.1 b.2.2.2.1,bH b.2.2.2.2.2.2.2.2.2.v b.2.2.2.2.1,cells b1 [zI 0,zI 0] 26]) (fun cut=>?_) ?_
 ·refine cut (zyG (zyR 1 rfl (zaT rfl zdp (zyN (zyB rfl h (fun h=>?_) (fun h=>?_))))))
  ·refine zaJ (zbk h fun E a0 h=>zbs h fun e1 h=>zbk h fun J aw h=>zbs h fun d0 h=>vO 2 (let bh:(Nat×Hd)→List (Nat×Nat×Value):=fun b=>[(0,166,zP _h),(1,167,zP _h),(2,168,zP _h),(3,169,zP _h),(4,170,_f.v),(5,171,zP _h),(6,172,zP _h),(7,173,.pointer (some ⟨_h,1,none⟩)),(8,174,.map (some (bi _a))),(9,175,v1),(10,176,.pointer (some ⟨eO v1,(3:Int).toNat*1,none⟩)),(11,177,.string E),(12,178,zI ((zbP E o1.place).getD 0)),(13,179,zI (((zbP E o1.place).getD 0)+1)),(14,180,v1),(15,181,.pointer (some ⟨eO v1,(1:Int).toNat*1,none⟩)),(16,182,.string J),(17,183,.slice (some ⟨b.1,0,none⟩) 1 1),(18,184,b.2.v)];let d7:(Nat→Prop)→(Nat×Hd)→List Asn:=fun D b=>[cells _h [_f.v,.map (some (bi _a)),.map (some (bi _c)),.map (some (bi _d)),_g.v] 72,eD D (bH _f.v o1.units) [(18,cE)],cz (fun n:ad=>af n) (fun n:Int=>aB .i64 n) (bi _a) o1.place,dQ (bi _c) o1.fors,cz (fun n:ad=>af n) (fun n:Bool=>ay n) (bi _d) o1.skips,bH _g.v o1.lines,cells b1 [zI 0,zI 0] 26,bH v1 a,eD D cE [(18,cE),(17,cells b.1 [.string J] 9)],eD D cE [(18,bH b.2.v (js o1.units (((zbP E o1.place).getD 0)+1) J))]];?_))
   have w:tT [17,18] d7:=fun i h D b=>ca rfl (ca (rb rfl h) (ca rfl (ca rfl (ca rfl (ca rfl (ca rfl (ca rfl (ca (rb rfl h) (ca (rb rfl h) rfl)))))))))
   refine vN (β:=Nat×Hd) 19 ((0:Nat),eB) bh d7 mixed kr kr dc (fun _=>rfl) (ca rfl (ca o8 (pR (ca o8 (ca o8 rfl))))) (pS w (fun _=>rfl) (fun _=>rfl) 2 0 (fun _=>rfl) rfl (re w rfl (fun _=>rfl) (fun _=>rfl) (fun D ⟨F,l⟩ n d c u i=>zbc rfl dc (bt 1 u d) (zaN 2 u i)) (re w rfl (fun _=>rfl) (fun _=>rfl) (fun D ⟨F,l⟩ n d c u i=>zab znT rfl dc (bt 2 u d) (show _=0 from rfl) (zaN 3 u i)) (lQ w rfl (fun _=>rfl) (fun _=>rfl) (fun D ⟨F,l⟩ n d c u i=>⟨_,(ca rfl (ca (dL (fun e=>n (c 18 _ rfl e 4 dc)) fp) (pR (ca (dL (fun e=>n (c 18 _ rfl e 4 dc)) rfl) (ca (dL (fun e=>n (c 18 _ rfl e 4 dc)) fp) rfl))))),zas (k:=0) oq rfl dc (bt 3 u d) rfl rfl (zaN 4 u i)⟩) (pS w (fun _=>rfl) (fun _=>rfl) 1 5 (fun _=>rfl) rfl (re w rfl (fun _=>rfl) (fun _=>rfl) (fun D ⟨F,l⟩ n d c u i=>zbc rfl dc (bt 5 u d) (zaN 6 u i)) (re w rfl (fun _=>rfl) (fun _=>rfl) (fun D ⟨F,l⟩ n d c u i=>zab znS rfl dc (bt 6 u d) (show _=1 from rfl) (zaN 7 u i)) (lQ w rfl (fun _=>rfl) (fun _=>rfl) (fun D ⟨F,l⟩ n d c u i=>⟨_,(ca rfl (ca (dL (fun e=>n (c 12 _ rfl (c 13 _ rfl (c 18 _ rfl e 13 dc) 12 dc) 8 dc)) fp) (pR (ca (dL (fun e=>n (c 12 _ rfl (c 13 _ rfl (c 18 _ rfl e 13 dc) 12 dc) 8 dc)) rfl) (ca (dL (fun e=>n (c 12 _ rfl (c 13 _ rfl (c 18 _ rfl e 13 dc) 12 dc) 8 dc)) fp) rfl))))),zas (k:=0) wa rfl dc (bt 7 u d) rfl rfl (zaN 8 u i)⟩) (pS w (fun _=>rfl) (fun _=>rfl) 1 9 (fun _=>rfl) rfl (lQ w rfl (fun _=>rfl) (fun _=>rfl) (fun D ⟨F,l⟩ n d c u i=>⟨_,(ca rfl (ca (dL (fun e=>n (c 11 _ rfl (c 12 _ rfl (c 13 _ rfl (c 18 _ rfl e 13 dc) 12 dc) 11 dc) 10 dc)) fp) (pR (ca (dL (fun e=>n (c 11 _ rfl (c 12 _ rfl (c 13 _ rfl (c 18 _ rfl e 13 dc) 12 dc) 11 dc) 10 dc)) rfl) (ca (dL (fun e=>n (c 11 _ rfl (c 12 _ rfl (c 13 _ rfl (c 18 _ rfl e 13 dc) 12 dc) 11 dc) 10 dc)) fp) rfl))))),eJ (k:=7) a0 aK gV rfl dc (bt 9 u d) rfl rfl rfl (zaN 10 u i)⟩) (lQ w rfl (fun _=>rfl) (fun _=>rfl) (fun D ⟨F,l⟩ n d c u i=>⟨_,(ca rfl (ca (dL (fun e=>n (c 12 _ rfl (c 13 _ rfl (c 18 _ rfl e 13 dc) 12 dc) 11 dc)) fp) (pR (ca (dL (fun e=>n (c 12 _ rfl (c 13 _ rfl (c 18 _ rfl e 13 dc) 12 dc) 11 dc)) rfl) (ca (dL (fun e=>n (c 12 _ rfl (c 13 _ rfl (c 18 _ rfl e 13 dc) 12 dc) 11 dc)) fp) rfl))))),fw (i:=(3:Int).toNat) (j:=0) (k:=7) (q:=E) dU gK rfl dc (bt 10 u d) rfl (ei a0) rfl dc rfl (zaN 11 u i)⟩) (lQ w rfl (fun _=>rfl) (fun _=>rfl) (fun D ⟨F,l⟩ n d c u i=>⟨_,(ca rfl (ca (dL (fun e=>n (c 13 _ rfl (c 18 _ rfl e 13 dc) 12 dc)) fp) (pR (ca (dL (fun e=>n (c 13 _ rfl (c 18 _ rfl e 13 dc) 12 dc)) rfl) (ca (dL (fun e=>n (c 13 _ rfl (c 18 _ rfl e 13 dc) 12 dc)) fp) rfl))))),G2 (k:=2) (ek:=(fun n:ad=>af n)) (ev':=(fun n:Int=>aB .i64 n)) (kk:=E) (z0:=0) (mT an) underlying69 kr rfl dc (bt 8 u d) (bt 11 u d) rfl (zaN 12 u i)⟩) (re w rfl (fun _=>rfl) (fun _=>rfl) (fun D ⟨F,l⟩ n d c u i=>mh rfl dc (bt 12 u d) rfl (dA (r:=((zbP E o1.place).getD 0)+1) (ai _ e1)) (zaN 13 u i)) (pS w (fun _=>rfl) (fun _=>rfl) 1 14 (fun _=>rfl) rfl (lQ w rfl (fun _=>rfl) (fun _=>rfl) (fun D ⟨F,l⟩ n d c u i=>⟨_,(ca rfl (ca (dL (fun e=>n (c 16 _ rfl (c 17 _ rfl (c 18 _ rfl e 17 dc) 16 dc) 15 dc)) fp) (pR (ca (dL (fun e=>n (c 16 _ rfl (c 17 _ rfl (c 18 _ rfl e 17 dc) 16 dc) 15 dc)) (dL (fun e=>n (c 16 _ rfl (c 17 _ rfl e 16 dc) 15 dc)) fp)) (ca (dL (fun e=>n (c 16 _ rfl (c 17 _ rfl (c 18 _ rfl e 17 dc) 16 dc) 15 dc)) fp) rfl))))),eJ (k:=7) aw aK gV rfl dc (bt 14 u d) rfl rfl rfl (zaN 15 u i)⟩) (lQ w rfl (fun _=>rfl) (fun _=>rfl) (fun D ⟨F,l⟩ n d c u i=>⟨_,(ca rfl (ca (dL (fun e=>n (c 17 _ rfl (c 18 _ rfl e 17 dc) 16 dc)) fp) (pR (ca (dL (fun e=>n (c 17 _ rfl (c 18 _ rfl e 17 dc) 16 dc)) (dL (fun e=>n (c 17 _ rfl e 16 dc)) fp)) (ca (dL (fun e=>n (c 17 _ rfl (c 18 _ rfl e 17 dc) 16 dc)) fp) rfl))))),fw (i:=(1:Int).toNat) (j:=0) (k:=7) (q:=J) dU gK rfl dc (bt 15 u d) rfl (ei aw) rfl dc rfl (zaN 16 u i)⟩) (lN ?_ (lN ?_ fr.nil)))))))))))))))))) ?_
   ·intro D b Q hd M
    obtain⟨d9,l⟩:=b
    exact kB (ca rfl (ca (dL (fun e=>Q (M 18 _ rfl e 17 dc)) fp) (pR (ca (dL (fun e=>Q (M 18 _ rfl e 17 dc)) (dL Q fp)) (ca (dL (fun e=>Q (M 18 _ rfl e 17 dc)) fp) rfl))))) (fx (cs:=[.string J]) (te:=9) (ps:=[(0,.tmp 182)]) rfl dc (evP.cons (jX (m:=16) rfl rfl (hd 16 dc)) evP.nil) (fun _=>by kernel_rfl) (fun F=>pG 8 rfl rfl (l6 (b:=(d9,l)) (F,l) 17 (by rfl) (by rfl) rfl (DT (uO (dV (fun e=>absurd e Q) (dV (fun _=>rfl) rfl)))) (ca rfl (ca ((iG (by rfl)).trans (dL (fun e=>Q (M 18 _ rfl e 17 dc)) fp)) (pR (ca (dL (fun h=>h.elim (fun e=>Q (M 18 _ rfl e 17 dc)) (fun h=>absurd h dc)) (iC (jq rfl) rfl)) (ca ((iG (by rfl)).trans (dL (fun e=>Q (M 18 _ rfl e 17 dc)) fp)) rfl))))))))
   ·intro D b Q hd M
    obtain⟨F,d8⟩:=b
    refine kB (ca rfl (ca (dL Q fp) (pR (ca (dL Q (iC (hd 17 dc) rfl)) (ca (dL Q fp) rfl))))) (zbN (vs:=[_f.v,zI (((zbP E o1.place).getD 0)+1),.slice (some ⟨F,0,none⟩) 1 1]) rfl dc rfl (dv (jX (m:=4) rfl rfl (hd 4 dc)) (dv (jX (m:=13) rfl rfl (hd 13 dc)) (dv (jX (m:=17) rfl rfl (hd 17 dc)) evL.nil))) rfl Og (PR (x:=J) d0) (bW [1,8] kr rfl) (fun v4=>iB (k:=10) rfl (fun l fb=>?_)))
    subst fb
    exact pG 9 rfl rfl (l6 (b:=(F,d8)) (F,l) 18 (by rfl) (by rfl) rfl (DU (uO (dV (fun e=>absurd e Q) rfl))) (ca rfl (ca (iC (jq rfl) rfl) (pR (ca (iC (jq rfl) rfl) (ca (iC (jq rfl) rfl) rfl))))))
   intro D b hall
   obtain⟨F,l⟩:=b
   refine kB (ca rfl (ca (iC (hall 18 dc) rfl) (pR (ca (iC (hall 18 dc) rfl) (ca (iC (hall 18 dc) rfl) rfl))))) (zbc rfl dc rfl (zab znT rfl dc rfl (show _=0 from rfl) (eP (k:=0) (l':=[l.v,.map (some (bi _a)),.map (some (bi _c)),.map (some (bi _d)),_g.v]) sG rfl rfl rfl rfl rfl (fun _ _=>rfl) rfl (zyN (bX (zyR 1 rfl (zbk h fun U dg h=>zbN (vs:=[zP _h]) rfl dc rfl rfl rfl HK (J7 (_h:=_h) (o1:=(⟨js o1.units (((zbP E o1.place).getD 0)+1) J,o1.place,o1.fors,o1.skips,o1.lines⟩:cw)) (_f:=l) (_a:=_a) (_c:=_c) (_d:=_d) (_g:=_g) dg) (bW [0,9,2,3,4,5] kr rfl) ?_)))))))
   rintro⟨c2,c0,cv,ch,cc⟩
   exact mn (L':=[cells _h [c2.v,.map (some (bi c0)),.map (some (bi cv)),.map (some (bi ch)),cc.v] 72,cE,cz (fun n:ad=>af n) (fun n:Int=>aB .i64 n) (bi c0) U.place,dQ (bi cv) U.fors,cz (fun n:ad=>af n) (fun n:Bool=>ay n) (bi ch) U.skips,bH cc.v U.lines,cells b1 [zI 0,zI 0] 26,bH v1 a,cE,bH c2.v U.units]) (bW [10,1,12,13,14,15,6,7,8,11] kr rfl) (zaB (cL (U.units,U.place,U.fors,U.skips,U.lines,c2,(bi c0),(bi cv),(bi ch),cc) h rfl (bI rfl) (bW [0,9,2,3,4,5,6] kr rfl)))
  refine zbk h fun P ao h=>zbs h fun dT h=>Ao (k:=7) rfl (fun eb=>?_)
  obtain⟨v5,c4,ec⟩:=oI (lo:=some (zI 2)) (hi:=none) eb aK gV (.inr rfl) (.inl ⟨rfl,rfl⟩) dT
  refine zcI 9 [(0,189,zP _h),(1,190,zP _h),(2,191,.pointer (some ⟨_h,2,none⟩)),(3,192,.map (some (bi _c))),(4,193,v1),(5,194,.pointer (some ⟨eO v1,(1:Int).toNat*1,none⟩)),(6,195,.string P),(7,196,v1),(8,197,v5)] mixed kr kr dc (by rfl) kr kr (zyP 1 0 rfl (zac (fun D n d c u i=>zbc rfl dc (bt 0 u d) (zaN 1 u i)) (zac (fun D n d c u i=>zab Dc rfl dc (bt 1 u d) (show _=2 from rfl) (zaN 2 u i)) (zac (fun D n d c u i=>zas (k:=0) vY rfl dc (bt 2 u d) rfl rfl (zaN 3 u i)) (zyP 1 4 rfl (zac (fun D n d c u i=>eJ (k:=7) ao aK gV rfl dc (bt 4 u d) rfl rfl rfl (zaN 5 u i)) (zac (fun D n d c u i=>fw (i:=(1:Int).toNat) (j:=0) (k:=7) (q:=P) dU gK rfl dc (bt 5 u d) rfl (ei ao) rfl dc rfl (zaN 6 u i)) (zyP 1 7 rfl (zac (fun D n d c u i=>iA rfl dc (bt 7 u d) (evO.some rfl) xK ec (zaN 8 u i)) bQ))))))))) ?_
  obtain⟨O,d2⟩:=Vw.head c4
  have eq:=h
  subst d2
  have h:=eq
  exact sC (As:=[dQ (bi _c) o1.fors]) (bW [3] kr rfl) G7 (fun d6 d4=>vW (k:=8) (ek:=(fun s:ad=>af s)) (ev':=pK) (kk:=P) (vv:=(dK a 2 (a.length:Int),O)) (mT an) tu rfl rfl rfl rfl rfl (qp (k:=7) rfl (Ip gK c4) (sC (As:=[pM (bi _c) (iq P (dK a 2 (a.length:Int),O) d6),pr d6,mo hO 1 O (dK a 2 (a.length:Int))]) (bW [8,9,7] kr rfl) (G9 P (dK a 2 (a.length:Int)) O d4) (fun _ _=>zaB (cL (o1.units,o1.place,iq P (dK a 2 (a.length:Int)) o1.fors,o1.skips,o1.lines,_f,(bi _a),(bi _c),(bi _d),_g) h rfl (bI rfl) (bW [0,1,2,10,4,5,6] kr rfl))))))
 rintro⟨l2,m1,m2,m3,l3,d1,b5,b6,b7,fo⟩ h
 rw[es] at h
 refine zyG (zyR 2 rfl (zbc rfl dc rfl (zab zpG rfl dc rfl (show _=4 from rfl) (zas (k:=0) oq rfl dc rfl rfl rfl (zyR 1 rfl (fx (cs:=[.string t]) (te:=9) (ps:=[(0,.tmp 203)]) rfl dc rfl (fun _=>by kernel_rfl) (fun b9=>zbs h fun ds h=>iT (k:=5) (k2:=7) (ys:=[t]) aK oM gK o6 rfl dc rfl rfl rfl rfl rfl rfl ds (fun v6=>iB (k:=5) rfl (fun a7 fa=>?_)))))))))
 subst fa
 refine zbc rfl dc rfl (zab zpG rfl dc rfl (show _=4 from rfl) (eP (k:=0) (l':=[d1.v,.map (some b5),.map (some b6),.map (some b7),a7.v]) sG rfl rfl rfl rfl rfl (fun _ _=>rfl) rfl (zyH (zbf (v:=.agg #[zI 0,zI 0]) (ps:=[]) rfl dc rfl (fun _=>by kernel_rfl) (eE (k:=6) (vs:=[zI 0,zI 0]) (l':=[zI 0,zI 0]) kC rfl rfl rfl rfl rfl (show _≤_ by simp) rfl rfl (zyN (zaA ?_)))))))
 cases h
 exact eu (rs:=[.cell 6 26]) (d1,(⟨some ⟨b5,0,none⟩,0,0⟩:Hd),(⟨some ⟨b6,0,none⟩,0,0⟩:Hd),(⟨some ⟨b7,0,none⟩,0,0⟩:Hd),a7) (.inl rfl) jr (.cons (.cells kW (k:=6) rfl rfl rfl) .nil) rfl (cp 6)
def zfk (i:Int→Int→(List ad)→(List (ad×Int))→(List (ad×List ad))→(List (ad×Bool))→(List ad)→Int→Option ((Option cw)×zaw)) (x1:ad) (h:(List ad)→(List (ad×Int))→(List (ad×List ad))→(List (ad×Bool))→(List ad)→Int→Option ((Option cw)×zaw)) (g:List ad) (f:List (ad×Int)) (e:List (ad×List ad)) (d:List (ad×Bool)) (c:List ad) (a:Int):Option ((Option cw)×zaw) := aV (cr ((x1.size:Int)+1)) <|aV (cr (a+((x1.size:Int)+1))) <|aT (zl x1 a) fun (r3:(List gw))=>aN (((r3.length:Int):Int)==0) (h g f e d c (a+((x1.size:Int)+1))) (aV (cr (a+(x1.size:Int))) <|aT (zK (⟨g,f,e,d,c⟩:cw) r3 (a+(x1.size:Int))) fun (b:(zaw×cw))=>aN ((b.1.Err:Int) != 0) (i b.1.Err b.1.At b.2.units b.2.place b.2.fors b.2.skips b.2.lines (a+((x1.size:Int)+1))) (h b.2.units b.2.place b.2.fors b.2.skips b.2.lines (a+((x1.size:Int)+1))))
def vp (a:ad):Option ((Option cw)×zaw) := aN (decide ((65536:Int)<(a.size:Int))) (some (none,(⟨3,65536⟩:zaw))) (co (fun (u:(List ad)→(List (ad×Int))→(List (ad×List ad))→(List (ad×Bool))→(List ad)→Option ((Option cw)×zaw))=>aT (xd) fun (r1:cw)=>aT (EU a (⟨#[10]⟩:ad)) fun (r2:(ad×ad×Int))=>aT (BD r2.1 r2.2.1 r2.2.2) fun (b:(List ad))=>co (fun (h:Int→Int→(List ad)→(List (ad×Int))→(List (ad×List ad))→(List (ad×Bool))→(List ad)→Int→Option ((Option cw)×zaw))=>co (fun (i:(List ad)→(List (ad×Int))→(List (ad×List ad))→(List (ad×Bool))→(List ad)→Int→Option ((Option cw)×zaw))=>zdZ i (zfk h) b r1.units r1.place r1.fors r1.skips r1.lines 0) (fun (g:List ad) (f:List (ad×Int)) (e:List (ad×List ad)) (d:List (ad×Bool)) (c:List ad) (w:Int)=>u g f e d c)) (fun (x2:Int) (j:Int) (s:List ad) (r:List (ad×Int)) (q:List (ad×List ad)) (o:List (ad×Bool)) (n:List ad) (v:Int)=>some (none,(⟨x2,j⟩:zaw)))) (fun (o1:List ad) (t:List (ad×Int)) (m:List (ad×List ad)) (l:List (ad×Bool)) (k:List ad)=>some ((some (⟨o1,t,m,l,k⟩:cw)),(⟨0,0⟩:zaw))))
theorem FC {aw:ad} {r:((Option cw)×zaw)} (h:vp aw=some r):Fn prog 9 [.string aw] [] (fun v0:Value=>.tuple #[v0,.agg (kN r.2).toArray]) (fun v0=>[jY nH nI 72 v0 r.1]):=by
 unfold vp at h
 refine _root_.Go.Proofs.YtifpjbgnikjglaaGreatDoor.Fn.intro func9 rfl ntmps9 (by simp) (fun w0 K=>zjD ?_)
 show TC _ _ _ _ _ _ _ _ _ [ziH ((([]:List Nat):List Nat).map gL)]
 refine zyG (zbi Hc rfl dc (fun b1=>zbi zq8 rfl dc (fun b2=>?_)))
 show TO _ _ _ _ _ _ _ _ _ _ [ziH ((([]:List Nat):List Nat).map gL),cells b1 [.pointer none] 29,cells b2 [zI 0,zI 0] 26]
 refine zyN (zvE (β:=Unit) (l:=0) (fun _=>False) (fun _=>[]) (fun _=>[]) rfl ?_ ?_)
 ·refine zaJ (zyG (zyR 1 rfl (zcG rfl dc rfl an (zaT rfl zd4 (zyN (zyB rfl h (fun h=>?_) (fun h=>?_)))))))
  ·refine zyG (zbf (v:=.agg #[zI 3,zI 65536]) (ps:=[(0,.const (zI 3)),(1,.const (zI 65536))]) rfl dc rfl (fun _=>by kernel_rfl) (eP (k:=1) (l':=[.pointer none]) AC rfl rfl rfl rfl rfl (fun _ _=>rfl) rfl (eE (k:=2) (vs:=[zI 3,zI 65536]) (l':=[zI 3,zI 65536]) kC rfl rfl rfl rfl rfl (show _≤_ by simp) rfl rfl ?_)))
   show TO _ _ _ _ _ _ _ _ _ _ [ziH ((([]:List Nat):List Nat).map gL),cells b1 [.pointer none] 29,cells b2 [zI 3,zI 65536] 26]
   refine zyN (zaA (bP (Ak (by simp) (Az nH nI 72 ?_))))
   show TX _ _ _ _ _ _ _ [ziH ((([]:List Nat):List Nat).map gL),cells b1 [.pointer none] 29,cells b2 [zI 3,zI 65536] 26,jY nH nI 72 (.pointer none) none]
   cases h
   exact qq (rs:=[.cell 2 29,.cell 3 26]) ([]:List Nat) (.pointer none) (.inl rfl) (qo (k:=0) rfl) results9 (.cons (.cell pN (k:=1) rfl rfl) (.cons (.cells kW (k:=2) rfl rfl rfl) .nil)) rfl (bW [3] kr rfl)
  refine zap (zaz (zbq h fun j1 d0 h=>zaL (β:=(List ad)×(List (ad×Int))×(List (ad×List ad))×(List (ad×Bool))×(List ad)×Nat×Nat×Hd×Nat×Nat×Nat×Hd×(List Nat)) 3 rfl (fun b=>j1 b.1 b.2.1 b.2.2.1 b.2.2.2.1 b.2.2.2.2.1=some r) (fun b=>po b.2.2.2.2.2.2.2.2.2.2.2.2) (fun b=>[(2,zP b1),(3,zP b2),(4,zP b.2.2.2.2.2.1)]) (fun b=>[cells b1 [.pointer none] 29,cells b2 [zI 0,zI 0] 26,cells b.2.2.2.2.2.1 [zP b.2.2.2.2.2.2.1] 29,cells b.2.2.2.2.2.2.1 [b.2.2.2.2.2.2.2.1.v,.map (some b.2.2.2.2.2.2.2.2.1),.map (some b.2.2.2.2.2.2.2.2.2.1),.map (some b.2.2.2.2.2.2.2.2.2.2.1),b.2.2.2.2.2.2.2.2.2.2.2.1.v] 72,bH b.2.2.2.2.2.2.2.1.v b.1,cz (fun n:ad=>af n) (fun n:Int=>aB .i64 n) b.2.2.2.2.2.2.2.2.1 b.2.1,dQ b.2.2.2.2.2.2.2.2.2.1 b.2.2.1,cz (fun n:ad=>af n) (fun n:Bool=>ay n) b.2.2.2.2.2.2.2.2.2.2.1 b.2.2.2.1,bH b.2.2.2.2.2.2.2.2.2.2.2.1.v b.2.2.2.2.1,ziH ((b.2.2.2.2.2.2.2.2.2.2.2.2:List Nat).map gL)]) (fun cut=>?_) ?_))
  ·refine zyG (zbk h fun r1 dT h=>zbN (vs:=[]) rfl dc rfl rfl rfl NY (Sx dT) ah ?_)
   rintro⟨q,Z,Y,W,V,U⟩
   show TO _ _ _ _ _ _ _ _ _ _ [ziH ((([]:List Nat):List Nat).map gL),cells b1 [.pointer none] 29,cells b2 [zI 0,zI 0] 26,cells q [Z.v,.map (some (bi Y)),.map (some (bi W)),.map (some (bi V)),U.v] 72,bH Z.v r1.units,cz (fun n:ad=>af n) (fun n:Int=>aB .i64 n) (bi Y) r1.place,dQ (bi W) r1.fors,cz (fun n:ad=>af n) (fun n:Bool=>ay n) (bi V) r1.skips,bH U.v r1.lines]
   refine zbi Hc rfl dc (fun b9=>eP (k:=9) (l':=[zP q]) AC rfl rfl rfl rfl rfl (fun _ _=>rfl) rfl ?_)
   show TO _ _ _ _ _ _ _ _ _ _ [ziH ((([]:List Nat):List Nat).map gL),cells b1 [.pointer none] 29,cells b2 [zI 0,zI 0] 26,cells q [Z.v,.map (some (bi Y)),.map (some (bi W)),.map (some (bi V)),U.v] 72,bH Z.v r1.units,cz (fun n:ad=>af n) (fun n:Int=>aB .i64 n) (bi Y) r1.place,dQ (bi W) r1.fors,cz (fun n:ad=>af n) (fun n:Bool=>ay n) (bi V) r1.skips,bH U.v r1.lines,cells b9 [zP q] 29]
   refine zyH (zbi x0 rfl dc (fun s=>eP (k:=10) (l':=[zI 0]) kp rfl rfl rfl rfl rfl (fun _ _=>rfl) rfl ?_))
   show TO _ _ _ _ _ _ _ _ _ _ [ziH ((([]:List Nat):List Nat).map gL),cells b1 [.pointer none] 29,cells b2 [zI 0,zI 0] 26,cells q [Z.v,.map (some (bi Y)),.map (some (bi W)),.map (some (bi V)),U.v] 72,bH Z.v r1.units,cz (fun n:ad=>af n) (fun n:Int=>aB .i64 n) (bi Y) r1.place,dQ (bi W) r1.fors,cz (fun n:ad=>af n) (fun n:Bool=>ay n) (bi V) r1.skips,bH U.v r1.lines,cells b9 [zP q] 29,cells s [zI 0] 3]
   refine zyN (zaJ (Gg (zaz (cut (zyG (zyR 1 rfl (zbk h fun r2 ds h=>zbN (vs:=[.string aw,.string (⟨#[10]⟩:ad)]) rfl dc rfl rfl rfl NZ (SA ds) ah ?_)))))))
   rintro⟨c3,c2,c0⟩
   show TO _ _ _ _ _ _ _ _ _ _ [ziH ((([]:List Nat):List Nat).map gL),cells b1 [.pointer none] 29,cells b2 [zI 0,zI 0] 26,cells q [Z.v,.map (some (bi Y)),.map (some (bi W)),.map (some (bi V)),U.v] 72,bH Z.v r1.units,cz (fun n:ad=>af n) (fun n:Int=>aB .i64 n) (bi Y) r1.place,dQ (bi W) r1.fors,cz (fun n:ad=>af n) (fun n:Bool=>ay n) (bi V) r1.skips,bH U.v r1.lines,cells b9 [zP q] 29,cells s [zI 0] 3,cells c3 [.string r2.1] 9,cells c2 [.string r2.2.1] 9,cells c0 [zI r2.2.2] 3]
   refine zyN (zat (zbk h fun c5 dn h=>zbq h fun bb db h=>zbq h fun cv dd h=>Py (α:=ad) (β:=(List ad)×(List (ad×Int))×(List (ad×List ad))×(List (ad×Bool))×(List ad)×Int×Hd×Nat×Nat×Nat×Hd) (γ:=(Int×Int×(List ad)×(List (ad×Int))×(List (ad×List ad))×(List (ad×Bool))×(List ad)×Int×Hd×Nat×Nat×Nat×Hd)) (δ:=Unit) (ps:=[17]) Ro.nil rfl OD (Sy dn) (fun pre b=>∀post,c5=pre++post→zdZ cv (zfk bb) post b.1 b.2.1 b.2.2.1 b.2.2.2.1 b.2.2.2.2.1 b.2.2.2.2.2.1=some r) (fun pre b=>[cells b1 [.pointer none] 29,cells b2 [zI 0,zI 0] 26,cells b9 [zP q] 29,cells q [b.2.2.2.2.2.2.1.v,.map (some b.2.2.2.2.2.2.2.1),.map (some b.2.2.2.2.2.2.2.2.1),.map (some b.2.2.2.2.2.2.2.2.2.1),b.2.2.2.2.2.2.2.2.2.2.v] 72,bH b.2.2.2.2.2.2.1.v b.1,cz (fun n:ad=>af n) (fun n:Int=>aB .i64 n) b.2.2.2.2.2.2.2.1 b.2.1,dQ b.2.2.2.2.2.2.2.2.1 b.2.2.1,cz (fun n:ad=>af n) (fun n:Bool=>ay n) b.2.2.2.2.2.2.2.2.2.1 b.2.2.2.1,bH b.2.2.2.2.2.2.2.2.2.2.v b.2.2.2.2.1,cells s [zI b.2.2.2.2.2.1] 3]) (fun c pre g=>(fun g=>c=.ret∧bb g.1 g.2.1 g.2.2.1 g.2.2.2.1 g.2.2.2.2.1 g.2.2.2.2.2.1 g.2.2.2.2.2.2.1 g.2.2.2.2.2.2.2.1=some r) g) (fun c pre g=>(fun g=>[cells b1 [.pointer none] 29,cells b2 [zI g.1,zI g.2.1] 26,cells b9 [zP q] 29,cells q [g.2.2.2.2.2.2.2.2.1.v,.map (some g.2.2.2.2.2.2.2.2.2.1),.map (some g.2.2.2.2.2.2.2.2.2.2.1),.map (some g.2.2.2.2.2.2.2.2.2.2.2.1),g.2.2.2.2.2.2.2.2.2.2.2.2.v] 72,bH g.2.2.2.2.2.2.2.2.1.v g.2.2.1,cz (fun n:ad=>af n) (fun n:Int=>aB .i64 n) g.2.2.2.2.2.2.2.2.2.1 g.2.2.2.1,dQ g.2.2.2.2.2.2.2.2.2.2.1 g.2.2.2.2.1,cz (fun n:ad=>af n) (fun n:Bool=>ay n) g.2.2.2.2.2.2.2.2.2.2.2.1 g.2.2.2.2.2.1,bH g.2.2.2.2.2.2.2.2.2.2.2.2.v g.2.2.2.2.2.2.1,cells s [zI g.2.2.2.2.2.2.2.1] 3]) g) (fun pre x b j=>[(2,zP b1),(3,zP b2),(4,zP b9),(5,zP s),(16,.func (.func 118) #[] #[zP c3,zP c2,zP c0]),(6,.string x)]) (fun pre x b j=>[cells b1 [.pointer none] 29,cells b2 [zI 0,zI 0] 26,cells b9 [zP q] 29,cells q [b.2.2.2.2.2.2.1.v,.map (some b.2.2.2.2.2.2.2.1),.map (some b.2.2.2.2.2.2.2.2.1),.map (some b.2.2.2.2.2.2.2.2.2.1),b.2.2.2.2.2.2.2.2.2.2.v] 72,bH b.2.2.2.2.2.2.1.v b.1,cz (fun n:ad=>af n) (fun n:Int=>aB .i64 n) b.2.2.2.2.2.2.2.1 b.2.1,dQ b.2.2.2.2.2.2.2.2.1 b.2.2.1,cz (fun n:ad=>af n) (fun n:Bool=>ay n) b.2.2.2.2.2.2.2.2.2.1 b.2.2.2.1,bH b.2.2.2.2.2.2.2.2.2.2.v b.2.2.2.2.1,cells s [zI b.2.2.2.2.2.1] 3]) (r1.units,r1.place,r1.fors,r1.skips,r1.lines,0,Z,(bi Y),(bi W),(bi V),U) (fun post e=>by rw[bg] at e;subst e;exact h) (bW [1,2,9,3,4,5,6,7,8,10] kr rfl) (bW [11,12,13] kr rfl) (fun _=>rfl) dc ?_ ?_ ?_ ?_))
   ·rintro lp rc pre x1 post ⟨J,I,H,G,F,o,m,E,C,z,f⟩ w1 K1 a2 da dg a3
    exact bX (zyR 1 rfl (zaB (fun a w ha hw=>⟨(),(bI rfl) _ _ _ ha,hw.weaken (cp 10)⟩)))
   ·rintro lp rc pre x1 a8 ⟨J,I,H,G,F,o,m,E,C,z,f⟩ _ w1 K1 a2 da dg a3
    have h:=a3 (x1::a8) a2
    obtain⟨d6,a9⟩:∃ag,ag=zdZ cv (zfk bb) a8:=⟨_,rfl⟩
    have h:zfk bb x1 d6 J I H G F o=some r:=by have h2:=h;rw[oH,←a9] at h2;exact h2
    unfold zfk at h
    show TC _ _ _ _ _ _ _ _ [(2,zP b1),(3,zP b2),(4,zP b9),(5,zP s),(16,.func (.func 118) #[] #[zP c3,zP c2,zP c0]),(6,.string x1)] [cells b1 [.pointer none] 29,cells b2 [zI 0,zI 0] 26,cells b9 [zP q] 29,cells q [m.v,.map (some E),.map (some C),.map (some z),f.v] 72,bH m.v J,cz (fun n:ad=>af n) (fun n:Int=>aB .i64 n) E I,dQ C H,cz (fun n:ad=>af n) (fun n:Bool=>ay n) z G,bH f.v F,cells s [zI o] 3]
    refine zat (zyG (zas (k:=9) dO rfl dc rfl rfl rfl (zyR 1 rfl (zyH (zas (k:=9) dO rfl dc rfl rfl rfl (zyR 1 rfl (zcG rfl dc rfl an (zbs h fun d3 h=>zaT rfl (dA (r:=(x1.size:Int)+1) (ai _ d3)) (zbs h fun d2 h=>zaT rfl (dA (r:=o+((x1.size:Int)+1)) (ai _ d2)) (eP (k:=9) (l':=[zI (o+((x1.size:Int)+1))]) kp rfl rfl rfl rfl rfl (fun _ _=>rfl) rfl (zyH (zyR 2 rfl (zbk h fun r3 dj h=>zbN (vs:=[.string x1,zI o]) rfl dc rfl rfl rfl N0 (Sr dj) ah (fun v1=>?_))))))))))))))
    show TO _ _ _ _ _ _ _ _ _ _ [cells b1 [.pointer none] 29,cells b2 [zI 0,zI 0] 26,cells b9 [zP q] 29,cells q [m.v,.map (some E),.map (some C),.map (some z),f.v] 72,bH m.v J,cz (fun n:ad=>af n) (fun n:Int=>aB .i64 n) E I,dQ C H,cz (fun n:ad=>af n) (fun n:Bool=>ay n) z G,bH f.v F,cells s [zI (o+((x1.size:Int)+1))] 3,tU v1 r3]
    refine iB (k:=10) rfl (fun a4 d4=>?_)
    subst d4
    refine zyR 1 rfl (zyN (zaJ (zyG (zyR 1 rfl (gZ (k:=10) rfl dc rfl rfl cF (zaT rfl zbm (zyN (zyB rfl h (fun h=>dy (bV (dz (lY (J,I,H,G,F,o+((x1.size:Int)+1),m,E,C,z,f) (fun bh e2=>by have e9:=l0 a2 e2;subst e9;subst a9;exact h) (cp 10))))) (fun h=>zap (zaz (zyG (zas (k:=2) pN rfl dc rfl rfl rfl (zyR 3 rfl (zcG rfl dc rfl an (zbs h fun d1 h=>zaT rfl (dA (r:=o+(x1.size:Int)) (ai _ d1)) (kU (k:=10) rfl (fun df=>zbk h fun y di h=>pI (vs:=[zP q,a4.v,zI (o+(x1.size:Int))]) (lW:Rd _ _ []) rfl dc rfl rfl rfl N1 (T5 (_h:=q) (o1:=(⟨J,I,H,G,F⟩:cw)) (_f:=m) (_a:=(⟨some ⟨E,0,none⟩,0,0⟩:Hd)) (_c:=(⟨some ⟨C,0,none⟩,0,0⟩:Hd)) (_d:=(⟨some ⟨z,0,none⟩,0,0⟩:Hd)) (_g:=f) df di) (bW [3,4,5,6,7,8] kr rfl) (.own (As:=[tU a4.v r3]) (bW [10] kr rfl) (fun _ _ h=>oK AV (aF.1 h)) .nil) ?_)))))))))))))))))
    rintro⟨Q,P,O,N,M⟩
    refine mn (L':=[cells b1 [.pointer none] 29,cells b2 [zI 0,zI 0] 26,cells b9 [zP q] 29,cells q [Q.v,.map (some (bi P)),.map (some (bi O)),.map (some (bi N)),M.v] 72,bH Q.v y.2.units,cz (fun n:ad=>af n) (fun n:Int=>aB .i64 n) (bi P) y.2.place,dQ (bi O) y.2.fors,cz (fun n:ad=>af n) (fun n:Bool=>ay n) (bi N) y.2.skips,bH M.v y.2.lines,cells s [zI (o+((x1.size:Int)+1))] 3,tU a4.v r3]) (bW [0,1,2,11,12,13,14,15,16,9,10] kr rfl) (zbi zq8 rfl dc (fun d5=>eE (k:=11) (vs:=(kN y.1)) (l':=(kN y.1)) kC rfl rfl rfl rfl rfl (show _≤_ by simp) rfl rfl ?_))
    show TO _ _ _ _ _ _ _ _ _ _ [cells b1 [.pointer none] 29,cells b2 [zI 0,zI 0] 26,cells b9 [zP q] 29,cells q [Q.v,.map (some (bi P)),.map (some (bi O)),.map (some (bi N)),M.v] 72,bH Q.v y.2.units,cz (fun n:ad=>af n) (fun n:Int=>aB .i64 n) (bi P) y.2.place,dQ (bi O) y.2.fors,cz (fun n:ad=>af n) (fun n:Bool=>ay n) (bi N) y.2.skips,bH M.v y.2.lines,cells s [zI (o+((x1.size:Int)+1))] 3,tU a4.v r3,cells d5 (kN y.1) 26]
    exact zyH (zab Da rfl dc rfl (show _=0 from rfl) (zas (k:=11) C9 rfl dc rfl rfl rfl (zaT rfl zed (zyN (zyB rfl h (fun h=>zaJ (zcI 2 [(0,40,.agg (kN y.1).toArray)] mixed kr kr dc (by rfl) kr kr (zac (fun D n d c u i=>zbR (k:=11) (cs:=(kN y.1)) kW rfl dc (zbA (by rfl) rfl) rfl rfl rfl (zaN 0 u i)) (zac (fun D n d c u i=>eP (k:=0) (l':=[.pointer none]) AC rfl (zbA (by rfl) rfl) rfl rfl rfl (fun _ _=>rfl) rfl (Mx (by rfl))) bQ)) (eE (k:=1) (vs:=(kN y.1)) (l':=(kN y.1)) kC rfl rfl rfl rfl rfl (show _≤_ by simp) rfl rfl (zyN (zaA (cx (nl (y.1.Err,y.1.At,y.2.units,y.2.place,y.2.fors,y.2.skips,y.2.lines,o+((x1.size:Int)+1),Q,(bi P),(bi O),(bi N),M) (show _∧_ from ⟨rfl,h⟩) (cp 10)))))))) (fun h=>zap (cd (lY (y.2.units,y.2.place,y.2.fors,y.2.skips,y.2.lines,o+((x1.size:Int)+1),Q,(bi P),(bi O),(bi N),M) (fun bh e2=>by have e9:=l0 a2 e2;subst e9;subst a9;exact h) (cp 10)))))))))
   ·rintro ao ⟨J,I,H,G,F,o,m,E,C,z,f⟩ a3
    have h:cv J I H G F o=some r:=a3 [] (aH _).symm
    rw[dd] at h
    show TX _ _ _ _ _ _ _ [ziH ((([]:List Nat):List Nat).map gL),cE,cE,cE,cE,cE,cE,cE,cE,cE,cE,cE,cE,cE,cells b1 [.pointer none] 29,cells b2 [zI 0,zI 0] 26,cells b9 [zP q] 29,cells q [m.v,.map (some E),.map (some C),.map (some z),f.v] 72,bH m.v J,cz (fun n:ad=>af n) (fun n:Int=>aB .i64 n) E I,dQ C H,cz (fun n:ad=>af n) (fun n:Bool=>ay n) z G,bH f.v F,cells s [zI o] 3,gL ao]
    refine tA (k:=24) (j:=0) rfl rfl dc ?_
    show TX _ _ _ _ _ _ _ [ziH ((ao::([]:List Nat):List Nat).map gL),cE,cE,cE,cE,cE,cE,cE,cE,cE,cE,cE,cE,cE,cells b1 [.pointer none] 29,cells b2 [zI 0,zI 0] 26,cells b9 [zP q] 29,cells q [m.v,.map (some E),.map (some C),.map (some z),f.v] 72,bH m.v J,cz (fun n:ad=>af n) (fun n:Int=>aB .i64 n) E I,dQ C H,cz (fun n:ad=>af n) (fun n:Bool=>ay n) z G,bH f.v F,cells s [zI o] 3,cE]
    exact cd (cL (J,I,H,G,F,b9,q,m,E,C,z,f,ao::([]:List Nat)) h rfl (bI rfl) (bW [14,15,16,17,18,19,20,21,22,0] kr rfl))
   rintro ao c pre x1 post g d7 hX
   obtain⟨rfl,h⟩:=(show _∧_ from hX)
   obtain⟨x2,x3,ch,cc,b0,bs,bk,c4,T,a7,a6,a5,S⟩:=g
   rw[db] at h
   show TC _ _ _ _ _ _ _ _ _ [ziH ((([]:List Nat):List Nat).map gL),cE,cE,cE,cE,cE,cE,cE,cE,cE,cE,cE,cE,cE,cells b1 [.pointer none] 29,cells b2 [zI x2,zI x3] 26,cells b9 [zP q] 29,cells q [T.v,.map (some a7),.map (some a6),.map (some a5),S.v] 72,bH T.v ch,cz (fun n:ad=>af n) (fun n:Int=>aB .i64 n) a7 cc,dQ a6 b0,cz (fun n:ad=>af n) (fun n:Bool=>ay n) a5 bs,bH S.v bk,cells s [zI c4] 3,gL ao]
   refine CP (k:=24) (j:=0) rfl rfl dc ?_
   show TC _ _ _ _ _ _ _ _ _ [ziH ((ao::([]:List Nat):List Nat).map gL),cE,cE,cE,cE,cE,cE,cE,cE,cE,cE,cE,cE,cE,cells b1 [.pointer none] 29,cells b2 [zI x2,zI x3] 26,cells b9 [zP q] 29,cells q [T.v,.map (some a7),.map (some a6),.map (some a5),S.v] 72,bH T.v ch,cz (fun n:ad=>af n) (fun n:Int=>aB .i64 n) a7 cc,dQ a6 b0,cz (fun n:ad=>af n) (fun n:Bool=>ay n) a5 bs,bH S.v bk,cells s [zI c4] 3,cE]
   refine zaA (cx (bP (Ak (by simp) (Az nH nI 72 ?_))))
   show TX _ _ _ _ _ _ _ [ziH ((ao::([]:List Nat):List Nat).map gL),cE,cE,cE,cE,cE,cE,cE,cE,cE,cE,cE,cE,cE,cells b1 [.pointer none] 29,cells b2 [zI x2,zI x3] 26,cells b9 [zP q] 29,cells q [T.v,.map (some a7),.map (some a6),.map (some a5),S.v] 72,bH T.v ch,cz (fun n:ad=>af n) (fun n:Int=>aB .i64 n) a7 cc,dQ a6 b0,cz (fun n:ad=>af n) (fun n:Bool=>ay n) a5 bs,bH S.v bk,cells s [zI c4] 3,cE,jY nH nI 72 (.pointer none) none]
   cases h
   exact qq (rs:=[.cell 2 29,.cell 3 26]) (ao::([]:List Nat)) (.pointer none) (.inl rfl) (qo (k:=0) rfl) results9 (.cons (.cell pN (k:=14) rfl rfl) (.cons (.cells kW (k:=15) rfl rfl rfl) .nil)) rfl (bW [25] kr rfl)
  rintro⟨o1,o2,o3,o4,o5,b3,b4,a1,b5,b6,b7,a0,ds1⟩ h
  rw[d0] at h
  show TC _ _ _ _ _ (po ds1) _ _ [(2,zP b1),(3,zP b2),(4,zP b3)] [cells b1 [.pointer none] 29,cells b2 [zI 0,zI 0] 26,cells b3 [zP b4] 29,cells b4 [a1.v,.map (some b5),.map (some b6),.map (some b7),a0.v] 72,bH a1.v o1,cz (fun n:ad=>af n) (fun n:Int=>aB .i64 n) b5 o2,dQ b6 o3,cz (fun n:ad=>af n) (fun n:Bool=>ay n) b7 o4,bH a0.v o5,ziH ((ds1:List Nat).map gL)]
  refine zyG (zas (k:=2) pN rfl dc rfl rfl rfl (zbf (v:=.agg #[zI 0,zI 0]) (ps:=[]) rfl dc rfl (fun _=>by kernel_rfl) (eP (k:=0) (l':=[zP b4]) AC rfl rfl rfl rfl rfl (fun _ _=>rfl) rfl (eE (k:=1) (vs:=[zI 0,zI 0]) (l':=[zI 0,zI 0]) kC rfl rfl rfl rfl rfl (show _≤_ by simp) rfl rfl ?_))))
  show TO _ _ _ _ _ _ _ _ _ _ [cells b1 [zP b4] 29,cells b2 [zI 0,zI 0] 26,cells b3 [zP b4] 29,cells b4 [a1.v,.map (some b5),.map (some b6),.map (some b7),a0.v] 72,bH a1.v o1,cz (fun n:ad=>af n) (fun n:Int=>aB .i64 n) b5 o2,dQ b6 o3,cz (fun n:ad=>af n) (fun n:Bool=>ay n) b7 o4,bH a0.v o5,ziH ((ds1:List Nat).map gL)]
  refine zyN (zaA (Ak (by simp) (GF (As:=[cells b4 [a1.v,.map (some b5),.map (some b6),.map (some b7),a0.v] 72,bH a1.v o1,cz (fun n:ad=>af n) (fun n:Int=>aB .i64 n) b5 o2,dQ b6 o3,cz (fun n:ad=>af n) (fun n:Bool=>ay n) b7 o4,bH a0.v o5]) (bW [3,4,5,6,7,8] kr rfl) (G0 (enc:=nH) (nest:=nI) (t:=72) (x:=(⟨o1,o2,o3,o4,o5⟩:cw)) (b:=b4) (hd:=(a1,(⟨some ⟨b5,0,none⟩,0,0⟩:Hd),(⟨some ⟨b6,0,none⟩,0,0⟩:Hd),(⟨some ⟨b7,0,none⟩,0,0⟩:Hd),a0))) (fun _ _=>?_))))
  show TX _ _ _ _ _ _ _ [cells b1 [zP b4] 29,cells b2 [zI 0,zI 0] 26,cells b3 [zP b4] 29,cE,cE,cE,cE,cE,cE,ziH ((ds1:List Nat).map gL),jY nH nI 72 (zP b4) (some (⟨o1,o2,o3,o4,o5⟩:cw))]
  cases h
  exact qq (rs:=[.cell 2 29,.cell 3 26]) ds1 (zP b4) (.inl rfl) (qo (k:=9) rfl) results9 (.cons (.cell pN (k:=0) rfl rfl) (.cons (.cells kW (k:=1) rfl rfl rfl) .nil)) rfl (bW [10] kr rfl)
 exact fun b hb=>hb.elim
abbrev Wd:=gw
abbrev ix:ad:=⟨#[112,117,116]⟩
abbrev qC:ad:=⟨#[97,102,116,101,114]⟩
abbrev cAs:ad:=⟨#[97,115]⟩
abbrev mJ:ad:=⟨#[115,107,105,112]⟩
abbrev zfS:ad:=⟨#[]⟩
def w0:Wd:=⟨0,zfS⟩
def nO (l:List Wd) (k:Nat):Int:=(l.getD k w0).at_
def td (l:List Wd) (e:Int) (b a:Nat):Int:=if l.length<b then e else if a<l.length then nO l a else -1
def mw (l:List Wd) (e:Int):Int :=
 if (l.getD 0 w0).text=ix then (if 2<l.length∧(l.getD 2 w0).text≠qC then nO l 2 else td l e 4 4)
 else if (l.getD 0 w0).text=cAs then td l e 3 6
 else if (l.getD 0 w0).text=mJ then td l e 2 2
 else nO l 0
theorem zip {α:Type} {l:List α} {k:Nat} {d:α} (h:k<l.length):l[k]?=some (l.getD k d):=by
 rw[cC,aJ h];rfl
theorem qD {α:Type} {l:List α} {k:Nat} (d:α) (h:k<l.length):zca l (k:Int)=some (l.getD k d):=gM (zip h)
theorem T6 (l:List Wd) (e:Int) (h0:0<l.length):zm l e=some (mw l e):=by
 have c:∀ (a b:Nat),(aN (decide (((l.length:Int):Int)<(a:Int))) (some e) (aN (decide (((b:Int):Int)<(l.length:Int))) (aT (zca l (b:Int)) fun (d:Wd)=>some d.at_) (some (-1))))=some (td l e a b):=by
  intro a b
  unfold td
  by_cases h1:l.length<a
  ·rw[am h1];exact eR rfl
  ·rw[aj h1]
   refine fC ?_
   by_cases h2:b<l.length
   ·rw[am h2];exact eR (aY (qD w0 h2) rfl)
   ·rw[aj h2];exact fC rfl
 unfold zm mw
 refine cB (aY (qD (k:=0) w0 h0) ?_)
 by_cases h1:(l.getD 0 w0).text=ix
 ·rw[am h1]
  refine bS (ax h1) (cB ?_)
  by_cases h2:2<l.length
  ·refine eR (aY (qD (k:=2) w0 h2) ?_)
   by_cases h3:(l.getD 2 w0).text=qC
   ·rw[aj (fun h=>h.2 h3)]
    exact bM (by rw[ax h3];rfl) (c 4 4)
   ·rw[am ⟨h2,h3⟩]
    exact bS (by rw[al h3];rfl) (aY (qD (k:=2) w0 h2) rfl)
  ·rw[aj (fun h=>h2 h.1)]
   exact fC (c 4 4)
 ·rw[aj h1]
  refine bM (al h1) ?_
  by_cases h2:(l.getD 0 w0).text=cAs
  ·rw[am h2];exact bS (ax h2) (c 3 6)
  ·rw[aj h2]
   refine bM (al h2) ?_
   by_cases h3:(l.getD 0 w0).text=mJ
   ·rw[am h3];exact bS (ax h3) (c 2 2)
   ·rw[aj h3];exact bM (al h3) (aY (qD (k:=0) w0 h0) rfl)
abbrev zuY:ad:=⟨#[32,97,102,116,101,114]⟩
abbrev zxM:ad:=⟨#[32]⟩
def jT (put:Bool):Nat→List Wd→Int ⊕ (List ad×ad)
 |_,[]=>.inr ([],zfS)
 |i,w::ws=>
  if i=0∨(put=true∧i=2) then (match jT put (i+1) ws with | .inl a=>.inl a | .inr (f,s)=>.inr (zfS::f,(if i=0 then zfS else zuY)++s))
  else if zfX w.text=zfS then .inl w.at_
  else match jT put (i+1) ws with | .inl a=>.inl a | .inr (f,s)=>.inr (zfX w.text::f,(zxM++zB7 (zfX w.text))++s)
theorem FE:∀ (l:List Tk) (k:Nat),k≤8→oe k l=true→k+l.length≤8
 |[],k,hk,_=>hk
 |x::l,k,hk,h=>by
  rw[oe,aQ,aQ] at h
  have a:=of_decide_eq_true h.1.1
  have:=FE l (k+1) a h.2
  rw[ab];omega
theorem Lg (s:ad):∀y∈gE s,y.2.size≤4:=by
 intro y hy
 obtain⟨x,hx,rfl⟩:=aU.1 hy
 have:=zF (pP _ x hx)
 show (⟨x.bs.toArray⟩:ad).size≤4
 rw[gJ]
 simpa using this
theorem B8 (s:ad):(zfX s).size≤32:=by
 unfold zfX
 by_cases h:oe 0 (gE s)=true
 ·rw[am h]
  have h1:=FE _ 0 (by omega) h
  have h2:(jL s).size≤4*((gE s).map ie).length:=xm fun y hy=>by
   obtain⟨x,hx,rfl⟩:=aU.1 hy
   exact B6 (Lg s x hx)
  rw[az] at h2
  omega
 ·rw[aj h];show 0≤32;omega
theorem Lh {α:Type} (D:List α) (x y:α) (R:List α):(D++x::R).set ((D.length:Int)).toNat y=D++y::R:=by
 rw[bz,List.set_append_right _ _ (bq _),Nat.sub_self];rfl
theorem T7 (o:cw) (l:List Wd) (q2:Wd) (J:ad→ad→List ad→Option (zaw×cw)) (K:l.length≤2147483648) (H:∀w∈l,w.text.size≤65536) :
  ∀ (n:Nat) (B A:List Wd) (D:List ad) (said:ad),l=A++B→D.length=A.length→B.length<n→said.size≤65536+1000*A.length →
   zaC (fun _ _ _=>none) (zc3 o l J q2) n said (D++bE B.length zfS) (A.length:Int) =
    match jT (decide (q2.text=ix)) A.length B with
    |.inl a=>some ((⟨221,a⟩:zaw),o)
    |.inr (f,s)=>J q2.text (said++s) (D++f):=by
 intro n
 induction n with
 |zero=>intro B A D said _ _ h;omega
 |succ n G=>
  intro B A D said hA y I Q
  rw[gk]
  generalize v:zaC (fun _ _ _=>none) (zc3 o l J q2) n=ag
  unfold zc3
  cases B with
  |nil=>
   refine bM (al (by rw[hA];simp)) ?_
   show J q2.text said (D++[])=J q2.text (said++zfS) (D++[])
   rw[show zfS=ac from rfl,bx]
  |cons w B=>
   have N:A.length≤2147483648:=by rw[hA,aa] at K;omega
   have k:l[A.length]?=some w:=by rw[hA];simp
   have C:l=(A++[w])++B:=by rw[hA,aA];rfl
   have b:(A++[w]).length=A.length+1:=by simp
   have q:=fun (x e:ad) (u:e.size≤65536+1000*(A.length+1))=>G B (A++[w]) (D++[x]) e C (by rw[aa,b,y];rfl) (by rw[ab] at I;omega) (by rw[b];exact u)
   rw[v,b] at q
   have m:cr ((A.length:Int)+1):=⟨by omega,by omega⟩
   have j:bE (w::B).length zfS=zfS::bE B.length zfS:=rfl
   have g:∀ (x:ad) (R:List ad),(D++[x])++R=D++x::R:=fun x R=>by rw[aA];rfl
   have d:∀ (z:ad),z.size≤6→(A.length=0∨(decide (q2.text=ix)=true∧A.length=2))→z=(if A.length=0 then zfS else zuY) →
     (aV (cr ((A.length:Int)+1))<|ag (said++z) (D++zfS::bE B.length zfS) ((A.length:Int)+1))=match jT (decide (q2.text=ix)) A.length (w::B) with | .inl a=>some ((⟨221,a⟩:zaw),o) | .inr (f,s)=>J q2.text (said++s) (D++f):=by
    intro z hz hc r
    refine zdG m ?_
    have:=q zfS (said++z) (by rw[aE];omega)
    rw[g] at this
    push_cast at this
    rw[this,jT,am hc]
    cases jT (decide (q2.text=ix)) (A.length+1) B with
    |inl a=>rfl
    |inr fs=>
     obtain⟨f,s⟩:=fs
     show J q2.text ((said++z)++s) ((D++[zfS])++f)=J q2.text (said++(_++s)) (D++zfS::f)
     rw[g,de,r]
   have c:¬(A.length=0∨(decide (q2.text=ix)=true∧A.length=2)) →
     (aT (xb w.text) fun (r2:ad)=>aT (zca (D++zfS::bE B.length zfS) (A.length:Int)) fun (P:ad)=>aT (zca ((D++zfS::bE B.length zfS).set ((A.length:Int):Int).toNat r2) (A.length:Int)) fun (F:ad)=>
      aN (decide (F=(⟨#[]⟩:ad))) (some ((⟨221,w.at_⟩:zaw),o)) (
       aT (zca ((D++zfS::bE B.length zfS).set ((A.length:Int):Int).toNat r2) (A.length:Int)) fun (E:ad)=>aT (ve E) fun (r3:ad)=>
        aV ((⟨#[32]⟩:ad).size+r3.size≤9223372036854775807)<|aV (said.size+((⟨#[32]⟩:ad)++r3).size≤9223372036854775807) <|
         aV (cr ((A.length:Int)+1))<|ag (said++((⟨#[32]⟩:ad)++r3)) ((D++zfS::bE B.length zfS).set ((A.length:Int):Int).toNat r2) ((A.length:Int)+1)))=match jT (decide (q2.text=ix)) A.length (w::B) with | .inl a=>some ((⟨221,a⟩:zaw),o) | .inr (f,s)=>J q2.text (said++s) (D++f):=by
    intro hc
    have t:w.text.size≤65536:=H w (by rw[hA];simp)
    have O:=B8 w.text
    have i:=Lh D zfS (zfX w.text) (bE B.length zfS)
    rw[y] at i
    have hg:∀ (x:ad) (R:List ad),zca (D++x::R) (A.length:Int)=some x:=fun x R=>gM (by rw[←y];simp)
    refine aY (T1 w.text t) (aY (hg _ _) ?_)
    rw[i,jT,aj hc]
    refine aY (hg _ _) ?_
    by_cases he:zfX w.text=zfS
    ·rw[am he];exact bS (ax he) rfl
    ·rw[aj he]
     have ht:=(s7 (zfX w.text) (by omega)).2.2.2
     have M:(⟨#[32]⟩:ad).size=1:=rfl
     refine bM (al he) (aY (hg _ _) (aY (R4 _ (by omega)) (gO (zdG (by rw[aE];omega) (zdG m ?_)))))
     have:=q (zfX w.text) (said++(zxM++zB7 (zfX w.text))) (by rw[aE,aE];show _+(1+_)≤_;omega)
     rw[g] at this
     push_cast at this
     rw[this]
     cases jT (decide (q2.text=ix)) (A.length+1) B with
     |inl a=>rfl
     |inr fs=>
      obtain⟨f,s⟩:=fs
      show J q2.text ((said++_)++s) ((D++[_])++f)=J q2.text (said++(_++s)) (D++_::f)
      rw[g,de]
   rw[j]
   refine bS (ax (by rw[hA];simp;omega)) (cB (cB (aY (gM k) ?_)))
   by_cases h0:A.length=0
   ·refine bS (by rw[h0];rfl) (cB (bM (by rw[h0];rfl) ?_))
    have:=d zfS (by show 0≤6;omega) (.inl h0) (by rw[am h0])
    rw[show zfS=ac from rfl,bx] at this
    exact this
   ·refine bM (aC.2 (by omega)) ?_
    by_cases hp:q2.text=ix
    ·refine bS (ax hp) ?_
     by_cases h2:A.length=2
     ·refine bS (by rw[h2];rfl) (cB (eR (zdG (by show said.size+6≤_;omega) ?_)))
      exact d zuY (by show 6≤6;omega) (.inr ⟨ax hp,h2⟩) (by rw[aj h0])
     ·exact bM (aC.2 (by omega)) (c (fun h=>by rcases h with h | h;exact h0 h;exact h2 h.2))
    ·exact bM (al hp) (c (fun h=>by rcases h with h | h;exact h0 h;exact hp (of_decide_eq_true h.1)))
section
variable {κ ν:Type} [DecidableEq κ]
theorem xp (k:κ) (v:ν) (q:κ):∀L:List (κ×ν),zbP q (iq k v L)=if q=k then some v else zbP q L
 |[]=>rfl
 |p::L=>by
  have b:=xp k v q L
  unfold iq
  by_cases h:k=p.1
  ·rw[am h]
   unfold zbP
   by_cases a:q=k
   ·rw[am a,am a]
   ·rw[aj a,aj a,aj (by rw[←h];exact a)]
  ·rw[aj h]
   unfold zbP
   by_cases a:q=p.1
   ·rw[am a,am a,aj (by rw[a];exact fun e=>h e.symm)]
   ·rw[aj a,aj a,b]
end
def lE:List ad→ad→Option Int
 |[],_=>none
 |x::l,u=>if u=x then some 0 else (lE l u).map (· + 1)
theorem vq:∀ {l:List ad} {u:ad} {i:Int},lE l u=some i→0≤i∧i<(l.length:Int)∧l[i.toNat]?=some u
 |[],u,i,h=>by cases h
 |x::l,u,i,h=>by
  rw[lE] at h
  split at h
  ·rename_i e
   injection h with h
   subst h
   exact⟨eN _,by rw[ab];push_cast;omega,by rw[e];rfl⟩
  ·cases h1:lE l u with
   |none=>rw[h1] at h;cases h
   |some j=>
    rw[h1] at h
    injection h with h
    subst h
    obtain⟨a,b,c⟩:=vq h1
    show 0≤j+1∧_
    refine⟨by omega,by rw[ab];push_cast;omega,?_⟩
    rw[show (j+1).toNat=j.toNat+1 by omega,List.getElem?_cons_succ]
    exact c
theorem iy:∀ {l:List ad} {u:ad},(lE l u).isSome=true↔u∈l
 |[],u=>by simp[lE]
 |x::l,u=>by
  rw[lE]
  by_cases h:u=x
  ·rw[am h];simp[h]
  ·rw[aj h,Option.isSome_map,iy];simp[h]
def zw6:List ad→Int→List (ad×Int)→List (ad×Int)
 |[],_,m=>m
 |u::us,i,m=>zw6 us (i+1) (iq u i m)
theorem FF:∀ (us:List ad) (i:Int) (m:List (ad×Int)) (u:ad),us.Nodup→zbP u (zw6 us i m)=match lE us u with | some k=>some (i+k) | none=>zbP u m
 |[],i,m,u,_=>rfl
 |x::us,i,m,u,h=>by
  rw[iY] at h
  rw[zw6,FF us (i+1) _ u h.2,lE,xp]
  by_cases hu:u=x
  ·subst hu
   have:lE us u=none:=by
    cases hi:lE us u with
    |none=>rfl
    |some j=>
     exact absurd (iy.1 (by rw[hi];rfl)) h.1
   rw[this,am rfl]
   simp
  ·rw[aj hu,aj hu]
   cases lE us u with
   |none=>rfl
   |some j=>
    show some (i+1+j)=some (i+(j+1))
    congr 1;omega
theorem T8 (o:cw) (h:o.units.length≤1000000000):xc o=some ⟨o.units,zw6 o.units 0 o.place,o.fors,o.skips,o.lines⟩:=by
 unfold xc
 have key:∀ (n k:Nat) (m:List (ad×Int)),k≤o.units.length→o.units.length-k<n→zaC (fun _ _=>none) (zcE o) n m (k:Int)=some ⟨o.units,zw6 (o.units.drop k) (k:Int) m,o.fors,o.skips,o.lines⟩:=by
  intro n
  induction n with
  |zero=>intro k m _ h;omega
  |succ n c=>
   intro k m hk d
   rw[gk]
   generalize b:zaC (fun _ _=>none) (zcE o) n=ag
   unfold zcE
   by_cases a:k<o.units.length
   ·refine eR (aY (qD zfS a) (gO ?_))
    have:=c (k+1) (iq (o.units.getD k zfS) (k:Int) m) (by omega) (by omega)
    rw[b] at this
    push_cast at this
    rw[this,List.drop_eq_getElem_cons a,zw6]
    congr 3
    rw[cC,aJ a];rfl
   ·refine fC ?_
    rw[List.drop_eq_nil_of_le (by omega)];rfl
 have:=key zbx 0 o.place (bG _) (by unfold zbx;omega)
 rw[el] at this
 exact this
def lF (o:cw) (u:ad):Bool:=(zbP u o.place).isSome||(zbP u o.fors).isSome
theorem T9 (o:cw) (u:ad):zo o u=some (lF o u):=by
 unfold zo lF
 cases (zbP u o.place).isSome with
 |true=>exact bS rfl rfl
 |false=>exact bM rfl (by rw[dp])
def na (o:cw):Nat→List ad→List Wd→Option Int
 |i,f::fs,w::ws=>if 1<i∧f≠zfS∧(zbP f o.place).isSome=false then some w.at_ else na o (i+1) fs ws
 |_,_,_=>none
def xq (l:List Wd) (s:ad):ad:=(l.getD 0 w0).text++s
def fD (fs:List ad) (k:Nat):ad:=fs.getD k zfS
def B9 (o:cw) (fs:List ad) (a:ad):cw :=
 let us:=js o.units ((zbP (fD fs 3) o.place).getD 0+1) (fD fs 1)
 ⟨us,zw6 us 0 o.place,o.fors,o.skips,o.lines++[a]⟩
def oT (o:cw) (l:List Wd) (e:Int):zaw×cw :=
 if o.lines.length=256 then (⟨3,nO l 0⟩,o)
 else if 0≤mw l e then (⟨220,mw l e⟩,o)
 else match jT (decide ((l.getD 0 w0).text=ix)) 0 l with
  |.inl a=>(⟨221,a⟩,o)
  |.inr (fs,s)=>
   if (l.getD 0 w0).text=mJ then
    (if (zbP (iU (fD fs 1)) o.skips).getD false=true then (⟨222,nO l 1⟩,o) else (⟨0,0⟩,⟨o.units,o.place,o.fors,iq (iU (fD fs 1)) true o.skips,o.lines++[xq l s]⟩))
   else if lF o (fD fs 1)=true then (⟨222,nO l 1⟩,o)
   else match na o 0 fs l with
    |some a=>(⟨223,a⟩,o)
    |none=>(⟨0,0⟩,if (l.getD 0 w0).text=ix then B9 o fs (xq l s) else ⟨o.units,o.place,iq (fD fs 1) (fs.drop 2) o.fors,o.skips,o.lines++[xq l s]⟩)
theorem Ua (o:cw) (l:List Wd) (fs:List ad) (J:Option (zaw×cw)) (r:fs.length=l.length) (hb:l.length≤2147483648):∀ (n:Nat) (A B:List ad) (C D:List Wd),fs=A++B→l=C++D→A.length=C.length→B.length<n →
  zaC (fun _=>none) (zc2 o l fs J) n (A.length:Int)=match na o A.length B D with | some a=>some ((⟨223,a⟩:zaw),o) | none=>J:=by
 intro n
 induction n with
 |zero=>intro A B C D _ _ _ h;omega
 |succ n m=>
  intro A B C D hA c b q
  rw[gk]
  generalize i:zaC (fun _=>none) (zc2 o l fs J) n=ag
  unfold zc2
  have j:B.length=D.length:=by
   rw[hA,c,aa,aa] at r;omega
  cases B with
  |nil=>exact bM (al (by rw[hA];simp)) rfl
  |cons f B=>
   cases D with
   |nil=>cases j
   |cons w D=>
    have s:A.length≤2147483648:=by rw[c,aa] at hb;omega
    have g:fs[A.length]?=some f:=by rw[hA];simp
    have e:l[A.length]?=some w:=by rw[c,b];simp
    have d:=m (A++[f]) B (C++[w]) D (by rw[hA,aA];rfl) (by rw[c,aA];rfl) (by simp[b]) (by rw[ab] at q;omega)
    rw[i,show (A++[f]).length=A.length+1 by simp] at d
    push_cast at d
    have k:(aV (cr ((A.length:Int)+1))<|ag ((A.length:Int)+1))=match na o (A.length+1) B D with | some a=>some ((⟨223,a⟩:zaw),o) | none=>J:=gO d
    refine bS (ax (by rw[hA];simp;omega)) (cB (aY (gM g) ?_))
    rw[na]
    by_cases h1:1<A.length
    ·refine eR ?_
     by_cases h2:f=zfS
     ·rw[aj (fun h=>h.2.1 h2)]
      exact bM (by rw[ax h2];rfl) k
     ·refine bS (by rw[al h2];rfl) ?_
      cases h3:(zbP f o.place).isSome with
      |true=>rw[aj (fun h=>by cases h.2.2)];exact bM rfl k
      |false=>rw[am ⟨h1,h2,rfl⟩];exact bS rfl (aY (gM e) rfl)
    ·rw[aj (fun h=>h1 h.1)]
     exact fC k
theorem zL (put:Bool):∀ (l:List Wd) (i:Nat) (f:List ad) (s:ad),jT put i l=.inr (f,s)→f.length=l.length
 |[],i,f,s,h=>by
  rw[jT] at h
  injection h with h
  injection h with h1 h2
  rw[←h1];rfl
 |w::l,i,f,s,h=>by
  rw[jT] at h
  cases hr:jT put (i+1) l with
  |inl a=>
   rw[hr] at h
   split at h
   ·cases h
   ·split at h<;>cases h
  |inr fs=>
   obtain⟨f',c⟩:=fs
   have b:=zL put l (i+1) f' c hr
   rw[hr] at h
   split at h
   ·injection h with h
    injection h with h1 h2
    rw[←h1,ab,ab,b]
   ·split at h
    ·cases h
    ·injection h with h
     injection h with h1 h2
     rw[←h1,ab,ab,b]
theorem xr {l:List Wd} {e:Int} (he:0≤e) (ha:∀w∈l,0≤w.at_) (h0:0<l.length) (h:¬0≤mw l e) :
  ((l.getD 0 w0).text=ix∧l.length=4∧(l.getD 2 w0).text=qC)∨((l.getD 0 w0).text=cAs∧3≤l.length∧l.length≤6)∨((l.getD 0 w0).text=mJ∧l.length=2):=by
 have f:∀k,k<l.length→0≤nO l k:=fun k hk=>ha _ (aP (zip hk))
 have d:∀a b,¬0≤td l e a b→a≤l.length∧l.length≤b:=by
  intro a b c
  unfold td at c
  by_cases h1:l.length<a
  ·rw[am h1] at c;exact absurd he c
  ·rw[aj h1] at c
   by_cases h2:b<l.length
   ·rw[am h2] at c;exact absurd (f b h2) c
   ·omega
 unfold mw at h
 by_cases h1:(l.getD 0 w0).text=ix
 ·rw[am h1] at h
  by_cases h2:2<l.length∧(l.getD 2 w0).text≠qC
  ·rw[am h2] at h;exact absurd (f 2 h2.1) h
  ·rw[aj h2] at h
   have:=d 4 4 h
   refine .inl ⟨h1,by omega,?_⟩
   exact Decidable.byContradiction fun c=>h2 ⟨by omega,c⟩
 ·rw[aj h1] at h
  by_cases h2:(l.getD 0 w0).text=cAs
  ·rw[am h2] at h;exact .inr (.inl ⟨h2,d 3 6 h⟩)
  ·rw[aj h2] at h
   by_cases h3:(l.getD 0 w0).text=mJ
   ·rw[am h3] at h
    have:=d 2 2 h
    exact .inr (.inr ⟨h3,by omega⟩)
   ·rw[aj h3] at h;exact absurd (f 0 h0) h
theorem Ub (x:Tk):ie (ie x)=ie x:=by
 cases h:ej x with
 |true=>
  have e:ie x=(cA x.1,ae (cA x.1)):=by unfold ie;rw[h];rfl
  have h1:ej (ie x)=true:=by rw[Ld];exact h
  rw[e] at h1 ⊢
  unfold ie
  rw[h1,am rfl]
  show (cA (cA x.1),ae (cA (cA x.1)))=_
  rw[(ui (show cZ x.1=true from h)).2.1]
 |false=>
  have e:ie x=x:=by unfold ie;rw[h];rfl
  rw[e,e]
def Ca (u:ad):Prop:=u≠zfS∧zfX u=u
theorem Uc (s:ad) (a:s.size≤65536):jL (jL s)=jL s:=by
 show iD ((gE (jL s)).map ie)=iD ((gE s).map ie)
 rw[La s a,cn]
 exact aM iD (dw fun x _=>Ub x)
theorem Ud (s:ad) (a:s.size≤65536) (h:zfX s≠zfS):Ca (zfX s):=by
 refine⟨h,?_⟩
 unfold zfX at h ⊢
 by_cases hk:oe 0 (gE s)=true
 ·rw[am hk,La s a,B7,am hk,Uc s a]
 ·rw[aj hk] at h;exact absurd rfl h
theorem FG (put:Bool):∀ (l:List Wd) (i:Nat) (f:List ad) (s:ad),jT put i l=.inr (f,s)→∀k w,l[k]?=some w →
  f[k]?=some (if i+k=0∨(put=true∧i+k=2) then zfS else zfX w.text)∧(¬(i+k=0∨(put=true∧i+k=2))→zfX w.text≠zfS)
 |[],i,f,s,_,k,w,hk=>by simp at hk
 |w'::l,i,f,s,h,k,w,hk=>by
  rw[jT] at h
  cases hr:jT put (i+1) l with
  |inl a=>
   rw[hr] at h
   split at h
   ·cases h
   ·split at h<;>cases h
  |inr fs=>
   obtain⟨f',c⟩:=fs
   have b:=FG put l (i+1) f' c hr
   rw[hr] at h
   by_cases hc:i=0∨(put=true∧i=2)
   ·rw[am hc] at h
    injection h with h
    injection h with h1 h2
    subst h1
    cases k with
    |zero=>
     injection hk with hk
     subst hk
     rw[Nat.add_zero,am hc]
     exact⟨rfl,fun h=>absurd hc h⟩
    |succ k=>
     have:=b k w hk
     rw[show i+1+k=i+(k+1) by omega] at this
     exact this
   ·rw[aj hc] at h
    by_cases he:zfX w'.text=zfS
    ·rw[am he] at h;cases h
    ·rw[aj he] at h
     injection h with h
     injection h with h1 h2
     subst h1
     cases k with
     |zero=>
      injection hk with hk
      subst hk
      rw[Nat.add_zero,aj hc]
      exact⟨rfl,fun _=>he⟩
     |succ k=>
      have:=b k w hk
      rw[show i+1+k=i+(k+1) by omega] at this
      exact this
theorem Cb (o:cw):∀ (fs:List ad) (a:List Wd) (i:Nat),fs.length=a.length→na o i fs a=none→∀k f,fs[k]?=some f→1<i+k→f≠zfS→(zbP f o.place).isSome=true
 |[],a,i,_,_,k,f,hk,_,_=>by simp at hk
 |f'::fs,[],i,hl,_,_,_,_,_,_=>by cases hl
 |f'::fs,w::a,i,hl,h,k,f,hk,h1,hf=>by
  rw[na] at h
  split at h
  ·cases h
  ·rename_i b
   cases k with
   |zero=>
    injection hk with hk
    subst hk
    cases hp:(zbP f' o.place).isSome with
    |true=>rfl
    |false=>exact absurd ⟨by omega,hf,hp⟩ b
   |succ k=>exact Cb o fs a (i+1) (by simpa using hl) h k f hk (by omega) hf
structure fI (o:cw):Prop where
 pl:∀u,zbP u o.place=lE o.units u
 nd:o.units.Nodup
 ul:o.units.length≤90+o.lines.length
 ll:o.lines.length≤256
 fo:∀u xs,zbP u o.fors=some xs→xs≠[]∧xs.length≤4∧∀x∈xs,x∈o.units
 dj:∀u,(zbP u o.fors).isSome=true→u ∉ o.units
 us:∀u∈o.units,Ca u
 fk:∀u,(zbP u o.fors).isSome=true→Ca u
 lw:26≤o.units.length
theorem fI.ok {o:cw} (h:fI o):xn o where
 fo:=fun u xs hx=>⟨(h.fo u xs hx).1,(h.fo u xs hx).2.1⟩
 pl:=fun u i hi=>by
  have hi:zbP u o.place=some i:=hi
  rw[h.pl] at hi
  have:=vq hi
  have h1:=h.ul;have h2:=h.ll
  omega
theorem Ce {fs:List ad} {k:Nat} (h:k<fs.length):fs[k]?=some (fD fs k):=zip h
theorem xt {l:List Wd} {put:Bool} {f:List ad} {s:ad} (h:jT put 0 l=.inr (f,s)) (k:Nat) (hk:k<l.length) (a:¬(k=0∨(put=true∧k=2))):fD f k=zfX (l.getD k w0).text∧fD f k≠zfS:=by
 have b:=zL put l 0 f s h
 obtain⟨h1,h2⟩:=FG put l 0 f s h k _ (zip hk)
 rw[cf,aj a,Ce (by omega)] at h1
 injection h1 with h1
 rw[cf] at h2
 exact⟨h1,by rw[h1];exact h2 a⟩
theorem Ue {o:cw} (h:fI o) {u:ad} (hu:(zbP u o.place).isSome=false):u ∉ o.units:=by
 intro hm
 have:=iy.2 hm
 rw[←h.pl,hu] at this
 cases this
theorem Li {o:cw} (h:fI o) {u:ad} (hu:(zbP u o.place).isSome=true):u∈o.units:=by
 rw[h.pl] at hu
 exact iy.1 hu
theorem Uf {o:cw} (h:fI o) (l:List Wd) (e:Int) (he:0≤e) (h0:0<l.length) (E:l.length≤1000000000) (ha:∀w∈l,0≤w.at_) (t:∀w∈l,w.text.size≤65536):zK o l e=some (oT o l e):=by
 have y:=h.ul;have z:=h.ll
 unfold zK oT
 by_cases h1:o.lines.length=256
 ·rw[am h1]
  exact bS (by rw[h1];rfl) (aY (qD (k:=0) w0 h0) rfl)
 rw[aj h1]
 refine bM (aC.2 (by omega)) (aY (T6 l e h0) ?_)
 by_cases h2:0≤mw l e
 ·rw[am h2];exact bS (ax h2) rfl
 rw[aj h2]
 have i:=xr he ha h0 h2
 refine bM (al h2) (cB (aY (qD (k:=0) w0 h0) (gO ?_)))
 have D:(l.getD 0 w0).text.size≤65536:=t _ (aP (zip h0))
 have f:=fun J=>T7 o l (l.getD 0 w0) J (by omega) t zbx l [] [] (l.getD 0 w0).text rfl rfl (by unfold zbx;omega) (by show _≤_+1000*0;omega)
 rw[bz]
 refine (f _).trans ?_
 cases hf:jT (decide ((l.getD 0 w0).text=ix)) ([]:List Wd).length l with
 |inl a=>rfl
 |inr fs=>
  obtain⟨fs,s⟩:=fs
  have hf:jT (decide ((l.getD 0 w0).text=ix)) 0 l=.inr (fs,s):=hf
  have c:=zL _ _ _ _ _ hf
  have C:2≤l.length:=by rcases i with h | h | h<;>omega
  have hg:=fun (k:Nat) (hk:k<l.length)=>qD (l:=fs) (k:=k) zfS (by omega)
  show aN (decide ((l.getD 0 w0).text=mJ)) _ _=some (ite ((l.getD 0 w0).text=mJ) _ _)
  by_cases b:(l.getD 0 w0).text=mJ
  ·rw[am b]
   have r:(fD fs 1).size≤65536:=by
    have:=(xt hf 1 (by omega) (by omega)).1
    rw[this];have:=B8 (l.getD 1 w0).text;omega
   refine bS (ax b) (aY (hg 1 (by omega)) (aY (Bu _ r) ?_))
   show aN ((zbP (iU (fD fs 1)) o.skips).getD false) _ _=_
   cases hb:(zbP (iU (fD fs 1)) o.skips).getD false with
   |true=>rw[am rfl];exact bS rfl (aY (qD (k:=1) w0 (by omega)) rfl)
   |false=>rw[aj (by simp)];exact bM rfl (gO rfl)
  ·rw[aj b]
   refine bM (al b) (aY (hg 1 (by omega)) (aY (T9 o _) ?_))
   show aN (lF o (fD fs 1)) _ _=_
   cases hb:lF o (fD fs 1) with
   |true=>rw[am rfl];exact bS rfl (aY (qD (k:=1) w0 (by omega)) rfl)
   |false=>
    rw[aj (by simp)]
    refine bM rfl (cB ?_)
    have n:=fun J=>Ua o l fs J c (by omega) zbx [] fs [] l rfl rfl rfl (by unfold zbx;omega)
    refine (n _).trans ?_
    cases g:na o ([]:List ad).length fs l with
    |some a=>rfl
    |none=>
     have g:na o 0 fs l=none:=g
     show co _ _=some ((⟨0,0⟩:zaw),ite ((l.getD 0 w0).text=ix) _ _)
     refine cB ?_
     by_cases hp:(l.getD 0 w0).text=ix
     ·rw[am hp]
      have F:l.length=4:=by
       rcases i with h|h|h
       ·exact h.2.1
       ·rw[h.1] at hp;exact absurd hp (by decide)
       ·exact absurd h.1 b
      have m:=(xt hf 3 (by omega) (by omega)).2
      have h3:=Cb o fs l 0 c g 3 _ (Ce (by omega)) (by omega) m
      obtain⟨p,d⟩:=jx.1 h3
      have hr:=d
      rw[h.pl] at hr
      have u:=vq hr
      have q:fs.getD 3 zfS=fD fs 3:=rfl
      have v:(js o.units (p+1) (fD fs 1)).length=o.units.length+1:=by
       unfold js
       rw[aa,ab,bD,aS];omega
      refine bS (ax hp) (aY (hg 3 (by omega)) ?_)
      rw[q,d,fi]
      refine gO (aY (hg 1 (by omega)) (gO (aY (T8 _ (by show (js o.units (p+1) (fD fs 1)).length≤_;omega)) ?_)))
      show (aV (o.lines.length+1≤2147483648) _)=_
      refine gO ?_
      unfold B9
      rw[d,fi];rfl
     ·rw[aj hp]
      have j:dK ([]++fs) 2 ((([]++fs:List ad).length:Nat):Int)=fs.drop 2:=E5 fs 2
      refine bM (al hp) (aY (hg 1 (by omega)) (zdG ⟨by omega,by show (2:Int)≤(fs.length:Int);omega,eN _⟩ ?_))
      rw[j]
      exact gO rfl
theorem jN {xs:List ad} {i:Int} {x u:ad}:u∈js xs i x↔u=x∨u∈xs:=by
 unfold js
 rw[bY,bo]
 have:u∈xs↔u∈xs.take i.toNat∨u∈xs.drop i.toNat:=by rw[←bY,bZ]
 rw[this]
 constructor
 ·rintro (h | h | h)
  ·exact .inr (.inl h)
  ·exact .inl h
  ·exact .inr (.inr h)
 ·rintro (h | h | h)
  ·exact .inr (.inl h)
  ·exact .inl h
  ·exact .inr (.inr h)
theorem Ug {xs:List ad} {i:Int} {x:ad} (h:xs.Nodup) (hx:x ∉ xs):(js xs i x).Nodup:=by
 have hp:(js xs i x).Perm (x::xs):=by
  unfold js
  have:(xs.take i.toNat++x::xs.drop i.toNat).Perm (x::(xs.take i.toNat++xs.drop i.toNat)):=List.perm_middle
  rw[bZ] at this
  exact this
 exact hp.nodup_iff.2 (iY.2 ⟨hx,h⟩)
theorem FH {o:cw} (h:fI o) (l:List Wd) (e:Int) (he:0≤e) (h0:0<l.length) (ha:∀w∈l,0≤w.at_) (D:∀w∈l,w.text.size≤65536):fI (oT o l e).2:=by
 have E:=h.ul;have F:=h.ll
 unfold oT
 by_cases h1:o.lines.length=256
 ·rw[am h1];exact h
 rw[aj h1]
 by_cases h2:0≤mw l e
 ·rw[am h2];exact h
 rw[aj h2]
 have c:=xr he ha h0 h2
 cases hf:jT (decide ((l.getD 0 w0).text=ix)) 0 l with
 |inl a=>exact h
 |inr fs=>
  obtain⟨fs,s⟩:=fs
  have r:=zL _ _ _ _ _ hf
  have H:2≤l.length:=by rcases c with h | h | h<;>omega
  show fI (eC (ite _ _ _))
  by_cases b:(l.getD 0 w0).text=mJ
  ·rw[am b]
   cases hb:(zbP (iU (fD fs 1)) o.skips).getD false with
   |true=>rw[am rfl];exact h
   |false=>
    rw[aj (by simp)]
    exact⟨h.pl,h.nd,by show o.units.length≤90+(o.lines++_).length;rw[aa];omega,by show (o.lines++_).length≤_;rw[aa];show _+1≤_;omega,h.fo,h.dj,h.us,h.fk,h.lw⟩
  ·rw[aj b]
   cases hb:lF o (fD fs 1) with
   |true=>rw[am rfl];exact h
   |false=>
    rw[aj (by simp)]
    have t:(zbP (fD fs 1) o.place).isSome=false∧(zbP (fD fs 1) o.fors).isSome=false:=by
     unfold lF at hb
     exact bL.1 hb
    have n:=Ue h t.1
    cases y:na o 0 fs l with
    |some a=>exact h
    |none=>
     obtain⟨v,f⟩:=xt hf 1 (by omega) (by omega)
     have d:Ca (fD fs 1):=by
      rw[v] at f ⊢
      exact Ud _ (D _ (aP (zip (by omega)))) f
     show fI (ite _ _ _)
     by_cases hp:(l.getD 0 w0).text=ix
     ·rw[am hp]
      have I:l.length=4:=by
       rcases c with h|h|h
       ·exact h.2.1
       ·rw[h.1] at hp;exact absurd hp (by decide)
       ·exact absurd h.1 b
      unfold B9
      generalize (zbP (fD fs 3) o.place).getD 0+1=i
      have hnd:=Ug (i:=i) h.nd n
      refine⟨fun u=>?_,hnd,?_,?_,fun u xs hx=>?_,fun u hu=>?_,fun u hu=>?_,h.fk,?_⟩
      ·show zbP u (zw6 (js o.units i (fD fs 1)) 0 o.place)=lE (js o.units i (fD fs 1)) u
       rw[FF _ _ _ _ hnd]
       cases hi:lE (js o.units i (fD fs 1)) u with
       |some k=>show some (0+k)=_;rw[qm]
       |none=>
        show zbP u o.place=none
        rw[h.pl]
        cases hj:lE o.units u with
        |none=>rfl
        |some j=>
         have hm:u∈js o.units i (fD fs 1):=jN.2 (.inr (iy.1 (by rw[hj];rfl)))
         have:=iy.2 hm
         rw[hi] at this;cases this
      ·show (js o.units i (fD fs 1)).length≤90+(o.lines++_).length
       unfold js
       simp only[aa,ab,aL,bD,aS]
       omega
      ·show (o.lines++_).length≤256
       rw[aa];show _+1≤_;omega
      ·have:=h.fo u xs hx
       exact⟨this.1,this.2.1,fun x hx=>jN.2 (.inr (this.2.2 x hx))⟩
      ·intro hm
       rcases jN.1 hm with rfl|hm
       ·have hu:(zbP (fD fs 1) o.fors).isSome=true:=hu
        rw[t.2] at hu;cases hu
       ·exact h.dj u hu hm
      ·rcases jN.1 hu with rfl|hm
       ·exact d
       ·exact h.us u hm
      ·have:=h.lw
       show 26≤(js o.units i (fD fs 1)).length
       unfold js
       rw[aa,ab,bD,aS];omega
     ·rw[aj hp]
      have G:3≤l.length∧l.length≤6:=by
       rcases c with h|h|h
       ·exact absurd h.1 hp
       ·exact h.2
       ·exact absurd h.1 b
      have m:decide ((l.getD 0 w0).text=ix)=false:=al hp
      refine⟨h.pl,h.nd,by show o.units.length≤90+(o.lines++_).length;rw[aa];omega,by show (o.lines++_).length≤_;rw[aa];show _+1≤_;omega,fun u xs hx=>?_,fun u hu=>?_,h.us,fun u hu=>?_,h.lw⟩
      ·have hx:zbP u (iq (fD fs 1) (fs.drop 2) o.fors)=some xs:=hx
       rw[xp] at hx
       by_cases hu:u=fD fs 1
       ·rw[am hu] at hx
        injection hx with hx
        subst hx
        refine⟨fun e=>?_,by rw[aS];omega,fun x hx=>?_⟩
        ·have:=aM gq e
         rw[aS,aL] at this;omega
        ·obtain⟨k,hk⟩:=List.mem_iff_getElem?.1 hx
         rw[List.getElem?_drop] at hk
         have z:=(au.1 hk).1
         have C:fD fs (2+k)=x:=by
          have:=Ce (fs:=fs) (k:=2+k) z
          rw[hk] at this
          injection this with this
          exact this.symm
         have q:=(xt hf (2+k) (by omega) (by rw[m];rintro (h | h);omega;cases h.1)).2
         rw[C] at q
         exact Li h (Cb o fs l 0 r y (2+k) x hk (by omega) q)
       ·rw[aj hu] at hx
        exact h.fo u xs hx
      ·have hu:(zbP u (iq (fD fs 1) (fs.drop 2) o.fors)).isSome=true:=hu
       rw[xp] at hu
       by_cases g:u=fD fs 1
       ·rw[g];exact n
       ·rw[aj g] at hu
        exact h.dj u hu
      ·have hu:(zbP u (iq (fD fs 1) (fs.drop 2) o.fors)).isSome=true:=hu
       rw[xp] at hu
       by_cases g:u=fD fs 1
       ·rw[g];exact d
       ·rw[aj g] at hu
        exact h.fk u hu
def pj:List Int:=[97,98,99,100,101,102,103,104,105,106,107,108,109,110,111,112,113,114,115,116,117,118,119,120,121,122,945,946,947,948,949,950,951,952,953,954,955,956,957,958,959,960,961,963,964,965,966,967,968,969,1072,1073,1074,1075,1076,1077,1078,1079,1080,1082,1083,1084,1085,1086,1087,1088,1089,1090,1091,1092,1093,1094,1095,1096,1097,1098,1099,1100,1101,1102,1103,1106,1108,1109,1110,1112,1113,1114,1115,1119]
def us0:List ad:=pj.map ae
def sa:cw:=⟨us0,zw6 us0 0 [],[],[],[]⟩
theorem Uh:(match xd with | some o=>decide (o.units=us0)&&(decide (o.place.map bw=(zw6 us0 0 []).map bw)&&decide (o.place.map eC=(zw6 us0 0 []).map eC))&&o.fors.isEmpty&&o.skips.isEmpty&&o.lines.isEmpty | none=>false)=true:=by decide +kernel
theorem Lj {α β:Type}:∀ {a b:List (α×β)},a.map bw=b.map bw→a.map eC=b.map eC→a=b
 |[],[],_,_=>rfl
 |[],_::_,h,_=>by cases h
 |_::_,[],h,_=>by cases h
 |x::a,y::b,h1,h2=>by
  rw[av,av] at h1 h2
  injection h1 with p1 q1
  injection h2 with p2 q2
  rw[Prod.ext p1 p2,Lj q1 q2]
theorem Ui:xd=some sa:=by
 have h:=Uh
 cases hb:xd with
 |none=>rw[hb] at h;cases h
 |some o=>
  rw[hb] at h
  simp only[aQ,decide_eq_true_eq,List.isEmpty_iff] at h
  obtain⟨⟨⟨⟨h1,h2,h3⟩,b⟩,h5⟩,a⟩:=h
  obtain⟨u,p,f,s,l⟩:=o
  simp only at h1 h2 h3 b h5 a
  subst h1;subst b;subst h5;subst a
  rw[Lj h2 h3];rfl
theorem Lk:us0.Nodup:=by decide +kernel
theorem Uj:(us0.all fun u=>!decide (u=zfS)&&decide (zfX u=u))=true:=by decide +kernel
theorem Cf:fI sa where
 pl:=fun u=>by
  show zbP u (zw6 us0 0 [])=lE us0 u
  rw[FF _ _ _ _ Lk]
  cases lE us0 u with
  |none=>rfl
  |some k=>show some (0+k)=_;rw[qm]
 nd:=Lk
 ul:=by show us0.length≤90+0;decide
 ll:=by show 0≤256;omega
 fo:=fun u xs h=>by cases h
 dj:=fun u h=>by cases h
 fk:=fun u h=>by cases h
 lw:=by show 26≤us0.length;decide
 us:=fun u hu=>by
  have:=bd.1 Uj u hu
  rw[aQ,cK,decide_eq_false_iff_not,decide_eq_true_iff] at this
  exact this
def lns:List UInt8→List UInt8→List (List UInt8)
 |[],cur=>[cur]
 |c::l,cur=>if c=10 then cur::lns l [] else lns l (cur++[c])
theorem Lm:∀ (l a:List UInt8),br l 10<0→lns l a=[a++l]
 |[],a,_=>by rw[lns,aH]
 |c::l,a,h=>by
  unfold br at h
  by_cases hc:c=10
  ·rw[hc] at h;exact absurd (show (0:Int)<0 from h) (by decide)
  ·have hb:(c==(10:UInt8))=false:=aC.2 hc
   rw[hb] at h
   simp only[bj,if_false] at h
   have:br l 10<0:=by
    by_cases h1:br l 10=-1
    ·omega
    ·rw[aC.2 h1] at h
     simp only[bj,if_false] at h
     have:=indexByte_ge l 10
     omega
   rw[lns,aj hc,Lm l _ this,aA];rfl
theorem Ln:∀ (l a:List UInt8) (m:Nat),br l 10=(m:Int)→lns l a=(a++l.take m)::lns (l.drop (m+1)) []∧m<l.length
 |[],a,m,h=>by
  have:(-1:Int)=(m:Int):=h
  omega
 |c::l,a,m,h=>by
  unfold br at h
  by_cases hc:c=10
  ·rw[hc] at h
   have hm:(0:Int)=(m:Int):=h
   obtain rfl:m=0:=by omega
   rw[lns,am hc,List.take_zero,aH]
   exact⟨rfl,by rw[ab];omega⟩
  ·have hb:(c==(10:UInt8))=false:=aC.2 hc
   rw[hb] at h
   simp only[bj,if_false] at h
   by_cases h1:br l 10=-1
   ·rw[h1] at h
    have:(-1:Int)=(m:Int):=h
    omega
   ·rw[aC.2 h1] at h
    simp only[bj,if_false] at h
    have:=indexByte_ge l 10
    obtain⟨k,hk⟩:∃k:Nat,br l 10=(k:Int):=⟨(br l 10).toNat,by omega⟩
    obtain rfl:m=k+1:=by omega
    obtain⟨e1,e2⟩:=Ln l (a++[c]) k hk
    rw[lns,aj hc,e1,aA]
    exact⟨rfl,by rw[ab];omega⟩
theorem Uk (J:ad→Option (List ad)) (g:∀x,J x=some [x]):∀ (n:Nat) (x:ad),x.size<n→x.size≤1000000000→zaC (fun _=>none) (zc1 (⟨#[10]⟩:ad) 0 J) n x=some ((lns x.data.toList []).map ba):=by
 intro n
 induction n with
 |zero=>intro x h;omega
 |succ n e=>
  intro x i hb
  rw[gk]
  generalize c:zaC (fun _=>none) (zc1 (⟨#[10]⟩:ad) 0 J) n=ag
  unfold zc1
  have f:=indexByte_ge x.data.toList 10
  refine zdG rfl ?_
  by_cases h:br x.data.toList 10<0
  ·refine bS (ax h) ?_
   rw[g,Lm _ _ h]
   show some [x]=some [ba ([]++x.data.toList)]
   rw[bg,show ba x.data.toList=x from ow (oS _)]
  ·obtain⟨m,hm⟩:∃m:Nat,br x.data.toList 10=(m:Int):=⟨(br x.data.toList 10).toNat,by omega⟩
   obtain⟨e1,e2⟩:=Ln x.data.toList [] m hm
   rw[←gJ] at e2
   rw[hm,e1]
   have a:((⟨#[10]⟩:ad).size:Int)=1:=rfl
   rw[a,Int.add_zero]
   refine fC (gO (gO ?_))
   have c1:cO x 0 (m:Int)=ba ([]++x.data.toList.take m):=by
    apply ow
    have:=s6 x 0 m
    rw[show ((0:Nat):Int)=0 from rfl] at this
    rw[this,oS];rfl
   have d:(cO x ((m:Int)+1) (x.size:Int)).data.toList=x.data.toList.drop (m+1):=by
    have:=s6 x (m+1) x.size
    push_cast at this
    rw[this,ee (by rw[aS,←gJ];omega)]
   have j:(cO x ((m:Int)+1) (x.size:Int)).size=x.size-(m+1):=by rw[gJ,d,aS,←gJ]
   have:=e (cO x ((m:Int)+1) (x.size:Int)) (by omega) (by omega)
   rw[c,d] at this
   rw[c1]
   have b:(aV (cr ((m:Int)+1))<|aV (0≤((m:Int)+1:Int)∧((m:Int)+1:Int)≤(x.size:Int)∧((x.size:Int):Int)≤(x.size:Int))<|ag (cO x ((m:Int)+1) (x.size:Int)))=some ((lns (x.data.toList.drop (m+1)) []).map ba):=gO (gO this)
   rw[b];rfl
def pm:cw→Int→List (List UInt8)→(Option cw)×zaw
 |o,_,[]=>(some o,⟨0,0⟩)
 |o,at_,x::xs=>
  if gP x 0 none=[] then pm o (at_+((x.length:Int)+1)) xs
  else if (oT o ((gP x 0 none).map (jM at_)) (at_+(x.length:Int))).1.Err=0 then pm (oT o ((gP x 0 none).map (jM at_)) (at_+(x.length:Int))).2 (at_+((x.length:Int)+1)) xs
  else (none,(oT o ((gP x 0 none).map (jM at_)) (at_+(x.length:Int))).1)
def zDB (xs:List (List UInt8)):Nat:=(xs.map fun x=>x.length+1).sum
theorem Cg (x:List UInt8) (xs:List (List UInt8)):zDB (x::xs)=x.length+1+zDB xs:=by unfold zDB;simp
theorem Ch:∀ (l a:List UInt8),zDB (lns l a)=l.length+a.length+1
 |[],a=>by rw[lns,Cg];show a.length+1+0=0+a.length+1;omega
 |c::l,a=>by
  rw[lns]
  split
  ·rw[Cg,Ch l []];simp;omega
  ·rw[Ch l];simp;omega
theorem vt:∀ (l:List UInt8) (i:Nat) (b:Option (Nat×List UInt8)),(∀p∈gP l i b,p.2.length≤l.length+(b.toList.map fun p=>p.2.length).sum)∧(gP l i b).length≤l.length+b.toList.length
 |[],i,none=>⟨(fun p h=>by cases h),by show 0≤0;omega⟩
 |[],i,some q=>⟨fun p h=>by
   have:p=q:=bO.1 h
   subst this;simp,by show 1≤0+1;omega⟩
 |c::l,i,b=>by
  by_cases hc:c=32
  ·subst hc
   obtain⟨h1,h2⟩:=vt l (i+1) none
   rw[zH]
   have h2:(gP l (i+1) none).length≤l.length+0:=h2
   refine⟨fun p hp=>?_,by rw[aa,ab];omega⟩
   rcases bY.1 hp with hp|hp
   ·cases b with
    |none=>cases hp
    |some q=>rw[bO.1 hp];simp
   ·have:=h1 p hp
    simp at this ⊢
    omega
  ·cases b with
   |none=>
    obtain⟨h1,h2⟩:=vt l (i+1) (some (i,[c]))
    rw[FA hc]
    have h2:(gP l (i+1) (some (i,[c]))).length≤l.length+1:=h2
    refine⟨fun p hp=>?_,by rw[ab];show _≤l.length+1+0;omega⟩
    have:=h1 p hp
    simp at this ⊢
    omega
   |some q=>
    obtain⟨a,w⟩:=q
    obtain⟨h1,h2⟩:=vt l (i+1) (some (a,w++[c]))
    rw[FB hc]
    have h2:(gP l (i+1) (some (a,w++[c]))).length≤l.length+1:=h2
    refine⟨fun p hp=>?_,by rw[ab];show _≤l.length+1+1;omega⟩
    have:=h1 p hp
    simp at this ⊢
    omega
theorem Lo:∀ (xs:List (List UInt8)) (o:cw) (at_:Int),fI o→0≤at_→at_+(zDB xs:Int)≤200000→(∀x∈xs,x.length≤65536) →
  zdZ (fun (h:List ad) (g:List (ad×Int)) (f:List (ad×List ad)) (d:List (ad×Bool)) (c:List ad) (l:Int)=>(some ((some (⟨h,g,f,d,c⟩:cw)),(⟨0,0⟩:zaw)):Option ((Option cw)×zaw)))
   (zfk (fun (x2:Int) (n:Int) (v:List ad) (u:List (ad×Int)) (t:List (ad×List ad)) (s:List (ad×Bool)) (q:List ad) (E:Int)=>some (none,(⟨x2,n⟩:zaw)))) (xs.map ba) o.units o.place o.fors o.skips o.lines at_=some (pm o at_ xs)
 |[],o,at_,_,_,_,_=>rfl
 |x::xs,o,at_,hi,ha,hb,hx=>by
  have z:=hx x (ar ..)
  rw[Cg] at hb
  push_cast at hb
  have next:=fun (m:cw) (h':fI m)=>Lo xs m (at_+((x.length:Int)+1)) h' (by omega) (by omega) (fun y hy=>hx y (ak _ hy))
  rw[av,oH]
  generalize D:zdZ (fun (h:List ad) (g:List (ad×Int)) (f:List (ad×List ad)) (d:List (ad×Bool)) (c:List ad) (l:Int)=>(some ((some (⟨h,g,f,d,c⟩:cw)),(⟨0,0⟩:zaw)):Option ((Option cw)×zaw))) _ (xs.map ba)=ag at next ⊢
  unfold zfk
  have C:(ba x).size=x.length:=s9 x
  obtain⟨w1,w2⟩:=vt x 0 none
  have w2:(gP x 0 none).length≤x.length+0:=w2
  refine gO (gO (aY (T4 (ba x) at_ (by omega) ⟨by omega,by omega⟩) ?_))
  rw[oS,C,az,pm]
  by_cases h0:gP x 0 none=[]
  ·rw[am h0,h0]
   exact bS rfl (next o hi)
  ·rw[aj h0]
   have a:0<(gP x 0 none).length:=cV.2 h0
   have j:∀w∈(gP x 0 none).map (jM at_),0≤w.at_:=fun w k=>by
    obtain⟨p,hp,rfl⟩:=aU.1 k
    show 0≤at_+(p.1:Int)
    omega
   have i:∀w∈(gP x 0 none).map (jM at_),w.text.size≤65536:=fun w k=>by
    obtain⟨p,hp,rfl⟩:=aU.1 k
    show (ba p.2).size≤65536
    rw[s9]
    have:=w1 p hp
    have:p.2.length≤x.length+0:=this
    omega
   have e:(⟨o.units,o.place,o.fors,o.skips,o.lines⟩:cw)=o:=rfl
   refine bM (aC.2 (by omega)) (gO ?_)
   rw[e]
   refine aY (Uf hi _ _ (by omega) (by rw[az];exact a) (by rw[az];omega) j i) ?_
   have b:=FH hi ((gP x 0 none).map (jM at_)) (at_+(x.length:Int)) (by omega) (by rw[az];exact a) j i
   generalize oT o ((gP x 0 none).map (jM at_)) (at_+(x.length:Int))=r at b ⊢
   by_cases h1:r.1.Err=0
   ·rw[am h1]
    exact bM (by rw[h1];rfl) (next r.2 b)
   ·rw[aj h1]
    exact bS (cQ.2 h1) rfl
theorem Lp:∀ (xs:List (List UInt8)) (o:cw) (at_:Int),fI o→0≤at_→(∀x∈xs,x.length≤65536)→(∃a,pm o at_ xs=(some a,⟨0,0⟩)∧fI a)∨(∃e,pm o at_ xs=(none,e)∧e.Err≠0)
 |[],o,at_,hi,_,_=>.inl ⟨o,rfl,hi⟩
 |x::xs,o,at_,hi,ha,hx=>by
  have c:=hx x (ar ..)
  have next:=fun (a:cw) (h':fI a)=>Lp xs a (at_+((x.length:Int)+1)) h' (by omega) (fun y hy=>hx y (ak _ hy))
  obtain⟨w1,w2⟩:=vt x 0 none
  rw[pm]
  by_cases h0:gP x 0 none=[]
  ·rw[am h0];exact next o hi
  ·rw[aj h0]
   by_cases h1:(oT o ((gP x 0 none).map (jM at_)) (at_+(x.length:Int))).1.Err=0
   ·rw[am h1]
    refine next _ (FH hi _ _ (by omega) (by rw[az];exact cV.2 h0) (fun w b=>?_) (fun w b=>?_))
    ·obtain⟨p,hp,rfl⟩:=aU.1 b
     show 0≤at_+(p.1:Int)
     omega
    ·obtain⟨p,hp,rfl⟩:=aU.1 b
     show (ba p.2).size≤65536
     rw[s9]
     have:p.2.length≤x.length+0:=w1 p hp
     omega
   ·rw[aj h1];exact .inr ⟨_,rfl,h1⟩
def sb (text:ad):(Option cw)×zaw:=if 65536<text.size then (none,⟨3,65536⟩) else pm sa 0 (lns text.data.toList [])
theorem Lq (l a:List UInt8):∀x∈lns l a,x.length≤l.length+a.length:=by
 intro x hx
 have h1:=Ch l a
 have:∀ (xs:List (List UInt8)),x∈xs→x.length+1≤zDB xs:=by
  intro xs
  induction xs with
  |nil=>intro h;cases h
  |cons y ys b=>
   intro h
   rw[Cg]
   rcases bo.1 h with rfl|h
   ·omega
   ·have:=b h;omega
 have:=this _ hx
 omega
theorem FI (text:ad):vp text=some (sb text):=by
 unfold vp sb
 by_cases h:65536<text.size
 ·rw[am h];exact eR rfl
 ·rw[aj h]
  refine fC (cB (aY Ui (aY (a:=((⟨#[10]⟩:ad),text,0)) rfl (aY (a:=(lns text.data.toList []).map ba) ?_ (cB (cB ?_))))))
  ·unfold BD
   exact cB (bM rfl (cB (Uk _ (fun x=>rfl) zbx text (by unfold zbx;omega) (by omega))))
  ·have b:=Ch text.data.toList []
   rw[←gJ,aL] at b
   exact Lo (lns text.data.toList []) sa 0 Cf (eN _) (by omega) (fun x hx=>by have:=Lq text.data.toList [] x hx;rw[←gJ,aL] at this;omega)
theorem FJ (text:ad):(∃a,sb text=(some a,⟨0,0⟩)∧fI a)∨(∃e,sb text=(none,e)∧e.Err≠0):=by
 unfold sb
 by_cases h:65536<text.size
 ·rw[am h];exact .inr ⟨_,rfl,by show (3:Int)≠0;omega⟩
 ·rw[aj h]
  exact Lp _ _ _ Cf (eN _) (fun x hx=>by have:=Lq text.data.toList [] x hx;rw[←gJ,aL] at this;omega)
def tf (text:ad):cw:=(sb text).1.getD sa
theorem Um (text:ad):fI (tf text):=by
 unfold tf
 rcases FJ text with⟨o,h,hi⟩|⟨e,h,he⟩
 ·rw[h];exact hi
 ·rw[h];exact Cf
theorem Lu:sb (⟨#[]⟩:ad)=(some sa,⟨0,0⟩):=rfl
def zM  : Option Bool := aT (vp (⟨#[112,117,116,32,99,104,32,97,102,116,101,114,32,99]⟩:ad)) fun (r1:((Option cw)×zaw))=>aT (r1.1) fun (p1:cw)=>aT (vm p1 (⟨#[99,122]⟩:ad) (⟨#[99,104,97]⟩:ad)) fun (r2:(Int×Int))=>aN (wn r1.2 (⟨0,0⟩:zaw)) (aN ((r2.1:Int)==(-1)) (aN ((r2.2:Int)==1) (aT (Fh p1 (⟨#[99,104,111,112]⟩:ad)) fun (r3:ad)=>some (decide (r3=(⟨#[67,72]⟩:ad)))) (some false)) (some false)) (some false)
theorem Lv  {r:Bool} (h:zM=some r):dN prog 7 [] (.bool r):=by
 unfold zM at h
 refine dN.intro func7 rfl ntmps7 (by simp) (fun w0 K=>zyG (zyR 1 rfl (zyH (zbk h fun r1 l h=>zbN (vs:=[.string (⟨#[112,117,116,32,99,104,32,97,102,116,101,114,32,99]⟩:ad)]) rfl dc rfl rfl rfl Dj (FC l) ah (fun v1=>mn (L':=[jY nH nI 72 v1 r1.1]) (cp 1) (zyR 1 rfl (eY rfl dc rfl rfl (eY rfl dc rfl rfl (zbi zq8 rfl dc (fun b1=>zyR 1 rfl (eE (k:=1) (vs:=(kN r1.2)) (l':=(kN r1.2)) kC rfl rfl rfl rfl rfl (show _≤_ by simp) rfl rfl (zyH (zyR 1 rfl (zbk h fun p1 j h=>sC (As:=[jY nH nI 72 v1 r1.1]) (cp 1) (C6 j) ?_))))))))))))))
 rintro⟨b2,e,d,c,b,a⟩ f
 have m:=h
 subst f
 have h:=m
 refine zbk h fun r2 i h=>lg (v:=.tuple #[zI r2.1,zI r2.2]) (vs:=[zP b2,.string (⟨#[99,122]⟩:ad),.string (⟨#[99,104,97]⟩:ad)]) (lW:Rd _ _ []) rfl dc rfl rfl rfl Dk (Fg (_h:=b2) (o1:=p1) (_f:=e) (_a:=d) (_c:=c) (_d:=b) (_g:=a) i) (.own (bW [2] kr rfl) (fun _ _ h=>aF.1 h) (.own (bW [3] kr rfl) (fun _ _ h=>aF.1 h) (.own (bW [4] kr rfl) (fun _ _ h=>aF.1 h) (.own (bW [5] kr rfl) (fun _ _ h=>aF.1 h) (.own (bW [6] kr rfl) (fun _ _ h=>aF.1 h) (.own (bW [7] kr rfl) (fun _ _ h=>aF.1 h) .nil)))))) (zyR 1 rfl (eY rfl dc rfl rfl (eY rfl dc rfl rfl (zyR 2 rfl (zyH (zbR (k:=1) (cs:=(kN r1.2)) kW rfl dc rfl rfl rfl rfl (zbf (v:=.agg #[zI 0,zI 0]) (ps:=[]) rfl dc rfl (fun _=>by kernel_rfl) (zaT rfl (Pb r1.2 (⟨0,0⟩:zaw)) (zyR 1 rfl (zyS (s:=17) rfl h (fun h=>?_) (fun h=>?_)))))))))))
 ·refine zyR 1 rfl (zaT rfl zbm (zyR 2 rfl (zyS (s:=21) rfl h (fun h=>?_) (fun h=>?_))))
  ·refine zyR 1 rfl (zaT rfl zbm (zyR 2 rfl (zyS (s:=25) rfl h (fun h=>?_) (fun h=>?_))))
   ·refine zyR 1 rfl (zbk h fun r3 g h=>lg (v:=.string r3) (vs:=[zP b2,.string (⟨#[99,104,111,112]⟩:ad)]) (lW:Rd _ _ []) rfl dc rfl rfl rfl NU (Tv (_h:=b2) (o1:=p1) (_f:=e) (_a:=d) (_c:=c) (_d:=b) (_g:=a) g) (.own (bW [2] kr rfl) (fun _ _ h=>aF.1 h) (.own (bW [3] kr rfl) (fun _ _ h=>aF.1 h) (.own (bW [4] kr rfl) (fun _ _ h=>aF.1 h) (.own (bW [5] kr rfl) (fun _ _ h=>aF.1 h) (.own (bW [6] kr rfl) (fun _ _ h=>aF.1 h) (.own (bW [7] kr rfl) (fun _ _ h=>aF.1 h) .nil)))))) (zaT rfl zdp (zyR 2 rfl (zyN (zaA ?_)))))
    cases h
    exact cX 0 results7
   refine zyR 5 rfl (zyN (zaA ?_))
   cases h
   exact cX 0 results7
  refine zyR 9 rfl (zyN (zaA ?_))
  cases h
  exact cX 0 results7
 refine zyR 13 rfl (zaB (zaz (zaA ?_)))
 cases h
 exact cX 0 results7
def xu (a:ad):Option ad := aN (decide ((512:Int)<(a.size:Int))) (aV (0≤(0:Int)∧(0:Int)≤512∧(512:Int)≤(a.size:Int)) <|some (cO a 0 512)) (some a)
theorem Lw {b:ad} {r:ad} (h:xu b=some r):dN prog 15 [.string b] (.string r):=by
 unfold xu at h
 refine dN.intro func15 rfl ntmps15 (by simp) (fun w0 K=>zyG (zyR 1 rfl (zyN (zaJ (zyG (zyR 1 rfl (zcG rfl dc rfl an (zaT rfl zd4 (zyN (zyB rfl h (fun h=>?_) (fun h=>?_)))))))))))
 ·refine zyG (zyR 1 rfl (zbs h fun a h=>iA rfl dc rfl rfl rfl (kA (i:=0) (j:=512) an (.inl ⟨rfl,rfl⟩) (.inr rfl) a) (zyR 1 rfl (zyN (zaA (bP ?_))))))
  cases h
  exact cX 2 results15
 refine zap (zaz (zyG (zyR 2 rfl (zyN (zaA ?_)))))
 cases h
 exact cX 2 results15
theorem Lx:zM=some true:=by decide +kernel
def xv (s:ad):ad:=if 512<s.size then cO s 0 512 else s
theorem Ly (s:ad):xu s=some (xv s):=by
 unfold xu xv
 by_cases h:512<s.size
 ·rw[am h];exact eR (gO rfl)
 ·rw[aj h];exact fC rfl
theorem Lz (s:ad):(xv s).size≤512:=by
 unfold xv
 by_cases h:512<s.size
 ·rw[am h]
  have:=s6 s 0 512
  rw[gJ]
  rw[show cO s 0 512=cO s ((0:Nat):Int) ((512:Nat):Int) from rfl,this,bD]
  omega
 ·rw[aj h];omega
section
section snoc
variable {α:Type}
end snoc
structure Wy (o:mu) (y:Tk):Prop where
 lt:ej y=false
 mm:iQ y=false
 dg:fE y=false
 k1:kT y≠1
 k3:kT y≠3
 kb:¬(kT y=5∨kT y=4∨kT y=6)
 k11:kT y≠11
 no:∀f,o.p (f++ae (cA y.1))=none∧o.f (f++ae (cA y.1))=none
theorem Un (o:mu) (n:Nat):mY o n []=[]:=by cases n<;>rfl
theorem Uo {t:dq} (ht:kv t) (h:0≤(tkT t).1):(tkT t).2=ae (tkT t).1:=by
 rcases ht with ht|ht
 ·have hb:=wt ht
  have e:=EE ht
  unfold zf9 jt at e
  have e2:=aM (fun x:bf=>x.Text) e
  dsimp only at e2
  have a:(tkT t).1=(t.r:Int):=by unfold tkT;rw[hb];rfl
  rw[a,←e2];rfl
 ·exfalso
  have:(tkT t).1=-1:=by unfold tkT;rw[ht];rfl
  omega
end
theorem Up {r:Int} (h:zbP r tabS=none):iw r=[r]:=by unfold iw;rw[h]
def LA (t:dq):Prop:=kv t∧(ej (tkT t)=true→zbP (tkT t).1 tabS=none)
theorem Uq (s:ad) (e:s.size≤65536):∀t∈nu s,LA t:=by
 intro t ht
 refine⟨pP _ t ht,fun a=>?_⟩
 rw[K3 s e] at ht
 obtain⟨c,hc,ht⟩:=List.mem_flatMap.1 ht
 rcases EN (pP _) c hc with⟨g1,g2,d⟩|⟨g1,g2,u,d,g4⟩
 ·obtain⟨h1,h2⟩:=BC g2
  have e1:kF gA c=(c.1.Rune::(nL c++nM c)).map ku:=by unfold kF;rw[g1,ES];rfl
  rw[e1] at ht
  obtain⟨m,hm,rfl⟩:=aU.1 ht
  rcases bo.1 hm with rfl|hm
  ·rw[zG (uc g1)];exact d
  ·exfalso
   have b:fc m=true:=by
    rcases bY.1 hm with hm|hm
    ·exact h1 m hm
    ·exact h2 m hm
   rw[zG (zk b)] at a
   have a:cZ m=true:=a
   rw[qA b] at a
   cases a
 ·exfalso
  have e1:kF gA c=[u]:=by unfold kF;rw[g1,g4,w7 d];rfl
  rw[e1,bO] at ht
  subst ht
  have:dI (zf9 t)=false:=by rw[←g4];exact g1
  have a:dI (zf9 t)=true:=a
  rw[this] at a;cases a
theorem Ur {t:dq} (ht:kv t) (h:jc (tkT t)=true):t.valid:=by
 rcases ht with ht|ht
 ·exact ht
 ·exfalso
  have e:(tkT t).1=-1:=by unfold tkT;rw[ht];rfl
  unfold jc ej iQ at h
  rw[e] at h
  exact absurd h (by decide)
theorem Us {ts:List dq} (h:∀t∈ts,t.valid):iU (iD (ts.map tkT))=FT ts:=by
 rw[Jx,xg]
 have:=DK h []
 rw[aH,uI,aH] at this
 rw[this]
theorem Ut {x:Tk} (h:ej x=false):ie x=x:=by unfold ie;rw[h];rfl
section
variable {p:Tk→Bool} (hp:∀x,p (ie x)=p x)
include hp
end
theorem FK (p:Tk→Bool):∀ts:List dq,(ts.map tkT).takeWhile p=(ts.takeWhile fun t=>p (tkT t)).map tkT
 |[]=>rfl
 |t::ts=>by
  rw[av,aW,aW,FK p ts]
  cases p (tkT t)<;>rfl
theorem Ci (p:Tk→Bool):∀ts:List dq,(ts.map tkT).dropWhile p=(ts.dropWhile fun t=>p (tkT t)).map tkT
 |[]=>rfl
 |t::ts=>by
  rw[av,cD,cD,Ci p ts]
  cases p (tkT t)<;>rfl
theorem LB:∀ (w l:List UInt8) (i a:Nat) (v:List UInt8),(∀c∈w,c≠32)→gP (w++l) i (some (a,v))=gP l (i+w.length) (some (a,v++w))
 |[],l,i,a,v,_=>by rw[bg,aH];rfl
 |c::w,l,i,a,v,h=>by
  rw[aX,FB (h c (ar ..)),LB w l _ a _ (fun d hd=>h d (ak _ hd)),ab,aA,show i+1+w.length=i+(w.length+1) by omega]
  rfl
theorem Uu {w:List UInt8} (a:w≠[]) (h:∀c∈w,c≠32) (l:List UInt8) (i:Nat):gP (w++l) i none=gP l (i+w.length) (some (i,w)):=by
 cases w with
 |nil=>exact absurd rfl a
 |cons c w=>
  rw[aX,FA (h c (ar ..)),LB w l _ i _ (fun d hd=>h d (ak _ hd)),ab,show i+1+w.length=i+(w.length+1) by omega]
  rfl
def Uv (o:cw):List (List UInt8):=o.lines.map fun t=>t.data.toList
structure WA (o:cw):Prop where
 rd:∀at_,pm sa at_ (Uv o)=(some o,⟨0,0⟩)
 sz:∀t∈o.lines,t.size≤250∧∀c∈t.data.toList,c≠10


theorem FL {x:Tk} (h:ej x=true∨iQ x=true):0≤x.1:=by
 rcases h with h|h
 ·have:=mV _ (show cZ x.1=true from h);omega
 ·have h:fc x.1=true:=h
  unfold fc at h
  have:=of_decide_eq_true h;omega
theorem Uw {o:cw} (hi:fI o) {u:ad} (hu:u∈o.units):∃i,zbP u o.place=some i∧lE o.units u=some i:=by
 have:=iy.2 hu
 obtain⟨i,h⟩:=jx.1 this
 exact⟨i,by rw[hi.pl,h],h⟩
def ze9 (g:ad→Option ad) (r2:(List bN)) (e:ad→Int→Option ad) (a:ad) (c:Int):Option ad := aN (decide ((c:Int)<(r2.length:Int))) (co (fun (d:ad→Option ad)=>aT (zca r2 c) fun (q1:bN)=>aN (decide ((0:Int)≤q1.Rune)) (aT (rP q1.Rune) fun (r3:Bool)=>aN (r3) (aV (fB q1.Rune) <|aT (rO (cA q1.Rune)) fun (f:ad)=>aV (a.size+f.size≤9223372036854775807) <|d (a++f)) (aV (a.size+q1.Text.size≤9223372036854775807) <|d (a++q1.Text))) (aV (a.size+q1.Text.size≤9223372036854775807) <|d (a++q1.Text))) (fun (b:ad)=>aV (cr (c+1)) <|e b (c+1))) (g a)
def zN (b:ad):Option ad := co (fun (c:ad→Option ad)=>aT (w4 b) fun (r1:ad)=>aT (rQ r1) fun (r2:(List bN))=>zaC (fun _ _=>none) (ze9 c r2) zbx (⟨#[]⟩:ad) 0) (fun (a:ad)=>some a)
theorem Ux {n:ad} {r:ad} (h:zN n=some r):dN prog 114 [.string n] (.string r):=by
 unfold zN at h
 refine dN.intro func114 rfl ntmps114 (by simp) (fun w0 K=>zbq h fun m C h=>zaL (β:=ad) 2 rfl (fun b=>m b=some r) (fun b=>[]) (fun b=>[(3,.string b)]) (fun b=>[]) (fun cut=>?_) ?_)
 ·refine zyG (zyR 1 rfl (zyH (zyR 1 rfl (zyN (cut (zyG (zyR 1 rfl (zbk h fun r1 y h=>zaI (v:=.string r1) (vs:=[.string n]) rfl dc rfl rfl rfl HP (JB y) (zbk h fun r2 u h=>zbN (vs:=[.string r1]) rfl dc rfl rfl rfl wj (wL u) ah (fun v1=>gZ (k:=0) rfl dc rfl rfl aI (zyR 1 rfl (zyN (zat (eF (β:=Nat×ad×Int) (fun b=>zaC (fun _ _=>none) (ze9 m r2) b.1 b.2.1 b.2.2=some r) (fun b=>[]) (fun b=>[(3,.string b.2.1),(8,v1),(9,zI (r2.length:Int)),(10,zI b.2.2)]) (fun b=>[eI v1 r2]) (fun b=>b.1) (zbx,(⟨#[]⟩:ad),0) (by exact h) rfl (bI rfl) (cp 1) ?_))))))))))))))
  rintro⟨l,a,d⟩ h
  cases l with
  |zero=>exact ew h
  |succ l=>
   obtain⟨H,c⟩:∃ag,ag=zaC (fun _ _=>none) (ze9 m r2) l:=⟨_,rfl⟩
   have h:ze9 m r2 H a d=some r:=by rw[c];exact h
   unfold ze9 at h
   refine zyG (zaT rfl zbd (zyN (zaJ (zyB rfl h (fun h=>?_) (fun h=>?_)))))
   ·refine zap (zaz (zbq h fun M z h=>zaL (β:=ad) 0 rfl (fun b=>M b=some r) (fun b=>[]) (fun b=>[(3,.string b),(8,v1),(9,zI (r2.length:Int)),(10,zI d)]) (fun b=>[eI v1 r2]) (fun cut=>cut (zat (zyG (zbk h fun q1 f h=>eJ (k:=0) f aI gR rfl dc rfl rfl rfl rfl (mj (i:=(d:Int).toNat) (j:=0) (k:=0) (q:=q1) (cs:=(fU q1)) l7 jH rfl dc rfl rfl (ei f) rfl rfl rfl (zbi zor rfl dc (fun b1=>eE (k:=1) (vs:=(fU q1)) (l':=(fU q1)) gR rfl rfl rfl rfl rfl (show _≤_ by simp) rfl rfl (zyH (zab zdk rfl dc rfl (show _=0 from rfl) (zas (k:=1) eZ rfl dc rfl rfl rfl (zaT rfl zbF (zyR 1 rfl (zyS (s:=17) rfl h (fun h=>zab zdk rfl dc rfl (show _=0 from rfl) (zas (k:=1) eZ rfl dc rfl rfl rfl (zbk h fun r3 t h=>zaI (v:=.bool r3) (vs:=[.int .i32 q1.Rune]) rfl dc rfl rfl rfl yf (yV t) (zyR 1 rfl (zyN (zyB rfl h (fun h=>bX (zyR 1 rfl (zab zdk rfl dc rfl (show _=0 from rfl) (zas (k:=1) eZ rfl dc rfl rfl rfl (zbs h fun g h=>zaI (v:=.int .i32 (cA q1.Rune)) (vs:=[.int .i32 q1.Rune]) rfl dc rfl rfl rfl AR (nC fun w=>A2 q1.Rune w g.1 g.2) (zbk h fun I o h=>zaI (v:=.string I) (vs:=[.int .i32 (cA q1.Rune)]) rfl dc rfl rfl rfl AQ (Ba o) (zbs h fun G h=>zaT rfl (lJ G) (zyR 1 rfl (zaB (cd (mD (a++I) h 1))))))))))) (fun h=>bX (zyR 1 rfl (zab qT rfl dc rfl (show _=1 from rfl) (zas (k:=1) dU rfl dc rfl rfl rfl (zbs h fun F h=>zaT rfl (lJ F) (zyR 1 rfl (zaB (cd (mD (a++q1.Text) h 1))))))))))))))) (fun h=>zyR 4 rfl (zyN (za8 rfl (bX (zyR 1 rfl (zab qT rfl dc rfl (show _=1 from rfl) (zas (k:=1) dU rfl dc rfl rfl rfl (zbs h fun E h=>zaT rfl (lJ E) (zyR 1 rfl (zaB (cd (mD (a++q1.Text) h 1))))))))))))))))))))))))) (fun e h=>?_)))
    rw[z] at h
    refine bX (zbs h fun D h=>zaT rfl (dA (r:=d+1) (ai _ D)) (zyR 1 rfl (zaB ?_)))
    subst c
    exact aD (l,e,d+1) h 1
   exact dy (bV (bV (dz (cL a h rfl (bI rfl) ah))))
 rintro J h
 rw[C] at h
 refine zyG (zyR 2 rfl (zyN (zaA ?_)))
 cases h
 exact cX 2 results114
def zdY (r2:(List bN)) (f:Option ad) (c:Int→Option ad) (a:Int):Option ad := aN (decide ((a:Int)<(r2.length:Int))) (co (fun (b:Option ad)=>aT (zca r2 a) fun (q1:bN)=>aN (decide ((0:Int)≤q1.Rune)) (aT (rP q1.Rune) fun (r3:Bool)=>aN (!r3) (aN ((a:Int)==0) (some (⟨#[]⟩:ad)) (aN (decide ((q1.Rune:Int)<0)) (some (⟨#[]⟩:ad)) (aT (rf q1.Rune) fun (e:Bool)=>aN (!e) (some (⟨#[]⟩:ad)) (b)))) (b)) (aN ((a:Int)==0) (some (⟨#[]⟩:ad)) (aN (decide ((q1.Rune:Int)<0)) (some (⟨#[]⟩:ad)) (aT (rf q1.Rune) fun (d:Bool)=>aN (!d) (some (⟨#[]⟩:ad)) (b))))) (aV (cr (a+1)) <|c (a+1))) (f)
def zO (a:ad):Option ad := aT (zN a) fun (r1:ad)=>aT (rQ r1) fun (r2:(List bN))=>aN (decide (((r2.length:Int):Int)<1)) (some (⟨#[]⟩:ad)) (aN (decide ((8:Int)<(r2.length:Int))) (some (⟨#[]⟩:ad)) (co (fun (b:Option ad)=>zaC (fun _=>none) (zdY r2 b) zbx 0) (some r1)))
theorem Uy {g:ad} {r:ad} (h:zO g=some r):dN prog 60 [.string g] (.string r):=by
 unfold zO at h
 refine dN.intro func60 rfl ntmps60 (by simp) (fun w0 K=>zyG (zyR 1 rfl (zyH (zyR 1 rfl (zbk h fun r1 t h=>zaI (v:=.string r1) (vs:=[.string g]) rfl dc rfl rfl rfl OB (Ux t) (zyR 1 rfl (zyH (zyR 1 rfl (zbk h fun r2 o h=>zbN (vs:=[.string r1]) rfl dc rfl rfl rfl wj (wL o) ah (fun v1=>zyR 1 rfl (zyN (zaJ (zyG (zyR 1 rfl (gZ (k:=0) rfl dc rfl rfl aI (zaT rfl zbd (zyR 1 rfl (zyS (s:=15) rfl h (fun h=>?_) (fun h=>?_)))))))))))))))))))
 ·refine zyR 4 rfl (zyN (ir rfl (zyG (zyR 1 rfl (zyN (zaA (bP ?_)))))))
  cases h
  exact cX 2 iL
 refine zyR 1 rfl (gZ (k:=0) rfl dc rfl rfl aI (zaT rfl zd4 (zyR 1 rfl (zyN (zyB rfl h (fun h=>?_) (fun h=>?_))))))
 ·refine zyG (zyR 1 rfl (zyN (zaA (bP ?_))))
  cases h
  exact cX 2 iL
 refine zap (zaz (zbq h fun f w h=>zaL (β:=Unit) 0 rfl (fun b=>f=some r) (fun b=>[]) (fun b=>[(3,.string r1)]) (fun b=>[]) (fun cut=>?_) ?_))
 ·refine cut (zyG (zyR 1 rfl (gZ (k:=0) rfl dc rfl rfl aI (zyR 1 rfl (zyN (zat (eF (β:=Nat×Int) (fun b=>zaC (fun _=>none) (zdY r2 f) b.1 b.2=some r) (fun b=>[]) (fun b=>[(3,.string r1),(20,v1),(21,zI (r2.length:Int)),(22,zI b.2)]) (fun b=>[eI v1 r2]) (fun b=>b.1) (zbx,0) h rfl (bI rfl) (cp 1) ?_)))))))
  rintro⟨e,c⟩ h
  cases e with
  |zero=>exact ew h
  |succ e=>
   obtain⟨z,a⟩:∃ag,ag=zaC (fun _=>none) (zdY r2 f) e:=⟨_,rfl⟩
   have h:zdY r2 f z c=some r:=by rw[a];exact h
   unfold zdY at h
   refine zyG (zaT rfl zbd (zyN (zaJ (zyB rfl h (fun h=>?_) (fun h=>?_)))))
   ·refine zap (zaz (zbq h fun E u h=>zaL (β:=Unit) 0 rfl (fun b=>E=some r) (fun b=>[]) (fun b=>[(3,.string r1),(20,v1),(21,zI (r2.length:Int)),(22,zI c)]) (fun b=>[eI v1 r2]) (fun cut=>?_) ?_))
    ·refine cut (zat (zyG (zyR 1 rfl (zbk h fun q1 d h=>eJ (k:=0) d aI gR rfl dc rfl rfl rfl rfl (mj (i:=(c:Int).toNat) (j:=0) (k:=0) (q:=q1) (cs:=(fU q1)) l7 jH rfl dc rfl rfl (ei d) rfl rfl rfl (zbi zor rfl dc (fun b1=>zyR 1 rfl (eE (k:=1) (vs:=(fU q1)) (l':=(fU q1)) gR rfl rfl rfl rfl rfl (show _≤_ by simp) rfl rfl (zyH (zab zdk rfl dc rfl (show _=0 from rfl) (zas (k:=1) eZ rfl dc rfl rfl rfl (zaT rfl zbF (zyR 1 rfl (zyS (s:=30) rfl h (fun h=>?_) (fun h=>?_)))))))))))))))
     ·refine zab zdk rfl dc rfl (show _=0 from rfl) (zas (k:=1) eZ rfl dc rfl rfl rfl (zbk h fun r3 n h=>zaI (v:=.bool r3) (vs:=[.int .i32 q1.Rune]) rfl dc rfl rfl rfl yf (yV n) (zyR 2 rfl (zyH (zyR 1 rfl (jW rfl dc rfl km (zyR 1 rfl (zyS (s:=37) rfl h (fun h=>?_) (fun h=>?_)))))))))
      ·refine zyR 1 rfl (zaT rfl zbm (zyR 1 rfl (zyS (s:=40) rfl h (fun h=>?_) (fun h=>?_))))
       ·refine zyR 11 rfl (zyN (ir rfl (zyG (zyR 1 rfl (zyN (zaA (cx (bP (bP (cx (bP ?_)))))))))))
        cases h
        exact cX 2 iL
       refine zab zdk rfl dc rfl (show _=0 from rfl) (zas (k:=1) eZ rfl dc rfl rfl rfl (zaT rfl zbd (zyR 2 rfl (zyS (s:=45) rfl h (fun h=>?_) (fun h=>?_)))))
       ·refine zyR 6 rfl (zyN (ir rfl (zyG (zyR 1 rfl (zyN (zaA (cx (bP (bP (cx (bP ?_)))))))))))
        cases h
        exact cX 2 iL
       refine zab zdk rfl dc rfl (show _=0 from rfl) (zas (k:=1) eZ rfl dc rfl rfl rfl (zbk h fun D m h=>zaI (v:=.bool D) (vs:=[.int .i32 q1.Rune]) rfl dc rfl rfl rfl yg (yW m) (jW rfl dc rfl km (zyR 2 rfl (zyN (zyB rfl h (fun h=>?_) (fun h=>?_)))))))
       ·refine zyG (zyR 1 rfl (zyN (zaA (cx (bP (bP (cx (bP ?_))))))))
        cases h
        exact cX 2 iL
       exact zap (cd (mD () h 1))
      exact zyR 14 rfl (zyN (za8 rfl (zap (cd (mD () h 1)))))
     refine zyR 5 rfl (zyH (zyR 1 rfl (jW rfl dc rfl km (zyR 2 rfl (zaT rfl zbm (zyR 1 rfl (zyS (s:=40) rfl h (fun h=>?_) (fun h=>?_))))))))
     ·refine zyR 11 rfl (zyN (ir rfl (zyG (zyR 1 rfl (zyN (zaA (cx (bP (bP (cx (bP ?_)))))))))))
      cases h
      exact cX 2 iL
     refine zab zdk rfl dc rfl (show _=0 from rfl) (zas (k:=1) eZ rfl dc rfl rfl rfl (zaT rfl zbd (zyR 2 rfl (zyS (s:=45) rfl h (fun h=>?_) (fun h=>?_)))))
     ·refine zyR 6 rfl (zyN (ir rfl (zyG (zyR 1 rfl (zyN (zaA (cx (bP (bP (cx (bP ?_)))))))))))
      cases h
      exact cX 2 iL
     refine zab zdk rfl dc rfl (show _=0 from rfl) (zas (k:=1) eZ rfl dc rfl rfl rfl (zbk h fun C l h=>zaI (v:=.bool C) (vs:=[.int .i32 q1.Rune]) rfl dc rfl rfl rfl yg (yW l) (jW rfl dc rfl km (zyR 2 rfl (zyN (zyB rfl h (fun h=>?_) (fun h=>?_)))))))
     ·refine zyG (zyR 1 rfl (zyN (zaA (cx (bP (bP (cx (bP ?_))))))))
      cases h
      exact cX 2 iL
     exact zap (cd (mD () h 1))
    rintro _ h
    rw[u] at h
    refine bX (zbs h fun y h=>zaT rfl (dA (r:=c+1) (ai _ y)) (zyR 1 rfl (zaB ?_)))
    subst a
    exact aD (e,c+1) h 1
   exact dy (bV (bV (dz (cL () h rfl (bI rfl) ah))))
 rintro _ h
 rw[w] at h
 refine zyG (zyR 2 rfl (zyN (zaA ?_)))
 cases h
 exact cX 2 iL
def zhd (g:(List ad)→Option dk) (c:(List ad)→Int→Option dk) (a:List ad) (r3:Int):Option dk := aN (decide ((r3:Int)<1280)) (co (fun (b:(List ad)→Option dk)=>aV (fB r3) <|aN (pa r3) (aT (wJ r3) fun (e:(List Int))=>aN (((e.length:Int):Int)==1) (aT (sR (ae r3)) fun (d:ad)=>aN (decide (d=ae r3)) (aV (a.length+1≤2147483648) <|b (a++[ae r3])) (b a)) (b a)) (b a)) (fun (f:List ad)=>aV (fB (r3+1)) <|c f (r3+1))) (g a)
def xw  : Option dk := co (fun (a:(List ad)→Option dk)=>zaC (fun _ _=>none) (zhd a) zbx ([]:List ad) 1) (fun (o1:List ad)=>some (⟨o1,([]:List (ad×List ad)),([]:List ad),([]:List ad)⟩:dk))
theorem Uz  {r:dk} (h:xw=some r):Fn prog 25 [] [] (fun b:Nat×Hd×Hd×Hd×Hd=>zP b.1) (fun b=>[cells b.1 [b.2.1.v,.map (some (bi b.2.2.1)),b.2.2.2.1.v,b.2.2.2.2.v] 39,bH b.2.1.v r.Units,dQ (bi b.2.2.1) r.Fors,bH b.2.2.2.1.v r.Skips,bH b.2.2.2.2.v r.Lines]):=by
 unfold xw at h
 refine _root_.Go.Proofs.YtifpjbgnikjglaaGreatDoor.Fn.intro func25 rfl ntmps25 (by simp) (fun w0 K=>zbq h fun m t h=>zaL (β:=(List ad)×Nat×Hd×Nat) 2 rfl (fun b=>m b.1=some r) (fun b=>[]) (fun b=>[(1,zP b.2.1)]) (fun b=>[cells b.2.1 [b.2.2.1.v,.map (some b.2.2.2),.slice none 0 0,.slice none 0 0] 39,bH b.2.2.1.v b.1,dQ b.2.2.2 ([]:List (ad×List ad))]) (fun cut=>?_) ?_)
 ·refine zyG (zyR 1 rfl (zyH (vV (fun s:ad=>af s) pK rfl dc (fun c=>sC (As:=[cz (fun s:ad=>af s) pK c []]) (cp 1) (G8 (b:=c)) (fun _ _=>zbf (v:=.agg #[.slice none 0 0,.map (some c),.slice none 0 0,.slice none 0 0]) (ps:=[(1,.tmp 3)]) rfl dc rfl (fun _=>by kernel_rfl) (zfq rfl dc rfl (fun j=>zyR 1 rfl (zyN (cut (zyG (zyR 1 rfl (zyN (zat (nD (enc:=hO) (e:=9) (size:=1) (eF (β:=Nat×(List ad)×Int×Hd) (fun b=>zaC (fun _ _=>none) (zhd m) b.1 b.2.1 b.2.2.1=some r) (fun b=>[]) (fun b=>[(1,zP j),(2,.int .i32 b.2.2.1)]) (fun b=>[cells j [b.2.2.2.v,.map (some c),.slice none 0 0,.slice none 0 0] 39,bH b.2.2.2.v b.2.1,dQ c ([]:List (ad×List ad))]) (fun b=>b.1) (zbx,([]:List ad),1,eB) h rfl (bI rfl) (bW [2,3,1] kr rfl) ?_)))))))))))))))
  rintro⟨l,f,r3,a⟩ h
  cases l with
  |zero=>exact ew h
  |succ l=>
   obtain⟨F,d⟩:∃ag,ag=zaC (fun _ _=>none) (zhd m) l:=⟨_,rfl⟩
   have h:zhd m F f r3=some r:=by rw[d];exact h
   unfold zhd at h
   refine zaJ (zyG (zyR 1 rfl (zaT rfl zbd (zyN (zyB rfl h (fun h=>?_) (fun h=>?_))))))
   ·refine zap (zaz (zbq h fun I q h=>zaL (β:=(List ad)×Hd) 0 rfl (fun b=>I b.1=some r) (fun b=>[]) (fun b=>[(1,zP j),(2,.int .i32 r3)]) (fun b=>[cells j [b.2.v,.map (some c),.slice none 0 0,.slice none 0 0] 39,bH b.2.v b.1,dQ c ([]:List (ad×List ad))]) (fun cut=>?_) ?_))
    ·refine cut (zat (zyG (zyR 1 rfl (zbs h fun g h=>zaI (v:=.bool (pa r3)) (vs:=[.int .i32 r3]) rfl dc rfl rfl rfl HH (nC fun w=>DM r3 w g.1 g.2) (zyR 1 rfl (zyS (s:=12) rfl h (fun h=>?_) (fun h=>?_)))))))
     ·refine zyR 1 rfl (zbk h fun M o h=>zbN (vs:=[.int .i32 r3]) rfl dc rfl rfl rfl Dq (ID o) ah (fun v1=>iB (k:=3) rfl (fun J C=>?_)))
      subst C
      refine gZ (k:=3) rfl dc rfl rfl underlying103 (zaT rfl zbm (zyR 2 rfl (zyS (s:=18) rfl h (fun h=>?_) (fun h=>?_))))
      ·refine zyR 1 rfl (zcH rfl dc rfl (mi aZ an) (zbk h fun G n h=>zaI (v:=.string G) (vs:=[.string (ae r3)]) rfl dc rfl rfl rfl AO (Bd n) (zyR 1 rfl (zcH rfl dc rfl (mi aZ an) (zaT rfl zdp (zyR 1 rfl (zyN (zyB rfl h (fun h=>?_) (fun h=>?_)))))))))
       ·refine bX (zyR 2 rfl (zbc rfl dc rfl (zab vZ rfl dc rfl (show _=0 from rfl) (zas (k:=0) oq rfl dc rfl rfl rfl (zyR 1 rfl (zcH rfl dc rfl (mi aZ an) (fx (cs:=[.string (ae r3)]) (te:=9) (ps:=[(0,.tmp 32)]) rfl dc rfl (fun _=>by kernel_rfl) (fun N=>zbs h fun y h=>iT (k:=1) (k2:=4) (ys:=[ae r3]) aK oM gK o6 rfl dc rfl rfl rfl rfl rfl rfl y (fun v2=>iB (k:=1) rfl (fun i z=>?_))))))))))
        subst z
        exact zbc rfl dc rfl (zab vZ rfl dc rfl (show _=0 from rfl) (eP (k:=0) (l':=[i.v,.map (some c),.slice none 0 0,.slice none 0 0]) sG rfl rfl rfl rfl rfl (fun _ _=>rfl) rfl (zaB (cd (mD (f++[ae r3],i) h 3)))))
       exact zap (cd (mD (f,a) h 3))
      exact zyR 7 rfl (zyN (za8 rfl (zap (cd (mD (f,a) h 3)))))
     exact zyR 13 rfl (zaB (zaz (za8 rfl (zap (cd (mD (f,a) h 3))))))
    rintro⟨H,D⟩ h
    rw[q] at h
    refine bX (zyR 1 rfl (zbs h fun u h=>zaT rfl (dA (r:=r3+1) (IntWalk.i32_in _ u)) (zyR 1 rfl (zaB ?_))))
    subst d
    exact aD (l,H,r3+1,D) h 3
   exact dy (bV (bV (dz (mD (f,j,a,c) h 3))))
 rintro⟨o1,b1,E,b2⟩ h
 rw[t] at h
 refine zyG (zyR 2 rfl (zyN (zaA (Aq (enc:=hO) (e:=9) (size:=1) (Aq (enc:=hO) (e:=9) (size:=1) ?_)))))
 cases h
 exact eu (rs:=[.tmp 0]) (b1,E,(⟨some ⟨b2,0,none⟩,0,0⟩:Hd),eB,eB) (.inl rfl) results25 (.cons (.tmp rfl) .nil) rfl (cp 5)
def zdg (o1:dk) (u1:ad) (c:Option Int) (b:Int→Option Int) (a:Int):Option Int := aN (decide ((a:Int)<(o1.Units.length:Int))) (aT (zca o1.Units a) fun (q1:ad)=>aN (decide (q1=u1)) (some a) (aV (cr (a+1)) <|b (a+1))) (c)
def se (o1:dk) (u1:ad):Option Int := co (fun (a:Option Int)=>zaC (fun _=>none) (zdg o1 u1 a) zbx 0) (some (-1))
theorem zQ {_h:Nat} {o1:dk} {_f _a _c _d:Hd} {u1:ad} {r:Int} (h:se o1 u1=some r):iu prog 62 [zP _h,.string u1] [cells _h [_f.v,.map (some (bi _a)),_c.v,_d.v] 39,bH _f.v o1.Units,dQ (bi _a) o1.Fors,bH _c.v o1.Skips,bH _d.v o1.Lines] [] (fun _:Unit=>(zI r)) (fun _=>[]):=by
 unfold se at h
 refine iu.intro func62 rfl ntmps62 (by simp) (fun w0 K a=>zbq h fun g k h=>zaL (β:=Unit) 1 rfl (fun b=>g=some r) (fun b=>[]) (fun b=>[]) (fun b=>[]) (fun cut=>?_) ?_)
 ·refine zyG (zyR 1 rfl (zyN (cut (zyG (zyR 1 rfl (zbc rfl dc rfl (zab vZ rfl dc rfl (show _=0 from rfl) (zeo (i:=0) a rfl oq rfl dc rfl rfl (zbT (a.vw (i:=1) rfl) rfl dc rfl aK (zyR 1 rfl (zyN (zat (eF (β:=Nat×Int) (fun b=>zaC (fun _=>none) (zdg o1 u1 g) b.1 b.2=some r) (fun b=>[]) (fun b=>[(1,.string u1),(10,_f.v),(11,zI (o1.Units.length:Int)),(12,zI b.2)]) (fun b=>[]) (fun b=>b.1) (zbx,0) h rfl (bI rfl) ah ?_)))))))))))))
  rintro⟨f,e⟩ h
  cases f with
  |zero=>exact ew h
  |succ f=>
   obtain⟨m,c⟩:∃ag,ag=zaC (fun _=>none) (zdg o1 u1 g) f:=⟨_,rfl⟩
   have h:zdg o1 u1 g m e=some r:=by rw[c];exact h
   unfold zdg at h
   refine zyG (zaT rfl zbd (zyN (zaJ (zyB rfl h (fun h=>?_) (fun h=>?_)))))
   ·refine zap (zaz (zaJ (zat (zyG (zyR 1 rfl (zbk h fun q1 d h=>fy (a.vw (i:=1) rfl) d aK gV rfl dc rfl rfl rfl (C5 (n:=0+(e:Int).toNat) (j:=0) (i:=1) (q:=q1) a rfl dU gK rfl dc rfl (ce (a.vw (i:=1) rfl) d) rfl dc rfl (zyR 2 rfl (zyH (zyR 2 rfl (zaT rfl zdp (zyN (zyB rfl h (fun h=>?_) (fun h=>?_))))))))))))))
    ·refine zyG (zyR 2 rfl (zyN (zaA (cx (bP (bP (cx (bP ?_))))))))
     cases h
     exact cX 4 results62
    refine zap (cd (zaz (bX (zbs h fun l h=>zaT rfl (dA (r:=e+1) (ai _ l)) (zyR 1 rfl (zaB ?_))))))
    subst c
    exact nB (f,e+1) h (ct _) rfl (bI rfl) ah
   exact dy (bV (bV (dz (cL () h rfl (rA) ah))))
 rintro _ h
 rw[k] at h
 refine zyG (zyR 1 rfl (zyN (zaA ?_)))
 cases h
 exact cX 4 results62
def vu (o1:dk) (u1:ad):Option Bool := aN ((zbP u1 o1.Fors).isSome) (some true) (aT (se o1 u1) fun (r1:Int)=>some (decide ((0:Int)≤r1)))
theorem LC {_h:Nat} {o1:dk} {_f _a _c _d:Hd} {u1:ad} {r:Bool} (h:vu o1 u1=some r):iu prog 61 [zP _h,.string u1] [cells _h [_f.v,.map (some (bi _a)),_c.v,_d.v] 39,bH _f.v o1.Units,dQ (bi _a) o1.Fors,bH _c.v o1.Skips,bH _d.v o1.Lines] [] (fun _:Unit=>(.bool r)) (fun _=>[]):=by
 unfold vu at h
 refine iu.intro func61 rfl ntmps61 (by simp) (fun w0 K a=>zyG (zyR 1 rfl (zyH (zyR 1 rfl (zbc rfl dc rfl (zab zuk rfl dc rfl (show _=1 from rfl) (zeo (i:=0) a rfl vY rfl dc rfl rfl (zyR 1 rfl (Ha (i:=2) (kk:=u1) an tu kr rfl dc rfl rfl a rfl (fun d c=>zyR 1 rfl (eY rfl dc rfl rfl (eY rfl dc rfl rfl (zyR 2 rfl (zyH (zyR 2 rfl (zyS (s:=17) rfl h (fun h=>?_) (fun h=>?_)))))))))))))))))
 ·refine zyR 6 rfl (zyN (zaA ?_))
  cases h
  exact cX 4 results61
 refine zyR 2 rfl (zbk h fun r1 b h=>lg (v:=zI r1) (vs:=[zP _h,.string u1]) a rfl dc rfl rfl rfl ye (zQ (_h:=_h) (o1:=o1) (_f:=_f) (_a:=_a) (_c:=_c) (_d:=_d) b) (.ro 0 rfl (.ro 1 rfl (.ro 2 rfl (.ro 3 rfl (.ro 4 rfl .nil))))) (zaT rfl zbF (zyR 2 rfl (zyN (zaA ?_)))))
 cases h
 exact cX 4 results61
def ze7 (e:ad) (b:Int) (d:Int→Option (List gU)) (c:Int→Option (List gU)) (a:Int):Option (List gU) := aN (decide ((a:Int)<b)) (aT (jQ e a) fun (f:Int)=>aN ((f:Int) != 32) (aV (cr (a+1)) <|c (a+1)) (d a)) (d a)
def ze8 (d:ad) (b:Int) (g:(List gU)→Option (List gU)) (c:(List gU)→Int→Option (List gU)) (e:List gU) (a:Int):Option (List gU) := aN (decide ((a:Int)<b)) (aT (jQ d a) fun (c1:Int)=>aN ((c1:Int)==32) (aV (cr (a+1)) <|c e (a+1)) (co (fun (f:Int→Option (List gU))=>zaC (fun _=>none) (ze7 d b f) zbx a) (fun (k1:Int)=>aV (0≤(a:Int)∧(a:Int)≤k1∧(k1:Int)≤(d.size:Int)) <|aV (e.length+1≤2147483648) <|c (e++[(⟨a,cO d a k1⟩:gU)]) k1))) (g e)
def zR (d:ad) (a:Int) (b:Int):Option (List gU) := co (fun (e:(List gU)→Option (List gU))=>zaC (fun _ _=>none) (ze8 d b e) zbx ([]:List gU) a) (fun (c:List gU)=>aV (c.length+1≤2147483648) <|some (c++[(⟨b,(⟨#[]⟩:ad)⟩:gU)]))
theorem UA {c:ad} {f:Int} {a:Int} {r:(List gU)} (h:zR c f a=some r):Fn prog 26 [.string c,zI f,zI a] [] (fun v0:Value=>v0) (fun v0=>[uP v0 r]):=by
 unfold zR at h
 refine _root_.Go.Proofs.YtifpjbgnikjglaaGreatDoor.Fn.intro func26 rfl ntmps26 (by simp) (fun w0 K=>zbq h fun w D h=>zaL (β:=(List gU)×Value) 2 rfl (fun b=>w b.1=some r) (fun b=>[]) (fun b=>[(2,zI a),(7,b.2)]) (fun b=>[uP b.2 b.1]) (fun cut=>?_) ?_)
 ·refine zyG (zyR 1 rfl (zyH (zyR 1 rfl (zyN (cut (zyG (zyR 1 rfl (zyR 1 rfl (zyN (zat (nD (enc:=wq) (e:=106) (size:=2) (eF (β:=Nat×(List gU)×Int×Value) (fun b=>zaC (fun _ _=>none) (ze8 c a w) b.1 b.2.1 b.2.2.1=some r) (fun b=>[]) (fun b=>[(0,.string c),(2,zI a),(7,b.2.2.2),(8,zI b.2.2.1)]) (fun b=>[uP b.2.2.2 b.2.1]) (fun b=>b.1) (zbx,([]:List gU),f,(.slice none 0 0)) h rfl (bI rfl) (cp 1) ?_))))))))))))
  rintro⟨o,n,d,m⟩ h
  cases o with
  |zero=>exact ew h
  |succ o=>
   obtain⟨M,g⟩:∃ag,ag=zaC (fun _ _=>none) (ze8 c a w) o:=⟨_,rfl⟩
   have h:ze8 c a w M n d=some r:=by rw[g];exact h
   unfold ze8 at h
   refine zaJ (zyG (zyR 2 rfl (zaT rfl zbd (zyN (zyB rfl h (fun h=>?_) (fun h=>?_))))))
   ·refine zap (zaz (zat (zaJ (zyG (zyR 2 rfl (zbk h fun c1 z h=>nj rfl dc rfl rfl (pq an z) (zaT rfl zbm (zyN (zyB rfl h (fun h=>?_) (fun h=>?_))))))))))
    ·refine zyG (zyR 1 rfl (zbs h fun I h=>zaT rfl (dA (r:=d+1) (ai _ I)) (zyR 1 rfl (zyN (dy (bV (dz ?_)))))))
     subst g
     exact aD (o,n,d+1,m) h 1
    refine zap (zaz (zbq h fun u C h=>zaL (β:=Int) 1 rfl (fun b=>u b=some r) (fun b=>[]) (fun b=>[(0,.string c),(2,zI a),(7,m),(8,zI d),(9,zI b)]) (fun b=>[uP m n]) (fun cut=>?_) ?_))
    ·refine zyG (zyR 2 rfl (zyN (cut (zat (eF (β:=Nat×Int) (fun b=>zaC (fun _=>none) (ze7 c a u) b.1 b.2=some r) (fun b=>[]) (fun b=>[(0,.string c),(2,zI a),(7,m),(8,zI d),(9,zI b.2)]) (fun b=>[uP m n]) (fun b=>b.1) (zbx,d) h rfl (bI rfl) (cp 1) ?_)))))
     rintro⟨t,q⟩ h
     cases t with
     |zero=>exact ew h
     |succ t=>
      obtain⟨J,l⟩:∃ag,ag=zaC (fun _=>none) (ze7 c a u) t:=⟨_,rfl⟩
      have h:ze7 c a u J q=some r:=by rw[l];exact h
      unfold ze7 at h
      refine zaJ (zyG (zyR 2 rfl (zaT rfl zbd (zyR 1 rfl (zyS (s:=24) rfl h (fun h=>?_) (fun h=>?_))))))
      ·refine zyR 2 rfl (zbk h fun Q y h=>nj rfl dc rfl rfl (pq an y) (zaT rfl zed (zyR 1 rfl (zyN (zyB rfl h (fun h=>?_) (fun h=>?_))))))
       ·refine zap (zaz (zat (bX (zyR 1 rfl (zbs h fun H h=>zaT rfl (dA (r:=q+1) (ai _ H)) (zyR 1 rfl (zaB (cd ?_))))))))
        subst l
        exact aD (t,q+1) h 1
       exact dy (bV (bV (dz (mD q h 1))))
      exact zyR 5 rfl (zyN (za8 rfl (dy (bV (bV (dz (mD q h 1)))))))
    rintro k1 h
    rw[C] at h
    refine zyG (zyR 5 rfl (zbs h fun G h=>iA rfl dc rfl rfl rfl (kA (i:=d) (j:=k1) an (.inr rfl) (.inr rfl) G) (zbf (v:=.agg #[zI d,.string (cO c d k1)]) (ps:=[(0,.tmp 33),(1,.tmp 37)]) rfl dc rfl (fun _=>by kernel_rfl) (fx (cs:=[zI d,.string (cO c d k1)]) (te:=106) (ps:=[(0,.tmp 38)]) rfl dc rfl (fun _=>by kernel_rfl) (fun b1=>zbs h fun F h=>iT (k:=0) (k2:=1) (ys:=[(⟨d,cO c d k1⟩:gU)]) underlying58 Hj DD H0 rfl dc rfl rfl rfl rfl rfl rfl F (fun O=>zyR 1 rfl (zyN (bX (zyR 2 rfl (zaB (cd ?_)))))))))))
    subst g
    exact aD (o,n++[(⟨d,cO c d k1⟩:gU)],k1,O) h 1
   exact dy (bV (bV (dz (mD (n,m) h 1))))
 rintro⟨P,v1⟩ h
 rw[D] at h
 refine zyG (zyR 2 rfl (zbf (v:=.agg #[zI a,.string (⟨#[]⟩:ad)]) (ps:=[(0,.tmp 43),(1,.const (.string (⟨#[]⟩:ad)))]) rfl dc rfl (fun _=>by kernel_rfl) (fx (cs:=[zI a,.string (⟨#[]⟩:ad)]) (te:=106) (ps:=[(0,.tmp 44)]) rfl dc rfl (fun _=>by kernel_rfl) (fun b2=>zbs h fun E h=>iT (k:=0) (k2:=1) (ys:=[(⟨a,(⟨#[]⟩:ad)⟩:gU)]) underlying58 Hj DD H0 rfl dc rfl rfl rfl rfl rfl rfl E (fun N=>zyR 1 rfl (zyN (zaA ?_)))))))
 cases h
 exact eu (rs:=[.tmp 6]) N (.inl rfl) results26 (.cons (.tmp rfl) .nil) rfl (cp 1)
def tkI (x:bf):Tk:=(x.Rune,x.Text)
theorem xx (s:ad):(fV s).map tkI=(eU s.data.toList).map tkT:=by
 have h:=aM (List.map tkI) (Jw s)
 rw[cn,cn] at h
 have e1:(fV s).map (tkI ∘ jR)=(fV s).map tkI:=dw fun x _=>rfl
 have e2:(eU s.data.toList).map (tkI ∘ zf9)=(eU s.data.toList).map tkT:=dw fun t _=>rfl
 rw[e1,e2] at h
 exact h
theorem Cj (r:Int) (h:fB r):rP r=some (cZ r):=by
 unfold rP
 refine zdG h ?_
 cases hg:great r with
 |true=>exact bS rfl (by unfold cZ;rw[hg];rfl)
 |false=>exact bM rfl (zdG h (by unfold cZ;rw[hg];rfl))
theorem zS (r:Int):rf r=some (fc r):=by
 unfold rf fc
 by_cases h1:768≤r
 ·exact bS (ax h1) (aM some (by simp[h1]))
 ·exact bM (al h1) (aM some (by simp[h1]))
structure nP (x:bf):Prop where
 i32:fB x.Rune
 sz:x.Text.size≤4
 en:0≤x.Rune→x.Text=ae x.Rune
 ne:0<x.Text.size
theorem zT (s:ad):∀x∈fV s,nP x:=by
 intro x hx
 have hm:tkI x∈(eU s.data.toList).map tkT:=by rw[←xx];exact aU.2 ⟨x,hx,rfl⟩
 obtain⟨t,ht,e⟩:=aU.1 hm
 have a:=pP _ t ht
 have e1:(tkT t).1=x.Rune:=aM bw e
 have e2:(tkT t).2=x.Text:=aM eC e
 have hsz:=zF a
 have c:(tkT t).2.size=t.bs.length:=by rw[gJ];show t.bs.toArray.toList.length=_;simp
 have b:=cV.2 (AY a)
 refine⟨?_,by rw[←e2,c];exact hsz,fun h=>by rw[←e1] at h ⊢;rw[←e2];exact Uo a h,by rw[←e2,c];exact b⟩
 rw[←e1]
 unfold tkT
 have:=pi a
 unfold fB at this ⊢
 split
 ·exact⟨by show (-2147483648:Int)≤-1;decide,by show (-1:Int)≤2147483647;decide⟩
 ·exact this
theorem FM (s:ad):(fV s).length≤s.size:=by
 have:=aM gq (xx s)
 rw[az,az] at this
 have:=xj s
 omega
theorem FN {r:Int} (h:cZ r=true):0≤r:=(mV r h).1
theorem UB (s:ad) (c:s.size≤65536):zN s=some (jL s):=by
 unfold zN
 have j:=FM (gm s)
 have h2:=(s7 s c).2.1
 refine cB (aY (JF s c) (aY (wT (gm s) (by omega)) ?_))
 have:=px (xs:=fV (gm s)) (F:=ze9 some (fV (gm s))) (bot:=fun _ _=>none) (f:=fun b x=>b++(ie (tkI x)).2) (J:=some) (fun k b=>b.size≤4*k) (fun ag k x a hx hb=>by
   have hk:=(au.1 hx).1
   have ok:=zT _ x (aP hx)
   have i:=ok.sz
   unfold ze9
   refine bS (lR hx) (cB (aY (kO hx) ?_))
   have other:cZ x.Rune=false→(ie (tkI x)).2=x.Text:=fun h=>by rw[Ut (show ej (tkI x)=false from h)];rfl
   by_cases h0:0≤x.Rune
   ·refine bS (ax h0) (aY (Cj _ ok.i32) ?_)
    cases hL:cZ x.Rune with
    |true=>
     have m:=nr (cA x.Rune)
     have e:(ie (tkI x)).2=ae (cA x.Rune):=by unfold ie;rw[show ej (tkI x)=true from hL];rfl
     rw[e]
     exact bS rfl (zdG ok.i32 (aY (Bb _ (Jr _ hL)) (gO (zdG (ja (by omega)) rfl))))
    |false=>
     rw[other hL]
     exact bM rfl (gO (zdG (ja (by omega)) rfl))
   ·have hL:cZ x.Rune=false:=by
     cases h:cZ x.Rune with
     |false=>rfl
     |true=>exact absurd (FN h) h0
    rw[other hL]
    exact bM (al h0) (gO (zdG (ja (by omega)) rfl))) (fun k x a hx hb=>by
   have ok:=zT _ x (aP hx)
   have i:(ie (tkI x)).2.size≤4:=B6 ok.sz
   rw[aE];omega) (fun ag a _=>by unfold ze9;exact bM lC rfl) (n:=zbx) (j0 (by omega)) (a:=(⟨#[]⟩:ad)) (bG _)
 refine this.trans ?_
 have key:∀ (l:List bf) (b:ad),l.foldl (fun b x=>b++(ie (tkI x)).2) b=b++iD ((l.map tkI).map ie):=by
  intro l
  induction l with
  |nil=>intro b;show b=b++ac;rw[bx]
  |cons x l d=>
   intro b
   have g:iD (((x::l).map tkI).map ie)=(ie (tkI x)).2++iD ((l.map tkI).map ie):=by unfold iD;rw[av,av,jA]
   rw[bn,d,g,de]
 rw[key,xx]
 show some (ac++jL s)=_
 rw[dD]
theorem UC (l:List bf) (e:∀x∈l,nP x) (r:ad):∀ (n:Nat) (B A:List bf),l=A++B→B.length<n→l.length≤8 →
  zaC (fun _=>none) (zdY l (some r)) n (A.length:Int)=some (if oe A.length (B.map tkI) then r else ⟨#[]⟩):=by
 intro n
 induction n with
 |zero=>intro B A _ h;omega
 |succ n j=>
  intro B A c k o
  rw[gk]
  generalize f:zaC (fun _=>none) (zdY l (some r)) n=ag
  unfold zdY
  have a:l.length=A.length+B.length:=by rw[c,aa]
  cases B with
  |nil=>exact bM (al (by rw[a];simp)) rfl
  |cons x B=>
   have ok:=e x (by rw[c];simp)
   have hx:l[A.length]?=some x:=by rw[c];simp
   have d:=j B (A++[x]) (by rw[c,aA];rfl) (by rw[ab] at k;omega) o
   rw[f,show (A++[x]).length=A.length+1 by simp] at d
   push_cast at d
   rw[ab] at a
   have g:(aV (cr ((A.length:Int)+1))<|ag ((A.length:Int)+1))=some (if oe (A.length+1) (B.map tkI) then r else ⟨#[]⟩):=gO d
   refine eR (cB (aY (gM hx) ?_))
   rw[av,oe,ax (show A.length+1≤8 by omega),fG]
   have s:ej (tkI x)=cZ x.Rune:=rfl
   have q:iQ (tkI x)=fc x.Rune:=rfl
   rw[s,q]
   have b:cZ x.Rune=false→0≤x.Rune→(aN (((A.length:Int):Int)==0) (some (⟨#[]⟩:ad)) (aN (decide ((x.Rune:Int)<0)) (some (⟨#[]⟩:ad)) (aT (rf x.Rune) fun (i:Bool)=>aN (!i) (some (⟨#[]⟩:ad)) (aV (cr ((A.length:Int)+1))<|ag ((A.length:Int)+1))))) =
     some (if (cZ x.Rune||(decide (A.length≠0)&&fc x.Rune))&&oe (A.length+1) (B.map tkI) then r else ⟨#[]⟩):=fun hL h0=>by
    rw[hL,dp]
    by_cases hA:A.length=0
    ·rw[hA]
     exact bS rfl rfl
    ·rw[ax (show A.length≠0 from hA),fG]
     refine bM (aC.2 (by omega)) (fC (aY (zS _) ?_))
     cases fc x.Rune with
     |true=>exact bM rfl (by rw[fG];exact g)
     |false=>exact bS rfl rfl
   by_cases h0:0≤x.Rune
   ·refine bS (ax h0) (aY (Cj _ ok.i32) ?_)
    cases hL:cZ x.Rune with
    |true=>
     refine bM rfl ?_
     rw[pC,fG];exact g
    |false=>
     have:=b hL h0
     rw[hL] at this
     exact bS rfl this
   ·have hL:cZ x.Rune=false:=by
     cases h:cZ x.Rune with
     |false=>rfl
     |true=>exact absurd (FN h) h0
    have m:fc x.Rune=false:=by unfold fc;exact al (by omega)
    rw[hL,m,dp,Bool.and_false,Bool.false_and]
    refine bM (al h0) ?_
    by_cases hA:A.length=0
    ·exact bS (by rw[hA];rfl) rfl
    ·exact bM (aC.2 (by omega)) (eR rfl)
theorem UD:∀ (l:List Tk) (k:Nat),k≤8→8<k+l.length→oe k l=false:=by
 intro l k hk h
 cases e:oe k l with
 |false=>rfl
 |true=>have:=FE l k hk e;omega
theorem UE (s:ad) (b:s.size≤65536):zO s=some (zfX s):=by
 have d:gm (jL s)=jL s:=K9 s b
 have a:(fV (jL s)).map tkI=(gE s).map ie:=by
  rw[xx,Fz s b]
  unfold gE
  rw[cn,cn]
  exact dw fun t _=>B5 t
 have c:(fV (jL s)).length=(gE s).length:=by
  have:=aM gq a
  rw[az,az] at this;exact this
 have h5:(gE s).length≤786432:=by
  have h1:=xj (gm s)
  have h2:=(s7 s b).2.1
  unfold gE nu
  rw[az];omega
 have hsz:(jL s).size≤4000000:=by
  have:(jL s).size≤4*((gE s).map ie).length:=xm fun y hy=>by
   obtain⟨x,hx,rfl⟩:=aU.1 hy
   exact B6 (Lg s x hx)
  rw[az] at this;omega
 unfold zO zfX
 refine aY (UB s b) (aY (wT (jL s) (by omega)) ?_)
 rw[←B7,←a]
 by_cases h1:(fV (jL s)).length=0
 ·refine eR ?_
  have e0:gE s=[]:=gY.1 (by omega)
  have:jL s=⟨#[]⟩:=by unfold jL;rw[e0];rfl
  rw[this,ite_self]
 ·refine fC ?_
  by_cases e:8<(fV (jL s)).length
  ·rw[UD _ 0 (by omega) (by rw[az];omega)]
   exact eR rfl
  ·refine fC (cB ?_)
   exact UC (fV (jL s)) (zT _) (jL s) zbx (fV (jL s)) [] (bg _).symm (by unfold zbx;omega) (by omega)
theorem zU (w:dk) (u:ad) (i:w.Units.length≤1000000000):se w u=some ((lE w.Units u).getD (-1)):=by
 unfold se
 refine cB ?_
 have key:∀ (n:Nat) (B A:List ad),w.Units=A++B→B.length<n→zaC (fun _=>none) (zdg w u (some (-1))) n (A.length:Int)=some (((lE B u).map fun k=>(A.length:Int)+k).getD (-1)):=by
  intro n
  induction n with
  |zero=>intro B A _ h;omega
  |succ n f=>
   intro B A d g
   rw[gk]
   generalize e:zaC (fun _=>none) (zdg w u (some (-1))) n=ag
   unfold zdg
   have b:w.Units.length=A.length+B.length:=by rw[d,aa]
   cases B with
   |nil=>exact bM (al (by rw[b];simp)) rfl
   |cons x B=>
    have hx:w.Units[A.length]?=some x:=by rw[d];simp
    have c:=f B (A++[x]) (by rw[d,aA];rfl) (by rw[ab] at g;omega)
    rw[e,show (A++[x]).length=A.length+1 by simp] at c
    push_cast at c
    rw[ab] at b
    refine eR (aY (gM hx) ?_)
    rw[lE]
    by_cases a:x=u
    ·rw[am a.symm]
     refine bS (ax a) ?_
     show some (A.length:Int)=some ((A.length:Int)+0)
     rw[Int.add_zero]
    ·rw[aj (fun h=>a h.symm)]
     refine bM (al a) (gO (c.trans ?_))
     cases lE B u with
     |none=>rfl
     |some k=>
      show some ((A.length:Int)+1+k)=some ((A.length:Int)+(k+1))
      congr 1;omega
 have:=key zbx w.Units [] rfl (by unfold zbx;omega)
 refine this.trans ?_
 cases lE w.Units u with
 |none=>rfl
 |some k=>show some ((0:Int)+k)=some k;rw[qm]
def zcB (c1:Int) (c:ad→Option ad) (b:ad→Option ad) (a:ad):Option ad := aN (decide ((0:Int)<(a.size:Int))) (aT (jQ a 0) fun (d:Int)=>aN ((d:Int)==c1) (aV (0≤(1:Int)∧(1:Int)≤(a.size:Int)∧((a.size:Int):Int)≤(a.size:Int)) <|b (cO a 1 (a.size:Int))) (c a)) (c a)
def Cl (b:ad) (c1:Int):Option ad := co (fun (c:ad→Option ad)=>zaC (fun _=>none) (zcB c1 c) zbx b) (fun (a:ad)=>some a)
theorem UF {f:ad} {c1:Int} {r:ad} (h:Cl f c1=some r):dN prog 140 [.string f,.int .u8 c1] (.string r):=by
 unfold Cl at h
 refine dN.intro func140 rfl ntmps140 (by simp) (fun w0 K=>zbq h fun e k h=>zaL (β:=ad) 1 rfl (fun b=>e b=some r) (fun b=>[]) (fun b=>[(0,.string b)]) (fun b=>[]) (fun cut=>?_) ?_)
 ·refine zyG (zyR 1 rfl (zyN (cut (zat (eF (β:=Nat×ad) (fun b=>zaC (fun _=>none) (zcB c1 e) b.1 b.2=some r) (fun b=>[]) (fun b=>[(0,.string b.2),(1,.int .u8 c1)]) (fun b=>[]) (fun b=>b.1) (zbx,f) h rfl (bI rfl) ah ?_)))))
  rintro⟨d,c⟩ h
  cases d with
  |zero=>exact ew h
  |succ d=>
   obtain⟨m,a⟩:∃ag,ag=zaC (fun _=>none) (zcB c1 e) d:=⟨_,rfl⟩
   have h:zcB c1 e m c=some r:=by rw[a];exact h
   unfold zcB at h
   refine zaJ (zyG (zyR 1 rfl (zcG rfl dc rfl an (zaT rfl zd4 (zyR 1 rfl (zyS (s:=8) rfl h (fun h=>?_) (fun h=>?_)))))))
   ·refine zyR 1 rfl (zbk h fun o g h=>nj rfl dc rfl rfl (pq an g) (zyR 1 rfl (zaT rfl zbm (zyR 1 rfl (zyN (zyB rfl h (fun h=>?_) (fun h=>?_)))))))
    ·refine zap (zaz (zat (bX (zyR 1 rfl (zbs h fun l h=>iA rfl dc rfl rfl rfl (kA (i:=1) (j:=(c.size:Int)) an (.inr rfl) (.inl ⟨rfl,rfl⟩) l) (zyR 1 rfl (zaB (cd ?_))))))))
     subst a
     exact nB (d,cO c 1 (c.size:Int)) h (ct _) rfl (bI rfl) ah
    exact dy (bV (bV (dz (cL c h rfl (bI rfl) ah))))
   exact zyR 5 rfl (zyN (za8 rfl (dy (bV (bV (dz (cL c h rfl (bI rfl) ah)))))))
 rintro n h
 rw[k] at h
 refine zyG (zyR 2 rfl (zyN (zaA ?_)))
 cases h
 exact cX 4 results140
def zV (a:ad):Option ad := aN (decide (a=(⟨#[]⟩:ad))) (some a) (aN (decide ((⟨#[48]⟩:ad)=(⟨#[]⟩:ad))) (some a) (co (fun (b:Option ad)=>aN ((((⟨#[48]⟩:ad).size:Int):Int)==1) (aT (jQ (⟨#[48]⟩:ad) 0) fun (c1:Int)=>aN (decide ((c1:Int)<128)) (aT (jQ (⟨#[48]⟩:ad) 0) fun (c:Int)=>aT (Cl a c) fun (r1:ad)=>some r1) (b)) (b)) (none)))
theorem UG {a:ad} {r:ad} (h:zV a=some r):dN prog 103 [.string a,.string (⟨#[48]⟩:ad)] (.string r):=by
 unfold zV at h
 refine dN.intro func103 rfl ntmps103 (by simp) (fun w0 K=>zyG (zyR 1 rfl (zyN (zaJ (zyG (zyR 1 rfl (zaT rfl zdp (zyR 1 rfl (zyS (s:=9) rfl h (fun h=>?_) (fun h=>?_))))))))))
 ·refine zyR 3 rfl (zyN (ir rfl (zyG (zyR 2 rfl (zyN (zaA (bP ?_)))))))
  cases h
  exact cX 4 results103
 refine zyR 1 rfl (zaT rfl zdp (zyR 1 rfl (zyN (zyB rfl h (fun h=>?_) (fun h=>?_)))))
 ·refine zyG (zyR 2 rfl (zyN (zaA (bP ?_))))
  cases h
  exact cX 4 results103
 refine zap (zaz (zbq h fun g f h=>zaL (β:=Unit) 0 rfl (fun b=>g=some r) (fun b=>[]) (fun b=>[(0,.string a),(1,.string (⟨#[48]⟩:ad))]) (fun b=>[]) (fun cut=>?_) ?_))
 ·refine cut (zyG (zyR 1 rfl (zcG rfl dc rfl an (zaT rfl zbm (zyR 1 rfl (zyS (s:=17) rfl h (fun h=>?_) (fun h=>?_)))))))
  ·refine zyR 1 rfl (zbk h fun c1 e h=>nj rfl dc rfl rfl (pq an e) (zaT rfl zbd (zyR 1 rfl (zyN (zyB rfl h (fun h=>?_) (fun h=>?_))))))
   ·refine zyG (zyR 2 rfl (zbk h fun i d h=>nj rfl dc rfl rfl (pq an d) (zbk h fun r1 c h=>zaI (v:=.string r1) (vs:=[.string a,.int .u8 i]) rfl dc rfl rfl rfl ON (UF c) (zyR 1 rfl (zyN (zaA (bP ?_)))))))
    cases h
    exact cX 4 results103
   exact zap (cL () h rfl (bI rfl) ah)
  exact zyR 4 rfl (zyN (za8 rfl (zap (cL () h rfl (bI rfl) ah))))
 rintro _ h
 rw[f] at h
 exact zaJ (zaJ (ew h))
def tg (a:List bN) (k1:Int):Option Bool := aN (decide ((k1:Int)<(a.length:Int))) (aT (zca a k1) fun (q1:bN)=>aN (decide ((0:Int)≤q1.Rune)) (aT (rP q1.Rune) fun (r1:Bool)=>some r1) (some false)) (some false)
theorem FO {d e:Value} {g:List bN} {b:Nat} {l:List bN} (a:Vw d g 3 b e l) {k1:Int} {r:Bool} (h:tg l k1=some r):iu prog 139 [e,zI k1] [jh o9 3 d b g] [] (fun _:Unit=>(.bool r)) (fun _=>[]):=by
 unfold tg at h
 refine iu.intro func139 rfl ntmps139 (by simp) (fun w0 K f=>zyG (zyR 1 rfl (zyH (zyR 2 rfl (zbT a rfl dc rfl aI (zaT rfl zbd (zyR 1 rfl (zyS (s:=9) rfl h (fun h=>?_) (fun h=>?_)))))))))
 ·refine zyR 2 rfl (zbk h fun q1 c h=>fy a c aI gR rfl dc rfl rfl rfl (zab zdk rfl dc rfl (show _=(b+(k1:Int).toNat)*3 from rfl) (jG (n:=b+(k1:Int).toNat) (j:=0) (i:=0) (q:=q1) f rfl (by omega) eZ rfl dc rfl (ce a c) rfl rfl (zaT rfl zbF (zyR 2 rfl (zyS (s:=17) rfl h (fun h=>?_) (fun h=>?_)))))))
  ·refine zyR 2 rfl (fy a c aI gR rfl dc rfl rfl rfl (zab zdk rfl dc rfl (show _=(b+(k1:Int).toNat)*3 from rfl) (jG (n:=b+(k1:Int).toNat) (j:=0) (i:=0) (q:=q1) f rfl (by omega) eZ rfl dc rfl (ce a c) rfl rfl (zbk h fun r1 k h=>zaI (v:=.bool r1) (vs:=[.int .i32 q1.Rune]) rfl dc rfl rfl rfl yf (yV k) (zyR 2 rfl (zyN (zaA ?_)))))))
   cases h
   exact cX 4 results139
  refine zyR 8 rfl (zyN (zaA ?_))
  cases h
  exact cX 4 results139
 refine zyR 14 rfl (zyR 2 rfl (zyN (zaA ?_)))
 cases h
 exact cX 4 results139
def zcK (c:List bN) (d:Int→Option Int) (b:Int→Option Int) (a:Int):Option Int := aN (decide ((a:Int)<(c.length:Int))) (aT (tg c a) fun (r1:Bool)=>aN (!r1) (aV (cr (a+1)) <|b (a+1)) (d a)) (d a)
def zbJ (c:List bN) (f:Int) (b:Int→Option Int) (d:Int→Option Int) (a:Int):Option Int := co (fun (e:Option Int)=>aT (tg c a) fun (r2:Bool)=>aN (r2) (e) (aN (decide ((a:Int)<(c.length:Int))) (aN (decide ((f:Int)<a)) (aT (zca c a) fun (q1:bN)=>aN (decide ((0:Int)≤q1.Rune)) (aT (rf q1.Rune) fun (r3:Bool)=>aN (r3) (e) (b a)) (b a)) (b a)) (b a))) (aV (cr (a+1)) <|d (a+1))
def zcJ (c:List bN) (k1:Int) (g:Option Int) (d:Int→Option Int) (b:Int):Option Int := aN (decide ((b:Int)<(c.length:Int))) (co (fun (e:Int→Bool→Bool→Bool→Option Int)=>aT (tg c b) fun (f:Bool)=>aN (f) (some k1) (aT (zca c b) fun (a:bN)=>aN (decide ((48:Int)≤a.Rune)) (aN (decide ((a.Rune:Int)≤57)) (some k1) (e a.Rune (decide ((48:Int)≤a.Rune)) true (decide ((a.Rune:Int)≤57)))) (e a.Rune (decide ((48:Int)≤a.Rune)) false false))) (fun (k:Int) (j:Bool) (i:Bool) (h:Bool)=>aV (cr (b+1)) <|d (b+1))) (g)
def zc4 (o1:dk) (e:List bN) (k1:Int) (f:Option Int) (d:ad) (c:Int→Option Int) (a:Int):Option Int := aN (decide ((a:Int)<(o1.Skips.length:Int))) (co (fun (b:Option Int)=>aT (zca o1.Skips a) fun (q2:ad)=>aN (!decide (q2=d)) (b) (aN (decide (d=(⟨#[]⟩:ad))) (b) (zaC (fun _=>none) (zcJ e k1 b) zbx k1))) (aV (cr (a+1)) <|c (a+1))) (f)
def zW (o1:dk) (a:List bN):Option Int := co (fun (g:Int→Option Int)=>zaC (fun _=>none) (zcK a g) zbx 0) (fun (b:Int)=>co (fun (f:Int→Option Int)=>zaC (fun _=>none) (zbJ a b f) zbx b) (fun (k1:Int)=>co (fun (e:Option Int)=>aV (0≤(b:Int)∧(b:Int)≤k1∧(k1:Int)≤(a.length:Int)) <|aT (uR (dK a b k1)) fun (d:ad)=>aT (sR d) fun (c:ad)=>zaC (fun _=>none) (zc4 o1 a k1 e c) zbx 0) (some 0)))
theorem UH {_h:Nat} {o1:dk} {_f _a _c _d:Hd} {f c:Value} {w:List bN} {e:Nat} {g:List bN} (a:Vw f w 3 e c g) {r:Int} (h:zW o1 g=some r):iu prog 97 [zP _h,c] [cells _h [_f.v,.map (some (bi _a)),_c.v,_d.v] 39,bH _f.v o1.Units,dQ (bi _a) o1.Fors,bH _c.v o1.Skips,bH _d.v o1.Lines,jh o9 3 f e w] [] (fun _:Unit=>(zI r)) (fun _=>[]):=by
 unfold zW at h
 refine iu.intro func97 rfl ntmps97 (by simp) (fun w0 K d=>zbq h fun S a5 h=>zaL (β:=Int) 2 rfl (fun b=>S b=some r) (fun b=>[]) (fun b=>[(0,zP _h),(1,c),(5,zI b)]) (fun b=>[]) (fun cut=>?_) ?_)
 ·refine zyG (zyR 1 rfl (zyH (zyR 1 rfl (zyN (cut (zat (eF (β:=Nat×Int) (fun b=>zaC (fun _=>none) (zcK g S) b.1 b.2=some r) (fun b=>[]) (fun b=>[(0,zP _h),(1,c),(5,zI b.2)]) (fun b=>[]) (fun b=>b.1) (zbx,0) h rfl (bI rfl) ah ?_)))))))
  rintro⟨N,G⟩ h
  cases N with
  |zero=>exact ew h
  |succ N=>
   obtain⟨b0,D⟩:∃ag,ag=zaC (fun _=>none) (zcK g S) N:=⟨_,rfl⟩
   have h:zcK g S b0 G=some r:=by rw[D];exact h
   unfold zcK at h
   refine zaJ (zyG (zyR 2 rfl (zbT a rfl dc rfl aI (zaT rfl zbd (zyR 1 rfl (zyS (s:=15) rfl h (fun h=>?_) (fun h=>?_)))))))
   ·refine zyR 2 rfl (zbk h fun r1 aw h=>lg (v:=.bool r1) (vs:=[c,zI G]) d rfl dc rfl rfl rfl DB (FO a aw) (.ro 5 rfl .nil) (jW rfl dc rfl km (zyR 1 rfl (zyN (zyB rfl h (fun h=>?_) (fun h=>?_))))))
    ·refine zap (zaz (zat (bX (zyR 1 rfl (zbs h fun bb h=>zaT rfl (dA (r:=G+1) (ai _ bb)) (zyR 1 rfl (zaB (cd ?_))))))))
     subst D
     exact nB (N,G+1) h (ct _) rfl (bI rfl) ah
    exact dy (bV (bV (dz (cL G h rfl (bI rfl) ah))))
   exact zyR 5 rfl (zyN (za8 rfl (dy (bV (bV (dz (cL G h rfl (bI rfl) ah)))))))
 rintro o h
 rw[a5] at h
 refine zbq h fun Q a4 h=>zaL (β:=Int) 1 rfl (fun b=>Q b=some r) (fun b=>[]) (fun b=>[(0,zP _h),(1,c),(5,zI o),(6,zI b)]) (fun b=>[]) (fun cut=>?_) ?_
 ·refine zyG (zyR 2 rfl (zyN (cut (zat (eF (β:=Nat×Int) (fun b=>zaC (fun _=>none) (zbJ g o Q) b.1 b.2=some r) (fun b=>[]) (fun b=>[(0,zP _h),(1,c),(5,zI o),(6,zI b.2)]) (fun b=>[]) (fun b=>b.1) (zbx,o) h rfl (bI rfl) ah ?_)))))
  rintro⟨M,k⟩ h
  cases M with
  |zero=>exact ew h
  |succ M=>
   obtain⟨bs,C⟩:∃ag,ag=zaC (fun _=>none) (zbJ g o Q) M:=⟨_,rfl⟩
   have h:zbJ g o Q bs k=some r:=by rw[C];exact h
   unfold zbJ at h
   refine zbq h fun j3 a3 h=>zaL (β:=Unit) 0 rfl (fun b=>j3=some r) (fun b=>[]) (fun b=>[(0,zP _h),(1,c),(5,zI o),(6,zI k)]) (fun b=>[]) (fun cut=>cut (zyG (zyR 2 rfl (zbk h fun r2 ao h=>lg (v:=.bool r2) (vs:=[c,zI k]) d rfl dc rfl rfl rfl DB (FO a ao) (.ro 5 rfl .nil) (zyR 1 rfl (zyS (s:=27) rfl h (fun h=>zyR 14 rfl (zyR 12 rfl (zyN (ir rfl (zap (cL () h rfl (bI rfl) ah)))))) (fun h=>zyR 2 rfl (zbT a rfl dc rfl aI (zaT rfl zbd (zyR 1 rfl (zyS (s:=32) rfl h (fun h=>zyR 2 rfl (zaT rfl zd4 (zyR 2 rfl (zyS (s:=37) rfl h (fun h=>zyR 2 rfl (zbk h fun q1 u h=>fy a u aI gR rfl dc rfl rfl rfl (zab zdk rfl dc rfl (show _=(e+(k:Int).toNat)*3 from rfl) (jG (n:=e+(k:Int).toNat) (j:=0) (i:=5) (q:=q1) d rfl (by omega) eZ rfl dc rfl (ce a u) rfl rfl (zaT rfl zbF (zyR 2 rfl (zyS (s:=45) rfl h (fun h=>zyR 2 rfl (fy a u aI gR rfl dc rfl rfl rfl (zab zdk rfl dc rfl (show _=(e+(k:Int).toNat)*3 from rfl) (jG (n:=e+(k:Int).toNat) (j:=0) (i:=5) (q:=q1) d rfl (by omega) eZ rfl dc rfl (ce a u) rfl rfl (zbk h fun r3 Z h=>zaI (v:=.bool r3) (vs:=[.int .i32 q1.Rune]) rfl dc rfl rfl rfl yg (yW Z) (zyR 2 rfl (zyN (zyB rfl h (fun h=>zap (cL () h rfl (bI rfl) ah)) (fun h=>dy (bV (bV (dz (cL k h rfl (bI rfl) ah))))))))))))) (fun h=>zyR 8 rfl (zyN (za8 rfl (dy (bV (bV (dz (cL k h rfl (bI rfl) ah))))))))))))))) (fun h=>zyR 14 rfl (zyR 2 rfl (zyN (za8 rfl (dy (bV (bV (dz (cL k h rfl (bI rfl) ah))))))))))))) (fun h=>zyR 14 rfl (zyR 7 rfl (zyN (za8 rfl (dy (bV (bV (dz (cL k h rfl (bI rfl) ah)))))))))))))))))))) (fun _ h=>?_)
   rw[a3] at h
   refine zat (bX (zyR 1 rfl (zbs h fun a9 h=>zaT rfl (dA (r:=k+1) (ai _ a9)) (zyR 1 rfl (zaB (cd ?_))))))
   subst C
   exact nB (M,k+1) h (ct _) rfl (bI rfl) ah
 rintro k1 h
 rw[a4] at h
 refine zbq h fun P a2 h=>zaL (β:=Unit) 1 rfl (fun b=>P=some r) (fun b=>[]) (fun b=>[]) (fun b=>[]) (fun cut=>?_) ?_
 ·refine zyG (zyR 3 rfl (zbs h fun a8 h=>?_))
  obtain⟨v1,T,U⟩:=oI (lo:=some (zI o)) (hi:=some (zI k1)) a aI gR (.inr rfl) (.inr rfl) a8
  refine iA rfl dc rfl rfl rfl U ?_
  have d:Rd _ _ [cells _h [_f.v,.map (some (bi _a)),_c.v,_d.v] 39,bH _f.v o1.Units,dQ (bi _a) o1.Fors,bH _c.v o1.Skips,bH _d.v o1.Lines,jh o9 3 f e w,jh o9 3 f (e+(o:Int).toNat) w]:=d.up (i:=5) rfl
  refine zbk h fun r4 Y h=>lg (v:=.string r4) (vs:=[v1]) d rfl dc rfl rfl rfl Dx (D5 T Y) (.ro 6 rfl .nil) (zbk h fun l W h=>zaI (v:=.string l) (vs:=[.string r4]) rfl dc rfl rfl rfl AO (Bd W) (zyR 1 rfl (zyN (cut (zyG (zyR 1 rfl (zbc rfl dc rfl (zab AD rfl dc rfl (show _=2 from rfl) (zeo (i:=0) d rfl oq rfl dc rfl rfl (zbT (d.vw (i:=3) rfl) rfl dc rfl aK (zyR 1 rfl (zaB (zaz (zat (eF (β:=Nat×Int) (fun b=>zaC (fun _=>none) (zc4 o1 g k1 P l) b.1 b.2=some r) (fun b=>[]) (fun b=>[(1,c),(6,zI k1),(7,.string l),(65,_c.v),(66,zI (o1.Skips.length:Int)),(67,zI b.2)]) (fun b=>[]) (fun b=>b.1) (zbx,0) h rfl (bI rfl) ah ?_)))))))))))))))
  rintro⟨J,E⟩ h
  cases J with
  |zero=>exact ew h
  |succ J=>
   obtain⟨bk,z⟩:∃ag,ag=zaC (fun _=>none) (zc4 o1 g k1 P l) J:=⟨_,rfl⟩
   have h:zc4 o1 g k1 P l bk E=some r:=by rw[z];exact h
   unfold zc4 at h
   refine zyG (zaT rfl zbd (zyN (zaJ (zyB rfl h (fun h=>?_) (fun h=>?_)))))
   ·refine zap (zaz (zbq h fun O a1 h=>zaL (β:=Unit) 0 rfl (fun b=>O=some r) (fun b=>[]) (fun b=>[(1,c),(6,zI k1),(7,.string l),(65,_c.v),(66,zI (o1.Skips.length:Int)),(67,zI E)]) (fun b=>[]) (fun cut=>?_) ?_))
    ·refine cut (zat (zyG (zbk h fun q2 H h=>fy (d.vw (i:=3) rfl) H aK gV rfl dc rfl rfl rfl (C5 (n:=0+(E:Int).toNat) (j:=0) (i:=3) (q:=q2) d rfl dU gK rfl dc rfl (ce (d.vw (i:=3) rfl) H) rfl dc rfl (zyR 1 rfl (zyN (zaJ (zyG (zyR 2 rfl (zaT rfl tE (zyR 1 rfl (zyS (s:=74) rfl h (fun h=>zyR 3 rfl (zyN (ir rfl (dy (bV (dz (cL () h rfl (bI rfl) ah))))))) (fun h=>zyR 1 rfl (zaT rfl zdp (zyR 1 rfl (zyN (zyB rfl h (fun h=>dy (bV (dz (cL () h rfl (bI rfl) ah)))) (fun h=>zap (zaz (zyG (zyR 2 rfl (zyN (zat (eF (β:=Nat×Int) (fun b=>zaC (fun _=>none) (zcJ g k1 O) b.1 b.2=some r) (fun b=>[]) (fun b=>[(1,c),(6,zI k1),(7,.string l),(10,zI b.2),(65,_c.v),(66,zI (o1.Skips.length:Int)),(67,zI E),(75,.string l),(76,.bool (decide (l=(⟨#[]⟩:ad))))]) (fun b=>[]) (fun b=>b.1) (zbx,k1) h rfl (bI rfl) ah ?_))))))))))))))))))))))))
     rintro⟨I,m⟩ h
     cases I with
     |zero=>exact ew h
     |succ I=>
      obtain⟨bh,y⟩:∃ag,ag=zaC (fun _=>none) (zcJ g k1 O) I:=⟨_,rfl⟩
      have h:zcJ g k1 O bh m=some r:=by rw[y];exact h
      unfold zcJ at h
      refine zaJ (zyG (zyR 2 rfl (zbT a rfl dc rfl aI (zaT rfl zbd (zyN (zyB rfl h (fun h=>?_) (fun h=>?_)))))))
      ·refine zap (zaz (zbq h fun j9 a0 h=>zaL (β:=Int×Bool×Bool×Bool) 0 rfl (fun b=>j9 b.1 b.2.1 b.2.2.1 b.2.2.2=some r) (fun b=>[]) (fun b=>[(1,c),(6,zI k1),(7,.string l),(10,zI m),(65,_c.v),(66,zI (o1.Skips.length:Int)),(67,zI E),(75,.string l),(76,.bool (decide (l=(⟨#[]⟩:ad)))),(89,c),(90,zI m),(91,.pointer (some ⟨eO f,(e+(m:Int).toNat)*3,none⟩)),(92,.pointer (some ⟨eO f,(e+(m:Int).toNat)*3,none⟩)),(93,.int .i32 b.1),(94,.bool b.2.1),(95,.bool b.2.2.1),(102,.bool b.2.2.2)]) (fun b=>[]) (fun cut=>?_) ?_))
       ·refine cut (zat (zyG (zyR 2 rfl (zbk h fun r6 V h=>lg (v:=.bool r6) (vs:=[c,zI m]) d rfl dc rfl rfl rfl DB (FO a V) (.ro 5 rfl .nil) (zyR 1 rfl (zyS (s:=88) rfl h (fun h=>?_) (fun h=>?_)))))))
        ·refine zyR 14 rfl (zyR 1 rfl (zyN (ir rfl (zyG (zyR 2 rfl (zyN (zaA (cx (bP (bP (cx (cx (bP (bP (cx (bP ?_))))))))))))))))
         cases h
         exact cX 4 results97
        refine zyR 2 rfl (zbk h fun F t h=>fy a t aI gR rfl dc rfl rfl rfl (zab zdk rfl dc rfl (show _=(e+(m:Int).toNat)*3 from rfl) (jG (n:=e+(m:Int).toNat) (j:=0) (i:=5) (q:=F) d rfl (by omega) eZ rfl dc rfl (ce a t) rfl rfl (zaT rfl zbF (zyR 1 rfl (zyS (s:=95) rfl h (fun h=>?_) (fun h=>?_)))))))
        ·refine zyR 2 rfl (fy a t aI gR rfl dc rfl rfl rfl (zab zdk rfl dc rfl (show _=(e+(m:Int).toNat)*3 from rfl) (jG (n:=e+(m:Int).toNat) (j:=0) (i:=5) (q:=F) d rfl (by omega) eZ rfl dc rfl (ce a t) rfl rfl (zaT rfl io (zyR 2 rfl (zyN (zyB rfl h (fun h=>?_) (fun h=>?_))))))))
         ·refine zyG (zyR 2 rfl (zyN (zaA (cx (bP (bP (cx (cx (bP (bP (cx (bP ?_))))))))))))
          cases h
          exact cX 4 results97
         exact zap (cd (cL (F.Rune,decide ((48:Int)≤F.Rune),true,decide ((F.Rune:Int)≤57)) h rfl (bI rfl) ah))
        exact zyR 8 rfl (zyN (za8 rfl (zap (cd (cL (F.Rune,decide ((48:Int)≤F.Rune),false,false) h rfl (bI rfl) ah)))))
       rintro⟨x4,x5,x6,x7⟩ h
       rw[a0] at h
       refine bX (zyR 1 rfl (zbs h fun a7 h=>zaT rfl (dA (r:=m+1) (ai _ a7)) (zyR 1 rfl (zaB ?_))))
       subst y
       exact nB (I,m+1) h (ct _) rfl (bI rfl) ah
      exact dy (bV (bV (dz (cd (cL () h rfl (bI rfl) ah)))))
    rintro _ h
    rw[a1] at h
    refine bX (zbs h fun a6 h=>zaT rfl (dA (r:=E+1) (ai _ a6)) (zyR 1 rfl (zaB ?_)))
    subst z
    exact nB (J,E+1) h (ct _) rfl (bI rfl) ah
   exact dy (bV (bV (dz (cL () h rfl (rA) ah))))
 rintro _ h
 rw[a2] at h
 refine zyG (zyR 1 rfl (zyN (zaA ?_)))
 cases h
 exact cX 4 results97
def zdr (o1:dk) (h:List bN) (i:ad→Int→Option (ad×Int)) (j:ad→Int→ad→Int→Option (ad×Int)) (c:ad) (a:Int) (b:ad) (e:Int):Option (ad×Int) := aN (decide ((e:Int)≤(h.length:Int))) (aN (decide ((e:Int)≤8)) (aV (cr (e-1)) <|aT (zca h (e-1)) fun (q1:bN)=>aN (decide ((0:Int)≤q1.Rune)) (co (fun (l:ad→Int→ad→Option (ad×Int))=>co (fun (k:Int→Option (ad×Int))=>aV (cr (e-1)) <|aT (zca h (e-1)) fun (q2:bN)=>aT (rP q2.Rune) fun (r2:Bool)=>aN (r2) (aV (fB q2.Rune) <|k (cA q2.Rune)) (k q2.Rune)) (fun (r1:Int)=>aV (b.size+(ae r1).size≤9223372036854775807) <|aT (vu o1 (b++(ae r1))) fun (r3:Bool)=>aN (r3) (l (b++(ae r1)) e (b++(ae r1))) (l c a (b++(ae r1))))) (fun (g:ad) (d:Int) (f:ad)=>aV (cr (e+1)) <|j g d f (e+1))) (i c a)) (i c a)) (i c a)
def xy (o1:dk) (c:List bN):Option (ad×Int) := co (fun (d:ad→Int→Option (ad×Int))=>zaC (fun _ _ _ _=>none) (zdr o1 c d) zbx (⟨#[]⟩:ad) 0 (⟨#[]⟩:ad) 1) (fun (b:ad) (a:Int)=>some (b,a))
theorem UI {_h:Nat} {o1:dk} {_f _a _c _d:Hd} {g l:Value} {G:List bN} {f:Nat} {C:List bN} (k:Vw g G 3 f l C) {r:(ad×Int)} (h:xy o1 C=some r):iu prog 99 [zP _h,l] [cells _h [_f.v,.map (some (bi _a)),_c.v,_d.v] 39,bH _f.v o1.Units,dQ (bi _a) o1.Fors,bH _c.v o1.Skips,bH _d.v o1.Lines,jh o9 3 g f G] [] (fun _:Unit=>(.tuple #[.string r.1,zI r.2])) (fun _=>[]):=by
 unfold xy at h
 refine iu.intro func99 rfl ntmps99 (by simp) (fun w0 K t=>zbq h fun I P h=>zaL (β:=ad×Int) 3 rfl (fun b=>I b.1 b.2=some r) (fun b=>[]) (fun b=>[(6,.string b.1),(7,zI b.2)]) (fun b=>[]) (fun cut=>?_) ?_)
 ·refine zyG (zyR 2 rfl (zyH (zyR 2 rfl (zyH (zyR 1 rfl (zyN (cut (zyG (zyR 1 rfl (zyN (zat (eF (β:=Nat×ad×Int×ad×Int) (fun b=>zaC (fun _ _ _ _=>none) (zdr o1 C I) b.1 b.2.1 b.2.2.1 b.2.2.2.1 b.2.2.2.2=some r) (fun b=>[]) (fun b=>[(0,zP _h),(1,l),(6,.string b.2.1),(7,zI b.2.2.1),(8,.string b.2.2.2.1),(9,zI b.2.2.2.2)]) (fun b=>[]) (fun b=>b.1) (zbx,(⟨#[]⟩:ad),0,(⟨#[]⟩:ad),1) (by exact h) rfl (bI rfl) ah ?_))))))))))))
  rintro⟨H,d,a,c,e⟩ h
  cases H with
  |zero=>exact ew h
  |succ H=>
   obtain⟨W,o⟩:∃ag,ag=zaC (fun _ _ _ _=>none) (zdr o1 C I) H:=⟨_,rfl⟩
   have h:zdr o1 C I W d a c e=some r:=by rw[o];exact h
   unfold zdr at h
   refine zaJ (zyG (zyR 2 rfl (zbT k rfl dc rfl aI (zaT rfl io (zyR 1 rfl (zyS (s:=15) rfl h (fun h=>?_) (fun h=>?_)))))))
   ·refine zyR 1 rfl (zaT rfl io (zyR 2 rfl (zyS (s:=19) rfl h (fun h=>?_) (fun h=>?_))))
    ·refine zyR 2 rfl (zbs h fun U h=>zaT rfl (k9 (r:=e-1) (ai _ U)) (zbk h fun q1 E h=>fy k E aI gR rfl dc rfl rfl rfl (zab zdk rfl dc rfl (show _=(f+(e-1:Int).toNat)*3 from rfl) (jG (n:=f+(e-1:Int).toNat) (j:=0) (i:=5) (q:=q1) t rfl (by omega) eZ rfl dc rfl (ce k E) rfl rfl (zaT rfl zbF (zyR 1 rfl (zyN (zyB rfl h (fun h=>?_) (fun h=>?_)))))))))
     ·refine zap (zaz (zbq h fun Z O h=>zaL (β:=ad×Int×ad) 0 rfl (fun b=>Z b.1 b.2.1 b.2.2=some r) (fun b=>[]) (fun b=>[(0,zP _h),(1,l),(6,.string b.1),(7,zI b.2.1),(8,.string b.2.2),(9,zI e),(16,zI e),(17,.bool (decide ((e:Int)≤8))),(20,l),(21,zI e),(22,zI (e-1)),(23,.pointer (some ⟨eO g,(f+(e-1:Int).toNat)*3,none⟩)),(24,.pointer (some ⟨eO g,(f+(e-1:Int).toNat)*3,none⟩)),(25,.int .i32 q1.Rune),(26,.bool (decide ((0:Int)≤q1.Rune)))]) (fun b=>[]) (fun cut=>?_) ?_))
      ·refine cut (zat (zbq h fun Y N h=>zaL (β:=Int) 1 rfl (fun b=>Y b=some r) (fun b=>[]) (fun b=>[(0,zP _h),(1,l),(6,.string d),(7,zI a),(8,.string c),(9,zI e),(10,.int .i32 b),(16,zI e),(17,.bool (decide ((e:Int)≤8))),(20,l),(21,zI e),(22,zI (e-1)),(23,.pointer (some ⟨eO g,(f+(e-1:Int).toNat)*3,none⟩)),(24,.pointer (some ⟨eO g,(f+(e-1:Int).toNat)*3,none⟩)),(25,.int .i32 q1.Rune),(26,.bool (decide ((0:Int)≤q1.Rune)))]) (fun b=>[]) (fun cut=>zyG (zyR 2 rfl (zbs h fun T h=>zaT rfl (k9 (r:=e-1) (ai _ T)) (zbk h fun q2 D h=>fy k D aI gR rfl dc rfl rfl rfl (zab zdk rfl dc rfl (show _=(f+(e-1:Int).toNat)*3 from rfl) (jG (n:=f+(e-1:Int).toNat) (j:=0) (i:=5) (q:=q2) t rfl (by omega) eZ rfl dc rfl (ce k D) rfl rfl (zyR 1 rfl (zyN (cut (zyG (zyR 1 rfl (zbk h fun r2 M h=>zaI (v:=.bool r2) (vs:=[.int .i32 q2.Rune]) rfl dc rfl rfl rfl yf (yV M) (zyN (zyB rfl h (fun h=>bX (zyR 1 rfl (zbs h fun F h=>zaI (v:=.int .i32 (cA q2.Rune)) (vs:=[.int .i32 q2.Rune]) rfl dc rfl rfl rfl AR (nC fun w=>A2 q2.Rune w F.1 F.2) (zyR 1 rfl (zaB (cL (cA q2.Rune) h rfl (bI rfl) ah)))))) (fun h=>zap (cL q2.Rune h rfl (bI rfl) ah)))))))))))))))) (fun r1 h=>?_)))
       rw[N] at h
       exact zyG (zyR 2 rfl (zcH rfl dc rfl (mi aZ an) (zbs h fun S h=>zaT rfl (lJ S) (zyR 1 rfl (zyH (zyR 2 rfl (zbk h fun r3 J h=>lg (v:=.bool r3) (vs:=[zP _h,.string (c++(ae r1))]) t rfl dc rfl rfl rfl HI (LC (_h:=_h) (o1:=o1) (_f:=_f) (_a:=_a) (_c:=_c) (_d:=_d) J) (.ro 0 rfl (.ro 1 rfl (.ro 2 rfl (.ro 3 rfl (.ro 4 rfl .nil))))) (zyN (zyB rfl h (fun h=>bX (zyR 4 rfl (zaB (cd (cL (c++(ae r1),e,c++(ae r1)) h rfl (bI rfl) ah))))) (fun h=>zap (cd (cL (d,a,c++(ae r1)) h rfl (bI rfl) ah))))))))))))
      rintro⟨y,m,u⟩ h
      rw[O] at h
      refine bX (zyR 1 rfl (zbs h fun Q h=>zaT rfl (dA (r:=e+1) (ai _ Q)) (zyR 1 rfl (zaB ?_))))
      subst o
      exact nB (H,y,m,u,e+1) h (ct _) rfl (bI rfl) ah
     exact dy (bV (bV (dz (cL (d,a) h rfl (bI rfl) ah))))
    exact zyR 8 rfl (zyN (za8 rfl (dy (bV (bV (dz (cL (d,a) h rfl (bI rfl) ah)))))))
   exact zyR 12 rfl (zyN (za8 rfl (dy (bV (bV (dz (cL (d,a) h rfl (bI rfl) ah)))))))
 rintro⟨V,z⟩ h
 rw[P] at h
 refine zyG (zyR 4 rfl (zyN (zaA ?_)))
 cases h
 exact eu (rs:=[.tmp 4,.tmp 5]) () (.inl rfl) results99 (.cons (.tmp rfl) (.cons (.tmp rfl) .nil)) rfl ah
def zbX (e:Int→Nat→(List ad)→Option (List cN)) (d:ad) (c:(List ad)→Nat→Option (List cN)) (a:List ad) (b:Nat):Option (List cN) := aN (decide (b<(eQ d.data.toList).length)) (aT ((eQ d.data.toList)[b]?) fun (p1:Pc)=>aV (a.length+1≤2147483648) <|c (a++[ae (p1.r:Int)]) (b+1)) (e 1 1 a)
def zbW (r2:(List bN)) (r3:Int) (d:Int) (f:Int) (h:Bool→Option (List cN)) (e:Bool→Int→Option (List cN)) (a:Bool) (c:Int):Option (List cN) := aN (decide ((c:Int)<((dK (dK r2 r3 (r2.length:Int)) d (d+f)).length:Int))) (co (fun (g:Bool→Option (List cN))=>aT (zca (dK (dK r2 r3 (r2.length:Int)) d (d+f)) c) fun (q2:bN)=>aN (a) (g true) (aV (fB q2.Rune) <|g (great q2.Rune))) (fun (b:Bool)=>aV (cr (c+1)) <|e b (c+1))) (h a)
def zbK (r2:(List bN)) (r3:Int) (c:Int→ad→Option (List cN)) (d:Int→ad→Option (List cN)) (b:Int) (a:ad):Option (List cN) := aN (decide ((b:Int)<((dK r2 r3 (r2.length:Int)).length:Int))) (aT (zca (dK r2 r3 (r2.length:Int)) b) fun (f:bN)=>aN (decide ((0:Int)≤f.Rune)) (aT (rf f.Rune) fun (g:Bool)=>aN (g) (aT (zca (dK r2 r3 (r2.length:Int)) b) fun (e:bN)=>aV (a.size+e.Text.size≤9223372036854775807) <|aV (cr (b+1)) <|d (b+1) (a++e.Text)) (c b a)) (c b a)) (c b a)
def zbV (o1:dk) (a:List ad) (c:Bool) (h:(List cN)→Option (List cN)) (e:(List cN)→Int→Option (List cN)) (b:List cN) (d:Int):Option (List cN) := aN (decide ((d:Int)<(a.length:Int))) (aT (zca a d) fun (g:ad)=>aT (se o1 g) fun (f:Int)=>aV (b.length+1≤2147483648) <|aV (cr (d+1)) <|e (b++[(⟨3,ac,f,ac,c⟩:cN)]) (d+1)) (h b)
def zbU (r2:(List bN)) (r3:Int) (c:Int→ad→Option (List cN)) (d:Int→ad→Option (List cN)) (b:Int) (a:ad):Option (List cN) := aN (decide ((b:Int)<((dK r2 r3 (r2.length:Int)).length:Int))) (aT (zca (dK r2 r3 (r2.length:Int)) b) fun (f:bN)=>aN (decide ((48:Int)≤f.Rune)) (aN (decide ((f.Rune:Int)≤57)) (aT (zca (dK r2 r3 (r2.length:Int)) b) fun (e:bN)=>aV (a.size+e.Text.size≤9223372036854775807) <|aV (cr (b+1)) <|d (b+1) (a++e.Text)) (c b a)) (c b a)) (c b a)
def zcC (o1:dk) (J:(List cN)→Option (List cN)) (r2:(List bN)) (r3:Int) (d:(List cN)→Int→Option (List cN)) (a:List cN) (b:Int):Option (List cN) := aN (decide ((b:Int)<((dK r2 r3 (r2.length:Int)).length:Int))) (co (fun (w:Int→ad→Int→Int→Option (List cN))=>aT (zca (dK r2 r3 (r2.length:Int)) b) fun (q1:bN)=>aN (decide ((0:Int)≤q1.Rune)) (aV (fB q1.Rune) <|w q1.Rune q1.Text q1.At (kind q1.Rune)) (w q1.Rune q1.Text q1.At 0)) (fun (x1:Int) (x2:ad) (N:Int) (zmo:Int)=>aN (decide ((x1:Int)<0)) (aT (jQ x2 0) fun (c1:Int)=>aV (cr c1) <|aV (a.length+1≤2147483648) <|aV (cr (b+1)) <|d (a++[(⟨4,ac,c1,ac,false⟩:cN)]) (b+1)) (aN ((zmo:Int)==1) (co (fun (v:Int→Nat→(List ad)→Option (List cN))=>aV (0≤(b:Int)∧(b:Int)≤((dK r2 r3 (r2.length:Int)).length:Int)∧(((dK r2 r3 (r2.length:Int)).length:Int):Int)≤((dK r2 r3 (r2.length:Int)).length:Int)) <|aT (xy o1 (dK (dK r2 r3 (r2.length:Int)) b ((dK r2 r3 (r2.length:Int)).length:Int))) fun (m:(ad×Int))=>aN ((m.2:Int)==0) (aV (fB x1) <|aT (sR (ae (cA x1))) fun (C:ad)=>zaC (fun _ _=>none) (zbX v C) zbx ([]:List ad) 0) (aT (se o1 m.1) fun (z:Int)=>aN (decide ((0:Int)≤z)) (v m.2 1 ([m.1]:List ad)) (aT ((zbP m.1 o1.Fors)) fun (r:List ad)=>v m.2 2 r))) (fun (n:Int) (E:Nat) (e:List ad)=>co (fun (I:Bool→Option (List cN))=>aV (cr (b+n)) <|aV (0≤(b:Int)∧(b:Int)≤(b+n)∧(b+n:Int)≤((dK r2 r3 (r2.length:Int)).length:Int)) <|zaC (fun _ _=>none) (zbW r2 r3 b n I) zbx false 0) (fun (h:Bool)=>co (fun (H:Int→ad→Option (List cN))=>aV (cr (b+n)) <|zaC (fun _ _=>none) (zbK r2 r3 H) zbx (b+n) (⟨#[]⟩:ad)) (fun (M:Int) (g:ad)=>co (fun (G:(List cN)→Option (List cN))=>zaC (fun _ _=>none) (zbV o1 e h G) zbx a 0) (fun (c:List cN)=>aV (cr ((c.length:Int)-1)) <|aT (zca c ((c.length:Int)-1)) fun (q:cN)=>d (c.set ((c.length:Int)-1:Int).toNat (⟨q.Sort_,q.Digits,q.Place,g,q.Great⟩:cN)) M))))) (aN ((zmo:Int)==3) (co (fun (F:Int→ad→Option (List cN))=>zaC (fun _ _=>none) (zbU r2 r3 F) zbx b (⟨#[]⟩:ad)) (fun (K:Int) (f:ad)=>aT (zV f) fun (y:ad)=>aV (a.length+1≤2147483648) <|d (a++[(⟨2,y,0,ac,false⟩:cN)]) K)) (aN ((zmo:Int)==4) (co (fun (u:(List cN)→Option (List cN))=>aN (decide ((0:Int)<(a.length:Int))) (aV (cr ((a.length:Int)-1)) <|aT (zca a ((a.length:Int)-1)) fun (D:cN)=>aN ((D.Sort_:Int) != 1) (aV (a.length+1≤2147483648) <|u (a++[(⟨1,ac,0,ac,false⟩:cN)])) (u a)) (u a)) (fun (o:List cN)=>aV (cr (b+1)) <|d o (b+1))) (aN ((zmo:Int)==5) (co (fun (l:(List cN)→Option (List cN))=>aN (decide ((0:Int)<(a.length:Int))) (aV (cr ((a.length:Int)-1)) <|aT (zca a ((a.length:Int)-1)) fun (t:cN)=>aN ((t.Sort_:Int) != 1) (aV (a.length+1≤2147483648) <|l (a++[(⟨1,ac,0,ac,false⟩:cN)])) (l a)) (l a)) (fun (j:List cN)=>aV (cr (b+1)) <|d j (b+1))) (aN ((zmo:Int)==6) (co (fun (k:(List cN)→Option (List cN))=>aN (decide ((0:Int)<(a.length:Int))) (aV (cr ((a.length:Int)-1)) <|aT (zca a ((a.length:Int)-1)) fun (s:cN)=>aN ((s.Sort_:Int) != 1) (aV (a.length+1≤2147483648) <|k (a++[(⟨1,ac,0,ac,false⟩:cN)])) (k a)) (k a)) (fun (i:List cN)=>aV (cr (b+1)) <|d i (b+1))) (aV (cr (b+1)) <|d a (b+1))))))))) (J a)
def xz (o1:dk) (t1:ad):Option (List cN) := co (fun (e:(List cN)→Option (List cN))=>aT (w4 t1) fun (r1:ad)=>aT (rQ r1) fun (r2:(List bN))=>aT (zW o1 r2) fun (r3:Int)=>aV (0≤(r3:Int)∧(r3:Int)≤(r2.length:Int)∧((r2.length:Int):Int)≤(r2.length:Int)) <|zaC (fun _ _=>none) (zcC o1 e r2 r3) zbx ([]:List cN) 0) (fun (a:List cN)=>co (fun (c:(List cN)→Option (List cN))=>aN (decide ((0:Int)<(a.length:Int))) (aV (cr ((a.length:Int)-1)) <|aT (zca a ((a.length:Int)-1)) fun (d:cN)=>aN ((d.Sort_:Int)==1) (aV (cr ((a.length:Int)-1)) <|aV (0≤((a.length:Int)-1:Int)∧((a.length:Int)-1:Int)≤(a.length:Int)) <|c (a.take ((a.length:Int)-1:Int).toNat)) (c a)) (c a)) (fun (b:List cN)=>some b))
theorem LD {_h:Nat} {o1:dk} {_f _a _c _d:Hd} {t1:ad} {r:(List cN)} (h:xz o1 t1=some r):iu prog 50 [zP _h,.string t1] [cells _h [_f.v,.map (some (bi _a)),_c.v,_d.v] 39,bH _f.v o1.Units,dQ (bi _a) o1.Fors,bH _c.v o1.Skips,bH _d.v o1.Lines] [] (fun v0:Value=>v0) (fun v0=>[jJ v0 r]):=by
 unfold xz at h
 refine iu.intro func50 rfl ntmps50 (by simp) (fun w0 K l=>?_)
 obtain⟨Lf,hj,l⟩:=l.fors (i:=2) rfl
 replace l:Rd _ _ [cells _h [_f.v,.map (some (bi _a)),_c.v,_d.v] 39,bH _f.v o1.Units,dQ (bi _a) o1.Fors,bH _c.v o1.Skips,bH _d.v o1.Lines,pM (bi _a) Lf,pr Lf]:=l
 refine zbq h fun j1 gT h=>zaL (β:=(List cN)×Hd) 4 rfl (fun b=>j1 b.1=some r) (fun b=>[]) (fun b=>[(6,b.2.v)]) (fun b=>[jJ b.2.v b.1]) (fun cut=>?_) ?_
 ·refine zyG (zyR 1 rfl (zyH (zyR 1 rfl (zbk h fun r1 go h=>zaI (v:=.string r1) (vs:=[.string t1]) rfl dc rfl rfl rfl HP (JB go) (zbk h fun r2 gf h=>zbN (vs:=[.string r1]) rfl dc rfl rfl rfl wj (wL gf) ah (fun v1=>iB (k:=0) rfl (fun o hg=>?_)))))))
  subst hg
  refine zyR 1 rfl (zyH (zyR 3 rfl (kU (k:=0) rfl (fun f3=>zbk h fun r3 ge h=>lg (v:=zI r3) (vs:=[zP _h,o.v]) l rfl dc rfl rfl rfl Ot (UH (_h:=_h) (o1:=o1) (_f:=_f) (_a:=_a) (_c:=_c) (_d:=_d) f3 ge) (.ro 0 rfl (.ro 1 rfl (.ro 2 rfl (.ro 3 rfl (.ro 4 rfl (.own (As:=[eI o.v r2]) (cp 1) (fun _ _ h=>oK jH (aF.1 h)) .nil)))))) (kU (k:=0) rfl (fun f2=>zbs h fun g6 h=>?_))))))
  obtain⟨v2,g,f7⟩:=oI (lo:=some (zI r3)) (hi:=none) f2 aI gR (.inr rfl) (.inl ⟨rfl,rfl⟩) g6
  refine iA rfl dc rfl rfl rfl f7 (zyR 1 rfl (zyH (zyR 1 rfl (zyN (cut (zyG (zyR 1 rfl (zaB (zaz (zat (nD (enc:=yk) (e:=100) (size:=5) (eF (β:=Nat×(List cN)×Int×Hd) (fun b=>zaC (fun _ _=>none) (zcC o1 j1 r2 r3) b.1 b.2.1 b.2.2.1=some r) (fun b=>[]) (fun b=>[(0,zP _h),(5,v2),(6,b.2.2.2.v),(7,zI b.2.2.1)]) (fun b=>[eI o.v r2,jJ b.2.2.2.v b.2.1]) (fun b=>b.1) (zbx,([]:List cN),0,eB) h rfl (bI rfl) (cp 2) ?_))))))))))))
  rintro⟨T,a,t,d⟩ h
  cases T with
  |zero=>exact ew h
  |succ T=>
   obtain⟨hq,D⟩:∃ag,ag=zaC (fun _ _=>none) (zcC o1 j1 r2 r3) T:=⟨_,rfl⟩
   have h:zcC o1 j1 r2 r3 hq a t=some r:=by rw[D];exact h
   unfold zcC at h
   refine zaJ (zyG (zyR 2 rfl (zbT g rfl dc rfl aI (zaT rfl zbd (zyN (zyB rfl h (fun h=>?_) (fun h=>?_)))))))
   ·refine zap (zaz (zat (zbq h fun j2 gF h=>zaL (β:=Int×ad×Int×Int×Nat) 2 rfl (fun b=>j2 b.1 b.2.1 b.2.2.1 b.2.2.2.1=some r) (fun b=>[]) (fun b=>[(0,zP _h),(5,v2),(6,d.v),(7,zI t),(8,zP b.2.2.2.2),(9,zI b.2.2.2.1)]) (fun b=>[eI o.v r2,jJ d.v a,cells b.2.2.2.2 [.int .i32 b.1,.string b.2.1,zI b.2.2.1] 81]) (fun cut=>zyG (zyR 2 rfl (zbk h fun q1 c4 h=>fy g c4 aI gR rfl dc rfl rfl rfl (mj (i:=0+(r3:Int).toNat+(t:Int).toNat) (j:=0) (k:=0) (q:=q1) (cs:=(fU q1)) l7 jH rfl dc rfl rfl (ce g c4) rfl rfl rfl (zbi zor rfl dc (fun b2=>eE (k:=2) (vs:=(fU q1)) (l':=(fU q1)) gR rfl rfl rfl rfl rfl (show _≤_ by simp) rfl rfl (zyH (zyR 1 rfl (zyN (cut (zyG (zab zdk rfl dc rfl (show _=0 from rfl) (zas (k:=2) eZ rfl dc rfl rfl rfl (zaT rfl zbF (zaB (zaz (zyB rfl h (fun h=>bX (zab zdk rfl dc rfl (show _=0 from rfl) (zas (k:=2) eZ rfl dc rfl rfl rfl (zbs h fun ec h=>zaI (v:=zI (kind q1.Rune)) (vs:=[.int .i32 q1.Rune]) rfl dc rfl rfl rfl Ou (nC fun w=>Ps q1.Rune w ec.1 ec.2) (zyR 1 rfl (zaB (mD (q1.Rune,q1.Text,q1.At,kind q1.Rune,b2) h 3))))))) (fun h=>zap (mD (q1.Rune,q1.Text,q1.At,0,b2) h 3))))))))))))))))))) ?_)))
    rintro⟨x1,x2,x3,zmo,b1⟩ h
    rw[gF] at h
    refine zat (zyG (zab zdk rfl dc rfl (show _=0 from rfl) (zas (k:=2) eZ rfl dc rfl rfl rfl (zaT rfl zbd (zyR 1 rfl (zyN (zyB rfl h (fun h=>?_) (fun h=>?_))))))))
    ·refine zyG (zyR 1 rfl (zab qT rfl dc rfl (show _=1 from rfl) (zas (k:=2) dU rfl dc rfl rfl rfl (zbk h fun c1 gc h=>nj rfl dc rfl rfl (pq an gc) (zbs h fun g5 h=>zcH rfl dc rfl (vG (r:=c1) underlying5 underlying3 (ai _ g5)) (zbf (v:=.agg #[zI 4,.string ac,zI c1,.string ac,.bool false]) (ps:=[(0,.const (zI 4)),(2,.tmp 56)]) rfl dc rfl (fun _=>by kernel_rfl) (fx (cs:=[zI 4,.string ac,zI c1,.string ac,.bool false]) (te:=100) (ps:=[(0,.tmp 57)]) rfl dc rfl (fun _=>by kernel_rfl) (fun b3=>zbs h fun g4 h=>iT (k:=1) (k2:=3) (ys:=[(⟨4,ac,c1,ac,false⟩:cN)]) bm wg lP wo rfl dc rfl rfl rfl rfl rfl rfl g4 (fun v3=>iB (k:=1) rfl (fun hh hf=>?_))))))))))
     subst hf
     refine zyR 1 rfl (zyN (bX (zyR 1 rfl (zbs h fun g3 h=>zaT rfl (dA (r:=t+1) (ai _ g3)) (zyR 1 rfl (zaB (cd (cd ?_))))))))
     subst D
     exact aD (T,a++[(⟨4,ac,c1,ac,false⟩:cN)],t+1,hh) h 2
    refine zyG (zyR 1 rfl (zaT rfl zbm (zyR 1 rfl (zyN (zyB rfl h (fun h=>?_) (fun h=>?_))))))
    ·refine zbq h fun j3 gB h=>zaL (β:=Int×Nat×(List ad)×Hd) 2 rfl (fun b=>j3 b.1 b.2.1 b.2.2.1=some r∧n0 b.2.1 b.2.2.2 b.2.2.1 Lf) (fun b=>[]) (fun b=>[(0,zP _h),(5,v2),(6,d.v),(7,zI t),(11,zI b.1),(12,b.2.2.2.v)]) (fun b=>[eI o.v r2,jJ d.v a,pb b.2.1 b.2.2.2 b.2.2.1]) (fun cut=>?_) ?_
     ·refine zyG (zyR 3 rfl (zbs h fun g2 h=>?_))
      obtain⟨v4,f4,f6⟩:=oI (lo:=some (zI t)) (hi:=none) g aI gR (.inr rfl) (.inl ⟨rfl,rfl⟩) g2
      refine iA rfl dc rfl rfl rfl f6 (zbk h fun U gb h=>lg (v:=.tuple #[.string U.1,zI U.2]) (vs:=[zP _h,v4]) l rfl dc rfl rfl rfl Ov (UI (_h:=_h) (o1:=o1) (_f:=_f) (_a:=_a) (_c:=_c) (_d:=_d) f4 gb) (.ro 0 rfl (.ro 1 rfl (.ro 2 rfl (.ro 3 rfl (.ro 4 rfl (.own (As:=[eI o.v r2]) (cp 1) (fun _ _ h=>G4 jH (aF.1 h)) .nil)))))) (zyR 1 rfl (eY rfl dc rfl rfl (eY rfl dc rfl rfl (zyR 2 rfl (zyH (zyR 1 rfl (zyN (cut (zat (zyG (zyR 1 rfl (zaT rfl zbm (zyR 1 rfl (zyN (zyB rfl h (fun h=>?_) (fun h=>?_)))))))))))))))))
      ·refine zyG (zyR 1 rfl (zyH (zab zdk rfl dc rfl (show _=0 from rfl) (zas (k:=2) eZ rfl dc rfl rfl rfl (zbs h fun dj h=>zaI (v:=.int .i32 (cA x1)) (vs:=[.int .i32 x1]) rfl dc rfl rfl rfl AR (nC fun w=>A2 x1 w dj.1 dj.2) (zcH rfl dc rfl (mi aZ an) (zbk h fun r5 ga h=>zaI (v:=.string r5) (vs:=[.string (ae (cA x1))]) rfl dc rfl rfl rfl AO (Bd ga) (uL an rfl dc rfl (fun b4=>zyN (zat (nD (enc:=hO) (e:=9) (size:=1) (eF (β:=Nat×(List ad)×Nat×Hd) (fun b=>zaC (fun _ _=>none) (zbX j3 r5) b.1 b.2.1 b.2.2.1=some r) (fun b=>[]) (fun b=>[(0,zP _h),(5,v2),(6,d.v),(7,zI t),(11,zI 1),(12,b.2.2.2.v),(87,zP b4)]) (fun b=>[eI o.v r2,jJ d.v a,bH b.2.2.2.v b.2.1,obj b4 (.stringIter r5 (mE r5 b.2.2.1))]) (fun b=>b.1) (zbx,([]:List ad),0,eB) (by exact h) rfl (bI rfl) (bW [0,1,4,3] kr rfl) ?_))))))))))))
       rintro⟨n3,G,m3,a8⟩ h
       cases n3 with
       |zero=>exact ew h
       |succ n3=>
        obtain⟨ho,bs⟩:∃ag,ag=zaC (fun _ _=>none) (zbX j3 r5) n3:=⟨_,rfl⟩
        have h:zbX j3 r5 ho G m3=some r:=by rw[bs];exact h
        unfold zbX at h
        refine zyG (tI (b:=decide (m3<(eQ r5.data.toList).length)) (fun W=>?_) (fun W=>?_))
        ·have h:=oF W h
         refine zbk h fun p1 f9 h=>uM (k:=3) (m:=m3) (p:=p1) rfl dc rfl rfl f9 (eY rfl dc rfl rfl (zyN (zaJ (ir rfl (zap (zaz (zat (zyG (eY rfl dc rfl rfl (zyR 1 rfl (zaB (zaz (bX (zyR 2 rfl (zcH rfl dc rfl (mi aZ an) (fx (cs:=[.string (ae (p1.r:Int))]) (te:=9) (ps:=[(0,.tmp 93)]) rfl dc rfl (fun _=>by kernel_rfl) (fun b5=>zbs h fun g1 h=>iT (k:=2) (k2:=4) (ys:=[ae (p1.r:Int)]) aK oM gK o6 rfl dc rfl rfl rfl rfl rfl rfl g1 (fun v5=>iB (k:=2) rfl (fun e9 he=>?_)))))))))))))))))))
         subst he
         refine zyR 1 rfl (zaB (cd ?_))
         subst bs
         exact aD (n3,G++[ae (p1.r:Int)],m3+1,e9) h 4
        have h:=oG W h
        exact uN (k:=3) (m:=m3) rfl dc rfl rfl (Nat.le_of_not_lt (of_decide_eq_false W)) (eY rfl dc rfl rfl (zyN (zaJ (za8 rfl (Mk (k:=2) rfl (DP (hd:=a8)) (dy (bV (bV (dz (cd (cL (1,1,G,a8) ⟨h,n0.own⟩ rfl (bI rfl) (cp 3))))))))))))
      exact zyG (zyR 2 rfl (zbk h fun r6 f8 h=>lg (v:=zI r6) (vs:=[zP _h,.string U.1]) l rfl dc rfl rfl rfl ye (zQ (_h:=_h) (o1:=o1) (_f:=_f) (_a:=_a) (_c:=_c) (_d:=_d) f8) (.ro 0 rfl (.ro 1 rfl (.ro 2 rfl (.ro 3 rfl (.ro 4 rfl .nil))))) (zaT rfl zbF (zyR 1 rfl (zyN (zyB rfl h (fun h=>bX (zyR 1 rfl (fx (cs:=[.string U.1]) (te:=9) (ps:=[(0,.tmp 101)]) rfl dc rfl (fun _=>by kernel_rfl) (fun b6=>zyR 1 rfl (nE ([U.1]:List ad) (k:=3) rfl gK rfl (show 1≤maxLen by decide) (qp (k:=3) rfl (DP (hd:=(⟨some ⟨b6,0,none⟩,1,1⟩:Hd))) (zaB (cd (cL (U.2,1,([U.1]:List ad),(⟨some ⟨b6,0,none⟩,1,1⟩:Hd)) ⟨h,n0.own⟩ rfl (bI rfl) (bW [0,1,3] kr rfl)))))))))) (fun h=>bX (zyR 1 rfl (zbc rfl dc rfl (zab zuk rfl dc rfl (show _=1 from rfl) (zeo (i:=0) l rfl vY rfl dc rfl rfl (zyR 1 rfl (PT (i:=5) (kk:=U.1) hj an tu kr rfl dc rfl rfl l rfl (fun a7 f0=>zyR 1 rfl (zbk h fun b0 dd h=>GU (qp (k:=3) rfl (Iq (hd:=a7) (xs:=b0)) (zaB (cd (cL (U.2,2,b0,a7) ⟨h,(n0.map (f0 b0 dd))⟩ rfl (bI rfl) (bW [0,1,3] kr rfl))))))))))))))))))))
     rintro⟨N,Q,c,z⟩ ⟨h,f1⟩
     rw[gB] at h
     refine zbq h fun j4 gz h=>zaL (β:=Bool) 1 rfl (fun b=>j4 b=some r) (fun b=>[]) (fun b=>[(0,zP _h),(5,v2),(6,d.v),(7,zI t),(11,zI N),(12,z.v),(15,.bool b)]) (fun b=>[eI o.v r2,jJ d.v a,pb Q z c]) (fun cut=>?_) ?_
     ·refine zyG (zyR 1 rfl (zyN (cut (zyG (zyR 4 rfl (zbs h fun g0 h=>zaT rfl (dA (r:=t+N) (ai _ g0)) (zbs h fun ey h=>?_)))))))
      obtain⟨v6,cv,f5⟩:=oI (lo:=some (zI t)) (hi:=some (zI (t+N))) g aI gR (.inr rfl) (.inr rfl) ey
      refine iA rfl dc rfl rfl rfl f5 (zbT cv rfl dc rfl aI (zyR 1 rfl (zyN (zat (eF (β:=Nat×Bool×Int) (fun b=>zaC (fun _ _=>none) (zbW r2 r3 t N j4) b.1 b.2.1 b.2.2=some r) (fun b=>[]) (fun b=>[(0,zP _h),(5,v2),(6,d.v),(7,zI t),(11,zI N),(12,z.v),(15,.bool b.2.1),(108,v6),(109,zI ((dK (dK r2 r3 (r2.length:Int)) t (t+N)).length:Int)),(110,zI b.2.2)]) (fun b=>[eI o.v r2,jJ d.v a,pb Q z c]) (fun b=>b.1) (zbx,false,0) h rfl (bI rfl) (cp 3) ?_)))))
      rintro⟨n4,M,x6⟩ h
      cases n4 with
      |zero=>exact ew h
      |succ n4=>
       obtain⟨hn,bk⟩:∃ag,ag=zaC (fun _ _=>none) (zbW r2 r3 t N j4) n4:=⟨_,rfl⟩
       have h:zbW r2 r3 t N j4 hn M x6=some r:=by rw[bk];exact h
       unfold zbW at h
       refine zyG (zaT rfl zbd (zyN (zaJ (zyB rfl h (fun h=>?_) (fun h=>?_)))))
       ·refine zap (zaz (zbq h fun j5 gy h=>zaL (β:=Bool) 0 rfl (fun b=>j5 b=some r) (fun b=>[]) (fun b=>[(0,zP _h),(5,v2),(6,d.v),(7,zI t),(11,zI N),(12,z.v),(15,.bool b),(108,v6),(109,zI ((dK (dK r2 r3 (r2.length:Int)) t (t+N)).length:Int)),(110,zI x6)]) (fun b=>[eI o.v r2,jJ d.v a,pb Q z c]) (fun cut=>cut (zat (zyG (zbk h fun q2 a5 h=>fy cv a5 aI gR rfl dc rfl rfl rfl (mj (i:=0+(r3:Int).toNat+(t:Int).toNat+(x6:Int).toNat) (j:=0) (k:=0) (q:=q2) (cs:=(fU q2)) l7 jH rfl dc rfl rfl (ce cv a5) rfl rfl rfl (zbi zor rfl dc (fun b7=>eE (k:=3) (vs:=(fU q2)) (l':=(fU q2)) gR rfl rfl rfl rfl rfl (show _≤_ by simp) rfl rfl (zyN (bX (zyR 2 rfl (zyS (s:=115) rfl h (fun h=>zyR 5 rfl (zaB (cd (mD true h 3)))) (fun h=>zab zdk rfl dc rfl (show _=0 from rfl) (zas (k:=3) eZ rfl dc rfl rfl rfl (zbs h fun a6 h=>zaI (v:=.bool (great q2.Rune)) (vs:=[.int .i32 q2.Rune]) rfl dc rfl rfl rfl HQ (nC fun w=>yr q2.Rune w a6.1 a6.2) (zyR 2 rfl (zaB (cd (mD (great q2.Rune) h 3)))))))))))))))))) (fun Y h=>?_)))
        rw[gy] at h
        refine bX (zbs h fun ex h=>zaT rfl (dA (r:=x6+1) (ai _ ex)) (zyR 1 rfl (zaB ?_)))
        subst bk
        exact aD (n4,Y,x6+1) h 3
       exact dy (bV (bV (dz (mD M h 3))))
     rintro f h
     rw[gz] at h
     refine zbq h fun j6 gx h=>zaL (β:=Int×ad) 2 rfl (fun b=>j6 b.1 b.2=some r) (fun b=>[]) (fun b=>[(0,zP _h),(5,v2),(6,d.v),(7,zI b.1),(12,z.v),(15,.bool f),(18,.string b.2)]) (fun b=>[eI o.v r2,jJ d.v a,pb Q z c]) (fun cut=>?_) ?_
     ·refine zyG (zyR 2 rfl (zbs h fun et h=>zaT rfl (dA (r:=t+N) (ai _ et)) (zyR 1 rfl (zyH (zyR 1 rfl (zyN (cut (zat (eF (β:=Nat×Int×ad) (fun b=>zaC (fun _ _=>none) (zbK r2 r3 j6) b.1 b.2.1 b.2.2=some r) (fun b=>[]) (fun b=>[(0,zP _h),(5,v2),(6,d.v),(7,zI b.2.1),(12,z.v),(15,.bool f),(18,.string b.2.2)]) (fun b=>[eI o.v r2,jJ d.v a,pb Q z c]) (fun b=>b.1) (zbx,t+N,(⟨#[]⟩:ad)) (by exact h) rfl (bI rfl) (cp 3) ?_)))))))))
      rintro⟨n5,O,y⟩ h
      cases n5 with
      |zero=>exact ew h
      |succ n5=>
       obtain⟨hm,bh⟩:∃ag,ag=zaC (fun _ _=>none) (zbK r2 r3 j6) n5:=⟨_,rfl⟩
       have h:zbK r2 r3 j6 hm O y=some r:=by rw[bh];exact h
       unfold zbK at h
       refine zaJ (zyG (zyR 2 rfl (zbT g rfl dc rfl aI (zaT rfl zbd (zyR 1 rfl (zyS (s:=128) rfl h (fun h=>?_) (fun h=>?_)))))))
       ·refine zyR 2 rfl (zbk h fun q3 J h=>fy g J aI gR rfl dc rfl rfl rfl (zab zdk rfl dc rfl (show _=(0+(r3:Int).toNat+(O:Int).toNat)*3 from rfl) (fw (i:=0+(r3:Int).toNat+(O:Int).toNat) (j:=0) (k:=0) (q:=q3) eZ jH rfl dc rfl rfl (ce g J) rfl dc rfl (zaT rfl zbF (zyR 2 rfl (zyS (s:=136) rfl h (fun h=>?_) (fun h=>?_)))))))
        ·refine zyR 2 rfl (fy g J aI gR rfl dc rfl rfl rfl (zab zdk rfl dc rfl (show _=(0+(r3:Int).toNat+(O:Int).toNat)*3 from rfl) (fw (i:=0+(r3:Int).toNat+(O:Int).toNat) (j:=0) (k:=0) (q:=q3) eZ jH rfl dc rfl rfl (ce g J) rfl dc rfl (zbk h fun r7 db h=>zaI (v:=.bool r7) (vs:=[.int .i32 q3.Rune]) rfl dc rfl rfl rfl yg (yW db) (zyR 1 rfl (zyN (zyB rfl h (fun h=>?_) (fun h=>?_))))))))
         ·refine zap (zaz (zat (zyG (zyR 3 rfl (zbk h fun q4 a4 h=>fy g a4 aI gR rfl dc rfl rfl rfl (zab qT rfl dc rfl (show _=(0+(r3:Int).toNat+(O:Int).toNat)*3+1 from rfl) (fw (i:=0+(r3:Int).toNat+(O:Int).toNat) (j:=1) (k:=0) (q:=q4) dU jH rfl dc rfl rfl (ce g a4) rfl dc rfl (zbs h fun es h=>zaT rfl (lJ es) (zyR 1 rfl (zyN (bX (zyR 1 rfl (zbs h fun eq h=>zaT rfl (dA (r:=O+1) (ai _ eq)) (zyR 1 rfl (zaB (cd ?_))))))))))))))))
          subst bh
          exact aD (n5,O+1,y++q4.Text) h 3
         exact dy (bV (bV (dz (mD (O,y) h 3))))
        exact zyR 7 rfl (zyN (za8 rfl (dy (bV (bV (dz (mD (O,y) h 3)))))))
       exact zyR 14 rfl (zyR 1 rfl (zyN (za8 rfl (dy (bV (bV (dz (mD (O,y) h 3))))))))
     rintro⟨i4,F⟩ h
     rw[gx] at h
     refine zbq h fun j7 gt h=>zaL (β:=(List cN)×Hd) 0 rfl (fun b=>j7 b.1=some r) (fun b=>[]) (fun b=>[(0,zP _h),(5,v2),(6,b.2.v),(7,zI i4),(18,.string F)]) (fun b=>[eI o.v r2,jJ b.2.v b.1]) (fun cut=>?_) ?_
     ·refine cut (zyG (PS (i:=6) (bW [2] kr rfl) f1 rfl l (fun hr hy c3 l=>?_)))
      replace l:Rd _ _ [cells _h [_f.v,.map (some (bi _a)),_c.v,_d.v] 39,bH _f.v o1.Units,dQ (bi _a) o1.Fors,bH _c.v o1.Skips,bH _d.v o1.Lines,pM (bi _a) Lf,pr Lf,mo hO 1 z c]:=l
      obtain⟨fb,k1,L1,c0,l⟩:=l.openSl (i:=7) rfl
      replace l:Rd _ _ [cells _h [_f.v,.map (some (bi _a)),_c.v,_d.v] 39,bH _f.v o1.Units,dQ (bi _a) o1.Fors,bH _c.v o1.Skips,bH _d.v o1.Lines,pM (bi _a) Lf,pr Lf,mo hO 1 z c,jh hO 1 fb k1 L1]:=l
      refine zyR 1 rfl (zbT c0 rfl dc rfl aK (zyR 1 rfl (zyN (zat (eF (β:=Nat×(List cN)×Int×Hd) (fun b=>zaC (fun _ _=>none) (zbV o1 c f j7) b.1 b.2.1 b.2.2.1=some r) (fun b=>[]) (fun b=>[(0,zP _h),(5,v2),(6,b.2.2.2.v),(7,zI i4),(15,.bool f),(18,.string F),(153,z.v),(154,zI (c.length:Int)),(155,zI b.2.2.1)]) (fun b=>[eI o.v r2,jJ b.2.2.2.v b.2.1]) (fun b=>b.1) (zbx,a,0,d) h rfl (bI rfl) (cp 2) ?_)))))
      rintro⟨n6,P,x9,e7⟩ h
      cases n6 with
      |zero=>exact ew h
      |succ n6=>
       obtain⟨hl,bb⟩:∃ag,ag=zaC (fun _ _=>none) (zbV o1 c f j7) n6:=⟨_,rfl⟩
       have h:zbV o1 c f j7 hl P x9=some r:=by rw[bb];exact h
       unfold zbV at h
       refine zyG (zaT rfl zbd (zyN (zaJ (zyB rfl h (fun h=>?_) (fun h=>?_)))))
       ·refine zap (zaz (zaJ (zat (zyG (zbk h fun q5 a3 h=>fy c0 a3 aK gV rfl dc rfl rfl rfl (jG (n:=k1+(x9:Int).toNat) (j:=0) (i:=8) (q:=q5) l rfl (by omega) dU rfl dc rfl (ce c0 a3) rfl rfl (zyR 1 rfl (zyN (bX (zyR 3 rfl (zbk h fun r8 da h=>lg (v:=zI r8) (vs:=[zP _h,.string q5]) l rfl dc rfl rfl rfl ye (zQ (_h:=_h) (o1:=o1) (_f:=_f) (_a:=_a) (_c:=_c) (_d:=_d) da) (.ro 0 rfl (.ro 1 rfl (.ro 2 rfl (.ro 3 rfl (.ro 4 rfl .nil))))) (zyR 1 rfl (zbf (v:=.agg #[zI 3,.string ac,zI r8,.string ac,.bool f]) (ps:=[(0,.const (zI 3)),(2,.tmp 162),(4,.tmp 163)]) rfl dc rfl (fun _=>by kernel_rfl) (fx (cs:=[zI 3,.string ac,zI r8,.string ac,.bool f]) (te:=100) (ps:=[(0,.tmp 164)]) rfl dc rfl (fun _=>by kernel_rfl) (fun b8=>zbs h fun en h=>iT (k:=1) (k2:=2) (ys:=[(⟨3,ac,r8,ac,f⟩:cN)]) bm wg lP wo rfl dc rfl rfl rfl rfl rfl rfl en (fun v7=>iB (k:=1) rfl (fun e6 hc=>?_)))))))))))))))))
        subst hc
        refine zyR 1 rfl (zaB (cd (zaz (bX (zbs h fun em h=>zaT rfl (dA (r:=x9+1) (ai _ em)) (zyR 1 rfl (zaB ?_)))))))
        subst bb
        exact aD (n6,P++[(⟨3,ac,r8,ac,f⟩:cN)],x9+1,e6) h 2
       exact dy (bV (bV (dz (DO c3 (mD (P,e7) h 2)))))
     rintro⟨H,e8⟩ h
     rw[gt] at h
     refine bX (zyR 2 rfl (gZ (k:=1) rfl dc rfl rfl bm (zbs h fun ek h=>zaT rfl (k9 (r:=(H.length:Int)-1) (ai _ ek)) (zyR 1 rfl (zbk h fun V a2 h=>eJ (k:=1) a2 bm nG rfl dc rfl rfl rfl rfl (zab Dd rfl dc rfl (show _=(((H.length:Int)-1:Int).toNat)*5+3 from rfl) (qs (i:=((H.length:Int)-1:Int).toNat) (j:=3) (k:=1) (q:=V) (q':=(⟨V.Sort_,V.Digits,V.Place,F,V.Great⟩:cN)) gV lP rfl rfl rfl rfl (ei a2) rfl dc rfl (fun _ _=>rfl) (zaB (cd (cd ?_))))))))))
     subst D
     exact aD (T,H.set ((H.length:Int)-1:Int).toNat (⟨V.Sort_,V.Digits,V.Place,F,V.Great⟩:cN),i4,e8) h 2
    refine zyG (zyR 1 rfl (zaT rfl zbm (zyR 1 rfl (zyN (zyB rfl h (fun h=>?_) (fun h=>?_))))))
    ·refine zbq h fun j8 gs h=>zaL (β:=Int×ad) 1 rfl (fun b=>j8 b.1 b.2=some r) (fun b=>[]) (fun b=>[(0,zP _h),(5,v2),(6,d.v),(7,zI b.1),(21,.string b.2)]) (fun b=>[eI o.v r2,jJ d.v a]) (fun cut=>?_) ?_
     ·refine zyG (zyR 1 rfl (zyN (cut (zat (eF (β:=Nat×Int×ad) (fun b=>zaC (fun _ _=>none) (zbU r2 r3 j8) b.1 b.2.1 b.2.2=some r) (fun b=>[]) (fun b=>[(0,zP _h),(5,v2),(6,d.v),(7,zI b.2.1),(21,.string b.2.2)]) (fun b=>[eI o.v r2,jJ d.v a]) (fun b=>b.1) (zbx,t,(⟨#[]⟩:ad)) (by exact h) rfl (bI rfl) (cp 2) ?_)))))
      rintro⟨n7,E,u⟩ h
      cases n7 with
      |zero=>exact ew h
      |succ n7=>
       obtain⟨hk,a9⟩:∃ag,ag=zaC (fun _ _=>none) (zbU r2 r3 j8) n7:=⟨_,rfl⟩
       have h:zbU r2 r3 j8 hk E u=some r:=by rw[a9];exact h
       unfold zbU at h
       refine zaJ (zyG (zyR 2 rfl (zbT g rfl dc rfl aI (zaT rfl zbd (zyR 1 rfl (zyS (s:=182) rfl h (fun h=>?_) (fun h=>?_)))))))
       ·refine zyR 2 rfl (zbk h fun q7 I h=>fy g I aI gR rfl dc rfl rfl rfl (zab zdk rfl dc rfl (show _=(0+(r3:Int).toNat+(E:Int).toNat)*3 from rfl) (fw (i:=0+(r3:Int).toNat+(E:Int).toNat) (j:=0) (k:=0) (q:=q7) eZ jH rfl dc rfl rfl (ce g I) rfl dc rfl (zaT rfl zbF (zyR 2 rfl (zyS (s:=190) rfl h (fun h=>?_) (fun h=>?_)))))))
        ·refine zyR 2 rfl (fy g I aI gR rfl dc rfl rfl rfl (zab zdk rfl dc rfl (show _=(0+(r3:Int).toNat+(E:Int).toNat)*3 from rfl) (fw (i:=0+(r3:Int).toNat+(E:Int).toNat) (j:=0) (k:=0) (q:=q7) eZ jH rfl dc rfl rfl (ce g I) rfl dc rfl (zaT rfl io (zyR 1 rfl (zyN (zyB rfl h (fun h=>?_) (fun h=>?_))))))))
         ·refine zap (zaz (zat (zyG (zyR 3 rfl (zbk h fun q8 a1 h=>fy g a1 aI gR rfl dc rfl rfl rfl (zab qT rfl dc rfl (show _=(0+(r3:Int).toNat+(E:Int).toNat)*3+1 from rfl) (fw (i:=0+(r3:Int).toNat+(E:Int).toNat) (j:=1) (k:=0) (q:=q8) dU jH rfl dc rfl rfl (ce g a1) rfl dc rfl (zbs h fun eg h=>zaT rfl (lJ eg) (zyR 1 rfl (zyN (bX (zyR 1 rfl (zbs h fun eb h=>zaT rfl (dA (r:=E+1) (ai _ eb)) (zyR 1 rfl (zaB (cd ?_))))))))))))))))
          subst a9
          exact aD (n7,E+1,u++q8.Text) h 2
         exact dy (bV (bV (dz (mD (E,u) h 2))))
        exact zyR 7 rfl (zyN (za8 rfl (dy (bV (bV (dz (mD (E,u) h 2)))))))
       exact zyR 14 rfl (zyR 1 rfl (zyN (za8 rfl (dy (bV (bV (dz (mD (E,u) h 2))))))))
     rintro⟨i8,S⟩ h
     rw[gs] at h
     refine bX (zyR 2 rfl (zbk h fun r9 c5 h=>zaI (v:=.string r9) (vs:=[.string S,.string (⟨#[48]⟩:ad)]) rfl dc rfl rfl rfl Ow (UG c5) (zbf (v:=.agg #[zI 2,.string r9,zI 0,.string ac,.bool false]) (ps:=[(0,.const (zI 2)),(1,.tmp 209)]) rfl dc rfl (fun _=>by kernel_rfl) (fx (cs:=[zI 2,.string r9,zI 0,.string ac,.bool false]) (te:=100) (ps:=[(0,.tmp 210)]) rfl dc rfl (fun _=>by kernel_rfl) (fun b9=>zbs h fun ea h=>iT (k:=1) (k2:=2) (ys:=[(⟨2,r9,0,ac,false⟩:cN)]) bm wg lP wo rfl dc rfl rfl rfl rfl rfl rfl ea (fun v8=>iB (k:=1) rfl (fun e5 hb=>?_)))))))
     subst hb
     refine zyR 1 rfl (zaB (cd (cd ?_)))
     subst D
     exact aD (T,a++[(⟨2,r9,0,ac,false⟩:cN)],i8,e5) h 2
    refine zyG (zyR 1 rfl (zaT rfl zbm (zyR 1 rfl (zyS (s:=216) rfl h (fun h=>?_) (fun h=>?_)))))
    ·refine zyR 8 rfl (zyN (ir rfl (zbq h fun j9 gr h=>zaL (β:=(List cN)×Hd) 0 rfl (fun b=>j9 b.1=some r) (fun b=>[]) (fun b=>[(0,zP _h),(5,v2),(6,b.2.v),(7,zI t),(217,undef),(218,undef),(221,undef),(222,undef)]) (fun b=>[eI o.v r2,jJ b.2.v b.1]) (fun cut=>?_) ?_)))
     ·refine cut (zyG (zyR 1 rfl (gZ (k:=1) rfl dc rfl rfl bm (zyR 1 rfl (zyH (zyR 1 rfl (zaT rfl zd4 (zyR 1 rfl (zyS (s:=228) rfl h (fun h=>?_) (fun h=>?_))))))))))
      ·refine zyR 2 rfl (zbs h fun d9 h=>zaT rfl (k9 (r:=(a.length:Int)-1) (ai _ d9)) (zbk h fun q9 a0 h=>eJ (k:=1) a0 bm nG rfl dc rfl rfl rfl rfl (zab we rfl dc rfl (show _=(((a.length:Int)-1:Int).toNat)*5 from rfl) (fw (i:=((a.length:Int)-1:Int).toNat) (j:=0) (k:=1) (q:=q9) dO lP rfl dc rfl rfl (ei a0) rfl dc rfl (zaT rfl zed (zyR 1 rfl (zyN (zyB rfl h (fun h=>?_) (fun h=>?_)))))))))
       ·refine bX (zyR 1 rfl (zbf (v:=.agg #[zI 1,.string ac,zI 0,.string ac,.bool false]) (ps:=[(0,.const (zI 1))]) rfl dc rfl (fun _=>by kernel_rfl) (fx (cs:=[zI 1,.string ac,zI 0,.string ac,.bool false]) (te:=100) (ps:=[(0,.tmp 238)]) rfl dc rfl (fun _=>by kernel_rfl) (fun hx=>zbs h fun d8 h=>iT (k:=1) (k2:=3) (ys:=[(⟨1,ac,0,ac,false⟩:cN)]) bm wg lP wo rfl dc rfl rfl rfl rfl rfl rfl d8 (fun v9=>iB (k:=1) rfl (fun e3 ha=>?_))))))
        subst ha
        exact zyR 1 rfl (zaB (mD (a++[(⟨1,ac,0,ac,false⟩:cN)],e3) h 2))
       exact zap (mD (a,d) h 2)
      exact zyR 8 rfl (zyN (za8 rfl (zap (mD (a,d) h 2))))
     rintro⟨c2,e4⟩ h
     rw[gr] at h
     refine bX (zyR 1 rfl (zbs h fun d7 h=>zaT rfl (dA (r:=t+1) (ai _ d7)) (zyR 1 rfl (zaB (cd (cd ?_))))))
     subst D
     exact aD (T,c2,t+1,e4) h 2
    refine zyR 1 rfl (zaT rfl zbm (zyR 2 rfl (zyS (s:=220) rfl h (fun h=>?_) (fun h=>?_))))
    ·refine zyR 4 rfl (zyN (ir rfl (zbq h fun fz di h=>zaL (β:=(List cN)×Hd) 0 rfl (fun b=>fz b.1=some r) (fun b=>[]) (fun b=>[(0,zP _h),(5,v2),(6,b.2.v),(7,zI t),(217,zI zmo),(218,.bool ((zmo:Int)==5)),(221,undef),(222,undef)]) (fun b=>[eI o.v r2,jJ b.2.v b.1]) (fun cut=>?_) ?_)))
     ·refine cut (zyG (zyR 1 rfl (gZ (k:=1) rfl dc rfl rfl bm (zyR 1 rfl (zyH (zyR 1 rfl (zaT rfl zd4 (zyR 1 rfl (zyS (s:=228) rfl h (fun h=>?_) (fun h=>?_))))))))))
      ·refine zyR 2 rfl (zbs h fun d6 h=>zaT rfl (k9 (r:=(a.length:Int)-1) (ai _ d6)) (zbk h fun fn aw h=>eJ (k:=1) aw bm nG rfl dc rfl rfl rfl rfl (zab we rfl dc rfl (show _=(((a.length:Int)-1:Int).toNat)*5 from rfl) (fw (i:=((a.length:Int)-1:Int).toNat) (j:=0) (k:=1) (q:=fn) dO lP rfl dc rfl rfl (ei aw) rfl dc rfl (zaT rfl zed (zyR 1 rfl (zyN (zyB rfl h (fun h=>?_) (fun h=>?_)))))))))
       ·refine bX (zyR 1 rfl (zbf (v:=.agg #[zI 1,.string ac,zI 0,.string ac,.bool false]) (ps:=[(0,.const (zI 1))]) rfl dc rfl (fun _=>by kernel_rfl) (fx (cs:=[zI 1,.string ac,zI 0,.string ac,.bool false]) (te:=100) (ps:=[(0,.tmp 238)]) rfl dc rfl (fun _=>by kernel_rfl) (fun hw=>zbs h fun d5 h=>iT (k:=1) (k2:=3) (ys:=[(⟨1,ac,0,ac,false⟩:cN)]) bm wg lP wo rfl dc rfl rfl rfl rfl rfl rfl d5 (fun hu=>iB (k:=1) rfl (fun e1 g9=>?_))))))
        subst g9
        exact zyR 1 rfl (zaB (mD (a++[(⟨1,ac,0,ac,false⟩:cN)],e1) h 2))
       exact zap (mD (a,d) h 2)
      exact zyR 8 rfl (zyN (za8 rfl (zap (mD (a,d) h 2))))
     rintro⟨ch,e2⟩ h
     rw[di] at h
     refine bX (zyR 1 rfl (zbs h fun d4 h=>zaT rfl (dA (r:=t+1) (ai _ d4)) (zyR 1 rfl (zaB (cd (cd ?_))))))
     subst D
     exact aD (T,ch,t+1,e2) h 2
    refine zyR 1 rfl (zaT rfl zbm (zyR 2 rfl (zyN (zyB rfl h (fun h=>?_) (fun h=>?_)))))
    ·refine zbq h fun ft dg h=>zaL (β:=(List cN)×Hd) 0 rfl (fun b=>ft b.1=some r) (fun b=>[]) (fun b=>[(0,zP _h),(5,v2),(6,b.2.v),(7,zI t),(217,zI zmo),(218,.bool ((zmo:Int)==5)),(221,zI zmo),(222,.bool ((zmo:Int)==6))]) (fun b=>[eI o.v r2,jJ b.2.v b.1]) (fun cut=>?_) ?_
     ·refine cut (zyG (zyR 1 rfl (gZ (k:=1) rfl dc rfl rfl bm (zyR 1 rfl (zyH (zyR 1 rfl (zaT rfl zd4 (zyR 1 rfl (zyS (s:=228) rfl h (fun h=>?_) (fun h=>?_))))))))))
      ·refine zyR 2 rfl (zbs h fun d3 h=>zaT rfl (k9 (r:=(a.length:Int)-1) (ai _ d3)) (zbk h fun fk ao h=>eJ (k:=1) ao bm nG rfl dc rfl rfl rfl rfl (zab we rfl dc rfl (show _=(((a.length:Int)-1:Int).toNat)*5 from rfl) (fw (i:=((a.length:Int)-1:Int).toNat) (j:=0) (k:=1) (q:=fk) dO lP rfl dc rfl rfl (ei ao) rfl dc rfl (zaT rfl zed (zyR 1 rfl (zyN (zyB rfl h (fun h=>?_) (fun h=>?_)))))))))
       ·refine bX (zyR 1 rfl (zbf (v:=.agg #[zI 1,.string ac,zI 0,.string ac,.bool false]) (ps:=[(0,.const (zI 1))]) rfl dc rfl (fun _=>by kernel_rfl) (fx (cs:=[zI 1,.string ac,zI 0,.string ac,.bool false]) (te:=100) (ps:=[(0,.tmp 238)]) rfl dc rfl (fun _=>by kernel_rfl) (fun hv=>zbs h fun d2 h=>iT (k:=1) (k2:=3) (ys:=[(⟨1,ac,0,ac,false⟩:cN)]) bm wg lP wo rfl dc rfl rfl rfl rfl rfl rfl d2 (fun ht=>iB (k:=1) rfl (fun eM g8=>?_))))))
        subst g8
        exact zyR 1 rfl (zaB (mD (a++[(⟨1,ac,0,ac,false⟩:cN)],eM) h 2))
       exact zap (mD (a,d) h 2)
      exact zyR 8 rfl (zyN (za8 rfl (zap (mD (a,d) h 2))))
     rintro⟨cc,e0⟩ h
     rw[dg] at h
     refine bX (zyR 1 rfl (zbs h fun d1 h=>zaT rfl (dA (r:=t+1) (ai _ d1)) (zyR 1 rfl (zaB (cd (cd ?_))))))
     subst D
     exact aD (T,cc,t+1,e0) h 2
    refine bX (zyR 1 rfl (zbs h fun d0 h=>zaT rfl (dA (r:=t+1) (ai _ d0)) (zyR 1 rfl (zaB (cd (cd ?_))))))
    subst D
    exact aD (T,a,t+1,d) h 2
   exact dy (bV (bV (dz (cL (a,d) h rfl (bI rfl) (bW [1] kr rfl)))))
 rintro⟨C,fa⟩ h
 rw[gT] at h
 refine zbq h fun fs df h=>zaL (β:=(List cN)×Hd) 0 rfl (fun b=>fs b.1=some r) (fun b=>[]) (fun b=>[(6,b.2.v)]) (fun b=>[jJ b.2.v b.1]) (fun cut=>?_) ?_
 ·refine cut (zyG (zyR 1 rfl (gZ (k:=0) rfl dc rfl rfl bm (zyR 1 rfl (zyH (zyR 1 rfl (zaT rfl zd4 (zyR 1 rfl (zyS (s:=247) rfl h (fun h=>?_) (fun h=>?_))))))))))
  ·refine zyR 2 rfl (zbs h fun dT h=>zaT rfl (k9 (r:=(C.length:Int)-1) (ai _ dT)) (zbk h fun fd Z h=>eJ (k:=0) Z bm nG rfl dc rfl rfl rfl rfl (zab we rfl dc rfl (show _=(((C.length:Int)-1:Int).toNat)*5 from rfl) (fw (i:=((C.length:Int)-1:Int).toNat) (j:=0) (k:=0) (q:=fd) dO lP rfl dc rfl rfl (ei Z) rfl dc rfl (zaT rfl zbm (zyR 1 rfl (zyN (zyB rfl h (fun h=>?_) (fun h=>?_)))))))))
   ·refine bX (zyR 2 rfl (zbs h fun ds h=>zaT rfl (k9 (r:=(C.length:Int)-1) (ai _ ds)) (zbs h fun dn h=>PW (k:=0) bm nG lP rfl dc rfl rfl rfl dn (fun hs=>iB (k:=0) rfl (fun ez g7=>?_)))))
    subst g7
    exact zyR 1 rfl (zaB (mD (C.take ((C.length:Int)-1:Int).toNat,ez) h 1))
   exact zap (mD (C,fa) h 1)
  exact zyR 8 rfl (zyN (za8 rfl (zap (mD (C,fa) h 1))))
 rintro⟨fo,eL⟩ h
 rw[df] at h
 refine zyG (zyR 2 rfl (zyN (zaA ?_)))
 cases h
 exact eu (rs:=[.tmp 4]) eL.v (.inl rfl) results50 (.cons (.tmp rfl) .nil) rfl (cp 1)
def th (a1:Int) (b1:Int):Option Int := aN (decide ((a1:Int)<b1)) (some (-1)) (aN (decide ((b1:Int)<a1)) (some 1) (some 0))
theorem Cm {a1:Int} {b1:Int} {r:Int} (h:th a1 b1=some r):dN prog 51 [zI a1,zI b1] (zI r):=by
 unfold th at h
 refine dN.intro func51 rfl ntmps51 (by simp) (fun w0 K=>zyG (zyR 1 rfl (zyN (zaJ (zat (zyG (zyR 2 rfl (zaT rfl zbd (zyR 1 rfl (zaB (zaz (zyB rfl h (fun h=>?_) (fun h=>?_)))))))))))))
 ·refine zyG (zyR 1 rfl (zyN (zaA (cx (bP ?_)))))
  cases h
  exact cX 4 results51
 refine zyG (zyR 2 rfl (zaT rfl zd4 (zyR 1 rfl (zyN (zyB rfl h (fun h=>?_) (fun h=>?_))))))
 ·refine zyG (zyR 1 rfl (zyN (zaA (cx (bP ?_)))))
  cases h
  exact cX 4 results51
 refine zap (cd (zaz (zyG (zyR 1 rfl (zyN (zaA ?_))))))
 cases h
 exact cX 4 results51
def zcS (f:(List cN)→(List cN)→Option (Int×Int)) (r1:(List cN)) (r2:(List cN)) (b:Int→Option (Int×Int)) (a:Int):Option (Int×Int) := aN (decide ((a:Int)<(r1.length:Int))) (aN (decide ((a:Int)<(r2.length:Int))) (co (fun (e:Int→Option (Int×Int))=>aT (zca r1 a) fun (q1:cN)=>aT (zca r2 a) fun (q2:cN)=>aT (th q1.Sort_ q2.Sort_) fun (r3:Int)=>aN ((r3:Int)==0) (aT (zca r1 a) fun (q:cN)=>aT (zca r2 a) fun (o:cN)=>aT (th q.Place o.Place) fun (j:Int)=>e j) (e r3)) (fun (c1:Int)=>co (fun (d:Int→Option (Int×Int))=>aN ((c1:Int)==0) (aT (zca r1 a) fun (n:cN)=>aT (zca r2 a) fun (m:cN)=>aT (th (n.Digits.size:Int) (m.Digits.size:Int)) fun (i:Int)=>d i) (d c1)) (fun (h:Int)=>co (fun (c:Int→Option (Int×Int))=>aN ((h:Int)==0) (aT (zca r1 a) fun (l:cN)=>aT (zca r2 a) fun (k:cN)=>c (bc l.Digits.data.toList k.Digits.data.toList)) (c h)) (fun (g:Int)=>aN ((g:Int) != 0) (some (g,1)) (aV (cr (a+1)) <|b (a+1)))))) (f r1 r2)) (f r1 r2)
def zcR (x1:List cN) (e:List cN) (f:Option (Int×Int)) (c:Int→Option (Int×Int)) (a:Int):Option (Int×Int) := aN (decide ((a:Int)<(x1.length:Int))) (aT (zca x1 a) fun (d:cN)=>aT (zca e a) fun (b:cN)=>aN (((bc d.Marks.data.toList b.Marks.data.toList):Int) != 0) (some (bc d.Marks.data.toList b.Marks.data.toList,2)) (aV (cr (a+1)) <|c (a+1))) (f)
def zcQ (x1:List cN) (f:List cN) (g:Option (Int×Int)) (e:Int→Option (Int×Int)) (a:Int):Option (Int×Int) := aN (decide ((a:Int)<(x1.length:Int))) (aT (zca x1 a) fun (d:cN)=>aT (zca f a) fun (c:cN)=>aN (d.Great != c.Great) (aT (zca x1 a) fun (b:cN)=>aN (b.Great) (some (1,3)) (some ((-1),3))) (aV (cr (a+1)) <|e (a+1))) (g)
def zX (o1:dk) (a1:ad) (b1:ad):Option (Int×Int) := co (fun (e:(List cN)→(List cN)→Option (Int×Int))=>aT (xz o1 a1) fun (r1:(List cN))=>aT (xz o1 b1) fun (r2:(List cN))=>zaC (fun _=>none) (zcS e r1 r2) zbx 0) (fun (x1:List cN) (a:List cN)=>aT (th (x1.length:Int) (a.length:Int)) fun (b:Int)=>aN ((b:Int) != 0) (some (b,1)) (co (fun (d:Option (Int×Int))=>zaC (fun _=>none) (zcR x1 a d) zbx 0) (co (fun (c:Option (Int×Int))=>zaC (fun _=>none) (zcQ x1 a c) zbx 0) (aN (decide (a1=b1)) (some (0,0)) (some (bc a1.data.toList b1.data.toList,4))))))
theorem UJ {_h:Nat} {o1:dk} {_f _a _c _d:Hd} {a1:ad} {b1:ad} {r:(Int×Int)} (h:zX o1 a1 b1=some r):iu prog 17 [zP _h,.string a1,.string b1] [cells _h [_f.v,.map (some (bi _a)),_c.v,_d.v] 39,bH _f.v o1.Units,dQ (bi _a) o1.Fors,bH _c.v o1.Skips,bH _d.v o1.Lines] [] (fun _:Unit=>(.tuple #[zI r.1,zI r.2])) (fun _=>[]):=by
 unfold zX at h
 refine iu.intro func17 rfl ntmps17 (by simp) (fun w0 K U=>zbq h fun j1 bk h=>zaL (β:=(List cN)×(List cN)×Hd×Hd) 2 rfl (fun b=>j1 b.1 b.2.1=some r) (fun b=>[]) (fun b=>[(1,.string a1),(2,.string b1),(8,b.2.2.1.v),(9,b.2.2.2.v)]) (fun b=>[jJ b.2.2.1.v b.1,jJ b.2.2.2.v b.2.1]) (fun cut=>?_) ?_)
 ·refine zyG (zyR 2 rfl (zyH (zyR 2 rfl (zbk h fun r1 a6 h=>pI (vs:=[zP _h,.string a1]) U rfl dc rfl rfl rfl HG (LD (_h:=_h) (o1:=o1) (_f:=_f) (_a:=_a) (_c:=_c) (_d:=_d) a6) ah (.ro 0 rfl (.ro 1 rfl (.ro 2 rfl (.ro 3 rfl (.ro 4 rfl .nil))))) (fun v1=>iB (k:=0) rfl (fun f b4=>?_))))))
  subst b4
  refine zyR 2 rfl (zbk h fun r2 a5 h=>pI (vs:=[zP _h,.string b1]) U rfl dc rfl rfl rfl HG (LD (_h:=_h) (o1:=o1) (_f:=_f) (_a:=_a) (_c:=_c) (_d:=_d) a5) ah (.ro 0 rfl (.ro 1 rfl (.ro 2 rfl (.ro 3 rfl (.ro 4 rfl .nil))))) (fun v2=>iB (k:=1) rfl (fun e b3=>?_)))
  subst b3
  refine zyR 2 rfl (zyN (cut (zyG (zyR 1 rfl (zyN (zat (eF (β:=Nat×Int) (fun b=>zaC (fun _=>none) (zcS j1 r1 r2) b.1 b.2=some r) (fun b=>[]) (fun b=>[(1,.string a1),(2,.string b1),(8,f.v),(9,e.v),(10,zI b.2)]) (fun b=>[jJ f.v r1,jJ e.v r2]) (fun b=>b.1) (zbx,0) h rfl (bI rfl) (cp 2) ?_)))))))
  rintro⟨n1,a⟩ h
  cases n1 with
  |zero=>exact ew h
  |succ n1=>
   obtain⟨b7,N⟩:∃ag,ag=zaC (fun _=>none) (zcS j1 r1 r2) n1:=⟨_,rfl⟩
   have h:zcS j1 r1 r2 b7 a=some r:=by rw[N];exact h
   unfold zcS at h
   refine zaJ (zyG (zyR 2 rfl (gZ (k:=0) rfl dc rfl rfl bm (zaT rfl zbd (zyR 1 rfl (zyS (s:=26) rfl h (fun h=>?_) (fun h=>?_)))))))
   ·refine zyR 2 rfl (gZ (k:=1) rfl dc rfl rfl bm (zaT rfl zbd (zyR 1 rfl (zyN (zyB rfl h (fun h=>?_) (fun h=>?_))))))
    ·refine zap (zaz (zaJ (zat (zbq h fun j2 bh h=>zaL (β:=Int) 1 rfl (fun b=>j2 b=some r) (fun b=>[]) (fun b=>[(1,.string a1),(2,.string b1),(8,f.v),(9,e.v),(10,zI a),(11,zI b),(27,zI a),(28,e.v),(29,zI (r2.length:Int)),(30,.bool (decide ((a:Int)<(r2.length:Int))))]) (fun b=>[jJ f.v r1,jJ e.v r2]) (fun cut=>zaJ (zbk h fun q1 ao h=>zbk h fun q2 Z h=>zbk h fun r3 a4 h=>zcI 10 [(0,34,f.v),(1,35,zI a),(2,36,.pointer (some ⟨eO f.v,(a:Int).toNat*5,none⟩)),(3,37,.pointer (some ⟨eO f.v,((a:Int).toNat)*5,none⟩)),(4,38,zI q1.Sort_),(5,39,e.v),(6,40,zI a),(7,41,.pointer (some ⟨eO e.v,(a:Int).toNat*5,none⟩)),(8,42,.pointer (some ⟨eO e.v,((a:Int).toNat)*5,none⟩)),(9,43,zI q2.Sort_)] mixed kr kr dc (by rfl) kr kr (zyP 2 0 rfl (zac (fun D n d c u i=>eJ (k:=0) ao bm nG rfl dc (bt 0 u d) (bt 1 u d) rfl rfl (zaN 2 u i)) (zac (fun D n d c u i=>zab we rfl dc (bt 2 u d) (show _=((a:Int).toNat)*5 from rfl) (zaN 3 u i)) (zac (fun D n d c u i=>fw (i:=(a:Int).toNat) (j:=0) (k:=0) (q:=q1) dO lP rfl dc (bt 3 u d) rfl (ei ao) rfl dc rfl (zaN 4 u i)) (zyP 2 5 rfl (zac (fun D n d c u i=>eJ (k:=1) Z bm nG rfl dc (bt 5 u d) (bt 6 u d) rfl rfl (zaN 7 u i)) (zac (fun D n d c u i=>zab we rfl dc (bt 7 u d) (show _=((a:Int).toNat)*5 from rfl) (zaN 8 u i)) (zac (fun D n d c u i=>fw (i:=(a:Int).toNat) (j:=0) (k:=1) (q:=q2) dO lP rfl dc (bt 8 u d) rfl (ei Z) rfl dc rfl (zaN 9 u i)) bQ)))))))) (zaI (v:=zI r3) (vs:=[zI q1.Sort_,zI q2.Sort_]) rfl dc rfl rfl rfl AN (Cm a4) (zyR 1 rfl (zyN (cut (zyG (zyR 1 rfl (zaT rfl zbm (zyN (zyB rfl h (fun h=>zbk h fun q3 Y h=>zbk h fun q4 W h=>zbk h fun r4 a3 h=>zcI 10 [(0,47,f.v),(1,48,zI a),(2,49,.pointer (some ⟨eO f.v,(a:Int).toNat*5,none⟩)),(3,50,.pointer (some ⟨eO f.v,((a:Int).toNat)*5+2,none⟩)),(4,51,zI q3.Place),(5,52,e.v),(6,53,zI a),(7,54,.pointer (some ⟨eO e.v,(a:Int).toNat*5,none⟩)),(8,55,.pointer (some ⟨eO e.v,((a:Int).toNat)*5+2,none⟩)),(9,56,zI q4.Place)] mixed kr kr dc (by rfl) kr kr (zyP 2 0 rfl (zac (fun D n d c u i=>eJ (k:=0) Y bm nG rfl dc (bt 0 u d) (bt 1 u d) rfl rfl (zaN 2 u i)) (zac (fun D n d c u i=>zab Hh rfl dc (bt 2 u d) (show _=((a:Int).toNat)*5+2 from rfl) (zaN 3 u i)) (zac (fun D n d c u i=>fw (i:=(a:Int).toNat) (j:=2) (k:=0) (q:=q3) dO lP rfl dc (bt 3 u d) rfl (ei Y) rfl dc rfl (zaN 4 u i)) (zyP 2 5 rfl (zac (fun D n d c u i=>eJ (k:=1) W bm nG rfl dc (bt 5 u d) (bt 6 u d) rfl rfl (zaN 7 u i)) (zac (fun D n d c u i=>zab Hh rfl dc (bt 7 u d) (show _=((a:Int).toNat)*5+2 from rfl) (zaN 8 u i)) (zac (fun D n d c u i=>fw (i:=(a:Int).toNat) (j:=2) (k:=1) (q:=q4) dO lP rfl dc (bt 8 u d) rfl (ei W) rfl dc rfl (zaN 9 u i)) bQ)))))))) (zaI (v:=zI r4) (vs:=[zI q3.Place,zI q4.Place]) rfl dc rfl rfl rfl AN (Cm a3) (zyR 1 rfl (zaB (mD r4 h 2))))) (fun h=>zap (mD r3 h 2))))))))))))) (fun c1 h=>?_)))))
     rw[bh] at h
     refine zbq h fun j3 bb h=>zaL (β:=Int) 0 rfl (fun b=>j3 b=some r) (fun b=>[]) (fun b=>[(1,.string a1),(2,.string b1),(8,f.v),(9,e.v),(10,zI a),(11,zI b),(27,zI a),(28,e.v),(29,zI (r2.length:Int)),(30,.bool (decide ((a:Int)<(r2.length:Int))))]) (fun b=>[jJ f.v r1,jJ e.v r2]) (fun cut=>cut (zyG (zyR 1 rfl (zaT rfl zbm (zyN (zyB rfl h (fun h=>zbk h fun q5 V h=>zbk h fun q6 I h=>zbk h fun r5 a0 h=>zcI 12 [(0,60,f.v),(1,61,zI a),(2,62,.pointer (some ⟨eO f.v,(a:Int).toNat*5,none⟩)),(3,63,.pointer (some ⟨eO f.v,((a:Int).toNat)*5+1,none⟩)),(4,64,.string q5.Digits),(5,65,zI (q5.Digits.size:Int)),(6,66,e.v),(7,67,zI a),(8,68,.pointer (some ⟨eO e.v,(a:Int).toNat*5,none⟩)),(9,69,.pointer (some ⟨eO e.v,((a:Int).toNat)*5+1,none⟩)),(10,70,.string q6.Digits),(11,71,zI (q6.Digits.size:Int))] mixed kr kr dc (by rfl) kr kr (zyP 2 0 rfl (zac (fun D n d c u i=>eJ (k:=0) V bm nG rfl dc (bt 0 u d) (bt 1 u d) rfl rfl (zaN 2 u i)) (zac (fun D n d c u i=>zab AE rfl dc (bt 2 u d) (show _=((a:Int).toNat)*5+1 from rfl) (zaN 3 u i)) (zac (fun D n d c u i=>fw (i:=(a:Int).toNat) (j:=1) (k:=0) (q:=q5) dU lP rfl dc (bt 3 u d) rfl (ei V) rfl dc rfl (zaN 4 u i)) (zac (fun D n d c u i=>zcG rfl dc (bt 4 u d) an (zaN 5 u i)) (zyP 2 6 rfl (zac (fun D n d c u i=>eJ (k:=1) I bm nG rfl dc (bt 6 u d) (bt 7 u d) rfl rfl (zaN 8 u i)) (zac (fun D n d c u i=>zab AE rfl dc (bt 8 u d) (show _=((a:Int).toNat)*5+1 from rfl) (zaN 9 u i)) (zac (fun D n d c u i=>fw (i:=(a:Int).toNat) (j:=1) (k:=1) (q:=q6) dU lP rfl dc (bt 9 u d) rfl (ei I) rfl dc rfl (zaN 10 u i)) (zac (fun D n d c u i=>zcG rfl dc (bt 10 u d) an (zaN 11 u i)) bQ)))))))))) (zaI (v:=zI r5) (vs:=[zI (q5.Digits.size:Int),zI (q6.Digits.size:Int)]) rfl dc rfl rfl rfl AN (Cm a0) (zyR 1 rfl (zaB (mD r5 h 2))))) (fun h=>zap (mD c1 h 2)))))))) (fun c2 h=>?_)
     rw[bb] at h
     refine zbq h fun j4 a9 h=>zaL (β:=Int) 0 rfl (fun b=>j4 b=some r) (fun b=>[]) (fun b=>[(1,.string a1),(2,.string b1),(8,f.v),(9,e.v),(10,zI a),(11,zI b),(27,zI a),(28,e.v),(29,zI (r2.length:Int)),(30,.bool (decide ((a:Int)<(r2.length:Int))))]) (fun b=>[jJ f.v r1,jJ e.v r2]) (fun cut=>cut (zyG (zyR 1 rfl (zaT rfl zbm (zyN (zyB rfl h (fun h=>zbk h fun P H h=>zbk h fun O G h=>zcI 10 [(0,75,f.v),(1,76,zI a),(2,77,.pointer (some ⟨eO f.v,(a:Int).toNat*5,none⟩)),(3,78,.pointer (some ⟨eO f.v,((a:Int).toNat)*5+1,none⟩)),(4,79,.string P.Digits),(5,80,e.v),(6,81,zI a),(7,82,.pointer (some ⟨eO e.v,(a:Int).toNat*5,none⟩)),(8,83,.pointer (some ⟨eO e.v,((a:Int).toNat)*5+1,none⟩)),(9,84,.string O.Digits)] mixed kr kr dc (by rfl) kr kr (zyP 2 0 rfl (zac (fun D n d c u i=>eJ (k:=0) H bm nG rfl dc (bt 0 u d) (bt 1 u d) rfl rfl (zaN 2 u i)) (zac (fun D n d c u i=>zab AE rfl dc (bt 2 u d) (show _=((a:Int).toNat)*5+1 from rfl) (zaN 3 u i)) (zac (fun D n d c u i=>fw (i:=(a:Int).toNat) (j:=1) (k:=0) (q:=P) dU lP rfl dc (bt 3 u d) rfl (ei H) rfl dc rfl (zaN 4 u i)) (zyP 2 5 rfl (zac (fun D n d c u i=>eJ (k:=1) G bm nG rfl dc (bt 5 u d) (bt 6 u d) rfl rfl (zaN 7 u i)) (zac (fun D n d c u i=>zab AE rfl dc (bt 7 u d) (show _=((a:Int).toNat)*5+1 from rfl) (zaN 8 u i)) (zac (fun D n d c u i=>fw (i:=(a:Int).toNat) (j:=1) (k:=1) (q:=O) dU lP rfl dc (bt 8 u d) rfl (ei G) rfl dc rfl (zaN 9 u i)) bQ)))))))) (zaI (v:=zI (bc P.Digits.data.toList O.Digits.data.toList)) (vs:=[.string P.Digits,.string O.Digits]) rfl dc rfl rfl rfl wk (wx P.Digits O.Digits) (zyR 1 rfl (zaB (mD (bc P.Digits.data.toList O.Digits.data.toList) h 2))))) (fun h=>zap (mD c2 h 2)))))))) (fun c3 h=>?_)
     rw[a9] at h
     refine zyG (zyR 1 rfl (zaT rfl zed (zyN (zyB rfl h (fun h=>?_) (fun h=>?_)))))
     ·refine zyG (zyR 3 rfl (zyN (zaA (cx (bP (bP (cx (bP ?_))))))))
      cases h
      exact eu (rs:=[.tmp 6,.tmp 7]) () (.inl rfl) kz (.cons (.tmp rfl) (.cons (.tmp rfl) .nil)) rfl ah
     refine zap (cd (zaz (bX (zyR 1 rfl (zbs h fun b2 h=>zaT rfl (dA (r:=a+1) (ai _ b2)) (zyR 1 rfl (zaB ?_)))))))
     subst N
     exact aD (n1,a+1) h 2
    exact dy (bV (bV (dz (mD (r1,r2,f,e) h 2))))
   exact zyR 5 rfl (zyN (za8 rfl (dy (bV (bV (dz (mD (r1,r2,f,e) h 2)))))))
 rintro⟨x1,w,l,g⟩ h
 rw[bk] at h
 refine zaJ (zyG (zyR 1 rfl (gZ (k:=0) rfl dc rfl rfl bm (zyR 1 rfl (gZ (k:=1) rfl dc rfl rfl bm (zbk h fun r6 aw h=>zaI (v:=zI r6) (vs:=[zI (x1.length:Int),zI (w.length:Int)]) rfl dc rfl rfl rfl AN (Cm aw) (zyR 1 rfl (zyH (zyR 1 rfl (zaT rfl zed (zyN (zyB rfl h (fun h=>?_) (fun h=>?_)))))))))))))
 ·refine zyG (zyR 3 rfl (zyN (zaA (bP ?_))))
  cases h
  exact eu (rs:=[.tmp 6,.tmp 7]) () (.inl rfl) kz (.cons (.tmp rfl) (.cons (.tmp rfl) .nil)) rfl ah
 refine zap (zaz (zbq h fun j5 a8 h=>zaL (β:=Unit) 0 rfl (fun b=>j5=some r) (fun b=>[]) (fun b=>[(1,.string a1),(2,.string b1),(8,l.v),(9,g.v)]) (fun b=>[jJ l.v x1,jJ g.v w]) (fun cut=>?_) ?_))
 ·refine cut (zyG (zyR 1 rfl (gZ (k:=0) rfl dc rfl rfl bm (zyR 1 rfl (zyN (zat (eF (β:=Nat×Int) (fun b=>zaC (fun _=>none) (zcR x1 w j5) b.1 b.2=some r) (fun b=>[]) (fun b=>[(1,.string a1),(2,.string b1),(8,l.v),(9,g.v),(98,zI (x1.length:Int)),(99,zI b.2)]) (fun b=>[jJ l.v x1,jJ g.v w]) (fun b=>b.1) (zbx,0) h rfl (bI rfl) (cp 2) ?_)))))))
  rintro⟨n2,o⟩ h
  cases n2 with
  |zero=>exact ew h
  |succ n2=>
   obtain⟨b6,M⟩:∃ag,ag=zaC (fun _=>none) (zcR x1 w j5) n2:=⟨_,rfl⟩
   have h:zcR x1 w j5 b6 o=some r:=by rw[M];exact h
   unfold zcR at h
   refine zyG (zaT rfl zbd (zyN (zaJ (zyB rfl h (fun h=>?_) (fun h=>?_)))))
   ·refine zap (zaz (zaJ (zat (zyG (zyR 2 rfl (zyN (zaJ (zbk h fun Q F h=>zbk h fun t E h=>zcI 10 [(0,102,l.v),(1,103,zI o),(2,104,.pointer (some ⟨eO l.v,(o:Int).toNat*5,none⟩)),(3,105,.pointer (some ⟨eO l.v,((o:Int).toNat)*5+3,none⟩)),(4,106,.string Q.Marks),(5,107,g.v),(6,108,zI o),(7,109,.pointer (some ⟨eO g.v,(o:Int).toNat*5,none⟩)),(8,110,.pointer (some ⟨eO g.v,((o:Int).toNat)*5+3,none⟩)),(9,111,.string t.Marks)] mixed kr kr dc (by rfl) kr kr (zyP 2 0 rfl (zac (fun D n d c u i=>eJ (k:=0) F bm nG rfl dc (bt 0 u d) (bt 1 u d) rfl rfl (zaN 2 u i)) (zac (fun D n d c u i=>zab Dd rfl dc (bt 2 u d) (show _=((o:Int).toNat)*5+3 from rfl) (zaN 3 u i)) (zac (fun D n d c u i=>fw (i:=(o:Int).toNat) (j:=3) (k:=0) (q:=Q) dU lP rfl dc (bt 3 u d) rfl (ei F) rfl dc rfl (zaN 4 u i)) (zyP 2 5 rfl (zac (fun D n d c u i=>eJ (k:=1) E bm nG rfl dc (bt 5 u d) (bt 6 u d) rfl rfl (zaN 7 u i)) (zac (fun D n d c u i=>zab Dd rfl dc (bt 7 u d) (show _=((o:Int).toNat)*5+3 from rfl) (zaN 8 u i)) (zac (fun D n d c u i=>fw (i:=(o:Int).toNat) (j:=3) (k:=1) (q:=t) dU lP rfl dc (bt 8 u d) rfl (ei E) rfl dc rfl (zaN 9 u i)) bQ)))))))) (zaI (v:=zI (bc Q.Marks.data.toList t.Marks.data.toList)) (vs:=[.string Q.Marks,.string t.Marks]) rfl dc rfl rfl rfl wk (wx Q.Marks t.Marks) (zyR 1 rfl (zyH (zyR 1 rfl (zaT rfl zed (zyN (zyB rfl h (fun h=>?_) (fun h=>?_))))))))))))))))
    ·refine zyG (zyR 3 rfl (zyN (zaA (cx (bP (bP (cx (bP ?_))))))))
     cases h
     exact eu (rs:=[.tmp 6,.tmp 7]) () (.inl rfl) kz (.cons (.tmp rfl) (.cons (.tmp rfl) .nil)) rfl ah
    refine zap (cd (zaz (bX (zbs h fun b0 h=>zaT rfl (dA (r:=o+1) (ai _ b0)) (zyR 1 rfl (zaB ?_))))))
    subst M
    exact aD (n2,o+1) h 2
   exact dy (bV (bV (dz (mD () h 2))))
 rintro _ h
 rw[a8] at h
 refine zbq h fun j6 a7 h=>zaL (β:=Unit) 0 rfl (fun b=>j6=some r) (fun b=>[]) (fun b=>[(1,.string a1),(2,.string b1)]) (fun b=>[]) (fun cut=>?_) ?_
 ·refine cut (zyG (zyR 1 rfl (gZ (k:=0) rfl dc rfl rfl bm (zyR 1 rfl (zyN (zat (eF (β:=Nat×Int) (fun b=>zaC (fun _=>none) (zcQ x1 w j6) b.1 b.2=some r) (fun b=>[]) (fun b=>[(1,.string a1),(2,.string b1),(8,l.v),(9,g.v),(118,zI (x1.length:Int)),(119,zI b.2)]) (fun b=>[jJ l.v x1,jJ g.v w]) (fun b=>b.1) (zbx,0) h rfl (bI rfl) (cp 2) ?_)))))))
  rintro⟨n3,m⟩ h
  cases n3 with
  |zero=>exact ew h
  |succ n3=>
   obtain⟨b5,J⟩:∃ag,ag=zaC (fun _=>none) (zcQ x1 w j6) n3:=⟨_,rfl⟩
   have h:zcQ x1 w j6 b5 m=some r:=by rw[J];exact h
   unfold zcQ at h
   refine zyG (zaT rfl zbd (zyN (zaJ (zyB rfl h (fun h=>?_) (fun h=>?_)))))
   ·refine zap (zaz (zaJ (zat (zyG (zyR 2 rfl (zyN (zaJ (zbk h fun T C h=>zbk h fun S z h=>zcI 10 [(0,122,l.v),(1,123,zI m),(2,124,.pointer (some ⟨eO l.v,(m:Int).toNat*5,none⟩)),(3,125,.pointer (some ⟨eO l.v,((m:Int).toNat)*5+4,none⟩)),(4,126,.bool T.Great),(5,127,g.v),(6,128,zI m),(7,129,.pointer (some ⟨eO g.v,(m:Int).toNat*5,none⟩)),(8,130,.pointer (some ⟨eO g.v,((m:Int).toNat)*5+4,none⟩)),(9,131,.bool S.Great)] mixed kr kr dc (by rfl) kr kr (zyP 2 0 rfl (zac (fun D n d c u i=>eJ (k:=0) C bm nG rfl dc (bt 0 u d) (bt 1 u d) rfl rfl (zaN 2 u i)) (zac (fun D n d c u i=>zab De rfl dc (bt 2 u d) (show _=((m:Int).toNat)*5+4 from rfl) (zaN 3 u i)) (zac (fun D n d c u i=>fw (i:=(m:Int).toNat) (j:=4) (k:=0) (q:=T) qS lP rfl dc (bt 3 u d) rfl (ei C) rfl dc rfl (zaN 4 u i)) (zyP 2 5 rfl (zac (fun D n d c u i=>eJ (k:=1) z bm nG rfl dc (bt 5 u d) (bt 6 u d) rfl rfl (zaN 7 u i)) (zac (fun D n d c u i=>zab De rfl dc (bt 7 u d) (show _=((m:Int).toNat)*5+4 from rfl) (zaN 8 u i)) (zac (fun D n d c u i=>fw (i:=(m:Int).toNat) (j:=4) (k:=1) (q:=S) qS lP rfl dc (bt 8 u d) rfl (ei z) rfl dc rfl (zaN 9 u i)) bQ)))))))) (zaT rfl (MO underlying4) (zyN (zyB rfl h (fun h=>?_) (fun h=>?_))))))))))))
    ·refine zaJ (zyG (zyR 2 rfl (zbk h fun a2 y h=>eJ (k:=0) y bm nG rfl dc rfl rfl rfl rfl (zab De rfl dc rfl (show _=((m:Int).toNat)*5+4 from rfl) (fw (i:=(m:Int).toNat) (j:=4) (k:=0) (q:=a2) qS lP rfl dc rfl rfl (ei y) rfl dc rfl (zyN (zyB rfl h (fun h=>?_) (fun h=>?_))))))))
     ·refine zyG (zyR 2 rfl (zyN (zaA (bP (cx (bP (bP (cx (bP ?_)))))))))
      cases h
      exact eu (rs:=[.tmp 6,.tmp 7]) () (.inl rfl) kz (.cons (.tmp rfl) (.cons (.tmp rfl) .nil)) rfl ah
     refine zap (zaz (zyG (zyR 2 rfl (zyN (zaA (cx (bP (bP (cx (bP ?_))))))))))
     cases h
     exact eu (rs:=[.tmp 6,.tmp 7]) () (.inl rfl) kz (.cons (.tmp rfl) (.cons (.tmp rfl) .nil)) rfl ah
    refine zap (cd (zaz (bX (zbs h fun bs h=>zaT rfl (dA (r:=m+1) (ai _ bs)) (zyR 1 rfl (zaB ?_))))))
    subst J
    exact aD (n3,m+1) h 2
   exact dy (bV (bV (dz (cL () h rfl (bI rfl) ah))))
 rintro _ h
 rw[a7] at h
 refine zaJ (zyG (zyR 2 rfl (zaT rfl zdp (zyN (zyB rfl h (fun h=>?_) (fun h=>?_))))))
 ·refine zyG (zyR 2 rfl (zyN (zaA (bP ?_))))
  cases h
  exact eu (rs:=[.tmp 6,.tmp 7]) () (.inl rfl) kz (.cons (.tmp rfl) (.cons (.tmp rfl) .nil)) rfl ah
 refine zap (zaz (zyG (zyR 2 rfl (zaI (v:=zI (bc a1.data.toList b1.data.toList)) (vs:=[.string a1,.string b1]) rfl dc rfl rfl rfl wk (wx a1 b1) (zyR 2 rfl (zyN (zaA ?_)))))))
 cases h
 exact eu (rs:=[.tmp 6,.tmp 7]) () (.inl rfl) kz (.cons (.tmp rfl) (.cons (.tmp rfl) .nil)) rfl ah
structure sf (o:cw) (w:dk):Prop where
 un:w.Units=o.units
 fo:w.Fors=o.fors
 li:w.Lines=o.lines
 sk:∀f,(zbP f o.skips).getD false=w.Skips.any fun s=>decide (s=f)
 sl:w.Skips.length≤256
section
variable {X R:Type}
theorem FP {l:List X} {p:X→Bool} {F:(Int→Option R)→Int→Option R} {bot:Int→Option R} {J:Int→Option R} {m:Nat} (he:∀ag,m≤l.length→F ag (l.length:Int)=J (l.length:Int))
  (ht:∀ag A x B,l=A++x::B→m≤A.length→p x=true→F ag (A.length:Int)=ag ((A.length:Int)+1)) (hf:∀ag A x B,l=A++x::B→m≤A.length→p x=false→F ag (A.length:Int)=J (A.length:Int)) :
  ∀ (n:Nat) (B A:List X),l=A++B→m≤A.length→B.length<n→zaC bot F n (A.length:Int)=J ((A.length+(B.takeWhile p).length:Nat):Int):=by
 intro n
 induction n with
 |zero=>intro B A _ _ h;omega
 |succ n c=>
  intro B A a hm d
  rw[gk]
  cases B with
  |nil=>
   have e:A.length=l.length:=by rw[a,aH]
   rw[e,he _ (by omega)];rfl
  |cons x B=>
   rw[aW]
   cases hp:p x with
   |true=>
    rw[ht _ A x B a hm hp,am rfl]
    have b:=c B (A++[x]) (by rw[a,aA];rfl) (by rw[aa];omega) (by rw[ab] at d;omega)
    rw[show (A++[x]).length=A.length+1 by simp] at b
    push_cast at b
    rw[b]
    congr 1
    rw[ab];push_cast;omega
   |false=>rw[hf _ A x B a hm hp,aj (by simp)];rfl
end
theorem xA {l:List bf} (a:∀x∈l,nP x) {A:List bf} {x:bf} {B:List bf} (b:l=A++x::B):tg l (A.length:Int)=some (cZ x.Rune):=by
 have ok:=a x (by rw[b];simp)
 have hx:l[A.length]?=some x:=by rw[b];simp
 unfold tg
 refine bS (ax (by rw[b];simp;omega)) (aY (gM hx) ?_)
 by_cases h0:0≤x.Rune
 ·exact bS (ax h0) (aY (Cj _ ok.i32) rfl)
 ·refine bM (al h0) ?_
  cases h:cZ x.Rune with
  |false=>rfl
  |true=>exact absurd (FN h) h0
theorem UK (l:List bf):tg l (l.length:Int)=some false:=by
 unfold tg
 exact fC rfl
theorem Cn (p:Tk→Bool):∀l:List bf,(l.takeWhile fun x=>p (tkI x)).length=((l.map tkI).takeWhile p).length
 |[]=>rfl
 |x::l=>by
  rw[av,aW,aW]
  cases p (tkI x) with
  |true=>rw[am rfl,am rfl,ab,ab,Cn p l]
  |false=>rfl
theorem vx {a:Int} (h:0≤a∧a≤1000000000):cr a:=⟨by omega,by omega⟩
theorem UL {l:List bf} (a:∀x∈l,nP x) (c:l.length≤1000000) (J:Int→Option Int):zaC (fun _=>none) (zcK l J) zbx 0=J ((((l.map tkI).takeWhile fun x=>!ej x).length:Nat):Int):=by
 have:=FP (l:=l) (p:=fun x=>!ej (tkI x)) (F:=zcK l J) (bot:=fun _=>none) (J:=J) (m:=0) (fun ag _=>by
   unfold zcK
   exact fC rfl) (fun ag A x B hx _ hp=>by
   have b:l.length=A.length+(B.length+1):=by rw[hx,aa,ab]
   unfold zcK
   exact eR (aY (xA a hx) (bS hp (zdG (vx ⟨by omega,by omega⟩) rfl)))) (fun ag A x B hx _ hp=>by
   have b:l.length=A.length+(B.length+1):=by rw[hx,aa,ab]
   unfold zcK
   exact eR (aY (xA a hx) (bM hp rfl))) zbx l [] rfl (bG _) (by unfold zbx;omega)
 refine this.trans ?_
 rw[aL,cf,Cn (fun x=>!ej x)]
theorem UM {l A B:List bf} (d:∀x∈l,nP x) (q:l.length≤1000000) (a:l=A++B) (hB:∀x o,B=x::o→cZ x.Rune=true) (J:Int→Option Int) :
  zaC (fun _=>none) (zbJ l (A.length:Int) J) zbx (A.length:Int)=J ((A.length+((B.map tkI).takeWhile jc).length:Nat):Int):=by
 have step:∀ag C x D,l=C++x::D→(A.length<C.length∨cZ x.Rune=true)→jc (tkI x)=true→zbJ l (A.length:Int) J ag (C.length:Int)=ag ((C.length:Int)+1):=fun ag C x D hx hc hp=>by
  have b:l.length=C.length+(D.length+1):=by rw[hx,aa,ab]
  have hg:l[C.length]?=some x:=by rw[hx];simp
  unfold zbJ
  refine cB (aY (xA d hx) ?_)
  cases hL:cZ x.Rune with
  |true=>exact bS rfl (zdG (vx ⟨by omega,by omega⟩) rfl)
  |false=>
   have hc:A.length<C.length:=by rcases hc with h | h;exact h;rw[hL] at h;cases h
   have i:fc x.Rune=true:=by
    have hp:(cZ x.Rune||fc x.Rune)=true:=hp
    rw[hL,dp] at hp;exact hp
   have h0:0≤x.Rune:=FL (x:=tkI x) (.inr i)
   exact bM rfl (eR (eR (aY (gM hg) (bS (ax h0) (aY (zS _) (bS i (zdG (vx ⟨by omega,by omega⟩) rfl)))))))
 have c:∀ag C x D,l=C++x::D→jc (tkI x)=false→zbJ l (A.length:Int) J ag (C.length:Int)=J (C.length:Int):=fun ag C x D hx hp=>by
  have b:l.length=C.length+(D.length+1):=by rw[hx,aa,ab]
  have hg:l[C.length]?=some x:=by rw[hx];simp
  have hp:(cZ x.Rune||fc x.Rune)=false:=hp
  rw[bL] at hp
  unfold zbJ
  refine cB (aY (xA d hx) (bM hp.1 (eR ?_)))
  by_cases hc:A.length<C.length
  ·refine eR (aY (gM hg) ?_)
   by_cases h0:0≤x.Rune
   ·exact bS (ax h0) (aY (zS _) (bM hp.2 rfl))
   ·exact bM (al h0) rfl
  ·exact fC rfl
 have f:∀ag,zbJ l (A.length:Int) J ag (l.length:Int)=J (l.length:Int):=fun ag=>by
  unfold zbJ
  exact cB (aY (UK l) (bM rfl (fC rfl)))
 have j:=FP (l:=l) (p:=fun x=>jc (tkI x)) (F:=zbJ l (A.length:Int) J) (bot:=fun _=>none) (J:=J) (m:=A.length+1) (fun ag _=>f ag) (fun ag C x D hx hm hp=>step ag C x D hx (.inl (by omega)) hp) (fun ag C x D hx hm hp=>c ag C x D hx hp)
 obtain⟨n,g⟩:∃n,zbx=n+1:=⟨zbx-1,by unfold zbx;omega⟩
 have k:1000000<n:=by unfold zbx at g;omega
 rw[g,gk]
 cases B with
 |nil=>
  have e:A.length=l.length:=by rw[a,aH]
  have:=f (zaC (fun _=>none) (zbJ l (A.length:Int) J) n)
  rw[←e] at this
  rw[this];rfl
 |cons x B=>
  have hL:=hB x B rfl
  have hp:jc (tkI x)=true:=by show (cZ x.Rune||fc x.Rune)=true;rw[hL];rfl
  rw[step _ A x B a (.inr hL) hp]
  have b:l.length=A.length+(B.length+1):=by rw[a,aa,ab]
  have:=j n B (A++[x]) (by rw[a,aA];rfl) (by simp) (by omega)
  rw[show (A++[x]).length=A.length+1 by simp] at this
  push_cast at this
  rw[this,Cn jc,av,aW,hp,am rfl,ab]
  congr 1
  push_cast;omega
theorem UN {t:dq} {ts:List dq} (a:ej (tkT t)=true) (d:zbP (tkT t).1 tabS=none):FT (t::ts)≠⟨#[]⟩:=by
 intro e
 have hL:dI (zf9 t)=true:=a
 have hr:(zf9 t).Rune=(tkT t).1:=rfl
 have e1:jm (zf9 t)=[⟨(tkT t).1,ae (tkT t).1,(zf9 t).At⟩]:=by
  unfold jm
  rw[hL,am rfl,hr,Up d];rfl
 unfold FT jS at e
 rw[av,JX,e1,List.singleton_append,wU (x:=⟨(tkT t).1,ae (tkT t).1,(zf9 t).At⟩) a,jA,J4 (c:=((⟨(tkT t).1,ae (tkT t).1,(zf9 t).At⟩:bf),_)) a] at e
 have h2:=(JV (r:=(tkT t).1) a).2.1
 have b:=aM ByteArray.size e
 rw[aE] at b
 have h3:(kE (cA (tkT t).1)).size=0:=by
  have:(kE (cA (tkT t).1)).size+(J pg (cl (List.dropWhile isM (apL (ts.map zf9))))).size=0:=b
  omega
 have f:=vP (kE (cA (tkT t).1))
 exact h2 (gY.1 (by omega))
theorem UO {l A B:List bf} (e:∀x∈l,nP x) (n:l.length≤1000000) (c:l=A++B) (k:Int) (d:Option Int) :
  zaC (fun _=>none) (zcJ l k d) zbx (A.length:Int)=if (B.map tkI).any (fun x=>ej x||fE x) then some k else d:=by
 have f:∀x:bf,fE (tkI x)=(decide ((48:Int)≤x.Rune)&&decide ((x.Rune:Int)≤57)):=fun x=>by
  unfold fE tkI
  by_cases h1:48≤x.Rune<;>by_cases h2:x.Rune≤57<;>simp[h1,h2]
 have b:∀ (C:List bf) (x:bf) (D:List bf),l=C++x::D→l[C.length]?=some x∧l.length=C.length+(D.length+1):=fun C x D hx=>⟨by rw[hx];simp,by rw[hx,aa,ab]⟩
 have:=FP (l:=l) (p:=fun x=>!(ej (tkI x)||fE (tkI x))) (F:=zcJ l k d) (bot:=fun _=>none) (J:=fun i=>if i<(l.length:Int) then some k else d) (m:=0) (fun ag _=>by
   unfold zcJ
   rw[aj (by omega)]
   exact fC rfl) (fun ag C x D hx _ hp=>by
   obtain⟨hg,a⟩:=b C x D hx
   have hp:(!(ej (tkI x)||fE (tkI x)))=true:=hp
   rw[cK,bL] at hp
   have hd:=hp.2
   rw[f] at hd
   unfold zcJ
   refine eR (cB (aY (xA e hx) (bM hp.1 (aY (gM hg) ?_))))
   have g:(aV (cr ((C.length:Int)+1))<|ag ((C.length:Int)+1))=ag ((C.length:Int)+1):=zdG (vx ⟨by omega,by omega⟩) rfl
   cases h1:decide ((48:Int)≤x.Rune) with
   |true=>
    rw[h1,fG] at hd
    exact bS rfl (bM hd g)
   |false=>exact bM rfl g) (fun ag C x D hx _ hp=>by
   obtain⟨hg,a⟩:=b C x D hx
   have hp:(!(ej (tkI x)||fE (tkI x)))=false:=hp
   rw[cI] at hp
   rw[am (by omega)]
   unfold zcJ
   refine eR (cB (aY (xA e hx) ?_))
   cases hL:cZ x.Rune with
   |true=>exact bS rfl rfl
   |false=>
    rw[show ej (tkI x)=false from hL,dp,f,aQ] at hp
    exact bM rfl (aY (gM hg) (bS hp.1 (bS hp.2 rfl)))) zbx B A c (bG _) (by
   have:l.length=A.length+B.length:=by rw[c,aa]
   unfold zbx;omega)
 refine this.trans ?_
 have a:l.length=A.length+B.length:=by rw[c,aa]
 show (if ((A.length+(B.takeWhile fun x=>!(ej (tkI x)||fE (tkI x))).length:Nat):Int)<(l.length:Int) then some k else d)=_
 have key:∀B:List bf,((B.map tkI).any (fun x=>ej x||fE x)=true↔(B.takeWhile fun x=>!(ej (tkI x)||fE (tkI x))).length<B.length):=by
  intro B
  induction B with
  |nil=>simp
  |cons x B j=>
   rw[av,jl,aW,ab]
   cases hx:(ej (tkI x)||fE (tkI x)) with
   |true=>simp
   |false=>
    rw[dp,am (by rfl),ab]
    exact j.trans ⟨fun h=>by omega,fun h=>by omega⟩
 have hk:=key B
 by_cases ha:(B.map tkI).any (fun x=>ej x||fE x)=true
 ·rw[am ha,am (by have:=hk.1 ha;omega)]
 ·rw[aj ha,aj (by intro h;exact ha (hk.2 (by omega)))]
theorem UP {w:dk} {l A B:List bf} (r:w.Skips.length≤1000000) (e:∀x∈l,nP x) (q:l.length≤1000000) (j:l=A++B) (b:Option Int) (f:ad) :
  zaC (fun _=>none) (zc4 w l (A.length:Int) b f) zbx 0=if (w.Skips.any fun s=>decide (s=f))=true∧f≠⟨#[]⟩∧(B.map tkI).any (fun x=>ej x||fE x)=true then some (A.length:Int) else b:=by
 have key:∀ (n:Nat) (T S:List ad),w.Skips=S++T→T.length<n→zaC (fun _=>none) (zc4 w l (A.length:Int) b f) n (S.length:Int) =
   if (T.any fun s=>decide (s=f))=true∧f≠⟨#[]⟩∧(B.map tkI).any (fun x=>ej x||fE x)=true then some (A.length:Int) else b:=by
  intro n
  induction n with
  |zero=>intro T S _ h;omega
  |succ n m=>
   intro T S i o
   rw[gk]
   generalize g:zaC (fun _=>none) (zc4 w l (A.length:Int) b f) n=ag
   unfold zc4
   have a:w.Skips.length=S.length+T.length:=by rw[i,aa]
   cases T with
   |nil=>
    rw[aj (by rintro⟨h,_⟩;cases h)]
    exact bM (al (by rw[a];simp)) rfl
   |cons s T=>
    have hg:w.Skips[S.length]?=some s:=by rw[i];simp
    have c:=m T (S++[s]) (by rw[i,aA];rfl) (by rw[ab] at o;omega)
    rw[g,show (S++[s]).length=S.length+1 by simp] at c
    push_cast at c
    rw[ab] at a
    have k:(aV (cr ((S.length:Int)+1))<|ag ((S.length:Int)+1))=if (T.any fun s=>decide (s=f))=true∧f≠⟨#[]⟩∧(B.map tkI).any (fun x=>ej x||fE x)=true then some (A.length:Int) else b:=zdG (vx ⟨by omega,by omega⟩) c
    refine eR (cB (aY (gM hg) ?_))
    rw[jl]
    by_cases d:s=f
    ·refine bM (by rw[ax d];rfl) ?_
     rw[ax d,pC]
     by_cases hf:f=(⟨#[]⟩:ad)
     ·refine bS (ax hf) (k.trans ?_)
      rw[aj (fun h=>h.2.1 hf),aj (fun h=>h.2.1 hf)]
     ·refine bM (al hf) ?_
      rw[UO e q j,k]
      by_cases ha:(B.map tkI).any (fun x=>ej x||fE x)=true
      ·rw[am ha,am ⟨rfl,hf,ha⟩]
      ·rw[aj ha,aj (fun h=>ha h.2.2),aj (fun h=>ha h.2.2)]
    ·rw[al d,dp]
     exact bS rfl k
 exact key zbx w.Skips [] (bg _).symm (by unfold zbx;omega)
theorem FQ (l:List bf):sV l=iD (l.map tkI):=by
 have key:∀ (l:List bf) (b:ad),l.foldl (fun s x=>s++x.Text) b=b++iD (l.map tkI):=by
  intro l
  induction l with
  |nil=>intro b;show b=b++ac;rw[bx]
  |cons x l a=>
   intro b
   have c:iD ((x::l).map tkI)=x.Text++iD (l.map tkI):=by unfold iD;rw[av,jA];rfl
   rw[bn,a,c,de]
 unfold sV
 rw[key]
 show ac++_=_
 rw[dD]
theorem LF:∀ {l:List bf},(∀x∈l,nP x)→pd l≤4*l.length
 |[],_=>bq _
 |x::l,h=>by
  have h1:=(h x (ar ..)).sz
  have h2:=LF fun y hy=>h y (ak _ hy)
  unfold pd at h2 ⊢
  rw[av,List.sum_cons,ab];omega
theorem Co (p:Tk→Bool):∀l:List bf,(l.map tkI).takeWhile p=(l.takeWhile fun x=>p (tkI x)).map tkI
 |[]=>rfl
 |x::l=>by
  rw[av,aW,aW,Co p l]
  cases p (tkI x)<;>rfl
theorem FSz (p:Tk→Bool):∀l:List bf,(l.map tkI).dropWhile p=(l.dropWhile fun x=>p (tkI x)).map tkI
 |[]=>rfl
 |x::l=>by
  rw[av,cD,cD,FSz p l]
  cases p (tkI x)<;>rfl
theorem UQ {α:Type} (A H T:List α):dK (A++(H++T)) (A.length:Int) ((A.length+H.length:Nat):Int)=H:=by
 unfold dK
 rw[bz,bz,List.drop_left,Nat.add_sub_cancel_left,List.take_left]
theorem UR {o:cw} {w:dk} (hr:sf o w) (t:ad) (ht:oQ t):zW w (fV (gm t))=some ((rl (dB o) (gE t):Nat):Int):=by
 have f:=zT (gm t)
 have m:=FM (gm t)
 have hL:(fV (gm t)).map tkI=gE t:=xx (gm t)
 have K:=hr.sl
 have J:=ht.2
 generalize N:fV (gm t)=l at f m hL ⊢
 have j:l.length≤1000000:=by omega
 unfold zW
 refine cB ((UL f j _).trans (cB ?_))
 have c:l=(l.takeWhile fun x=>!ej (tkI x))++(l.dropWhile fun x=>!ej (tkI x)):=List.takeWhile_append_dropWhile.symm
 have hA:(l.takeWhile fun x=>!ej (tkI x)).length=((l.map tkI).takeWhile fun x=>!ej x).length:=Cn (fun x=>!ej x) l
 have D:(l.map tkI).dropWhile (fun x=>!ej x)=(l.dropWhile fun x=>!ej (tkI x)).map tkI:=FSz (fun x=>!ej x) l
 have hB:∀x G,(l.dropWhile fun x=>!ej (tkI x))=x::G→cZ x.Rune=true:=fun x G h=>by
  have:=kj (fun x:bf=>!ej (tkI x)) l
  rw[h] at this
  have h2:(!ej (tkI x))=false:=by simpa using this
  rw[cI] at h2;exact h2
 generalize (l.takeWhile fun x=>!ej (tkI x))=A at c hA
 generalize (l.dropWhile fun x=>!ej (tkI x))=B at c D hB
 rw[←hA]
 refine (UM f j c hB _).trans (cB ?_)
 have C:(B.map tkI).takeWhile jc=(B.takeWhile fun x=>jc (tkI x)).map tkI:=Co jc B
 have F:(B.map tkI).dropWhile jc=(B.dropWhile fun x=>jc (tkI x)).map tkI:=FSz jc B
 have i:B=(B.takeWhile fun x=>jc (tkI x))++(B.dropWhile fun x=>jc (tkI x)):=List.takeWhile_append_dropWhile.symm
 generalize (B.takeWhile fun x=>jc (tkI x))=H at C i
 generalize (B.dropWhile fun x=>jc (tkI x))=T at F i
 have d:nN (gE t)=H.map tkI:=by unfold nN;rw[←hL,D,C]
 have e:rk (gE t)=T.map tkI:=by unfold rk;rw[←hL,D,F]
 have E:l.length=A.length+(H.length+T.length):=by rw[c,aa,i,aa]
 rw[C,az]
 have g:l=(A++H)++T:=by rw[c,i,aA]
 have n:dK l (A.length:Int) ((A.length+H.length:Nat):Int)=H:=by
  rw[c,i];exact UQ A H T
 have q:∀x∈H,nP x:=fun x hx=>f x (by rw[g];exact List.mem_append_left _ (qh _ hx))
 have hsz:=LF q
 rw[n]
 have z:(sV H).size≤65536:=by
  rw[FQ,←d]
  have h1:cP (eU (gm t).data.toList)=(gm t).data.toList:=tP _
  have h2:nN (gE t)=(((nu t).dropWhile fun t=>!ej (tkT t)).takeWhile fun t=>jc (tkT t)).map tkT:=by unfold nN gE;rw[Ci,FK]
  rw[h2,gJ,xg]
  have h3:∀ {a b:List dq},a.Sublist b→(cP a).length≤(cP b).length:=fun h=>by
   induction h with
   |slnil=>exact bq _
   |cons a _ I=>rw[mq,aa];omega
   |cons_cons a _ I=>rw[mq,mq,aa,aa];omega
  have O:=h3 ((List.takeWhile_sublist (fun t=>jc (tkT t)) (l:=(nu t).dropWhile fun t=>!ej (tkT t))).trans (pE _))
  have h5:(cP (nu t)).length=(gm t).size:=by unfold nu;rw[tP,←gJ]
  omega
 refine gO (aY (Ed H (by omega) (by omega)) (aY (EC _ z) ?_))
 have h3:=UP (w:=w) (l:=l) (A:=A++H) (B:=T) (by omega) f j g (some 0) (iU (sV H))
 rw[aa] at h3
 refine h3.trans ?_
 have u:(T.map tkI).any (fun x=>ej x||fE x)=true→iU (sV H)≠⟨#[]⟩:=fun ha=>by
  rw[FQ,←d]
  have r:=Uq t ht.1
  have h2:nN (gE t)=(((nu t).dropWhile fun t=>!ej (tkT t)).takeWhile fun t=>jc (tkT t)).map tkT:=by unfold nN gE;rw[Ci,FK]
  cases hd:(nu t).dropWhile fun t=>!ej (tkT t) with
  |nil=>
   exfalso
   have:rk (gE t)=[]:=by unfold rk gE;rw[Ci,hd];rfl
   rw[e] at this
   rw[this] at ha;cases ha
  |cons x xs=>
   rw[hd] at h2
   have hx:ej (tkT x)=true:=by
    have:=kj (fun t:dq=>!ej (tkT t)) (nu t)
    rw[hd] at this
    have h2:(!ej (tkT x))=false:=by simpa using this
    rw[cI] at h2;exact h2
   have k:∀y∈x::xs,LA y:=fun y hy=>r y ((pE _).subset (by rw[hd];exact hy))
   rw[h2,Us (fun y hy=>Ur (k y (vn hy).2).1 (vn (p:=fun t=>jc (tkT t)) hy).1),aW,am (by unfold jc;rw[hx];rfl)]
   exact UN hx ((k x (ar ..)).2 hx)
 have M:(dB o).s (iU (iD (nN (gE t))))=w.Skips.any fun s=>decide (s=iU (sV H)):=by
  rw[d,←FQ];exact hr.sk _
 have v:((gE t).takeWhile fun x=>!ej x).length=A.length:=by rw[←hL];exact hA.symm
 unfold rl
 rw[M,e,d,v,az]
 by_cases h1:(T.map tkI).any (fun x=>ej x||fE x)=true
 ·by_cases h2:(w.Skips.any fun s=>decide (s=iU (sV H)))=true
  ·rw[am ⟨h2,u h1,h1⟩,am (by rw[h1,h2];rfl)]
  ·rw[aj (fun h=>h2 h.1),aj (by rw[aQ];exact fun h=>h2 h.2)];rfl
 ·rw[aj (fun h=>h1 h.2.2),aj (by rw[aQ];exact fun h=>h1 h.1)];rfl
theorem LG {o:cw} {w:dk} (hi:fI o) (hr:sf o w) (u:ad):vu w u=some (lF o u):=by
 have a:=hi.ul;have b:=hi.ll
 unfold vu lF
 rw[hr.fo]
 cases hf:(zbP u o.fors).isSome with
 |true=>rw[Bool.or_true];exact bS rfl rfl
 |false=>
  rw[mQ]
  refine bM rfl (aY (zU w u (by rw[hr.un];omega)) ?_)
  rw[hr.un,hi.pl]
  cases hx:lE o.units u with
  |none=>rfl
  |some k=>
   have:=(vq hx).1
   show some (decide ((0:Int)≤k))=some true
   rw[ax this]
def qE (o:cw) (a:ad×Nat×Option (Nat×ad)) (x:Tk):ad×Nat×Option (Nat×ad) :=
 let f:=a.1++ae (cA x.1)
 (f,a.2.1+1,if lF o f then some (a.2.1+1,f) else a.2.2)
def xB (o:cw) (l:List Tk):Option (Nat×ad):=((vi l).foldl (qE o) (ac,0,none)).2.2
def zw5 (o:cw) (q:Nat×ad):Nat×List ad:=(q.1,if (zbP q.2 o.place).isSome then [q.2] else (zbP q.2 o.fors).getD [])
theorem LH (o:cw):∀ (l:List Tk) (f:ad) (n:Nat) (r:Option (Nat×ad)),
  (l.foldl (py (dB o)) (f,n,r.map (zw5 o))).2.2=((l.foldl (qE o) (f,n,r)).2.2).map (zw5 o)
 |[],f,n,r=>rfl
 |x::l,f,n,r=>by
  rw[bn,bn]
  have e:py (dB o) (f,n,r.map (zw5 o)) x=(f++ae (cA x.1),n+1,(if lF o (f++ae (cA x.1)) then some (n+1,f++ae (cA x.1)) else r).map (zw5 o)):=by
   unfold py
   dsimp only
   generalize f++ae (cA x.1)=g
   show (g,n+1,if (zbP g o.place).isSome then some (n+1,[g]) else match zbP g o.fors with | some xs=>some (n+1,xs) | none=>r.map (zw5 o))=_
   unfold lF
   cases hp:(zbP g o.place).isSome with
   |true=>
    rw[pC,am rfl,am rfl]
    show _=(g,n+1,some (zw5 o (n+1,g)))
    unfold zw5
    dsimp only
    rw[hp,am rfl]
   |false=>
    rw[dp,aj (by simp)]
    cases hf:zbP g o.fors with
    |none=>rfl
    |some xs=>
     show _=(g,n+1,some (zw5 o (n+1,g)))
     unfold zw5
     dsimp only
     rw[hp,aj (by simp),hf];rfl
  rw[e,LH o l]
  rfl
theorem LK (o:cw) (l:List Tk):ue (dB o) l=(xB o l).map (zw5 o):=by
 unfold ue xB
 exact LH o (vi l) ac 0 none
def p4:Option (Nat×ad)→ad×Int
 |none=>(⟨#[]⟩,0)
 |some (m,g)=>(g,(m:Int))
theorem US {o:cw} {w:dk} (hi:fI o) (hr:sf o w) {l:List bf} (g:∀x∈l,nP x) (t:l.length≤1000000) (J:ad→Int→Option (ad×Int)) :
  ∀ (n:Nat) (B A:List bf) (f:ad) (r:Option (Nat×ad)),l=A++B→B.length<n→A.length≤8→f.size≤4*A.length →
   zaC (fun _ _ _ _=>none) (zdr w l J) n (p4 r).1 (p4 r).2 f ((A.length:Int)+1) =
    J (p4 (((((B.map tkI).take (8-A.length)).takeWhile fun x=>!decide (x.1<0)).foldl (qE o) (f,A.length,r)).2.2)).1 (p4 (((((B.map tkI).take (8-A.length)).takeWhile fun x=>!decide (x.1<0)).foldl (qE o) (f,A.length,r)).2.2)).2:=by
 intro n
 induction n with
 |zero=>intro B A f r _ h;omega
 |succ n k=>
  intro B A f r a q u hf
  rw[gk]
  generalize i:zaC (fun _ _ _ _=>none) (zdr w l J) n=ag
  unfold zdr
  have b:l.length=A.length+B.length:=by rw[a,aa]
  cases B with
  |nil=>exact bM (al (by rw[b];simp;omega)) (by rw[ed,List.take_nil];rfl)
  |cons x B=>
   rw[ab] at b
   refine eR ?_
   by_cases hA:A.length=8
   ·refine fC ?_
    rw[show 8-A.length=0 by omega,List.take_zero];rfl
   ·have hx:zca l ((A.length:Int)+1-1)=some x:=by
     rw[show (A.length:Int)+1-1=(A.length:Int) by omega]
     exact gM (by rw[a];simp)
    have ok:=g x (by rw[a];simp)
    obtain⟨m,hm⟩:∃m,8-A.length=m+1:=⟨7-A.length,by omega⟩
    have e:cr ((A.length:Int)+1-1):=⟨by omega,by omega⟩
    refine eR (zdG e (aY hx ?_))
    rw[hm,av,List.take_succ_cons,aW]
    by_cases h0:0≤x.Rune
    ·rw[am (by show (!decide (x.Rune<0))=true;rw[al (by omega)];rfl),bn]
     refine bS (ax h0) (cB (cB (zdG e (aY hx (aY (Cj _ ok.i32) ?_)))))
     have v:=nr (cA x.Rune)
     have j:∀d,(aV (cr ((A.length:Int)+1+1))<|ag (p4 d).1 (p4 d).2 (f++ae (cA x.Rune)) ((A.length:Int)+1+1)) =
       J (p4 (((((B.map tkI).take m).takeWhile fun x=>!decide (x.1<0)).foldl (qE o) (f++ae (cA x.Rune),A.length+1,d)).2.2)).1 (p4 (((((B.map tkI).take m).takeWhile fun x=>!decide (x.1<0)).foldl (qE o) (f++ae (cA x.Rune),A.length+1,d)).2.2)).2:=fun d=>by
      have:=k B (A++[x]) (f++ae (cA x.Rune)) d (by rw[a,aA];rfl) (by rw[ab] at q;omega) (by rw[aa];show A.length+1≤8;omega) (by rw[aE,aa];show _≤4*(A.length+1);omega)
      rw[i,show (A++[x]).length=A.length+1 by simp,show 8-(A.length+1)=m by omega] at this
      push_cast at this
      exact gO this
     have c:(aV (f.size+(ae (cA x.Rune)).size≤9223372036854775807)<|aT (vu w (f++(ae (cA x.Rune)))) fun (r3:Bool)=>
       aN (r3) (aV (cr ((A.length:Int)+1+1))<|ag (f++(ae (cA x.Rune))) ((A.length:Int)+1) (f++(ae (cA x.Rune))) ((A.length:Int)+1+1)) (aV (cr ((A.length:Int)+1+1))<|ag (p4 r).1 (p4 r).2 (f++(ae (cA x.Rune))) ((A.length:Int)+1+1))) =
       J (p4 (((((B.map tkI).take m).takeWhile fun x=>!decide (x.1<0)).foldl (qE o) (qE o (f,A.length,r) (tkI x))).2.2)).1 (p4 (((((B.map tkI).take m).takeWhile fun x=>!decide (x.1<0)).foldl (qE o) (qE o (f,A.length,r) (tkI x))).2.2)).2:=by
      refine gO (aY (LG hi hr _) ?_)
      have s:qE o (f,A.length,r) (tkI x)=(f++ae (cA x.Rune),A.length+1,if lF o (f++ae (cA x.Rune)) then some (A.length+1,f++ae (cA x.Rune)) else r):=rfl
      rw[s]
      cases hu:lF o (f++ae (cA x.Rune)) with
      |true=>
       have:=j (some (A.length+1,f++ae (cA x.Rune)))
       refine bS rfl ?_
       rw[am rfl,←this]
       show _=aV _ (ag _ (((A.length+1:Nat):Int)) _ _)
       push_cast;rfl
      |false=>
       refine bM rfl ?_
       rw[aj (by simp)];exact j r
     cases hL:cZ x.Rune with
     |true=>exact bS rfl (zdG ok.i32 c)
     |false=>
      rw[TP hL] at c
      exact bM rfl c
    ·rw[aj (by show ¬(!decide (x.Rune<0))=true;rw[ax (by omega)];simp)]
     exact bM (al h0) rfl
theorem UT {o:cw} {w:dk} (hi:fI o) (hr:sf o w) {l:List bf} (a:∀x∈l,nP x) (c:l.length≤1000000):xy w l=some (p4 (xB o (l.map tkI))):=by
 unfold xy
 refine cB ?_
 have:=US hi hr a c (fun b k=>some (b,k)) zbx l [] ⟨#[]⟩ none (bg _).symm (by unfold zbx;omega) (bG _) (bG _)
 exact this
theorem UU {o:cw} {l:List Wd} {e:Int} {u:ad} (h:u∈o.units):u∈(oT o l e).2.units:=by
 unfold oT
 by_cases h1:o.lines.length=256
 ·rw[am h1];exact h
 rw[aj h1]
 by_cases h2:0≤mw l e
 ·rw[am h2];exact h
 rw[aj h2]
 cases hf:jT (decide ((l.getD 0 w0).text=ix)) 0 l with
 |inl a=>exact h
 |inr fs=>
  obtain⟨fs,s⟩:=fs
  show u∈(eC (ite _ _ _):cw).units
  by_cases b:(l.getD 0 w0).text=mJ
  ·rw[am b]
   cases hb:(zbP (iU (fD fs 1)) o.skips).getD false with
   |true=>rw[am rfl];exact h
   |false=>rw[aj (by simp)];exact h
  ·rw[aj b]
   cases hb:lF o (fD fs 1) with
   |true=>rw[am rfl];exact h
   |false=>
    rw[aj (by simp)]
    cases c:na o 0 fs l with
    |some a=>exact h
    |none=>
     show u∈(ite _ _ _:cw).units
     by_cases hp:(l.getD 0 w0).text=ix
     ·rw[am hp]
      unfold B9
      exact jN.2 (.inr h)
     ·rw[aj hp];exact h
theorem FU {u:ad}:∀ (xs:List (List UInt8)) (o:cw) (at_:Int),u∈o.units→∀a e,pm o at_ xs=(some a,e)→u∈a.units
 |[],o,at_,hi,a,e,h=>by
  have h:(some o,(⟨0,0⟩:zaw))=(some a,e):=h
  injection h with h
  injection h with h
  rw[←h];exact hi
 |x::xs,o,at_,hi,a,e,h=>by
  rw[pm] at h
  by_cases h0:gP x 0 none=[]
  ·rw[am h0] at h;exact FU xs _ _ hi _ _ h
  ·rw[aj h0] at h
   by_cases h1:(oT o ((gP x 0 none).map (jM at_)) (at_+(x.length:Int))).1.Err=0
   ·rw[am h1] at h
    exact FU xs _ _ (UU hi) _ _ h
   ·rw[aj h1] at h
    injection h with h _
    cases h
def zY (o:cw):Prop:=∀u∈us0,u∈o.units
theorem UV (text:ad):zY (tf text):=by
 intro u hu
 unfold tf
 rcases FJ text with⟨o,h,hi⟩|⟨e,h,he⟩
 ·rw[h]
  unfold sb at h
  by_cases a:65536<text.size
  ·rw[am a] at h
   injection h with h _
   cases h
  ·rw[aj a] at h
   exact FU _ sa _ hu _ _ h
 ·rw[h];exact hu
theorem UW:((List.range 1120).all fun n=>!cZ (n:Int)||decide (zbP (n:Int) tabS≠none)||((eH (kE (cA (n:Int)))).all fun r=>pj.contains r))=true:=by decide +kernel
theorem UX {r:Int} (h:cZ r=true):∀u∈rY r,u∈us0:=by
 obtain⟨b,hb,a,e⟩:=KI h
 have hr:=mV b hb
 have:=bd.1 UW b.toNat (List.mem_range.2 (by omega))
 rw[show ((b.toNat:Nat):Int)=b by omega,hb,a] at this
 have h2:((eH (kE (cA b))).all fun r=>pj.contains r)=true:=by simpa using this
 intro u hu
 rw[e] at hu
 obtain⟨x,hx,rfl⟩:=aU.1 hu
 have h3:=bd.1 h2 x hx
 exact aU.2 ⟨x,by simpa using h3,rfl⟩
theorem UY {o:cw} (hi:fI o) (hu:zY o) (x:Tk) (l:List Tk) (hx:cZ x.1=true):∀u∈(kG (dB o) x l).2,u∈o.units:=by
 unfold kG
 rw[LK]
 have a:=UX hx
 generalize rY x.1=P at a ⊢
 cases xB o (x::l) with
 |none=>rw[Option.map_none,Option.getD_none];exact fun u h=>hu u (a u h)
 |some q=>
  rw[Option.map_some,fi]
  unfold zw5
  intro u h
  dsimp only at h
  cases hp:(zbP q.2 o.place).isSome with
  |true=>
   rw[hp,am rfl,bO] at h
   rw[h];exact Li hi hp
  |false=>
   rw[hp,aj (by simp)] at h
   cases hf:zbP q.2 o.fors with
   |none=>rw[hf] at h;cases h
   |some xs=>rw[hf] at h;exact (hi.fo _ _ hf).2.2 u h
def si (out:List El):Bool:=match out.getLast? with | some e=>decide (e.sort=1) | none=>true
def mK:List (Option (List El))→List El→List El
 |[],out=>out
 |none::cs,out=>mK cs (if si out then out else out++[lT])
 |some es::cs,out=>mK cs (out++es)
def ti (out:List El):List El:=match out.getLast? with | some e=>if e.sort=1 then out.dropLast else out | none=>out
theorem UZ (out:List El) (e:El):si (out++[e])=decide (e.sort=1):=by unfold si;rw[qL]
def FV (a:List El):Prop:=∀e∈a,e.sort≠1
def LN (out:List El):Prop:=∀e,out.getLast?=some e→e.sort≠1
theorem U0 {out:List El} (h:LN out):si out=out.isEmpty:=by
 unfold si
 cases a:out.getLast? with
 |none=>rw[oA.1 a];rfl
 |some e=>
  show decide (e.sort=1)=_
  rw[al (h e a)]
  cases out with
  |nil=>cases a
  |cons x xs=>rfl
theorem Cq:∀ (cs:List (Option (List El))) (out:List El) (sp:Bool),(∀a,some a∈cs→FV a)→LN out→ti (mK cs (out++jj sp out))=mZ cs out sp
 |[],out,sp,_,hE=>by
  show ti (out++jj sp out)=out
  unfold jj
  cases b:sp&&!out.isEmpty with
  |true=>
   rw[am rfl]
   unfold ti
   rw[qL]
   show (if lT.sort=1 then _ else _)=_
   rw[am (show lT.sort=1 from rfl),List.dropLast_concat]
  |false=>
   rw[aj (by simp),aH]
   unfold ti
   cases f:out.getLast? with
   |none=>rfl
   |some e=>exact aj (hE e f)
 |none::cs,out,sp,hc,hE=>by
  show ti (mK cs (if si (out++jj sp out) then out++jj sp out else out++jj sp out++[lT]))=mZ cs out true
  have key:(if si (out++jj sp out) then out++jj sp out else out++jj sp out++[lT])=out++jj true out:=by
   cases b:sp&&!out.isEmpty with
   |true=>
    have hg:jj sp out=[lT]:=by unfold jj;rw[b];rfl
    rw[aQ] at b
    have d:jj true out=[lT]:=by unfold jj;rw[b.2];rfl
    rw[hg,d,UZ]
    exact am (by decide)
   |false=>
    have hg:jj sp out=[]:=by unfold jj;rw[b];rfl
    rw[hg,aH,U0 hE]
    cases out with
    |nil=>rfl
    |cons x xs=>rfl
  rw[key]
  exact Cq cs out true (fun a h=>hc a (ak _ h)) hE
 |some []::cs,out,sp,hc,hE=>by
  show ti (mK cs (out++jj sp out++[]))=mZ cs out sp
  rw[aH]
  exact Cq cs out sp (fun a h=>hc a (ak _ h)) hE
 |some (e::a)::cs,out,sp,hc,hE=>by
  show ti (mK cs (out++jj sp out++e::a))=mZ cs (out++jj sp out++e::a) false
  have g:=hc (e::a) (ar ..)
  have:=Cq cs (out++jj sp out++e::a) false (fun a h=>hc a (ak _ h)) (fun x hx=>by
   rw[List.getLast?_append] at hx
   cases c:(e::a).getLast? with
   |none=>exact absurd (oA.1 c) (by simp)
   |some y=>
    rw[c,Option.some_or] at hx
    injection hx with hx
    rw[←hx]
    exact g y (List.mem_of_getLast? c))
  rw[show jj false (out++jj sp out++e::a)=[] from rfl,aH] at this
  exact this
def rE (e:El):cN:=⟨e.sort,e.digits,e.place,e.marks,decide (e.great=1)⟩
theorem U1 (r:ad) (hr:r.size≤1000) (J:Int→Nat→List ad→Option (List cN)):zaC (fun _ _=>none) (zbX J r) zbx [] 0=J 1 1 ((eH r).map ae):=by
 have b:=qz r
 have:=KG (xs:=eQ r.data.toList) (F:=zbX J r) (bot:=fun _ _=>none) (f:=fun a (p:Pc)=>a++[ae (p.r:Int)]) (J:=J 1 1) (fun k a=>a.length=k) (fun ag k x a hx hi=>by
   have hk:=(au.1 hx).1
   unfold zbX
   exact bS (ax hk) (aY hx (gO rfl))) (fun k x a _ hi=>by simp[hi]) (fun ag a _=>by unfold zbX;exact fC rfl) (n:=zbx) (j0 (by omega)) (a:=[]) rfl
 refine this.trans ?_
 have e:(eQ r.data.toList).map (fun p=>ae (p.r:Int))=(eH r).map ae:=by
  unfold eH
  rw[cn]
  exact dw fun p _=>by rw[Function.comp_apply]
 rw[BJ,bg,e]
section
variable {R:Type}
theorem LO {l:List bf} {p:bf→Bool} {F:(Int→ad→Option R)→Int→ad→Option R} {bot:Int→ad→Option R} {J:Int→ad→Option R} (f:∀x∈l,nP x)
  (he:∀ag b,F ag (l.length:Int) b=J (l.length:Int) b)
  (ht:∀ag A x B b,l=A++x::B→p x=true→b.size≤4*A.length→F ag (A.length:Int) b=ag ((A.length:Int)+1) (b++x.Text)) (hf:∀ag A x B b,l=A++x::B→p x=false→F ag (A.length:Int) b=J (A.length:Int) b) :
  ∀ (n:Nat) (B A:List bf) (b:ad),l=A++B→B.length<n→b.size≤4*A.length→zaC bot F n (A.length:Int) b=J ((A.length+(B.takeWhile p).length:Nat):Int) (b++iD ((B.takeWhile p).map tkI)):=by
 intro n
 induction n with
 |zero=>intro B A b _ h;omega
 |succ n g=>
  intro B A b c i hb
  rw[gk]
  have a:b++iD (([]:List bf).map tkI)=b:=by show b++ac=b;rw[bx]
  cases B with
  |nil=>
   have e:A.length=l.length:=by rw[c,aH]
   rw[e,he,List.takeWhile_nil,a];rfl
  |cons x B=>
   have ok:=f x (by rw[c];simp)
   have k:=ok.sz
   rw[aW]
   cases hp:p x with
   |true=>
    rw[ht _ A x B b c hp hb,am rfl]
    have d:=g B (A++[x]) (b++x.Text) (by rw[c,aA];rfl) (by rw[ab] at i;omega) (by rw[aE,aa];show _≤4*(A.length+1);omega)
    rw[show (A++[x]).length=A.length+1 by simp] at d
    push_cast at d
    have j:iD ((x::B.takeWhile p).map tkI)=x.Text++iD ((B.takeWhile p).map tkI):=by unfold iD;rw[av,jA];rfl
    rw[d,j,de,ab]
    congr 1
    push_cast;omega
   |false=>
    rw[hf _ A x B b c hp,aj (by simp),a];rfl
end
theorem LP:∀ {l:List bf},(∀x∈l,nP x∧iQ (tkI x)=true)→iD (l.map tkI)=mv (l.map tkI)
 |[],_=>rfl
 |x::l,h=>by
  obtain⟨h1,h2⟩:=h x (ar ..)
  have a:=LP fun y hy=>h y (ak _ hy)
  have e:=h1.en (FL (x:=tkI x) (.inr h2))
  unfold iD mv at a ⊢
  rw[av,jA,jA,a]
  show x.Text++_=ae x.Rune++_
  rw[e]
section
variable {r2 L A B:List bf} {r3:Int}
theorem U2 (hL:dK r2 r3 (r2.length:Int)=L) (a:∀x∈L,nP x) (f:L.length≤1000000) (c:L=A++B) (J:Int→ad→Option (List cN)) :
  zaC (fun _ _=>none) (zbK r2 r3 J) zbx (A.length:Int) (⟨#[]⟩:ad)=J ((A.length+((B.map tkI).takeWhile iQ).length:Nat):Int) (mv ((B.map tkI).takeWhile iQ)):=by
 have d:L.length=A.length+B.length:=by rw[c,aa]
 have:=LO (l:=L) (p:=fun x=>iQ (tkI x)) (F:=zbK r2 r3 J) (bot:=fun _ _=>none) (J:=J) a (fun ag b=>by
   unfold zbK
   rw[hL]
   exact fC rfl) (fun ag C x D b hx hp hb=>by
   have e:L.length=C.length+(D.length+1):=by rw[hx,aa,ab]
   have hg:zca L (C.length:Int)=some x:=gM (by rw[hx];simp)
   have g:=(a x (by rw[hx];simp)).sz
   have h0:=FL (x:=tkI x) (.inr hp)
   unfold zbK
   rw[hL]
   exact eR (aY hg (bS (ax h0) (aY (zS _) (bS hp (aY hg (gO (zdG (vx ⟨by omega,by omega⟩) rfl)))))))) (fun ag C x D b hx hp=>by
   have e:L.length=C.length+(D.length+1):=by rw[hx,aa,ab]
   have hg:zca L (C.length:Int)=some x:=gM (by rw[hx];simp)
   unfold zbK
   rw[hL]
   refine eR (aY hg ?_)
   by_cases h0:0≤x.Rune
   ·exact bS (ax h0) (aY (zS _) (bM hp rfl))
   ·exact bM (al h0) rfl) zbx B A ⟨#[]⟩ c (by unfold zbx;omega) (bG _)
 refine this.trans ?_
 rw[Co iQ,az,←LP (l:=B.takeWhile fun x=>iQ (tkI x)) (fun x hx=>⟨a x (by rw[c];exact qh _ (vn hx).2),(vn (p:=fun x=>iQ (tkI x)) hx).1⟩)]
 show J _ (ac++_)=_
 rw[dD]
theorem U3 (hL:dK r2 r3 (r2.length:Int)=L) (a:∀x∈L,nP x) (g:L.length≤1000000) (d:L=A++B) (J:Int→ad→Option (List cN)) :
  zaC (fun _ _=>none) (zbU r2 r3 J) zbx (A.length:Int) (⟨#[]⟩:ad)=J ((A.length+((B.map tkI).takeWhile fE).length:Nat):Int) (iD ((B.map tkI).takeWhile fE)):=by
 have e:L.length=A.length+B.length:=by rw[d,aa]
 have c:∀x:bf,fE (tkI x)=(decide ((48:Int)≤x.Rune)&&decide ((x.Rune:Int)≤57)):=fun x=>by
  unfold fE tkI
  by_cases h1:48≤x.Rune<;>by_cases h2:x.Rune≤57<;>simp[h1,h2]
 have:=LO (l:=L) (p:=fun x=>fE (tkI x)) (F:=zbU r2 r3 J) (bot:=fun _ _=>none) (J:=J) a (fun ag b=>by
   unfold zbU
   rw[hL]
   exact fC rfl) (fun ag C x D b hx hp hb=>by
   have f:L.length=C.length+(D.length+1):=by rw[hx,aa,ab]
   have hg:zca L (C.length:Int)=some x:=gM (by rw[hx];simp)
   have h:=(a x (by rw[hx];simp)).sz
   have hp:fE (tkI x)=true:=hp
   rw[c,aQ] at hp
   unfold zbU
   rw[hL]
   exact eR (aY hg (bS hp.1 (bS hp.2 (aY hg (gO (zdG (vx ⟨by omega,by omega⟩) rfl))))))) (fun ag C x D b hx hp=>by
   have f:L.length=C.length+(D.length+1):=by rw[hx,aa,ab]
   have hg:zca L (C.length:Int)=some x:=gM (by rw[hx];simp)
   have hp:fE (tkI x)=false:=hp
   rw[c] at hp
   unfold zbU
   rw[hL]
   refine eR (aY hg ?_)
   cases h1:decide ((48:Int)≤x.Rune) with
   |true=>rw[h1,fG] at hp;exact bS rfl (bM hp rfl)
   |false=>exact bM rfl rfl) zbx B A ⟨#[]⟩ d (by unfold zbx;omega) (bG _)
 refine this.trans ?_
 rw[Co fE,az]
 show J _ (ac++_)=_
 rw[dD]
end
theorem U4 {o:cw} {w:dk} (hi:fI o) (hr:sf o w) (g:Int) (us:List ad) (hu:∀u∈us,u∈o.units) (h:us.length≤1000) (out:List cN) (d:out.length≤2000000000) (J:List cN→Option (List cN)) :
  zaC (fun _ _=>none) (zbV w us (decide (g=1)) J) zbx out 0=J (out++(us.map (iE (dB o) g)).map rE):=by
 have b:=hi.ul;have c:=hi.ll
 have:=px (xs:=us) (F:=zbV w us (decide (g=1)) J) (bot:=fun _ _=>none) (f:=fun out u=>out++[rE (iE (dB o) g u)]) (J:=J) (fun k a=>a.length≤2000000000+k) (fun ag k x a hx hb=>by
   have hk:=(au.1 hx).1
   have hm:=hu x (aP hx)
   obtain⟨i,h1,h2⟩:=Uw hi hm
   unfold zbV
   refine bS (lR hx) (aY (kO hx) (aY (zU w x (by rw[hr.un];omega)) (gO (zdG (ja (by omega)) ?_))))
   rw[hr.un,h2]
   have e:rE (iE (dB o) g x)=⟨3,ac,i,ac,decide (g=1)⟩:=by
    show (⟨3,ac,(zbP x o.place).getD 0,ac,decide (g=1)⟩:cN)=_
    rw[h1];rfl
   rw[e];rfl) (fun k x a hx hb=>by rw[aa];show a.length+1≤_;omega) (fun ag a _=>by unfold zbV;exact bM lC rfl) (n:=zbx) (j0 (by omega)) (a:=out) (by omega)
 refine this.trans ?_
 rw[BJ,cn];rfl
theorem U5 {r2 M:List bf} {r3 b c:Int} (e:dK (dK r2 r3 (r2.length:Int)) b (b+c)=M) (d:∀x∈M,nP x) (i:M.length≤1000000) (J:Bool→Option (List cN)) :
  zaC (fun _ _=>none) (zbW r2 r3 b c J) zbx false 0=J (decide (qB (M.map tkI)=1)):=by
 have:=px (xs:=M) (F:=zbW r2 r3 b c J) (bot:=fun _ _=>none) (f:=fun (g:Bool) (x:bf)=>g||great x.Rune) (J:=J) (fun k a=>True) (fun ag k x a hx hb=>by
   have hk:=(au.1 hx).1
   unfold zbW
   rw[e]
   refine bS (lR hx) (cB (aY (kO hx) ?_))
   cases a with
   |true=>exact bS rfl (zdG (ja (by omega)) rfl)
   |false=>exact bM rfl (zdG (d x (aP hx)).i32 (zdG (ja (by omega)) (by rw[dp])))) (fun k x a hx hb=>trivial) (fun ag a _=>by unfold zbW;rw[e];exact bM lC rfl) (n:=zbx) (j0 (by omega)) (a:=false) trivial
 refine this.trans ?_
 have key:∀ (l:List bf) (a:Bool),l.foldl (fun (g:Bool) (x:bf)=>g||great x.Rune) a=(a||(l.map tkI).any fun x=>great x.1):=by
  intro l
  induction l with
  |nil=>intro a;rw[List.foldl_nil,ed,List.any_nil,mQ]
  |cons x l h=>intro a;rw[bn,h,av,jl,Bool.or_assoc];rfl
 rw[key,dp]
 unfold qB
 cases (M.map tkI).any fun x=>great x.1<;>rfl
theorem U6 {b:ad} (h:0<b.size):jQ b 0=some (kP b):=by
 rw[gJ] at h
 cases hd:b.data.toList with
 |nil=>rw[hd] at h;exact absurd h (by simp)
 |cons c l=>
  have:=zJ (s:=b) (k:=0) (c:=c) (by rw[hd];rfl)
  rw[show ((0:Nat):Int)=0 from rfl] at this
  rw[this]
  unfold kP
  rw[hd];rfl
theorem U7 (J:ad→Option ad):∀ (n:Nat) (s:ad),s.size<n→s.size≤1000000000→zaC (fun _=>none) (zcB 48 J) n s=J (ba (sY s.data.toList)):=by
 intro n
 induction n with
 |zero=>intro s h;omega
 |succ n e=>
  intro s i g
  rw[gk]
  generalize b:zaC (fun _=>none) (zcB 48 J) n=ag
  unfold zcB
  cases hd:s.data.toList with
  |nil=>
   have h0:s.size=0:=by rw[gJ,hd];rfl
   refine fC (aM J ?_)
   apply ow
   rw[hd,oS];rfl
  |cons c l=>
   have hsz:s.size=l.length+1:=by rw[gJ,hd];rfl
   have hg:=zJ (s:=s) (k:=0) (c:=c) (by rw[hd];rfl)
   rw[show ((0:Nat):Int)=0 from rfl] at hg
   refine eR (aY hg ?_)
   have d:(((c.toNat:Int):Int)==48)=(c==48):=by
    rw[Bool.eq_iff_iff,beq_iff_eq,beq_iff_eq]
    constructor
    ·intro h;exact UInt8.toNat_inj.1 (by show c.toNat=48;omega)
    ·intro h;subst h;rfl
   rw[d]
   cases hc:c==48 with
   |true=>
    have a:(cO s 1 (s.size:Int)).data.toList=l:=by
     have:=s6 s 1 s.size
     push_cast at this
     rw[this,hd,List.drop_succ_cons,el,ee (by omega)]
    have f:(cO s 1 (s.size:Int)).size=l.length:=by rw[gJ,a]
    have:=e (cO s 1 (s.size:Int)) (by omega) (by omega)
    rw[b,a] at this
    refine bS rfl (gO (this.trans ?_))
    unfold sY
    rw[cD,hc,am rfl]
   |false=>
    refine bM rfl (aM J ?_)
    apply ow
    unfold sY
    rw[oS,cD,hc,aj (by simp),hd]
theorem U9 (s:ad) (b:s.size≤1000000000):zV s=some (ba (sY s.data.toList)):=by
 unfold zV
 by_cases h:s=(⟨#[]⟩:ad)
 ·refine bS (ax h) ?_
  subst h;rfl
 ·refine bM (al h) (bM (by decide) (cB (bS (by decide) (aY (a:=48) (by decide) (bS (by decide) (aY (a:=48) (by decide) (aY (a:=ba (sY s.data.toList)) ?_ rfl)))))))
  unfold Cl
  exact cB (U7 some zbx s (by unfold zbx;omega) b)
end Go.Proofs.YtifpjbgnikjglaaGreatDoor
