/-
  Texts laid together: LwT, LwA, LwI, LwB, LwE, LwM, LwF, LwD, LwG, LwN, LwO, LwH, LwK, LwC, LwL. Nothing is assumed.
-/
import Derived.Test.YtdnalnmahlakkaaGreatDoorTopTree4
import Derived.Test.YtdnalnmahlakkaaGreatDoorTopTree2
set_option maxRecDepth 100000
set_option maxHeartbeats 4000000
namespace Go.Proofs.YtdnalnmahlakkaaGreatDoor
open Go.RowKit Go.Lib
open Tryz
set_option linter.unusedVariables false
set_option linter.unusedSimpArgs false
def zcP (q1:zbp) (ek1:(List za0)→(List zBA)→Option ((Option zai)×Int)) (x12:Nat×Nat) (ag2:(List za0)→(List zBA)→Option ((Option zai)×Int)) (spans5:List za0) (keys4:List zBA):Option ((Option zai)×Int) := zaL (((spans5.length:Int):Int)==256) ( ek1 spans5 keys4
) ( grd (spans5.length+1≤2147483648) <| grd (0≤((x12.1:Int):Int)∧((x12.1:Int):Int)≤(x12.2:Int)∧((x12.2:Int):Int)≤(q1.Text.size:Int)) <| zaA (zfM (zgT q1.Text (x12.1:Int) (x12.2:Int))) fun (r3:zBA) => grd (keys4.length+1≤2147483648) <| ag2 (spans5++[(⟨(x12.1:Int),(x12.2:Int)⟩:za0)]) (keys4++[r3])
)
def zbC (l1:List zbp) (j1:(List zBA)→(List zBA)→(List (List za0))→(List (List zBA))→Option ((Option zai)×Int)) (ag1:(List zBA)→(List zBA)→(List (List za0))→(List (List zBA))→Int→Option ((Option zai)×Int)) (t19:List zBA) (t20:List zBA) (t21:List (List za0)) (t22:List (List zBA)) (x3:Int):Option ((Option zai)×Int) := zaL (decide ((x3:Int)<(l1.length:Int))) ( zcd (fun (j2:(List zBA)→(List zBA)→(List (List za0))→(List (List zBA))→Int→Int→zBA→zBA→zBA→Int→zBA→Bool→Option ((Option zai)×Int)) => zaA (zeD l1 x3) fun (q1:zbp) => zaA (zdz q1.Name) fun (r1:(Int×Int)) => zaL (decide ((r1.2:Int)<1)) ( some (none,2)
) ( zaL (decide ((16:Int)<r1.2)) ( some (none,2)
) ( zaL ((r1.1:Int) != (q1.Name.size:Int)) ( some (none,2)
) ( zaA (zcB t19 q1.Name) fun (r2:Bool) => zaL (r2) ( some (none,2)
) ( zaL (decide ((65536:Int)<(q1.Text.size:Int))) ( some (none,3)
) ( zcd (fun (j3:(List za0)→(List zBA)→Option ((Option zai)×Int)) => grd (q1.Text.size≤4611686018427387904) <| zcd (fun (ek1:(List za0)→(List zBA)→Option ((Option zai)×Int)) => zcd (fun (dn1:(List za0)→(List zBA)→Option ((Option zai)×Int)) => zbZ dn1 (zcP q1 ek1) (zsr q1.Text) ([]:List za0) ([]:List zBA)
) (fun (spans5:List za0) (keys4:List zBA) => j3 spans5 keys4
)
) (fun (spans6:List za0) (keys5:List zBA) => some (none,3)
)
) (fun (spans1:List za0) (keys1:List zBA) => grd (t19.length+1≤2147483648) <| grd (t20.length+1≤2147483648) <| grd (t21.length+1≤2147483648) <| grd (t22.length+1≤2147483648) <| j2 (t19++[q1.Name]) (t20++[q1.Text]) (t21++[spans1]) (t22++[keys1]) r1.2 r1.1 q1.Name q1.Text q1.Name (q1.Name.size:Int) q1.Name r2
)
)
)
)
)
)
) (fun (t23:List zBA) (t24:List zBA) (t25:List (List za0)) (t26:List (List zBA)) (x4:Int) (x5:Int) (x6:zBA) (x7:zBA) (x8:zBA) (x9:Int) (x10:zBA) (x11:Bool) => grd (I64 (x3+1)) <| ag1 t23 t24 t25 t26 (x3+1)
)
) ( j1 t19 t20 t21 t22
)
def zcq (l1:List zbp) (j4:(List zBA)→(List zBA)→(List (List za0))→(List (List zBA))→(List zan)→Option ((Option zai)×Int)) (ag3:(List zBA)→(List zBA)→(List (List za0))→(List (List zBA))→(List zan)→Int→Option ((Option zai)×Int)) (t46:List zBA) (t47:List zBA) (t48:List (List za0)) (t49:List (List zBA)) (t50:List zan) (x15:Int):Option ((Option zai)×Int) := zaL (decide ((x15:Int)<(l1.length:Int))) ( zaA (zdV (⟨t46,t47,t48,t49,t50⟩:zai) x15) fun (r4:zai) => zaL (decide ((256:Int)<(r4.columns.length:Int))) ( some (none,3)
) ( grd (I64 (x15+1)) <| ag3 r4.names r4.texts r4.spans r4.keys r4.columns (x15+1)
)
) ( j4 t46 t47 t48 t49 t50
)
def zc6 (t30:List (List zBA)) (t31:List zan) (j5:(List zan)→Option ((Option zai)×Int)) (ag4:(List zan)→Int→Option ((Option zai)×Int)) (t54:List zan) (x18:Int):Option ((Option zai)×Int) := zaL (decide ((x18:Int)<(t31.length:Int))) ( zaA (zeD t54 x18) fun (x19:zan) => zaA (zdX t30 x19) fun (r5:zan) => grd (I64 (x18+1)) <| ag4 (t54.set (x18:Int).toNat r5) (x18+1)
) ( j5 t54
)
def zeT (l1:List zbp):Option ((Option zai)×Int) := zaL (((l1.length:Int):Int)==0) ( some (none,2)
) ( zaL (decide ((8:Int)<(l1.length:Int))) ( some (none,3)
) ( zcd (fun (j1:(List zBA)→(List zBA)→(List (List za0))→(List (List zBA))→Option ((Option zai)×Int)) => zbq (fun _ _ _ _ _=>none) (zbC l1 j1) zc9 ([]:List zBA) ([]:List zBA) ([]:List (List za0)) ([]:List (List zBA)) 0
) (fun (t1:List zBA) (t2:List zBA) (t3:List (List za0)) (t4:List (List zBA)) => zcd (fun (j4:(List zBA)→(List zBA)→(List (List za0))→(List (List zBA))→(List zan)→Option ((Option zai)×Int)) => zbq (fun _ _ _ _ _ _=>none) (zcq l1 j4) zc9 t1 t2 t3 t4 ([]:List zan) 0
) (fun (t27:List zBA) (t28:List zBA) (t29:List (List za0)) (t30:List (List zBA)) (t31:List zan) => zcd (fun (j5:(List zan)→Option ((Option zai)×Int)) => zbq (fun _ _=>none) (zc6 t30 t31 j5) zc9 t31 0
) (fun (t51:List zan) => some ((some (⟨t27,t28,t29,t30,t51⟩:zai)),0)
)
)
)
)
)
theorem zkO {vvl1 vl1:Value} {Ll1:List zbp} {kl1:Nat} {l1:List zbp} (hwl1:Vw vvl1 Ll1 2 kl1 vl1 l1) {r:((Option zai)×Int)} (h:zeT l1=some r):FnR prog 5 [vl1] [zcR enc_Gapi_Witness 2 vvl1 kl1 Ll1,tz64A] [] (fun v0:Value=>.tuple #[v0,zI r.2]) (fun v0=>[zkL za8 za7 60 v0 r.1]):=by
 unfold zeT at h
 refine FnR.intro func5 rfl ntmps5 (by simp) ?_
 intro w0 K hrd
 refine ze3 ?_
 show TC _ _ _ _ _ _ _ _ _ [zc0 ((([]:List Nat):List Nat).map zcu)]
 refine zyG ?_
 refine za6 zt3 rfl dc (fun b1 => ?_)
 refine za6 zvy rfl dc (fun b2 => ?_)
 show TO _ _ _ _ _ _ _ _ _ _ [zc0 ((([]:List Nat):List Nat).map zcu),cells b1 [.pointer none] 24,cells b2 [zI 0] 25]
 refine zyN (zar (zyG (zyR 1 rfl (zfe hwl1 rfl dc rfl underlying22 (zbn rfl zaP (zyN ?_))))))
 refine zyB rfl h (fun h => ?_) (fun h => ?_)
 ·
  refine zyG ?_
  refine zaG (k:=1) (l':=[.pointer none]) zka rfl rfl rfl rfl rfl (fun _ _=>rfl) rfl ?_
  refine zaG (k:=2) (l':=[zI 2]) zkR rfl rfl rfl rfl rfl (fun _ _=>rfl) rfl ?_
  show TO _ _ _ _ _ _ _ _ _ _ [zc0 ((([]:List Nat):List Nat).map zcu),cells b1 [.pointer none] 24,cells b2 [zI 2] 25]
  refine zyN (zaE (zao (zfB za8 za7 60 ?_)))
  show TX _ _ _ _ _ _ _ [zc0 ((([]:List Nat):List Nat).map zcu),cells b1 [.pointer none] 24,cells b2 [zI 2] 25,zkL za8 za7 60 (.pointer none) none]
  cases h
  exact zcE (rs:=[.cell 2 24,.cell 3 25]) ([]:List Nat) (.pointer none) (.inl rfl) (zaT (k:=0) rfl) results5 (.cons (.cell zfr (k:=1) rfl rfl) (.cons (.cell ziR (k:=2) rfl rfl) .nil)) rfl (zaa [3] kr rfl)
 refine zax (zag (zar (zyG (zyR 1 rfl (zfe hwl1 rfl dc rfl underlying22 (zbn rfl zeP (zyN ?_)))))))
 refine zyB rfl h (fun h => ?_) (fun h => ?_)
 ·
  refine zyG ?_
  refine zaG (k:=1) (l':=[.pointer none]) zka rfl rfl rfl rfl rfl (fun _ _=>rfl) rfl ?_
  refine zaG (k:=2) (l':=[zI 3]) zkR rfl rfl rfl rfl rfl (fun _ _=>rfl) rfl ?_
  show TO _ _ _ _ _ _ _ _ _ _ [zc0 ((([]:List Nat):List Nat).map zcu),cells b1 [.pointer none] 24,cells b2 [zI 3] 25]
  refine zyN (zaE (zao (zfB za8 za7 60 ?_)))
  show TX _ _ _ _ _ _ _ [zc0 ((([]:List Nat):List Nat).map zcu),cells b1 [.pointer none] 24,cells b2 [zI 3] 25,zkL za8 za7 60 (.pointer none) none]
  cases h
  exact zcE (rs:=[.cell 2 24,.cell 3 25]) ([]:List Nat) (.pointer none) (.inl rfl) (zaT (k:=0) rfl) results5 (.cons (.cell zfr (k:=1) rfl rfl) (.cons (.cell ziR (k:=2) rfl rfl) .nil)) rfl (zaa [3] kr rfl)
 refine zax (zag ?_)
 obtain ⟨j1,hj1,h⟩:=zcC h
 refine zbF (β:=(List zBA)×(List zBA)×(List (List za0))×(List (List zBA))×Nat×Hd×Hd×Hd×Hd×(List Nat)) 1 rfl (fun b=>j1 b.1 b.2.1 b.2.2.1 b.2.2.2.1=some r) (fun b=>zcK b.2.2.2.2.2.2.2.2.2) (fun b=>[(0,vl1),(2,zP b1),(3,zP b2),(4,zP b.2.2.2.2.1)]) (fun b=>[cells b1 [.pointer none] 24,cells b2 [zI 0] 25,cells b.2.2.2.2.1 [b.2.2.2.2.2.1.v,b.2.2.2.2.2.2.1.v,b.2.2.2.2.2.2.2.1.v,b.2.2.2.2.2.2.2.2.1.v,.slice none 0 0] 60,zv0 b.2.2.2.2.2.1.v b.1,zv0 b.2.2.2.2.2.2.1.v b.2.1,zba zam zaf 62 1 b.2.2.2.2.2.2.2.1.v b.2.2.1,zba zaj zal 55 1 b.2.2.2.2.2.2.2.2.1.v b.2.2.2.1,zc0 ((b.2.2.2.2.2.2.2.2.2:List Nat).map zcu)]) (fun cut => ?_) ?_
 ·
  refine zyG ?_
  refine zbB (v:=.agg #[.slice none 0 0,.slice none 0 0,.slice none 0 0,.slice none 0 0,.slice none 0 0]) (ps:=[]) rfl dc rfl (fun _=>by kernel_rfl) ?_
  refine zdN rfl dc rfl (fun b4 => ?_)
  refine zyR 1 rfl (zyN (cut (zyG (zyR 1 rfl (zfe hwl1 rfl dc rfl underlying22 (zyR 1 rfl (zyN (zaK (zfd (enc:=zgA) (e:=9) (size:=1) ?_)))))))))
  show TC _ _ _ _ _ _ _ _ _ [zc0 ((([]:List Nat):List Nat).map zcu),cells b1 [.pointer none] 24,cells b2 [zI 0] 25,cells b4 [.slice none 0 0,.slice none 0 0,.slice none 0 0,.slice none 0 0,.slice none 0 0] 60,zv0 (.slice none 0 0) ([]:List zBA)]
  refine zfd (enc:=zgA) (e:=9) (size:=1) ?_
  show TC _ _ _ _ _ _ _ _ _ [zc0 ((([]:List Nat):List Nat).map zcu),cells b1 [.pointer none] 24,cells b2 [zI 0] 25,cells b4 [(.slice none 0 0),.slice none 0 0,.slice none 0 0,.slice none 0 0,.slice none 0 0] 60,zv0 (.slice none 0 0) ([]:List zBA),zv0 (.slice none 0 0) ([]:List zBA)]
  refine zkH (enc:=zam) (nest:=zaf) (e:=62) (size:=1) ?_
  show TC _ _ _ _ _ _ _ _ _ [zc0 ((([]:List Nat):List Nat).map zcu),cells b1 [.pointer none] 24,cells b2 [zI 0] 25,cells b4 [(.slice none 0 0),(.slice none 0 0),.slice none 0 0,.slice none 0 0,.slice none 0 0] 60,zv0 (.slice none 0 0) ([]:List zBA),zv0 (.slice none 0 0) ([]:List zBA),zba zam zaf 62 1 (.slice none 0 0) ([]:List (List za0))]
  refine zkH (enc:=zaj) (nest:=zal) (e:=55) (size:=1) ?_
  show TC _ _ _ _ _ _ _ _ _ [zc0 ((([]:List Nat):List Nat).map zcu),cells b1 [.pointer none] 24,cells b2 [zI 0] 25,cells b4 [(.slice none 0 0),(.slice none 0 0),(.slice none 0 0),.slice none 0 0,.slice none 0 0] 60,zv0 (.slice none 0 0) ([]:List zBA),zv0 (.slice none 0 0) ([]:List zBA),zba zam zaf 62 1 (.slice none 0 0) ([]:List (List za0)),zba zaj zal 55 1 (.slice none 0 0) ([]:List (List zBA))]
  refine zdy (β:=Nat×(List zBA)×(List zBA)×(List (List za0))×(List (List zBA))×Int×Hd×Hd×Hd×Hd×(List Nat)) (fun b=>zbq (fun _ _ _ _ _=>none) (zbC l1 j1) b.1 b.2.1 b.2.2.1 b.2.2.2.1 b.2.2.2.2.1 b.2.2.2.2.2.1=some r) (fun b=>zcK b.2.2.2.2.2.2.2.2.2.2) (fun b=>[(0,vl1),(2,zP b1),(3,zP b2),(4,zP b4),(22,vl1),(23,zI (l1.length:Int)),(24,zI b.2.2.2.2.2.1)]) (fun b=>[cells b1 [.pointer none] 24,cells b2 [zI 0] 25,cells b4 [b.2.2.2.2.2.2.1.v,b.2.2.2.2.2.2.2.1.v,b.2.2.2.2.2.2.2.2.1.v,b.2.2.2.2.2.2.2.2.2.1.v,.slice none 0 0] 60,zv0 b.2.2.2.2.2.2.1.v b.2.1,zv0 b.2.2.2.2.2.2.2.1.v b.2.2.1,zba zam zaf 62 1 b.2.2.2.2.2.2.2.2.1.v b.2.2.2.1,zba zaj zal 55 1 b.2.2.2.2.2.2.2.2.2.1.v b.2.2.2.2.1,zc0 ((b.2.2.2.2.2.2.2.2.2.2:List Nat).map zcu)]) (fun b=>b.1) (zc9,([]:List zBA),([]:List zBA),([]:List (List za0)),([]:List (List zBA)),0,Hd.nil,Hd.nil,Hd.nil,Hd.nil,([]:List Nat)) h rfl (zbK rfl) (zaa [1,2,3,4,5,6,7,0] kr rfl) ?_
  rintro ⟨n1,t19,t20,t21,t22,x3,hd19,hd20,hd21,hd22,ds4⟩ h
  cases n1 with
  | zero=>exact zfG h
  | succ n1 =>
   obtain ⟨ag1,hag1⟩:∃ ag,ag=zbq (fun _ _ _ _ _=>none) (zbC l1 j1) n1:=⟨_,rfl⟩
   have h:zbC l1 j1 ag1 t19 t20 t21 t22 x3=some r:=by rw [hag1]; exact h
   unfold zbC at h
   show TC _ _ _ _ _ (zcK ds4) _ _ [(0,vl1),(2,zP b1),(3,zP b2),(4,zP b4),(22,vl1),(23,zI (l1.length:Int)),(24,zI x3)] [cells b1 [.pointer none] 24,cells b2 [zI 0] 25,cells b4 [hd19.v,hd20.v,hd21.v,hd22.v,.slice none 0 0] 60,zv0 hd19.v t19,zv0 hd20.v t20,zba zam zaf 62 1 hd21.v t21,zba zaj zal 55 1 hd22.v t22,zc0 ((ds4:List Nat).map zcu)]
   refine zyG (zbn rfl zb4 (zyN (zar ?_)))
   refine zyB rfl h (fun h => ?_) (fun h => ?_)
   ·
    refine zax (zag ?_)
    obtain ⟨j2,hj2,h⟩:=zcC h
    refine zbF (β:=(List zBA)×(List zBA)×(List (List za0))×(List (List zBA))×Int×Int×zBA×zBA×zBA×Int×zBA×Bool×Hd×Hd×Hd×Hd×Nat×(List Nat)) 0 rfl (fun b=>j2 b.1 b.2.1 b.2.2.1 b.2.2.2.1 b.2.2.2.2.1 b.2.2.2.2.2.1 b.2.2.2.2.2.2.1 b.2.2.2.2.2.2.2.1 b.2.2.2.2.2.2.2.2.1 b.2.2.2.2.2.2.2.2.2.1 b.2.2.2.2.2.2.2.2.2.2.1 b.2.2.2.2.2.2.2.2.2.2.2.1=some r) (fun b=>zcK b.2.2.2.2.2.2.2.2.2.2.2.2.2.2.2.2.2) (fun b=>[(0,vl1),(2,zP b1),(3,zP b2),(4,zP b4),(22,vl1),(23,zI (l1.length:Int)),(24,zI x3),(37,zI b.2.2.2.2.1),(38,.bool false),(41,zI b.2.2.2.2.2.1),(42,zP b.2.2.2.2.2.2.2.2.2.2.2.2.2.2.2.2.1),(43,.string b.2.2.2.2.2.2.2.2.1),(44,zI b.2.2.2.2.2.2.2.2.2.1),(45,.bool false),(48,zP b4),(49,zP b4),(50,zP b4),(52,zP b.2.2.2.2.2.2.2.2.2.2.2.2.2.2.2.2.1),(53,.string b.2.2.2.2.2.2.2.2.2.2.1),(54,.bool b.2.2.2.2.2.2.2.2.2.2.2.1)]) (fun b=>[cells b1 [.pointer none] 24,cells b2 [zI 0] 25,cells b4 [b.2.2.2.2.2.2.2.2.2.2.2.2.1.v,b.2.2.2.2.2.2.2.2.2.2.2.2.2.1.v,b.2.2.2.2.2.2.2.2.2.2.2.2.2.2.1.v,b.2.2.2.2.2.2.2.2.2.2.2.2.2.2.2.1.v,.slice none 0 0] 60,zv0 b.2.2.2.2.2.2.2.2.2.2.2.2.1.v b.1,zv0 b.2.2.2.2.2.2.2.2.2.2.2.2.2.1.v b.2.1,zba zam zaf 62 1 b.2.2.2.2.2.2.2.2.2.2.2.2.2.2.1.v b.2.2.1,zba zaj zal 55 1 b.2.2.2.2.2.2.2.2.2.2.2.2.2.2.2.1.v b.2.2.2.1,cells b.2.2.2.2.2.2.2.2.2.2.2.2.2.2.2.2.1 [.string b.2.2.2.2.2.2.1,.string b.2.2.2.2.2.2.2.1] 30,zc0 ((b.2.2.2.2.2.2.2.2.2.2.2.2.2.2.2.2.2:List Nat).map zcu)]) (fun cut => ?_) ?_
    ·
     refine cut (zaK (zyG ?_))
     obtain ⟨q1,hq1,h⟩:=zcp h
     refine zcF hwl1 hq1 underlying22 zug rfl dc rfl rfl rfl (zja (m:=kl1+(x3:Int).toNat) (j:=0) (i:=0) (q:=q1) (cs:=(zr0 q1)) hrd rfl (by omega) zvI rfl dc rfl (Vw.get hwl1 hq1) rfl rfl rfl ?_)
     refine za6 zvx rfl dc (fun b6 => ?_)
     refine za2 (k:=8) (vs:=(zr0 q1)) (l':=(zr0 q1)) zug rfl rfl rfl rfl rfl (show _≤_ by simp) rfl rfl ?_
     show TO _ _ _ _ _ _ _ _ _ _ [cells b1 [.pointer none] 24,cells b2 [zI 0] 25,cells b4 [hd19.v,hd20.v,hd21.v,hd22.v,.slice none 0 0] 60,zv0 hd19.v t19,zv0 hd20.v t20,zba zam zaf 62 1 hd21.v t21,zba zaj zal 55 1 hd22.v t22,zc0 ((ds4:List Nat).map zcu),cells b6 (zr0 q1) 30]
     refine zyH (zac zkw rfl dc rfl (show _=0 from rfl) (zat (k:=8) zhH rfl dc rfl rfl rfl ?_))
     obtain ⟨r1,hq2,h⟩:=zcp h
     refine zbv (v:=.tuple #[zI r1.1,zI r1.2]) (vs:=[.string q1.Name]) rfl dc rfl rfl rfl zuU (zhh hq2) (zyR 1 rfl (zaJ rfl dc rfl rfl (zaJ rfl dc rfl rfl (zyR 2 rfl (zyN (zar (zar ?_)))))))
     refine zej (b:=decide ((r1.2:Int)<1)) (fun hb4 => ?_) (fun hb4 => ?_)
     ·
      have h:=zg5 hb4 h
      refine zbW 20 [(0,34,zI r1.2),(1,35,.bool true),(2,36,.bool true),(3,37,undef),(4,38,undef),(5,39,.bool true),(6,40,.bool true),(7,41,undef),(8,42,undef),(9,43,undef),(10,44,undef),(11,45,undef),(12,46,.bool true),(13,47,.bool true),(14,48,undef),(15,49,undef),(16,50,undef),(17,51,undef),(18,52,undef),(19,53,undef)] mixed kr kr dc (by rfl) kr kr (zyP 1 0 rfl (zae ?_ (zyP 18 2 rfl DrawPre.nil))) ?_
      · exact fun D n d c u i=>zaX rfl dc (zaH 0 u d) rfl zb4 (zdt (show Value.bool (decide ((r1.2:Int)<1))=Value.bool true from congrArg Value.bool hb4) (zaI 1 u i))
      refine zyR 2 rfl (zyN (zbw rfl (zyG ?_)))
      refine zaG (k:=0) (l':=[.pointer none]) zka rfl rfl rfl rfl rfl (fun _ _=>rfl) rfl ?_
      refine zaG (k:=1) (l':=[zI 2]) zkR rfl rfl rfl rfl rfl (fun _ _=>rfl) rfl ?_
      show TO _ _ _ _ _ _ _ _ _ _ [cells b1 [.pointer none] 24,cells b2 [zI 2] 25,cells b4 [hd19.v,hd20.v,hd21.v,hd22.v,.slice none 0 0] 60,zv0 hd19.v t19,zv0 hd20.v t20,zba zam zaf 62 1 hd21.v t21,zba zaj zal 55 1 hd22.v t22,zc0 ((ds4:List Nat).map zcu),cells b6 (zr0 q1) 30]
      refine zyN (zaE (zao (zau (zao (zao (zau (zao (zfB za8 za7 60 ?_))))))))
      show TX _ _ _ _ _ _ _ [cells b1 [.pointer none] 24,cells b2 [zI 2] 25,cells b4 [hd19.v,hd20.v,hd21.v,hd22.v,.slice none 0 0] 60,zv0 hd19.v t19,zv0 hd20.v t20,zba zam zaf 62 1 hd21.v t21,zba zaj zal 55 1 hd22.v t22,zc0 ((ds4:List Nat).map zcu),cells b6 (zr0 q1) 30,zkL za8 za7 60 (.pointer none) none]
      cases h
      exact zcE (rs:=[.cell 2 24,.cell 3 25]) ds4 (.pointer none) (.inl rfl) (zaT (k:=7) rfl) results5 (.cons (.cell zfr (k:=0) rfl rfl) (.cons (.cell ziR (k:=1) rfl rfl) .nil)) rfl (zaa [9] kr rfl)
     have h:=zg6 hb4 h
     refine zej (b:=decide ((16:Int)<r1.2)) (fun hb5 => ?_) (fun hb5 => ?_)
     ·
      have h:=zg5 hb5 h
      refine zbW 20 [(0,34,zI r1.2),(1,35,.bool false),(2,36,.bool false),(3,37,zI r1.2),(4,38,.bool true),(5,39,.bool true),(6,40,.bool true),(7,41,undef),(8,42,undef),(9,43,undef),(10,44,undef),(11,45,undef),(12,46,.bool true),(13,47,.bool true),(14,48,undef),(15,49,undef),(16,50,undef),(17,51,undef),(18,52,undef),(19,53,undef)] mixed kr kr dc (by rfl) kr kr (zyP 1 0 rfl (zae ?_ (zyP 2 2 rfl (zae ?_ (zyP 15 5 rfl DrawPre.nil))))) ?_
      · exact fun D n d c u i=>zaX rfl dc (zaH 0 u d) rfl zb4 (zdt (show Value.bool (decide ((r1.2:Int)<1))=Value.bool false from congrArg Value.bool hb4) (zaI 1 u i))
      · exact fun D n d c u i=>zaX (zeY rfl (zaH 2 u d)) dc (zaH 3 u d) rfl zeP (zdt (show Value.bool (decide ((16:Int)<r1.2))=Value.bool true from congrArg Value.bool hb5) (zaI 4 u i))
      refine zyR 2 rfl (zyN (zbw rfl (zyG ?_)))
      refine zaG (k:=0) (l':=[.pointer none]) zka rfl rfl rfl rfl rfl (fun _ _=>rfl) rfl ?_
      refine zaG (k:=1) (l':=[zI 2]) zkR rfl rfl rfl rfl rfl (fun _ _=>rfl) rfl ?_
      show TO _ _ _ _ _ _ _ _ _ _ [cells b1 [.pointer none] 24,cells b2 [zI 2] 25,cells b4 [hd19.v,hd20.v,hd21.v,hd22.v,.slice none 0 0] 60,zv0 hd19.v t19,zv0 hd20.v t20,zba zam zaf 62 1 hd21.v t21,zba zaj zal 55 1 hd22.v t22,zc0 ((ds4:List Nat).map zcu),cells b6 (zr0 q1) 30]
      refine zyN (zaE (zao (zau (zao (zao (zau (zao (zfB za8 za7 60 ?_))))))))
      show TX _ _ _ _ _ _ _ [cells b1 [.pointer none] 24,cells b2 [zI 2] 25,cells b4 [hd19.v,hd20.v,hd21.v,hd22.v,.slice none 0 0] 60,zv0 hd19.v t19,zv0 hd20.v t20,zba zam zaf 62 1 hd21.v t21,zba zaj zal 55 1 hd22.v t22,zc0 ((ds4:List Nat).map zcu),cells b6 (zr0 q1) 30,zkL za8 za7 60 (.pointer none) none]
      cases h
      exact zcE (rs:=[.cell 2 24,.cell 3 25]) ds4 (.pointer none) (.inl rfl) (zaT (k:=7) rfl) results5 (.cons (.cell zfr (k:=0) rfl rfl) (.cons (.cell ziR (k:=1) rfl rfl) .nil)) rfl (zaa [9] kr rfl)
     have h:=zg6 hb5 h
     refine zej (b:=(r1.1:Int) != (q1.Name.size:Int)) (fun hb6 => ?_) (fun hb6 => ?_)
     ·
      have h:=zg5 hb6 h
      refine zbW 20 [(0,34,zI r1.2),(1,35,.bool false),(2,36,.bool false),(3,37,zI r1.2),(4,38,.bool false),(5,39,.bool false),(6,40,.bool false),(7,41,zI r1.1),(8,42,zP b6),(9,43,.string q1.Name),(10,44,zI (q1.Name.size:Int)),(11,45,.bool true),(12,46,.bool true),(13,47,.bool true),(14,48,undef),(15,49,undef),(16,50,undef),(17,51,undef),(18,52,undef),(19,53,undef)] mixed kr kr dc (by rfl) kr kr (zyP 1 0 rfl (zae ?_ (zyP 2 2 rfl (zae ?_ (zyP 3 5 rfl (zae ?_ (zae ?_ (zae ?_ (zae ?_ (zyP 8 12 rfl DrawPre.nil)))))))))) ?_
      · exact fun D n d c u i=>zaX rfl dc (zaH 0 u d) rfl zb4 (zdt (show Value.bool (decide ((r1.2:Int)<1))=Value.bool false from congrArg Value.bool hb4) (zaI 1 u i))
      · exact fun D n d c u i=>zaX (zeY rfl (zaH 2 u d)) dc (zaH 3 u d) rfl zeP (zdt (show Value.bool (decide ((16:Int)<r1.2))=Value.bool false from congrArg Value.bool hb5) (zaI 4 u i))
      · exact fun D n d c u i=>zac zkw (zeY rfl (zaH 6 u d)) dc (za3 (by rfl) rfl) (show _=0 from rfl) (zaI 8 u i)
      · exact fun D n d c u i=>zat (k:=8) zhH (zeY rfl (zaH 6 u d)) dc (zaH 8 u d) rfl rfl (zaI 9 u i)
      · exact fun D n d c u i=>zdC (zeY rfl (zaH 6 u d)) dc (zaH 9 u d) underlying9 (zaI 10 u i)
      · exact fun D n d c u i=>zaX (zeY rfl (zaH 6 u d)) dc (zaH 7 u d) (zaH 10 u d) zdZ (zdt (show Value.bool ((r1.1:Int) != (q1.Name.size:Int))=Value.bool true from congrArg Value.bool hb6) (zaI 11 u i))
      refine zyR 2 rfl (zyN (zbw rfl (zyG ?_)))
      refine zaG (k:=0) (l':=[.pointer none]) zka rfl rfl rfl rfl rfl (fun _ _=>rfl) rfl ?_
      refine zaG (k:=1) (l':=[zI 2]) zkR rfl rfl rfl rfl rfl (fun _ _=>rfl) rfl ?_
      show TO _ _ _ _ _ _ _ _ _ _ [cells b1 [.pointer none] 24,cells b2 [zI 2] 25,cells b4 [hd19.v,hd20.v,hd21.v,hd22.v,.slice none 0 0] 60,zv0 hd19.v t19,zv0 hd20.v t20,zba zam zaf 62 1 hd21.v t21,zba zaj zal 55 1 hd22.v t22,zc0 ((ds4:List Nat).map zcu),cells b6 (zr0 q1) 30]
      refine zyN (zaE (zao (zau (zao (zao (zau (zao (zfB za8 za7 60 ?_))))))))
      show TX _ _ _ _ _ _ _ [cells b1 [.pointer none] 24,cells b2 [zI 2] 25,cells b4 [hd19.v,hd20.v,hd21.v,hd22.v,.slice none 0 0] 60,zv0 hd19.v t19,zv0 hd20.v t20,zba zam zaf 62 1 hd21.v t21,zba zaj zal 55 1 hd22.v t22,zc0 ((ds4:List Nat).map zcu),cells b6 (zr0 q1) 30,zkL za8 za7 60 (.pointer none) none]
      cases h
      exact zcE (rs:=[.cell 2 24,.cell 3 25]) ds4 (.pointer none) (.inl rfl) (zaT (k:=7) rfl) results5 (.cons (.cell zfr (k:=0) rfl rfl) (.cons (.cell ziR (k:=1) rfl rfl) .nil)) rfl (zaa [9] kr rfl)
     have h:=zg6 hb6 h
     obtain ⟨r2,hq3,h⟩:=zcp h
     refine zbW 20 [(0,34,zI r1.2),(1,35,.bool false),(2,36,.bool false),(3,37,zI r1.2),(4,38,.bool false),(5,39,.bool false),(6,40,.bool false),(7,41,zI r1.1),(8,42,zP b6),(9,43,.string q1.Name),(10,44,zI (q1.Name.size:Int)),(11,45,.bool false),(12,46,.bool false),(13,47,.bool false),(14,48,zP b4),(15,49,zP b4),(16,50,zP b4),(17,51,hd19.v),(18,52,zP b6),(19,53,.string q1.Name)] mixed kr kr dc (by rfl) kr kr (zyP 1 0 rfl (zae ?_ (zyP 2 2 rfl (zae ?_ (zyP 3 5 rfl (zae ?_ (zae ?_ (zae ?_ (zae ?_ (zyP 3 12 rfl (zae ?_ (zae ?_ (zae ?_ (zae ?_ (zae ?_ DrawPre.nil))))))))))))))) ?_
     · exact fun D n d c u i=>zaX rfl dc (zaH 0 u d) rfl zb4 (zdt (show Value.bool (decide ((r1.2:Int)<1))=Value.bool false from congrArg Value.bool hb4) (zaI 1 u i))
     · exact fun D n d c u i=>zaX (zeY rfl (zaH 2 u d)) dc (zaH 3 u d) rfl zeP (zdt (show Value.bool (decide ((16:Int)<r1.2))=Value.bool false from congrArg Value.bool hb5) (zaI 4 u i))
     · exact fun D n d c u i=>zac zkw (zeY rfl (zaH 6 u d)) dc (za3 (by rfl) rfl) (show _=0 from rfl) (zaI 8 u i)
     · exact fun D n d c u i=>zat (k:=8) zhH (zeY rfl (zaH 6 u d)) dc (zaH 8 u d) rfl rfl (zaI 9 u i)
     · exact fun D n d c u i=>zdC (zeY rfl (zaH 6 u d)) dc (zaH 9 u d) underlying9 (zaI 10 u i)
     · exact fun D n d c u i=>zaX (zeY rfl (zaH 6 u d)) dc (zaH 7 u d) (zaH 10 u d) zdZ (zdt (show Value.bool ((r1.1:Int) != (q1.Name.size:Int))=Value.bool false from congrArg Value.bool hb6) (zaI 11 u i))
     · exact fun D n d c u i=>zav (zeY rfl (zaH 13 u d)) dc (zaH 14 u d) (zaI 15 u i)
     · exact fun D n d c u i=>zac zhQ (zeY rfl (zaH 13 u d)) dc (zaH 15 u d) (show _=0 from rfl) (zaI 16 u i)
     · exact fun D n d c u i=>zat (k:=2) zic (zeY rfl (zaH 13 u d)) dc (zaH 16 u d) rfl rfl (zaI 17 u i)
     · exact fun D n d c u i=>zac zkw (zeY rfl (zaH 13 u d)) dc (za3 (by rfl) rfl) (show _=0 from rfl) (zaI 18 u i)
     · exact fun D n d c u i=>zat (k:=8) zhH (zeY rfl (zaH 13 u d)) dc (zaH 18 u d) rfl rfl (zaI 19 u i)
     refine zd5 (k:=3) rfl (fun hw1 => ?_)
     refine zbm (v:=.bool r2) (vs:=[hd19.v,.string q1.Name]) hrd rfl dc rfl rfl rfl zwx (zfp hw1 hq3) (.own (As:=[zv0 hd19.v t19]) (zaa [3] kr rfl) (fun _ _ h=>zdW zeF (sepL.one1.1 h)) .nil) ?_
     refine zyR 1 rfl (zyN ?_)
     refine zyB rfl h (fun h => ?_) (fun h => ?_)
     ·
      refine zyG ?_
      refine zaG (k:=0) (l':=[.pointer none]) zka rfl rfl rfl rfl rfl (fun _ _=>rfl) rfl ?_
      refine zaG (k:=1) (l':=[zI 2]) zkR rfl rfl rfl rfl rfl (fun _ _=>rfl) rfl ?_
      show TO _ _ _ _ _ _ _ _ _ _ [cells b1 [.pointer none] 24,cells b2 [zI 2] 25,cells b4 [hd19.v,hd20.v,hd21.v,hd22.v,.slice none 0 0] 60,zv0 hd19.v t19,zv0 hd20.v t20,zba zam zaf 62 1 hd21.v t21,zba zaj zal 55 1 hd22.v t22,zc0 ((ds4:List Nat).map zcu),cells b6 (zr0 q1) 30]
      refine zyN (zaE (zao (zau (zao (zao (zau (zao (zfB za8 za7 60 ?_))))))))
      show TX _ _ _ _ _ _ _ [cells b1 [.pointer none] 24,cells b2 [zI 2] 25,cells b4 [hd19.v,hd20.v,hd21.v,hd22.v,.slice none 0 0] 60,zv0 hd19.v t19,zv0 hd20.v t20,zba zam zaf 62 1 hd21.v t21,zba zaj zal 55 1 hd22.v t22,zc0 ((ds4:List Nat).map zcu),cells b6 (zr0 q1) 30,zkL za8 za7 60 (.pointer none) none]
      cases h
      exact zcE (rs:=[.cell 2 24,.cell 3 25]) ds4 (.pointer none) (.inl rfl) (zaT (k:=7) rfl) results5 (.cons (.cell zfr (k:=0) rfl rfl) (.cons (.cell ziR (k:=1) rfl rfl) .nil)) rfl (zaa [9] kr rfl)
     refine zax (zag (zar (zyG (zac zkv rfl dc rfl (show _=1 from rfl) (zat (k:=8) zhH rfl dc rfl rfl rfl (zdC rfl dc rfl underlying9 (zbn rfl zeP (zyN ?_))))))))
     refine zyB rfl h (fun h => ?_) (fun h => ?_)
     ·
      refine zyG ?_
      refine zaG (k:=0) (l':=[.pointer none]) zka rfl rfl rfl rfl rfl (fun _ _=>rfl) rfl ?_
      refine zaG (k:=1) (l':=[zI 3]) zkR rfl rfl rfl rfl rfl (fun _ _=>rfl) rfl ?_
      show TO _ _ _ _ _ _ _ _ _ _ [cells b1 [.pointer none] 24,cells b2 [zI 3] 25,cells b4 [hd19.v,hd20.v,hd21.v,hd22.v,.slice none 0 0] 60,zv0 hd19.v t19,zv0 hd20.v t20,zba zam zaf 62 1 hd21.v t21,zba zaj zal 55 1 hd22.v t22,zc0 ((ds4:List Nat).map zcu),cells b6 (zr0 q1) 30]
      refine zyN (zaE (zao (zau (zao (zao (zau (zao (zfB za8 za7 60 ?_))))))))
      show TX _ _ _ _ _ _ _ [cells b1 [.pointer none] 24,cells b2 [zI 3] 25,cells b4 [hd19.v,hd20.v,hd21.v,hd22.v,.slice none 0 0] 60,zv0 hd19.v t19,zv0 hd20.v t20,zba zam zaf 62 1 hd21.v t21,zba zaj zal 55 1 hd22.v t22,zc0 ((ds4:List Nat).map zcu),cells b6 (zr0 q1) 30,zkL za8 za7 60 (.pointer none) none]
      cases h
      exact zcE (rs:=[.cell 2 24,.cell 3 25]) ds4 (.pointer none) (.inl rfl) (zaT (k:=7) rfl) results5 (.cons (.cell zfr (k:=0) rfl rfl) (.cons (.cell ziR (k:=1) rfl rfl) .nil)) rfl (zaa [9] kr rfl)
     refine zax (zag ?_)
     obtain ⟨j3,hj3,h⟩:=zcC h
     refine zbF (β:=(List za0)×(List zBA)×Nat×Hd×Nat×Hd×(List Nat)) 2 rfl (fun b=>j3 b.1 b.2.1=some r) (fun b=>zcK b.2.2.2.2.2.2) (fun b=>[(0,vl1),(2,zP b1),(3,zP b2),(4,zP b4),(6,zP b6),(9,zP b.2.2.1),(10,zP b.2.2.2.2.1),(22,vl1),(23,zI (l1.length:Int)),(24,zI x3),(37,zI r1.2),(38,.bool false),(41,zI r1.1),(42,zP b6),(43,.string q1.Name),(44,zI (q1.Name.size:Int)),(45,.bool false),(48,zP b4),(49,zP b4),(50,zP b4),(51,hd19.v),(52,zP b6),(53,.string q1.Name),(54,.bool r2)]) (fun b=>[cells b1 [.pointer none] 24,cells b2 [zI 0] 25,cells b4 [hd19.v,hd20.v,hd21.v,hd22.v,.slice none 0 0] 60,zv0 hd19.v t19,zv0 hd20.v t20,zba zam zaf 62 1 hd21.v t21,zba zaj zal 55 1 hd22.v t22,cells b6 (zr0 q1) 30,cells b.2.2.1 [b.2.2.2.1.v] 62,zv1 b.2.2.2.1.v b.1,cells b.2.2.2.2.1 [b.2.2.2.2.2.1.v] 55,zv0 b.2.2.2.2.2.1.v b.2.1,zc0 ((b.2.2.2.2.2.2:List Nat).map zcu)]) (fun cut => ?_) ?_
     ·
      refine zyG ?_
      refine za6 zvv rfl dc (fun b9 => ?_)
      refine zyH ?_
      refine za6 zvw rfl dc (fun b10 => ?_)
      show TO _ _ _ _ _ _ _ _ _ _ [cells b1 [.pointer none] 24,cells b2 [zI 0] 25,cells b4 [hd19.v,hd20.v,hd21.v,hd22.v,.slice none 0 0] 60,zv0 hd19.v t19,zv0 hd20.v t20,zba zam zaf 62 1 hd21.v t21,zba zaj zal 55 1 hd22.v t22,zc0 ((ds4:List Nat).map zcu),cells b6 (zr0 q1) 30,cells b9 [.slice none 0 0] 62,cells b10 [.slice none 0 0] 55]
      refine zyN (cut (zyG (zac zkv rfl dc rfl (show _=1 from rfl) (zat (k:=8) zhH rfl dc rfl rfl rfl (zdE (vs:=[.string q1.Text]) rfl dc rfl rfl rfl zuV (znS q1.Text) Splits.nil ?_)))))
      rintro b11
      show TO _ _ _ _ _ _ _ _ _ _ [cells b1 [.pointer none] 24,cells b2 [zI 0] 25,cells b4 [hd19.v,hd20.v,hd21.v,hd22.v,.slice none 0 0] 60,zv0 hd19.v t19,zv0 hd20.v t20,zba zam zaf 62 1 hd21.v t21,zba zaj zal 55 1 hd22.v t22,zc0 ((ds4:List Nat).map zcu),cells b6 (zr0 q1) 30,cells b9 [.slice none 0 0] 62,cells b10 [.slice none 0 0] 55,cells b11 [.string q1.Text] 9]
      refine zyN (zaK ?_)
      obtain ⟨hg1,h⟩:=zcU h
      refine zfd (enc:=ze1) (e:=64) (size:=2) ?_
      show TC _ _ _ _ _ _ _ _ _ [cells b1 [.pointer none] 24,cells b2 [zI 0] 25,cells b4 [hd19.v,hd20.v,hd21.v,hd22.v,.slice none 0 0] 60,zv0 hd19.v t19,zv0 hd20.v t20,zba zam zaf 62 1 hd21.v t21,zba zaj zal 55 1 hd22.v t22,zc0 ((ds4:List Nat).map zcu),cells b6 (zr0 q1) 30,cells b9 [.slice none 0 0] 62,cells b10 [.slice none 0 0] 55,cells b11 [.string q1.Text] 9,zv1 (.slice none 0 0) ([]:List za0)]
      refine zfd (enc:=zgA) (e:=9) (size:=1) ?_
      show TC _ _ _ _ _ _ _ _ _ [cells b1 [.pointer none] 24,cells b2 [zI 0] 25,cells b4 [hd19.v,hd20.v,hd21.v,hd22.v,.slice none 0 0] 60,zv0 hd19.v t19,zv0 hd20.v t20,zba zam zaf 62 1 hd21.v t21,zba zaj zal 55 1 hd22.v t22,zc0 ((ds4:List Nat).map zcu),cells b6 (zr0 q1) 30,cells b9 [(.slice none 0 0)] 62,cells b10 [.slice none 0 0] 55,cells b11 [.string q1.Text] 9,zv1 (.slice none 0 0) ([]:List za0),zv0 (.slice none 0 0) ([]:List zBA)]
      obtain ⟨ek1,hek1,h⟩:=zcC h
      obtain ⟨dn1,hdn1,h⟩:=zcC h
      refine zfF (α:=Nat×Nat) (β:=(List za0)×(List zBA)×Hd×Hd) (γ:=((List za0)×(List zBA)×Hd×Hd)) (δ:=Nat) (ps:=[63]) Ro.nil rfl zuO (zk9 q1.Text hg1 b11) (fun pre b=>∀ post,zsr q1.Text=pre++post→zbZ dn1 (zcP q1 ek1) post b.1 b.2.1=some r) (fun pre b=>[cells b1 [.pointer none] 24,cells b2 [zI 0] 25,cells b4 [hd19.v,hd20.v,hd21.v,hd22.v,.slice none 0 0] 60,zv0 hd19.v t19,zv0 hd20.v t20,zba zam zaf 62 1 hd21.v t21,zba zaj zal 55 1 hd22.v t22,cells b6 (zr0 q1) 30,cells b9 [b.2.2.1.v] 62,zv1 b.2.2.1.v b.1,cells b10 [b.2.2.2.v] 55,zv0 b.2.2.2.v b.2.1]) (fun c pre g=>(fun g=>c=.ret∧ek1 g.1 g.2.1=some r) g) (fun c pre g=>(fun g=>[cells b1 [.pointer none] 24,cells b2 [zI 3] 25,cells b4 [hd19.v,hd20.v,hd21.v,hd22.v,.slice none 0 0] 60,zv0 hd19.v t19,zv0 hd20.v t20,zba zam zaf 62 1 hd21.v t21,zba zaj zal 55 1 hd22.v t22,cells b6 (zr0 q1) 30,cells b9 [g.2.2.1.v] 62,zv1 g.2.2.1.v g.1,cells b10 [g.2.2.2.v] 55,zv0 g.2.2.2.v g.2.1]) g) (fun pre x b j=>[(0,vl1),(2,zP b1),(3,zP b2),(4,zP b4),(22,vl1),(23,zI (l1.length:Int)),(24,zI x3),(6,zP b6),(37,zI r1.2),(38,.bool false),(41,zI r1.1),(42,zP b6),(43,.string q1.Name),(44,zI (q1.Name.size:Int)),(45,.bool false),(48,zP b4),(49,zP b4),(50,zP b4),(51,hd19.v),(52,zP b6),(53,.string q1.Name),(54,.bool r2),(9,zP b9),(10,zP b10),(62,.func (.func 31) #[] #[zP b11]),(11,zP j)]) (fun pre x b j=>[cells b1 [.pointer none] 24,cells b2 [zI 0] 25,cells b4 [hd19.v,hd20.v,hd21.v,hd22.v,.slice none 0 0] 60,zv0 hd19.v t19,zv0 hd20.v t20,zba zam zaf 62 1 hd21.v t21,zba zaj zal 55 1 hd22.v t22,cells b6 (zr0 q1) 30,cells b9 [b.2.2.1.v] 62,zv1 b.2.2.1.v b.1,cells b10 [b.2.2.2.v] 55,zv0 b.2.2.2.v b.2.1,cells j [zI (x.1:Int),zI (x.2:Int)] 64]) (([]:List za0),([]:List zBA),Hd.nil,Hd.nil) (fun post e=>by rw [List.nil_append] at e; subst e; exact h) (zaa [0,1,2,3,4,5,6,8,9,12,10,13] kr rfl) ⟨.inl ⟨11,rfl⟩,trivial⟩ (fun _=>rfl) dc ?_ ?_ ?_ ?_
      ·
       rintro lp rc pre x12 post ⟨spans5,keys4,hd34,hd35⟩ w1 K1 hxs2 hext hro hinv
       have hrd:=hrd.ext hext
       refine zad ?_
       refine za6 zvu rfl dc (fun b12 => ?_)
       refine za2 (k:=12) (vs:=[zI (x12.1:Int),zI (x12.2:Int)]) (l':=[zI (x12.1:Int),zI (x12.2:Int)]) zvA rfl rfl rfl rfl rfl (show _≤_ by simp) rfl rfl ?_
       show TO _ _ _ _ _ _ _ _ _ _ [cells b1 [.pointer none] 24,cells b2 [zI 0] 25,cells b4 [hd19.v,hd20.v,hd21.v,hd22.v,.slice none 0 0] 60,zv0 hd19.v t19,zv0 hd20.v t20,zba zam zaf 62 1 hd21.v t21,zba zaj zal 55 1 hd22.v t22,cells b6 (zr0 q1) 30,cells b9 [hd34.v] 62,zv1 hd34.v spans5,cells b10 [hd35.v] 55,zv0 hd35.v keys4,cells b12 [zI (x12.1:Int),zI (x12.2:Int)] 64]
       refine zap ?_
       exact fun a w ha hw=>⟨b12,(zbK rfl) _ _ _ ha,hw.weaken (zaa [0,1,2,3,4,5,6,7,8,9,10,11,12] kr rfl)⟩
      ·
       rintro lp rc pre x12 post2 ⟨spans5,keys4,hd34,hd35⟩ jb1 w1 K1 hxs2 hext hro hinv
       have hrd:=hrd.ext hext
       have h:=hinv (x12::post2) hxs2
       obtain ⟨ag2,hag2⟩:∃ ag,ag=zbZ dn1 (zcP q1 ek1) post2:=⟨_,rfl⟩
       have h:zcP q1 ek1 x12 ag2 spans5 keys4=some r:=by have h2:=h; rw [zb3,← hag2] at h2; exact h2
       unfold zcP at h
       show TC _ _ _ _ _ _ _ _ [(0,vl1),(2,zP b1),(3,zP b2),(4,zP b4),(22,vl1),(23,zI (l1.length:Int)),(24,zI x3),(6,zP b6),(37,zI r1.2),(38,.bool false),(41,zI r1.1),(42,zP b6),(43,.string q1.Name),(44,zI (q1.Name.size:Int)),(45,.bool false),(48,zP b4),(49,zP b4),(50,zP b4),(51,hd19.v),(52,zP b6),(53,.string q1.Name),(54,.bool r2),(9,zP b9),(10,zP b10),(62,.func (.func 31) #[] #[zP b11]),(11,zP jb1)] [cells b1 [.pointer none] 24,cells b2 [zI 0] 25,cells b4 [hd19.v,hd20.v,hd21.v,hd22.v,.slice none 0 0] 60,zv0 hd19.v t19,zv0 hd20.v t20,zba zam zaf 62 1 hd21.v t21,zba zaj zal 55 1 hd22.v t22,cells b6 (zr0 q1) 30,cells b9 [hd34.v] 62,zv1 hd34.v spans5,cells b10 [hd35.v] 55,zv0 hd35.v keys4,cells jb1 [zI (x12.1:Int),zI (x12.2:Int)] 64]
       refine zaK (zar (zyG (zat (k:=8) zsF rfl dc rfl rfl rfl (zgr (k:=9) rfl dc rfl rfl underlying62 (zbn rfl zaP (zyN ?_))))))
       refine zyB rfl h (fun h => ?_) (fun h => ?_)
       ·
        refine zyG ?_
        refine zaG (k:=0) (l':=[.pointer none]) zka rfl rfl rfl rfl rfl (fun _ _=>rfl) rfl ?_
        refine zaG (k:=1) (l':=[zI 3]) zkR rfl rfl rfl rfl rfl (fun _ _=>rfl) rfl ?_
        show TO _ _ _ _ _ _ _ _ _ _ [cells b1 [.pointer none] 24,cells b2 [zI 3] 25,cells b4 [hd19.v,hd20.v,hd21.v,hd22.v,.slice none 0 0] 60,zv0 hd19.v t19,zv0 hd20.v t20,zba zam zaf 62 1 hd21.v t21,zba zaj zal 55 1 hd22.v t22,cells b6 (zr0 q1) 30,cells b9 [hd34.v] 62,zv1 hd34.v spans5,cells b10 [hd35.v] 55,zv0 hd35.v keys4,cells jb1 [zI (x12.1:Int),zI (x12.2:Int)] 64]
        refine zyN (zaE (zao (zau ?_)))
        exact zcv (spans5,keys4,hd34,hd35) (show _∧_ from ⟨rfl,h⟩) (zaa [0,1,2,3,4,5,6,7,8,9,10,11] kr rfl)
       refine zax (zag (zyG (zat (k:=8) zsF rfl dc rfl rfl rfl (zaZ (k:=12) (cs:=[zI (x12.1:Int),zI (x12.2:Int)]) zpl rfl dc rfl rfl rfl rfl ?_))))
       refine zby (cs:=[zI (x12.1:Int),zI (x12.2:Int)]) (te:=64) (ps:=[(0,.tmp 68)]) rfl dc rfl (fun _=>by kernel_rfl) (fun b13 => ?_)
       obtain ⟨hg2,h⟩:=zcU h
       refine zbR (k:=9) (k2:=13) (ys:=[(⟨(x12.1:Int),(x12.2:Int)⟩:za0)]) underlying62 zwC zjt zjs rfl dc rfl rfl rfl rfl rfl rfl hg2 (fun v1 => ?_)
       refine zc7 (k:=9) rfl (fun hd38 he1 => ?_)
       subst he1
       show TO _ _ _ _ _ _ _ _ _ _ [cells b1 [.pointer none] 24,cells b2 [zI 0] 25,cells b4 [hd19.v,hd20.v,hd21.v,hd22.v,.slice none 0 0] 60,zv0 hd19.v t19,zv0 hd20.v t20,zba zam zaf 62 1 hd21.v t21,zba zaj zal 55 1 hd22.v t22,cells b6 (zr0 q1) 30,cells b9 [hd34.v] 62,zv1 hd38.v (spans5++[(⟨(x12.1:Int),(x12.2:Int)⟩:za0)]),cells b10 [hd35.v] 55,zv0 hd35.v keys4,cells jb1 [zI (x12.1:Int),zI (x12.2:Int)] 64,cells b13 [zI (x12.1:Int),zI (x12.2:Int)] 64]
       refine zaG (k:=8) (l':=[hd38.v]) zvB rfl rfl rfl rfl rfl (fun _ _=>rfl) rfl ?_
       refine zyN ?_
       obtain ⟨hg3,h⟩:=zcU h
       obtain ⟨r3,hq4,h⟩:=zcp h
       obtain ⟨hg4,h⟩:=zcU h
       refine zfU (β:=Nat) 10 9 _ [(0,71,hd35.v),(1,72,.pointer (some ⟨b6,1,none⟩)),(2,73,.string q1.Text),(3,74,zP jb1),(4,75,zI (x12.1:Int)),(5,76,.pointer (some ⟨jb1,1,none⟩)),(6,77,zI (x12.2:Int)),(7,78,.string (zgT q1.Text (x12.1:Int) (x12.2:Int))),(8,79,.string r3)] (fun b14=>[(80,.slice (some ⟨b14,0,none⟩) 1 1)]) (fun b14=>[cells b1 [.pointer none] 24,cells b2 [zI 0] 25,cells b4 [hd19.v,hd20.v,hd21.v,hd22.v,.slice none 0 0] 60,zv0 hd19.v t19,zv0 hd20.v t20,zba zam zaf 62 1 hd21.v t21,zba zaj zal 55 1 hd22.v t22,cells b6 (zr0 q1) 30,cells b9 [hd38.v] 62,zv1 hd38.v (spans5++[(⟨(x12.1:Int),(x12.2:Int)⟩:za0)]),cells b10 [hd35.v] 55,zv0 hd35.v keys4,cells jb1 [zI (x12.1:Int),zI (x12.2:Int)] 64,cells b13 [zI (x12.1:Int),zI (x12.2:Int)] 64,cells b14 [.string r3] 9]) mixed kr kr rfl dc dc (by rfl) kr kr (zas ?_ (zas ?_ (zas ?_ (zas ?_ (zas ?_ (zas ?_ (zas ?_ (zas ?_ (zas ?_ (zbO DrawPreX.nil)))))))))) (fun b14=>(zas ?_ (zas ?_ (zas ?_ (zas ?_ (zas ?_ (zas ?_ (zas ?_ (zas ?_ (zas ?_ (zbO DrawPreX.nil))))))))))) ?_ ?_
       · exact fun D n d c u i=>zat (k:=10) zic rfl dc (za3 (by rfl) rfl) rfl rfl (zaI 0 u i)
       · exact fun D n d c u i=>zac zkv rfl dc (za3 (by rfl) rfl) (show _=1 from rfl) (zaI 1 u i)
       · exact fun D n d c u i=>zat (k:=7) zhH rfl dc (zaH 1 u d) rfl rfl (zaI 2 u i)
       · exact fun D n d c u i=>zac zpU rfl dc (za3 (by rfl) rfl) (show _=0 from rfl) (zaI 3 u i)
       · exact fun D n d c u i=>zat (k:=12) zdk rfl dc (zaH 3 u d) rfl rfl (zaI 4 u i)
       · exact fun D n d c u i=>zac zeB rfl dc (za3 (by rfl) rfl) (show _=1 from rfl) (zaI 5 u i)
       · exact fun D n d c u i=>zat (k:=12) zdk rfl dc (zaH 5 u d) rfl rfl (zaI 6 u i)
       · exact fun D n d c u i=>zeG rfl dc (zaH 2 u d) (evO.some (zaH 4 u d)) (evO.some (zaH 6 u d)) (zek (i:=(x12.1:Int)) (j:=(x12.2:Int)) underlying9 (.inr rfl) (.inr rfl) hg3) (zaI 7 u i)
       · exact fun D n d c u i=>zbv (v:=.string r3) (vs:=[.string (zgT q1.Text (x12.1:Int) (x12.2:Int))]) rfl dc rfl (evL.cons (zaH 7 u d) evL.nil) rfl ztu (zhN hq4) (zaI 8 u i)
       · exact fun D n d c u i=>zat (k:=10) zic rfl dc (za3 (by rfl) rfl) rfl rfl (zaI 0 u i)
       · exact fun D n d c u i=>zac zkv rfl dc (za3 (by rfl) rfl) (show _=1 from rfl) (zaI 1 u i)
       · exact fun D n d c u i=>zat (k:=7) zhH rfl dc (zaH 1 u d) rfl rfl (zaI 2 u i)
       · exact fun D n d c u i=>zac zpU rfl dc (za3 (by rfl) rfl) (show _=0 from rfl) (zaI 3 u i)
       · exact fun D n d c u i=>zat (k:=12) zdk rfl dc (zaH 3 u d) rfl rfl (zaI 4 u i)
       · exact fun D n d c u i=>zac zeB rfl dc (za3 (by rfl) rfl) (show _=1 from rfl) (zaI 5 u i)
       · exact fun D n d c u i=>zat (k:=12) zdk rfl dc (zaH 5 u d) rfl rfl (zaI 6 u i)
       · exact fun D n d c u i=>zeG rfl dc (zaH 2 u d) (evO.some (zaH 4 u d)) (evO.some (zaH 6 u d)) (zek (i:=(x12.1:Int)) (j:=(x12.2:Int)) underlying9 (.inr rfl) (.inr rfl) hg3) (zaI 7 u i)
       · exact fun D n d c u i=>zbv (v:=.string r3) (vs:=[.string (zgT q1.Text (x12.1:Int) (x12.2:Int))]) rfl dc rfl (evL.cons (zaH 7 u d) evL.nil) rfl ztu (zhN hq4) (zaI 8 u i)
       ·
        intro D hn hd hcl
        refine zby (cs:=[.string r3]) (te:=9) (ps:=[(0,.tmp 79)]) rfl dc (evP.cons (zaU (m:=8) kr rfl (hd 8 dc)) evP.nil) (fun _=>by kernel_rfl) (fun b14 => ?_)
        show TO _ _ _ _ _ _ _ _ _ _ [cells b1 [.pointer none] 24,cells b2 [zI 0] 25,cells b4 [hd19.v,hd20.v,hd21.v,hd22.v,.slice none 0 0] 60,zv0 hd19.v t19,zv0 hd20.v t20,zba zam zaf 62 1 hd21.v t21,zba zaj zal 55 1 hd22.v t22,cells b6 (zr0 q1) 30,cells b9 [hd38.v] 62,zv1 hd38.v (spans5++[(⟨(x12.1:Int),(x12.2:Int)⟩:za0)]),cells b10 [hd35.v] 55,zv0 hd35.v keys4,cells jb1 [zI (x12.1:Int),zI (x12.2:Int)] 64,cells b13 [zI (x12.1:Int),zI (x12.2:Int)] 64,cells b14 [.string r3] 9]
        exact fun a w ha hw=>⟨b14,znP (by rfl) _ _ _ ha,hw⟩
       intro b14
       show TO _ _ _ _ _ _ _ _ _ _ [cells b1 [.pointer none] 24,cells b2 [zI 0] 25,cells b4 [hd19.v,hd20.v,hd21.v,hd22.v,.slice none 0 0] 60,zv0 hd19.v t19,zv0 hd20.v t20,zba zam zaf 62 1 hd21.v t21,zba zaj zal 55 1 hd22.v t22,cells b6 (zr0 q1) 30,cells b9 [hd38.v] 62,zv1 hd38.v (spans5++[(⟨(x12.1:Int),(x12.2:Int)⟩:za0)]),cells b10 [hd35.v] 55,zv0 hd35.v keys4,cells jb1 [zI (x12.1:Int),zI (x12.2:Int)] 64,cells b13 [zI (x12.1:Int),zI (x12.2:Int)] 64,cells b14 [.string r3] 9]
       refine zbR (k:=11) (k2:=14) (ys:=[r3]) underlying55 zvj zeF zj3 rfl dc rfl rfl rfl rfl rfl rfl hg4 (fun v2 => ?_)
       refine zc7 (k:=11) rfl (fun hd39 he2 => ?_)
       subst he2
       refine zaG (k:=10) (l':=[hd39.v]) zmk rfl rfl rfl rfl rfl (fun _ _=>rfl) rfl ?_
       show TO _ _ _ _ _ _ _ _ _ _ [cells b1 [.pointer none] 24,cells b2 [zI 0] 25,cells b4 [hd19.v,hd20.v,hd21.v,hd22.v,.slice none 0 0] 60,zv0 hd19.v t19,zv0 hd20.v t20,zba zam zaf 62 1 hd21.v t21,zba zaj zal 55 1 hd22.v t22,cells b6 (zr0 q1) 30,cells b9 [hd38.v] 62,zv1 hd38.v (spans5++[(⟨(x12.1:Int),(x12.2:Int)⟩:za0)]),cells b10 [hd39.v] 55,zv0 hd39.v (keys4++[r3]),cells jb1 [zI (x12.1:Int),zI (x12.2:Int)] 64,cells b13 [zI (x12.1:Int),zI (x12.2:Int)] 64,cells b14 [.string r3] 9]
       refine zap (zah ?_)
       exact zcj (spans5++[(⟨(x12.1:Int),(x12.2:Int)⟩:za0)],keys4++[r3],hd38,hd39) (fun post2 e2=>by have e9:=zcI hxs2 e2; subst e9; subst hag2; exact h) (zaa [0,1,2,3,4,5,6,7,8,9,10,11] kr rfl)
      ·
       rintro dm1 ⟨spans5,keys4,hd34,hd35⟩ hinv
       have h:dn1 spans5 keys4=some r:=hinv [] (List.append_nil _).symm
       rw [hdn1] at h
       show TX _ _ _ _ _ _ _ [emp,emp,emp,emp,emp,emp,emp,zc0 ((ds4:List Nat).map zcu),emp,emp,emp,cells b11 [.string q1.Text] 9,emp,emp,cells b1 [.pointer none] 24,cells b2 [zI 0] 25,cells b4 [hd19.v,hd20.v,hd21.v,hd22.v,.slice none 0 0] 60,zv0 hd19.v t19,zv0 hd20.v t20,zba zam zaf 62 1 hd21.v t21,zba zaj zal 55 1 hd22.v t22,cells b6 (zr0 q1) 30,cells b9 [hd34.v] 62,zv1 hd34.v spans5,cells b10 [hd35.v] 55,zv0 hd35.v keys4,zcu dm1]
       refine zds (k:=26) (j:=7) rfl rfl dc ?_
       show TX _ _ _ _ _ _ _ [emp,emp,emp,emp,emp,emp,emp,zc0 ((dm1::ds4:List Nat).map zcu),emp,emp,emp,cells b11 [.string q1.Text] 9,emp,emp,cells b1 [.pointer none] 24,cells b2 [zI 0] 25,cells b4 [hd19.v,hd20.v,hd21.v,hd22.v,.slice none 0 0] 60,zv0 hd19.v t19,zv0 hd20.v t20,zba zam zaf 62 1 hd21.v t21,zba zaj zal 55 1 hd22.v t22,cells b6 (zr0 q1) 30,cells b9 [hd34.v] 62,zv1 hd34.v spans5,cells b10 [hd35.v] 55,zv0 hd35.v keys4,emp]
       refine zah ?_
       exact zaB (spans5,keys4,b9,hd34,b10,hd35,dm1::ds4) h rfl (zbK rfl) (zaa [14,15,16,17,18,19,20,21,22,23,24,25,7] kr rfl)
      rintro dm1 c pre x12 post g hxs hX
      obtain ⟨rfl,h⟩:=(show _∧_ from hX)
      obtain ⟨spans6,keys5,hd36,hd37⟩:=g
      rw [hek1] at h
      show TC _ _ _ _ _ _ _ _ _ [emp,emp,emp,emp,emp,emp,emp,zc0 ((ds4:List Nat).map zcu),emp,emp,emp,cells b11 [.string q1.Text] 9,emp,emp,cells b1 [.pointer none] 24,cells b2 [zI 3] 25,cells b4 [hd19.v,hd20.v,hd21.v,hd22.v,.slice none 0 0] 60,zv0 hd19.v t19,zv0 hd20.v t20,zba zam zaf 62 1 hd21.v t21,zba zaj zal 55 1 hd22.v t22,cells b6 (zr0 q1) 30,cells b9 [hd36.v] 62,zv1 hd36.v spans6,cells b10 [hd37.v] 55,zv0 hd37.v keys5,zcu dm1]
      refine zfj (k:=26) (j:=7) rfl rfl dc ?_
      show TC _ _ _ _ _ _ _ _ _ [emp,emp,emp,emp,emp,emp,emp,zc0 ((dm1::ds4:List Nat).map zcu),emp,emp,emp,cells b11 [.string q1.Text] 9,emp,emp,cells b1 [.pointer none] 24,cells b2 [zI 3] 25,cells b4 [hd19.v,hd20.v,hd21.v,hd22.v,.slice none 0 0] 60,zv0 hd19.v t19,zv0 hd20.v t20,zba zam zaf 62 1 hd21.v t21,zba zaj zal 55 1 hd22.v t22,cells b6 (zr0 q1) 30,cells b9 [hd36.v] 62,zv1 hd36.v spans6,cells b10 [hd37.v] 55,zv0 hd37.v keys5,emp]
      refine zaE (zau (zao (zau (zao (zao (zau (zao (zfB za8 za7 60 ?_))))))))
      show TX _ _ _ _ _ _ _ [emp,emp,emp,emp,emp,emp,emp,zc0 ((dm1::ds4:List Nat).map zcu),emp,emp,emp,cells b11 [.string q1.Text] 9,emp,emp,cells b1 [.pointer none] 24,cells b2 [zI 3] 25,cells b4 [hd19.v,hd20.v,hd21.v,hd22.v,.slice none 0 0] 60,zv0 hd19.v t19,zv0 hd20.v t20,zba zam zaf 62 1 hd21.v t21,zba zaj zal 55 1 hd22.v t22,cells b6 (zr0 q1) 30,cells b9 [hd36.v] 62,zv1 hd36.v spans6,cells b10 [hd37.v] 55,zv0 hd37.v keys5,emp,zkL za8 za7 60 (.pointer none) none]
      cases h
      exact zcE (rs:=[.cell 2 24,.cell 3 25]) (dm1::ds4) (.pointer none) (.inl rfl) (zaT (k:=7) rfl) results5 (.cons (.cell zfr (k:=14) rfl rfl) (.cons (.cell ziR (k:=15) rfl rfl) .nil)) rfl (zaa [27] kr rfl)
     rintro ⟨spans1,keys1,b7,hd27,b8,hd28,ds6⟩ h
     rw [hj3] at h
     show TC _ _ _ _ _ (zcK ds6) _ _ [(0,vl1),(2,zP b1),(3,zP b2),(4,zP b4),(6,zP b6),(9,zP b7),(10,zP b8),(22,vl1),(23,zI (l1.length:Int)),(24,zI x3),(37,zI r1.2),(38,.bool false),(41,zI r1.1),(42,zP b6),(43,.string q1.Name),(44,zI (q1.Name.size:Int)),(45,.bool false),(48,zP b4),(49,zP b4),(50,zP b4),(51,hd19.v),(52,zP b6),(53,.string q1.Name),(54,.bool r2)] [cells b1 [.pointer none] 24,cells b2 [zI 0] 25,cells b4 [hd19.v,hd20.v,hd21.v,hd22.v,.slice none 0 0] 60,zv0 hd19.v t19,zv0 hd20.v t20,zba zam zaf 62 1 hd21.v t21,zba zaj zal 55 1 hd22.v t22,cells b6 (zr0 q1) 30,cells b7 [hd27.v] 62,zv1 hd27.v spans1,cells b8 [hd28.v] 55,zv0 hd28.v keys1,zc0 ((ds6:List Nat).map zcu)]
     refine zar ?_
     obtain ⟨hg5,h⟩:=zcU h
     refine zlw 1 ?_
     show TC _ _ _ _ _ _ _ _ _ [cells b1 [.pointer none] 24,cells b2 [zI 0] 25,cells b4 [hd19.v,hd20.v,hd21.v,hd22.v,.slice none 0 0] 60,zv0 hd19.v t19,zv0 hd20.v t20,zba zam zaf 62 1 hd21.v t21,zba zaj zal 55 1 hd22.v t22,cells b6 (zr0 q1) 30,cells b7 [hd27.v] 62,zv1 hd27.v spans1,cells b8 [hd28.v] 55,zv0 hd28.v keys1,zc0 ((ds6:List Nat).map zcu),emp]
     refine let vals1:(Nat×Hd)→List (Nat×Nat×Value):=fun b=>[(0,82,zP b4),(1,83,zP b4),(2,84,zP b4),(3,85,zP b4),(4,86,hd19.v),(5,87,zP b6),(6,88,.string q1.Name),(7,89,.slice (some ⟨b.1,0,none⟩) 1 1),(8,90,b.2.v)]; let LL1:(Nat→Prop)→(Nat×Hd)→List Asn:=fun D b=>[cells b1 [.pointer none] 24,cells b2 [zI 0] 25,cells b4 [hd19.v,hd20.v,hd21.v,hd22.v,.slice none 0 0] 60,eD D (zv0 hd19.v t19) [(8,zv0 b.2.v (t19++[q1.Name]))],zv0 hd20.v t20,zba zam zaf 62 1 hd21.v t21,zba zaj zal 55 1 hd22.v t22,cells b6 (zr0 q1) 30,cells b7 [hd27.v] 62,zv1 hd27.v spans1,cells b8 [hd28.v] 55,zv0 hd28.v keys1,zc0 ((ds6:List Nat).map zcu),eD D emp [(7,cells b.1 [.string q1.Name] 9)]]; ?_
     have zhq:zyQ [7,8] LL1:=fun i h D b=>zay rfl (zay rfl (zay rfl (zay (ztU rfl h) (zay rfl (zay rfl (zay rfl (zay rfl (zay rfl (zay rfl (zay rfl (zay rfl (zay rfl (zay (ztU rfl h) rfl)))))))))))))
     refine zhd (β:=Nat×Hd) 9 ((0:Nat),Hd.nil) vals1 LL1 mixed kr kr dc (fun _=>rfl) (zhx (zay ze5 (zkK (zay ze5 rfl)))) (zvm zhq (fun _=>rfl) (fun _=>rfl) 2 0 (fun _=>rfl) rfl (zyq zhq rfl (fun _=>rfl) (fun _=>rfl) ?_ (zyq zhq rfl (fun _=>rfl) (fun _=>rfl) ?_ (zsj zhq rfl (fun _=>rfl) (fun _=>rfl) ?_ (zyq zhq rfl (fun _=>rfl) (fun _=>rfl) ?_ (zsj zhq rfl (fun _=>rfl) (fun _=>rfl) ?_ (zbd ?_ (zbd ?_ DrawG.nil)))))))) ?_
     · exact fun D ⟨b15,hd40⟩ n d c u i=>zav rfl dc (zaH 1 u d) (zaI 2 u i)
     · exact fun D ⟨b15,hd40⟩ n d c u i=>zac zhQ rfl dc (zaH 2 u d) (show _=0 from rfl) (zaI 3 u i)
     · exact fun D ⟨b15,hd40⟩ n d c u i=>⟨_,(zhx (zay (za5 (fun hD=>n (c 8 _ rfl hD 4 dc)) zbr) (zgb rfl))),zat (k:=2) zic rfl dc (zaH 3 u d) rfl rfl (zaI 4 u i)⟩
     · exact fun D ⟨b15,hd40⟩ n d c u i=>zac zkw rfl dc (za3 (by rfl) rfl) (show _=0 from rfl) (zaI 5 u i)
     · exact fun D ⟨b15,hd40⟩ n d c u i=>⟨_,(zhx (zay (za5 (fun hD=>n (c 7 _ rfl (c 8 _ rfl hD 7 dc) 6 dc)) zbr) (zkK (zay (za5 (fun hD=>n (c 7 _ rfl hD 6 dc)) zbr) rfl)))),zat (k:=7) zhH rfl dc (zaH 5 u d) rfl rfl (zaI 6 u i)⟩
     ·
      intro D b hn hd hcl
      obtain ⟨zb0,hd40⟩:=b
      refine zbM (zhx (zay (za5 (fun hD=>hn (hcl 8 _ rfl hD 7 dc)) zbr) (zkK (zay (za5 hn zbr) rfl)))) ?_
      refine zby (cs:=[.string q1.Name]) (te:=9) (ps:=[(0,.tmp 88)]) rfl dc (evP.cons (zaU (m:=6) rfl rfl (hd 6 dc)) evP.nil) (fun _=>by kernel_rfl) (fun b15 => ?_)
      refine zhb 13 rfl rfl ?_
      show TO _ _ _ _ _ _ _ _ _ _ [cells b1 [.pointer none] 24,cells b2 [zI 0] 25,cells b4 [hd19.v,hd20.v,hd21.v,hd22.v,.slice none 0 0] 60,zv0 hd19.v t19,zv0 hd20.v t20,zba zam zaf 62 1 hd21.v t21,zba zaj zal 55 1 hd22.v t22,cells b6 (zr0 q1) 30,cells b7 [hd27.v] 62,zv1 hd27.v spans1,cells b8 [hd28.v] 55,zv0 hd28.v keys1,zc0 ((ds6:List Nat).map zcu),cells b15 [.string q1.Name] 9]
      exact zcb (b:=(zb0,hd40)) (b15,hd40) 7 (by rfl) (by rfl) rfl (zvc (zaF (fun hD=>absurd hD hn) (zaF (fun _=>rfl) rfl))) (zhx (zay ((zbg (by rfl)).trans (za5 (fun hD=>hn (hcl 8 _ rfl hD 7 dc)) zbr)) (zkK (zay (zda (Or.inr rfl) rfl) rfl))))
     ·
      intro D b hn hd hcl
      obtain ⟨b15,zb1⟩:=b
      refine zbM (zhx (zay (za5 hn zbr) (zkK (zay (zda (hd 7 dc) rfl) rfl)))) ?_
      refine zbR (k:=3) (k2:=13) (ys:=[q1.Name]) underlying55 zvj zeF zj3 rfl dc (zaU (m:=4) rfl rfl (hd 4 dc)) (zaU (m:=7) rfl rfl (hd 7 dc)) rfl rfl rfl rfl hg5 (fun v3 => ?_)
      refine zc7 (k:=3) rfl (fun hd40 he3 => ?_)
      subst he3
      exact zcb (b:=(b15,zb1)) (b15,hd40) 8 (by rfl) (by rfl) rfl (znQ (zaF (fun hD=>absurd hD hn) rfl)) (zhx (zay (zda (Or.inr rfl) rfl) (zkK (zay ((zbg (by rfl)).trans (zda (hd 7 dc) rfl)) rfl))))
     intro D b hall
     obtain ⟨b15,hd40⟩:=b
     refine zbM (zhx (zay (zda (hall 8 dc) rfl) (zkK (zay (zda (hall 7 dc) rfl) rfl)))) (zav rfl dc rfl (zac zhQ rfl dc rfl (show _=0 from rfl) ?_))
     refine zaG (k:=2) (l':=[hd40.v,hd20.v,hd21.v,hd22.v,.slice none 0 0]) zmk rfl rfl rfl rfl rfl (fun _ _=>rfl) rfl ?_
     refine zyN (zar ?_)
     obtain ⟨hg6,h⟩:=zcU h
     refine zlw 1 ?_
     show TC _ _ _ _ _ _ _ _ _ [cells b1 [.pointer none] 24,cells b2 [zI 0] 25,cells b4 [hd40.v,hd20.v,hd21.v,hd22.v,.slice none 0 0] 60,zv0 hd40.v (t19++[q1.Name]),zv0 hd20.v t20,zba zam zaf 62 1 hd21.v t21,zba zaj zal 55 1 hd22.v t22,cells b6 (zr0 q1) 30,cells b7 [hd27.v] 62,zv1 hd27.v spans1,cells b8 [hd28.v] 55,zv0 hd28.v keys1,zc0 ((ds6:List Nat).map zcu),cells b15 [.string q1.Name] 9,emp]
     refine let vals2:(Nat×Hd)→List (Nat×Nat×Value):=fun b=>[(0,93,zP b4),(1,94,zP b4),(2,95,zP b4),(3,96,.pointer (some ⟨b4,1,none⟩)),(4,97,hd20.v),(5,98,.pointer (some ⟨b6,1,none⟩)),(6,99,.string q1.Text),(7,100,.slice (some ⟨b.1,0,none⟩) 1 1),(8,101,b.2.v)]; let LL2:(Nat→Prop)→(Nat×Hd)→List Asn:=fun D b=>[cells b1 [.pointer none] 24,cells b2 [zI 0] 25,cells b4 [hd40.v,hd20.v,hd21.v,hd22.v,.slice none 0 0] 60,zv0 hd40.v (t19++[q1.Name]),eD D (zv0 hd20.v t20) [(8,zv0 b.2.v (t20++[q1.Text]))],zba zam zaf 62 1 hd21.v t21,zba zaj zal 55 1 hd22.v t22,cells b6 (zr0 q1) 30,cells b7 [hd27.v] 62,zv1 hd27.v spans1,cells b8 [hd28.v] 55,zv0 hd28.v keys1,zc0 ((ds6:List Nat).map zcu),cells b15 [.string q1.Name] 9,eD D emp [(7,cells b.1 [.string q1.Text] 9)]]; ?_
     refine zhd (β:=Nat×Hd) 9 ((0:Nat),Hd.nil) vals2 LL2 mixed kr kr dc (fun _=>rfl) (zga (zay ze5 (zkK (zay ze5 rfl)))) (zbd ?_ (zbd ?_ (zbd ?_ (zbd ?_ (zbd ?_ (zbd ?_ (zbd ?_ (zbd ?_ (zbd ?_ DrawG.nil))))))))) ?_
     ·
      intro D b hn hd hcl
      obtain ⟨b16,hd41⟩:=b
      refine zbM (zhx (zsl rfl)) (zaD rfl dc (za3 (by rfl) rfl) ?_)
      exact zcb (b:=(b16,hd41)) (b16,hd41) 0 (by rfl) (by rfl) rfl (zsm rfl) (zga (zay (zbg (by rfl)) (zkK (zay (zbg (by rfl)) rfl))))
     ·
      intro D b hn hd hcl
      obtain ⟨b16,hd41⟩:=b
      refine zbM (zga (zay (za5 (fun hD=>hn (hcl 2 _ rfl (hcl 3 _ rfl (hcl 4 _ rfl (hcl 8 _ rfl hD 4 dc) 3 dc) 2 dc) 1 dc)) zbr) (zgb rfl))) ?_
      refine zaD rfl dc (za3 (by rfl) rfl) ?_
      exact zcb (b:=(b16,hd41)) (b16,hd41) 1 (by rfl) (by rfl) rfl (zsm rfl) (zga (zay ((zbg (by rfl)).trans (za5 (fun hD=>hn (hcl 2 _ rfl (hcl 3 _ rfl (hcl 4 _ rfl (hcl 8 _ rfl hD 4 dc) 3 dc) 2 dc) 1 dc)) zbr)) (zkK (zay (zbg (by rfl)) rfl))))
     ·
      intro D b hn hd hcl
      obtain ⟨b16,hd41⟩:=b
      refine zbM (zga (zay (za5 (fun hD=>hn (hcl 3 _ rfl (hcl 4 _ rfl (hcl 8 _ rfl hD 4 dc) 3 dc) 2 dc)) zbr) (zgb rfl))) ?_
      refine zav rfl dc (zaU (m:=1) rfl rfl (hd 1 dc)) ?_
      exact zcb (b:=(b16,hd41)) (b16,hd41) 2 (by rfl) (by rfl) rfl (zsm rfl) (zga (zay ((zbg (by rfl)).trans (za5 (fun hD=>hn (hcl 3 _ rfl (hcl 4 _ rfl (hcl 8 _ rfl hD 4 dc) 3 dc) 2 dc)) zbr)) (zkK (zay (zbg (by rfl)) rfl))))
     ·
      intro D b hn hd hcl
      obtain ⟨b16,hd41⟩:=b
      refine zbM (zga (zay (za5 (fun hD=>hn (hcl 4 _ rfl (hcl 8 _ rfl hD 4 dc) 3 dc)) zbr) (zgb rfl))) ?_
      refine zac zpW rfl dc (zaU (m:=2) rfl rfl (hd 2 dc)) (show _=1 from rfl) ?_
      exact zcb (b:=(b16,hd41)) (b16,hd41) 3 (by rfl) (by rfl) rfl (zsm rfl) (zga (zay ((zbg (by rfl)).trans (za5 (fun hD=>hn (hcl 4 _ rfl (hcl 8 _ rfl hD 4 dc) 3 dc)) zbr)) (zkK (zay (zbg (by rfl)) rfl))))
     ·
      intro D b hn hd hcl
      obtain ⟨b16,hd41⟩:=b
      refine zbM (zga (zay (za5 (fun hD=>hn (hcl 8 _ rfl hD 4 dc)) zbr) (zgb rfl))) ?_
      refine zat (k:=2) zic rfl dc (zaU (m:=3) rfl rfl (hd 3 dc)) rfl rfl ?_
      exact zcb (b:=(b16,hd41)) (b16,hd41) 4 (by rfl) (by rfl) rfl (zsm rfl) (zga (zay ((zbg (by rfl)).trans (za5 (fun hD=>hn (hcl 8 _ rfl hD 4 dc)) zbr)) (zkK (zay (zbg (by rfl)) rfl))))
     ·
      intro D b hn hd hcl
      obtain ⟨b16,hd41⟩:=b
      refine zbM (zga (zay (za5 (fun hD=>hn (hcl 6 _ rfl (hcl 7 _ rfl (hcl 8 _ rfl hD 7 dc) 6 dc) 5 dc)) zbr) (zkK (zay (za5 (fun hD=>hn (hcl 6 _ rfl (hcl 7 _ rfl hD 6 dc) 5 dc)) zbr) rfl)))) ?_
      refine zac zkv rfl dc (za3 (by rfl) rfl) (show _=1 from rfl) ?_
      exact zcb (b:=(b16,hd41)) (b16,hd41) 5 (by rfl) (by rfl) rfl (zsm rfl) (zga (zay ((zbg (by rfl)).trans (za5 (fun hD=>hn (hcl 6 _ rfl (hcl 7 _ rfl (hcl 8 _ rfl hD 7 dc) 6 dc) 5 dc)) zbr)) (zkK (zay ((zbg (by rfl)).trans (za5 (fun hD=>hn (hcl 6 _ rfl (hcl 7 _ rfl hD 6 dc) 5 dc)) zbr)) rfl))))
     ·
      intro D b hn hd hcl
      obtain ⟨b16,hd41⟩:=b
      refine zbM (zga (zay (za5 (fun hD=>hn (hcl 7 _ rfl (hcl 8 _ rfl hD 7 dc) 6 dc)) zbr) (zkK (zay (za5 (fun hD=>hn (hcl 7 _ rfl hD 6 dc)) zbr) rfl)))) ?_
      refine zat (k:=7) zhH rfl dc (zaU (m:=5) rfl rfl (hd 5 dc)) rfl rfl ?_
      exact zcb (b:=(b16,hd41)) (b16,hd41) 6 (by rfl) (by rfl) rfl (zsm rfl) (zga (zay ((zbg (by rfl)).trans (za5 (fun hD=>hn (hcl 7 _ rfl (hcl 8 _ rfl hD 7 dc) 6 dc)) zbr)) (zkK (zay ((zbg (by rfl)).trans (za5 (fun hD=>hn (hcl 7 _ rfl hD 6 dc)) zbr)) rfl))))
     ·
      intro D b hn hd hcl
      obtain ⟨zb0,hd41⟩:=b
      refine zbM (zga (zay (za5 (fun hD=>hn (hcl 8 _ rfl hD 7 dc)) zbr) (zkK (zay (za5 hn zbr) rfl)))) ?_
      refine zby (cs:=[.string q1.Text]) (te:=9) (ps:=[(0,.tmp 99)]) rfl dc (evP.cons (zaU (m:=6) rfl rfl (hd 6 dc)) evP.nil) (fun _=>by kernel_rfl) (fun b16 => ?_)
      show TO _ _ _ _ _ _ _ _ _ _ [cells b1 [.pointer none] 24,cells b2 [zI 0] 25,cells b4 [hd40.v,hd20.v,hd21.v,hd22.v,.slice none 0 0] 60,zv0 hd40.v (t19++[q1.Name]),zv0 hd20.v t20,zba zam zaf 62 1 hd21.v t21,zba zaj zal 55 1 hd22.v t22,cells b6 (zr0 q1) 30,cells b7 [hd27.v] 62,zv1 hd27.v spans1,cells b8 [hd28.v] 55,zv0 hd28.v keys1,zc0 ((ds6:List Nat).map zcu),cells b15 [.string q1.Name] 9,emp,cells b16 [.string q1.Text] 9]
      refine zhb 14 rfl rfl ?_
      show TO _ _ _ _ _ _ _ _ _ _ [cells b1 [.pointer none] 24,cells b2 [zI 0] 25,cells b4 [hd40.v,hd20.v,hd21.v,hd22.v,.slice none 0 0] 60,zv0 hd40.v (t19++[q1.Name]),zv0 hd20.v t20,zba zam zaf 62 1 hd21.v t21,zba zaj zal 55 1 hd22.v t22,cells b6 (zr0 q1) 30,cells b7 [hd27.v] 62,zv1 hd27.v spans1,cells b8 [hd28.v] 55,zv0 hd28.v keys1,zc0 ((ds6:List Nat).map zcu),cells b15 [.string q1.Name] 9,cells b16 [.string q1.Text] 9]
      exact zcb (b:=(zb0,hd41)) (b16,hd41) 7 (by rfl) (by rfl) rfl (zvc (zaF (fun hD=>absurd hD hn) (zaF (fun _=>rfl) rfl))) (zga (zay ((zbg (by rfl)).trans (za5 (fun hD=>hn (hcl 8 _ rfl hD 7 dc)) zbr)) (zkK (zay (zda (Or.inr rfl) rfl) rfl))))
     ·
      intro D b hn hd hcl
      obtain ⟨b16,zb1⟩:=b
      refine zbM (zga (zay (za5 hn zbr) (zkK (zay (zda (hd 7 dc) rfl) rfl)))) ?_
      refine zbR (k:=4) (k2:=14) (ys:=[q1.Text]) underlying55 zvj zeF zj3 rfl dc (zaU (m:=4) rfl rfl (hd 4 dc)) (zaU (m:=7) rfl rfl (hd 7 dc)) rfl rfl rfl rfl hg6 (fun v4 => ?_)
      refine zc7 (k:=4) rfl (fun hd41 he4 => ?_)
      subst he4
      show TO _ _ _ _ _ _ _ _ _ _ [cells b1 [.pointer none] 24,cells b2 [zI 0] 25,cells b4 [hd40.v,hd20.v,hd21.v,hd22.v,.slice none 0 0] 60,zv0 hd40.v (t19++[q1.Name]),zv0 hd41.v (t20++[q1.Text]),zba zam zaf 62 1 hd21.v t21,zba zaj zal 55 1 hd22.v t22,cells b6 (zr0 q1) 30,cells b7 [hd27.v] 62,zv1 hd27.v spans1,cells b8 [hd28.v] 55,zv0 hd28.v keys1,zc0 ((ds6:List Nat).map zcu),cells b15 [.string q1.Name] 9,cells b16 [.string q1.Text] 9]
      exact zcb (b:=(b16,zb1)) (b16,hd41) 8 (by rfl) (by rfl) rfl (znQ (zaF (fun hD=>absurd hD hn) rfl)) (zga (zay (zda (Or.inr rfl) rfl) (zkK (zay ((zbg (by rfl)).trans (zda (hd 7 dc) rfl)) rfl))))
     intro D b hall
     obtain ⟨b16,hd41⟩:=b
     refine zbM (zga (zay (zda (hall 8 dc) rfl) (zkK (zay (zda (hall 7 dc) rfl) rfl)))) (zav rfl dc rfl (zac zpW rfl dc rfl (show _=1 from rfl) ?_))
     refine zaG (k:=2) (l':=[hd40.v,hd41.v,hd21.v,hd22.v,.slice none 0 0]) zmk rfl rfl rfl rfl rfl (fun _ _=>rfl) rfl ?_
     show TO _ _ _ _ _ _ _ _ _ _ [cells b1 [.pointer none] 24,cells b2 [zI 0] 25,cells b4 [hd40.v,hd41.v,hd21.v,hd22.v,.slice none 0 0] 60,zv0 hd40.v (t19++[q1.Name]),zv0 hd41.v (t20++[q1.Text]),zba zam zaf 62 1 hd21.v t21,zba zaj zal 55 1 hd22.v t22,cells b6 (zr0 q1) 30,cells b7 [hd27.v] 62,zv1 hd27.v spans1,cells b8 [hd28.v] 55,zv0 hd28.v keys1,zc0 ((ds6:List Nat).map zcu),cells b15 [.string q1.Name] 9,cells b16 [.string q1.Text] 9]
     refine zyN (zar ?_)
     obtain ⟨hg7,h⟩:=zcU h
     refine zlw 1 ?_
     show TC _ _ _ _ _ _ _ _ _ [cells b1 [.pointer none] 24,cells b2 [zI 0] 25,cells b4 [hd40.v,hd41.v,hd21.v,hd22.v,.slice none 0 0] 60,zv0 hd40.v (t19++[q1.Name]),zv0 hd41.v (t20++[q1.Text]),zba zam zaf 62 1 hd21.v t21,zba zaj zal 55 1 hd22.v t22,cells b6 (zr0 q1) 30,cells b7 [hd27.v] 62,zv1 hd27.v spans1,cells b8 [hd28.v] 55,zv0 hd28.v keys1,zc0 ((ds6:List Nat).map zcu),cells b15 [.string q1.Name] 9,cells b16 [.string q1.Text] 9,emp]
     refine let vals3:(Nat×{zs:List ((List za0)×Hd) // zs.map Prod.fst=t21}×Hd)→List (Nat×Nat×Value):=fun b=>[(0,104,zP b4),(1,105,zP b4),(2,106,zP b4),(3,107,.pointer (some ⟨b4,2,none⟩)),(4,108,hd21.v),(5,109,hd27.v),(6,110,.slice (some ⟨b.1,0,none⟩) 1 1),(7,111,b.2.2.v)]; let LL3:(Nat→Prop)→(Nat×{zs:List ((List za0)×Hd) // zs.map Prod.fst=t21}×Hd)→List Asn:=fun D b=>[cells b1 [.pointer none] 24,cells b2 [zI 0] 25,cells b4 [hd40.v,hd41.v,hd21.v,hd22.v,.slice none 0 0] 60,zv0 hd40.v (t19++[q1.Name]),zv0 hd41.v (t20++[q1.Text]),eD D (zba zam zaf 62 1 hd21.v t21) [(7,zba zam zaf 62 1 b.2.2.v (t21++[spans1]))],zba zaj zal 55 1 hd22.v t22,cells b6 (zr0 q1) 30,cells b7 [hd27.v] 62,eD D (zv1 hd27.v spans1) [(7,emp)],cells b8 [hd28.v] 55,zv0 hd28.v keys1,zc0 ((ds6:List Nat).map zcu),cells b15 [.string q1.Name] 9,cells b16 [.string q1.Text] 9,eD D emp [(6,cells b.1 [hd27.v] 62)]]; ?_
     refine zhd (β:=Nat×{zs:List ((List za0)×Hd) // zs.map Prod.fst=t21}×Hd) 8 ((0:Nat),⟨t21.map (fun x=>(x,Hd.nil)),zwO _ _⟩,Hd.nil) vals3 LL3 mixed kr kr dc (fun _=>rfl) (zhw (zay ze5 (zhx (zay ze5 (zhw (zay ze5 rfl)))))) (zbd ?_ (zbd ?_ (zbd ?_ (zbd ?_ (zbd ?_ (zbd ?_ (zbd ?_ (zbd ?_ DrawG.nil)))))))) ?_
     ·
      intro D b hn hd hcl
      obtain ⟨b17,⟨zs1,hz1⟩,hd42⟩:=b
      refine zbM (zga (zsl rfl)) (zaD rfl dc (za3 (by rfl) rfl) ?_)
      exact zcb (b:=(b17,⟨zs1,hz1⟩,hd42)) (b17,⟨zs1,hz1⟩,hd42) 0 (by rfl) (by rfl) rfl (znQ rfl) (zhw (zay (zbg (by rfl)) (zhx (zay (zbg (by rfl)) (zhw (zay (zbg (by rfl)) rfl))))))
     ·
      intro D b hn hd hcl
      obtain ⟨b17,⟨zs1,hz1⟩,hd42⟩:=b
      refine zbM (zhw (zay (za5 (fun hD=>hn (hcl 2 _ rfl (hcl 3 _ rfl (hcl 4 _ rfl (hcl 7 _ rfl hD 4 dc) 3 dc) 2 dc) 1 dc)) zbr) (zhx (zay (za5 (fun hD=>hn (hcl 2 _ rfl (hcl 3 _ rfl (hcl 4 _ rfl (hcl 7 _ rfl hD 4 dc) 3 dc) 2 dc) 1 dc)) zbr) (zkM rfl))))) ?_
      refine zaD rfl dc (za3 (by rfl) rfl) ?_
      exact zcb (b:=(b17,⟨zs1,hz1⟩,hd42)) (b17,⟨zs1,hz1⟩,hd42) 1 (by rfl) (by rfl) rfl (znQ rfl) (zhw (zay ((zbg (by rfl)).trans (za5 (fun hD=>hn (hcl 2 _ rfl (hcl 3 _ rfl (hcl 4 _ rfl (hcl 7 _ rfl hD 4 dc) 3 dc) 2 dc) 1 dc)) zbr)) (zhx (zay ((zbg (by rfl)).trans (za5 (fun hD=>hn (hcl 2 _ rfl (hcl 3 _ rfl (hcl 4 _ rfl (hcl 7 _ rfl hD 4 dc) 3 dc) 2 dc) 1 dc)) zbr)) (zhw (zay (zbg (by rfl)) rfl))))))
     ·
      intro D b hn hd hcl
      obtain ⟨b17,⟨zs1,hz1⟩,hd42⟩:=b
      refine zbM (zhw (zay (za5 (fun hD=>hn (hcl 3 _ rfl (hcl 4 _ rfl (hcl 7 _ rfl hD 4 dc) 3 dc) 2 dc)) zbr) (zhx (zay (za5 (fun hD=>hn (hcl 3 _ rfl (hcl 4 _ rfl (hcl 7 _ rfl hD 4 dc) 3 dc) 2 dc)) zbr) (zkM rfl))))) ?_
      refine zav rfl dc (zaU (m:=1) rfl rfl (hd 1 dc)) ?_
      exact zcb (b:=(b17,⟨zs1,hz1⟩,hd42)) (b17,⟨zs1,hz1⟩,hd42) 2 (by rfl) (by rfl) rfl (znQ rfl) (zhw (zay ((zbg (by rfl)).trans (za5 (fun hD=>hn (hcl 3 _ rfl (hcl 4 _ rfl (hcl 7 _ rfl hD 4 dc) 3 dc) 2 dc)) zbr)) (zhx (zay ((zbg (by rfl)).trans (za5 (fun hD=>hn (hcl 3 _ rfl (hcl 4 _ rfl (hcl 7 _ rfl hD 4 dc) 3 dc) 2 dc)) zbr)) (zhw (zay (zbg (by rfl)) rfl))))))
     ·
      intro D b hn hd hcl
      obtain ⟨b17,⟨zs1,hz1⟩,hd42⟩:=b
      refine zbM (zhw (zay (za5 (fun hD=>hn (hcl 4 _ rfl (hcl 7 _ rfl hD 4 dc) 3 dc)) zbr) (zhx (zay (za5 (fun hD=>hn (hcl 4 _ rfl (hcl 7 _ rfl hD 4 dc) 3 dc)) zbr) (zkM rfl))))) ?_
      refine zac zpV rfl dc (zaU (m:=2) rfl rfl (hd 2 dc)) (show _=2 from rfl) ?_
      exact zcb (b:=(b17,⟨zs1,hz1⟩,hd42)) (b17,⟨zs1,hz1⟩,hd42) 3 (by rfl) (by rfl) rfl (znQ rfl) (zhw (zay ((zbg (by rfl)).trans (za5 (fun hD=>hn (hcl 4 _ rfl (hcl 7 _ rfl hD 4 dc) 3 dc)) zbr)) (zhx (zay ((zbg (by rfl)).trans (za5 (fun hD=>hn (hcl 4 _ rfl (hcl 7 _ rfl hD 4 dc) 3 dc)) zbr)) (zhw (zay (zbg (by rfl)) rfl))))))
     ·
      intro D b hn hd hcl
      obtain ⟨b17,⟨zs1,hz1⟩,hd42⟩:=b
      refine zbM (zhw (zay (za5 (fun hD=>hn (hcl 7 _ rfl hD 4 dc)) zbr) (zhx (zay (za5 (fun hD=>hn (hcl 7 _ rfl hD 4 dc)) zbr) (zkM rfl))))) ?_
      refine zat (k:=2) zvH rfl dc (zaU (m:=3) rfl rfl (hd 3 dc)) rfl rfl ?_
      exact zcb (b:=(b17,⟨zs1,hz1⟩,hd42)) (b17,⟨zs1,hz1⟩,hd42) 4 (by rfl) (by rfl) rfl (znQ rfl) (zhw (zay ((zbg (by rfl)).trans (za5 (fun hD=>hn (hcl 7 _ rfl hD 4 dc)) zbr)) (zhx (zay ((zbg (by rfl)).trans (za5 (fun hD=>hn (hcl 7 _ rfl hD 4 dc)) zbr)) (zhw (zay (zbg (by rfl)) rfl))))))
     ·
      intro D b hn hd hcl
      obtain ⟨b17,⟨zs1,hz1⟩,hd42⟩:=b
      refine zbM (zhw (zay (za5 (fun hD=>hn (hcl 6 _ rfl (hcl 7 _ rfl hD 6 dc) 5 dc)) zbr) (zhx (zay (za5 (fun hD=>hn (hcl 6 _ rfl (hcl 7 _ rfl hD 6 dc) 5 dc)) zbr) (zhw (zay (za5 (fun hD=>hn (hcl 6 _ rfl hD 5 dc)) zbr) rfl)))))) ?_
      refine zat (k:=8) zsF rfl dc (za3 (by rfl) rfl) rfl rfl ?_
      exact zcb (b:=(b17,⟨zs1,hz1⟩,hd42)) (b17,⟨zs1,hz1⟩,hd42) 5 (by rfl) (by rfl) rfl (znQ rfl) (zhw (zay ((zbg (by rfl)).trans (za5 (fun hD=>hn (hcl 6 _ rfl (hcl 7 _ rfl hD 6 dc) 5 dc)) zbr)) (zhx (zay ((zbg (by rfl)).trans (za5 (fun hD=>hn (hcl 6 _ rfl (hcl 7 _ rfl hD 6 dc) 5 dc)) zbr)) (zhw (zay ((zbg (by rfl)).trans (za5 (fun hD=>hn (hcl 6 _ rfl hD 5 dc)) zbr)) rfl))))))
     ·
      intro D b hn hd hcl
      obtain ⟨zb0,⟨zs1,hz1⟩,hd42⟩:=b
      refine zbM (zhw (zay (za5 (fun hD=>hn (hcl 7 _ rfl hD 6 dc)) zbr) (zhx (zay (za5 (fun hD=>hn (hcl 7 _ rfl hD 6 dc)) zbr) (zhw (zay (za5 hn zbr) rfl)))))) ?_
      refine zby (cs:=[hd27.v]) (te:=62) (ps:=[(0,.tmp 109)]) rfl dc (evP.cons (zaU (m:=5) rfl rfl (hd 5 dc)) evP.nil) (fun _=>by kernel_rfl) (fun b17 => ?_)
      refine zhb 15 rfl rfl ?_
      show TO _ _ _ _ _ _ _ _ _ _ [cells b1 [.pointer none] 24,cells b2 [zI 0] 25,cells b4 [hd40.v,hd41.v,hd21.v,hd22.v,.slice none 0 0] 60,zv0 hd40.v (t19++[q1.Name]),zv0 hd41.v (t20++[q1.Text]),zba zam zaf 62 1 hd21.v t21,zba zaj zal 55 1 hd22.v t22,cells b6 (zr0 q1) 30,cells b7 [hd27.v] 62,zv1 hd27.v spans1,cells b8 [hd28.v] 55,zv0 hd28.v keys1,zc0 ((ds6:List Nat).map zcu),cells b15 [.string q1.Name] 9,cells b16 [.string q1.Text] 9,cells b17 [hd27.v] 62]
      exact zcb (b:=(zb0,⟨zs1,hz1⟩,hd42)) (b17,⟨zs1,hz1⟩,hd42) 6 (by rfl) (by rfl) rfl (zvn (zaF (fun hD=>absurd hD hn) (zaF (fun _=>rfl) rfl))) (zhw (zay ((zbg (by rfl)).trans (za5 (fun hD=>hn (hcl 7 _ rfl hD 6 dc)) zbr)) (zhx (zay ((zbg (by rfl)).trans (za5 (fun hD=>hn (hcl 7 _ rfl hD 6 dc)) zbr)) (zhw (zay (zda (Or.inr rfl) rfl) rfl))))))
     ·
      intro D b hn hd hcl
      obtain ⟨b17,zb1,zb2⟩:=b
      refine zbM (zhw (zay (za5 hn zbr) (zhx (zay (za5 hn zbr) (zhw (zay (zda (hd 6 dc) rfl) rfl)))))) ?_
      refine zc5 (k:=5) rfl zi0 (fun zs1 hz1 => ?_)
      show TO _ _ _ _ _ _ _ _ _ _ [cells b1 [.pointer none] 24,cells b2 [zI 0] 25,cells b4 [hd40.v,hd41.v,hd21.v,hd22.v,.slice none 0 0] 60,zv0 hd40.v (t19++[q1.Name]),zv0 hd41.v (t20++[q1.Text]),zv4 hd21.v zs1,zba zaj zal 55 1 hd22.v t22,cells b6 (zr0 q1) 30,cells b7 [hd27.v] 62,zv1 hd27.v spans1,cells b8 [hd28.v] 55,zv0 hd28.v keys1,zc0 ((ds6:List Nat).map zcu),cells b15 [.string q1.Name] 9,cells b16 [.string q1.Text] 9,cells b17 [hd27.v] 62,own zaf zs1]
      refine zbR (k:=5) (k2:=15) (ys:=[(spans1,hd27)]) underlying56 zwD ziF ziE rfl dc (zaU (m:=4) rfl rfl (hd 4 dc)) (zaU (m:=6) rfl rfl (hd 6 dc)) rfl rfl rfl rfl (by rw [zqB hz1]; exact hg7) (fun v5 => ?_)
      show TO _ _ _ _ _ _ _ _ _ _ [cells b1 [.pointer none] 24,cells b2 [zI 0] 25,cells b4 [hd40.v,hd41.v,hd21.v,hd22.v,.slice none 0 0] 60,zv0 hd40.v (t19++[q1.Name]),zv0 hd41.v (t20++[q1.Text]),zv4 v5 (zs1++[(spans1,hd27)]),zba zaj zal 55 1 hd22.v t22,cells b6 (zr0 q1) 30,cells b7 [hd27.v] 62,zv1 hd27.v spans1,cells b8 [hd28.v] 55,zv0 hd28.v keys1,zc0 ((ds6:List Nat).map zcu),cells b15 [.string q1.Name] 9,cells b16 [.string q1.Text] 9,cells b17 [hd27.v] 62,own zaf zs1]
      refine zc7 (k:=5) rfl (fun hd42 he5 => ?_)
      subst he5
      refine zed (k:=16) rfl (zaa [9] kr rfl) rfl (zkn (nest:=zaf) (zs:=zs1) (z:=(spans1,hd27))) ?_
      show TO _ _ _ _ _ _ _ _ _ _ [cells b1 [.pointer none] 24,cells b2 [zI 0] 25,cells b4 [hd40.v,hd41.v,hd21.v,hd22.v,.slice none 0 0] 60,zv0 hd40.v (t19++[q1.Name]),zv0 hd41.v (t20++[q1.Text]),zv4 hd42.v (zs1++[(spans1,hd27)]),zba zaj zal 55 1 hd22.v t22,cells b6 (zr0 q1) 30,cells b7 [hd27.v] 62,emp,cells b8 [hd28.v] 55,zv0 hd28.v keys1,zc0 ((ds6:List Nat).map zcu),cells b15 [.string q1.Name] 9,cells b16 [.string q1.Text] 9,cells b17 [hd27.v] 62,own zaf (zs1++[(spans1,hd27)])]
      refine zed (k:=5) rfl (zaa [16] kr rfl) rfl (zgU (enc:=zam) (nest:=zaf) (zsp hz1)) ?_
      refine zb6 (L':=[cells b1 [.pointer none] 24,cells b2 [zI 0] 25,cells b4 [hd40.v,hd41.v,hd21.v,hd22.v,.slice none 0 0] 60,zv0 hd40.v (t19++[q1.Name]),zv0 hd41.v (t20++[q1.Text]),zba zam zaf 62 1 hd42.v (t21++[spans1]),zba zaj zal 55 1 hd22.v t22,cells b6 (zr0 q1) 30,cells b7 [hd27.v] 62,emp,cells b8 [hd28.v] 55,zv0 hd28.v keys1,zc0 ((ds6:List Nat).map zcu),cells b15 [.string q1.Name] 9,cells b16 [.string q1.Text] 9,cells b17 [hd27.v] 62]) (zaa [0,1,2,3,4,5,6,7,8,9,10,11,12,13,14,15] kr rfl) ?_
      exact zcb (b:=(b17,zb1,zb2)) (b17,⟨zs1,hz1⟩,hd42) 7 (by rfl) (by rfl) rfl (zvc (zaF (fun hD=>absurd hD hn) rfl)) (zhw (zay (zda (Or.inr rfl) rfl) (zhx (zay (zda (Or.inr rfl) rfl) (zhw (zay ((zbg (by rfl)).trans (zda (hd 6 dc) rfl)) rfl))))))
     intro D b hall
     obtain ⟨b17,⟨zs1,hz1⟩,hd42⟩:=b
     refine zbM (zhw (zay (zda (hall 7 dc) rfl) (zhx (zay (zda (hall 7 dc) rfl) (zhw (zay (zda (hall 6 dc) rfl) rfl)))))) (zav rfl dc rfl (zac zpV rfl dc rfl (show _=2 from rfl) ?_))
     refine zaG (k:=2) (l':=[hd40.v,hd41.v,hd42.v,hd22.v,.slice none 0 0]) zvE rfl rfl rfl rfl rfl (fun _ _=>rfl) rfl ?_
     refine zyN ?_
     obtain ⟨hg8,h⟩:=zcU h
     refine zlw 1 ?_
     show TC _ _ _ _ _ _ _ _ _ [cells b1 [.pointer none] 24,cells b2 [zI 0] 25,cells b4 [hd40.v,hd41.v,hd42.v,hd22.v,.slice none 0 0] 60,zv0 hd40.v (t19++[q1.Name]),zv0 hd41.v (t20++[q1.Text]),zba zam zaf 62 1 hd42.v (t21++[spans1]),zba zaj zal 55 1 hd22.v t22,cells b6 (zr0 q1) 30,cells b7 [hd27.v] 62,emp,cells b8 [hd28.v] 55,zv0 hd28.v keys1,zc0 ((ds6:List Nat).map zcu),cells b15 [.string q1.Name] 9,cells b16 [.string q1.Text] 9,cells b17 [hd27.v] 62,emp]
     refine let vals4:(Nat×{zs:List ((List zBA)×Hd) // zs.map Prod.fst=t22}×Hd)→List (Nat×Nat×Value):=fun b=>[(0,114,zP b4),(1,115,zP b4),(2,116,zP b4),(3,117,.pointer (some ⟨b4,3,none⟩)),(4,118,hd22.v),(5,119,hd28.v),(6,120,.slice (some ⟨b.1,0,none⟩) 1 1),(7,121,b.2.2.v)]; let LL4:(Nat→Prop)→(Nat×{zs:List ((List zBA)×Hd) // zs.map Prod.fst=t22}×Hd)→List Asn:=fun D b=>[cells b1 [.pointer none] 24,cells b2 [zI 0] 25,cells b4 [hd40.v,hd41.v,hd42.v,hd22.v,.slice none 0 0] 60,zv0 hd40.v (t19++[q1.Name]),zv0 hd41.v (t20++[q1.Text]),zba zam zaf 62 1 hd42.v (t21++[spans1]),eD D (zba zaj zal 55 1 hd22.v t22) [(7,zba zaj zal 55 1 b.2.2.v (t22++[keys1]))],cells b6 (zr0 q1) 30,cells b7 [hd27.v] 62,emp,cells b8 [hd28.v] 55,eD D (zv0 hd28.v keys1) [(7,emp)],zc0 ((ds6:List Nat).map zcu),cells b15 [.string q1.Name] 9,cells b16 [.string q1.Text] 9,cells b17 [hd27.v] 62,eD D emp [(6,cells b.1 [hd28.v] 55)]]; ?_
     refine zhd (β:=Nat×{zs:List ((List zBA)×Hd) // zs.map Prod.fst=t22}×Hd) 8 ((0:Nat),⟨t22.map (fun x=>(x,Hd.nil)),zwO _ _⟩,Hd.nil) vals4 LL4 mixed kr kr dc (fun _=>rfl) (zkM (zay ze5 (zga (zay ze5 (zga (zay ze5 rfl)))))) (zbd ?_ (zbd ?_ (zbd ?_ (zbd ?_ (zbd ?_ (zbd ?_ (zbd ?_ (zbd ?_ DrawG.nil)))))))) ?_
     ·
      intro D b hn hd hcl
      obtain ⟨b18,⟨zs2,hz2⟩,hd43⟩:=b
      refine zbM (zhw (zsl rfl)) (zaD rfl dc (za3 (by rfl) rfl) ?_)
      exact zcb (b:=(b18,⟨zs2,hz2⟩,hd43)) (b18,⟨zs2,hz2⟩,hd43) 0 (by rfl) (by rfl) rfl (znQ rfl) (zkM (zay (zbg (by rfl)) (zga (zay (zbg (by rfl)) (zga (zay (zbg (by rfl)) rfl))))))
     ·
      intro D b hn hd hcl
      obtain ⟨b18,⟨zs2,hz2⟩,hd43⟩:=b
      refine zbM (zkM (zay (za5 (fun hD=>hn (hcl 2 _ rfl (hcl 3 _ rfl (hcl 4 _ rfl (hcl 7 _ rfl hD 4 dc) 3 dc) 2 dc) 1 dc)) zbr) (zga (zay (za5 (fun hD=>hn (hcl 2 _ rfl (hcl 3 _ rfl (hcl 4 _ rfl (hcl 7 _ rfl hD 4 dc) 3 dc) 2 dc) 1 dc)) zbr) (zhw rfl))))) ?_
      refine zaD rfl dc (za3 (by rfl) rfl) ?_
      exact zcb (b:=(b18,⟨zs2,hz2⟩,hd43)) (b18,⟨zs2,hz2⟩,hd43) 1 (by rfl) (by rfl) rfl (znQ rfl) (zkM (zay ((zbg (by rfl)).trans (za5 (fun hD=>hn (hcl 2 _ rfl (hcl 3 _ rfl (hcl 4 _ rfl (hcl 7 _ rfl hD 4 dc) 3 dc) 2 dc) 1 dc)) zbr)) (zga (zay ((zbg (by rfl)).trans (za5 (fun hD=>hn (hcl 2 _ rfl (hcl 3 _ rfl (hcl 4 _ rfl (hcl 7 _ rfl hD 4 dc) 3 dc) 2 dc) 1 dc)) zbr)) (zga (zay (zbg (by rfl)) rfl))))))
     ·
      intro D b hn hd hcl
      obtain ⟨b18,⟨zs2,hz2⟩,hd43⟩:=b
      refine zbM (zkM (zay (za5 (fun hD=>hn (hcl 3 _ rfl (hcl 4 _ rfl (hcl 7 _ rfl hD 4 dc) 3 dc) 2 dc)) zbr) (zga (zay (za5 (fun hD=>hn (hcl 3 _ rfl (hcl 4 _ rfl (hcl 7 _ rfl hD 4 dc) 3 dc) 2 dc)) zbr) (zhw rfl))))) ?_
      refine zav rfl dc (zaU (m:=1) rfl rfl (hd 1 dc)) ?_
      exact zcb (b:=(b18,⟨zs2,hz2⟩,hd43)) (b18,⟨zs2,hz2⟩,hd43) 2 (by rfl) (by rfl) rfl (znQ rfl) (zkM (zay ((zbg (by rfl)).trans (za5 (fun hD=>hn (hcl 3 _ rfl (hcl 4 _ rfl (hcl 7 _ rfl hD 4 dc) 3 dc) 2 dc)) zbr)) (zga (zay ((zbg (by rfl)).trans (za5 (fun hD=>hn (hcl 3 _ rfl (hcl 4 _ rfl (hcl 7 _ rfl hD 4 dc) 3 dc) 2 dc)) zbr)) (zga (zay (zbg (by rfl)) rfl))))))
     ·
      intro D b hn hd hcl
      obtain ⟨b18,⟨zs2,hz2⟩,hd43⟩:=b
      refine zbM (zkM (zay (za5 (fun hD=>hn (hcl 4 _ rfl (hcl 7 _ rfl hD 4 dc) 3 dc)) zbr) (zga (zay (za5 (fun hD=>hn (hcl 4 _ rfl (hcl 7 _ rfl hD 4 dc) 3 dc)) zbr) (zhw rfl))))) ?_
      refine zac ziC rfl dc (zaU (m:=2) rfl rfl (hd 2 dc)) (show _=3 from rfl) ?_
      exact zcb (b:=(b18,⟨zs2,hz2⟩,hd43)) (b18,⟨zs2,hz2⟩,hd43) 3 (by rfl) (by rfl) rfl (znQ rfl) (zkM (zay ((zbg (by rfl)).trans (za5 (fun hD=>hn (hcl 4 _ rfl (hcl 7 _ rfl hD 4 dc) 3 dc)) zbr)) (zga (zay ((zbg (by rfl)).trans (za5 (fun hD=>hn (hcl 4 _ rfl (hcl 7 _ rfl hD 4 dc) 3 dc)) zbr)) (zga (zay (zbg (by rfl)) rfl))))))
     ·
      intro D b hn hd hcl
      obtain ⟨b18,⟨zs2,hz2⟩,hd43⟩:=b
      refine zbM (zkM (zay (za5 (fun hD=>hn (hcl 7 _ rfl hD 4 dc)) zbr) (zga (zay (za5 (fun hD=>hn (hcl 7 _ rfl hD 4 dc)) zbr) (zhw rfl))))) ?_
      refine zat (k:=2) zoE rfl dc (zaU (m:=3) rfl rfl (hd 3 dc)) rfl rfl ?_
      exact zcb (b:=(b18,⟨zs2,hz2⟩,hd43)) (b18,⟨zs2,hz2⟩,hd43) 4 (by rfl) (by rfl) rfl (znQ rfl) (zkM (zay ((zbg (by rfl)).trans (za5 (fun hD=>hn (hcl 7 _ rfl hD 4 dc)) zbr)) (zga (zay ((zbg (by rfl)).trans (za5 (fun hD=>hn (hcl 7 _ rfl hD 4 dc)) zbr)) (zga (zay (zbg (by rfl)) rfl))))))
     ·
      intro D b hn hd hcl
      obtain ⟨b18,⟨zs2,hz2⟩,hd43⟩:=b
      refine zbM (zkM (zay (za5 (fun hD=>hn (hcl 6 _ rfl (hcl 7 _ rfl hD 6 dc) 5 dc)) zbr) (zga (zay (za5 (fun hD=>hn (hcl 6 _ rfl (hcl 7 _ rfl hD 6 dc) 5 dc)) zbr) (zga (zay (za5 (fun hD=>hn (hcl 6 _ rfl hD 5 dc)) zbr) rfl)))))) ?_
      refine zat (k:=10) zic rfl dc (za3 (by rfl) rfl) rfl rfl ?_
      exact zcb (b:=(b18,⟨zs2,hz2⟩,hd43)) (b18,⟨zs2,hz2⟩,hd43) 5 (by rfl) (by rfl) rfl (znQ rfl) (zkM (zay ((zbg (by rfl)).trans (za5 (fun hD=>hn (hcl 6 _ rfl (hcl 7 _ rfl hD 6 dc) 5 dc)) zbr)) (zga (zay ((zbg (by rfl)).trans (za5 (fun hD=>hn (hcl 6 _ rfl (hcl 7 _ rfl hD 6 dc) 5 dc)) zbr)) (zga (zay ((zbg (by rfl)).trans (za5 (fun hD=>hn (hcl 6 _ rfl hD 5 dc)) zbr)) rfl))))))
     ·
      intro D b hn hd hcl
      obtain ⟨zb0,⟨zs2,hz2⟩,hd43⟩:=b
      refine zbM (zkM (zay (za5 (fun hD=>hn (hcl 7 _ rfl hD 6 dc)) zbr) (zga (zay (za5 (fun hD=>hn (hcl 7 _ rfl hD 6 dc)) zbr) (zga (zay (za5 hn zbr) rfl)))))) ?_
      refine zby (cs:=[hd28.v]) (te:=55) (ps:=[(0,.tmp 119)]) rfl dc (evP.cons (zaU (m:=5) rfl rfl (hd 5 dc)) evP.nil) (fun _=>by kernel_rfl) (fun b18 => ?_)
      show TO _ _ _ _ _ _ _ _ _ _ [cells b1 [.pointer none] 24,cells b2 [zI 0] 25,cells b4 [hd40.v,hd41.v,hd42.v,hd22.v,.slice none 0 0] 60,zv0 hd40.v (t19++[q1.Name]),zv0 hd41.v (t20++[q1.Text]),zba zam zaf 62 1 hd42.v (t21++[spans1]),zba zaj zal 55 1 hd22.v t22,cells b6 (zr0 q1) 30,cells b7 [hd27.v] 62,emp,cells b8 [hd28.v] 55,zv0 hd28.v keys1,zc0 ((ds6:List Nat).map zcu),cells b15 [.string q1.Name] 9,cells b16 [.string q1.Text] 9,cells b17 [hd27.v] 62,emp,cells b18 [hd28.v] 55]
      refine zhb 16 rfl rfl ?_
      show TO _ _ _ _ _ _ _ _ _ _ [cells b1 [.pointer none] 24,cells b2 [zI 0] 25,cells b4 [hd40.v,hd41.v,hd42.v,hd22.v,.slice none 0 0] 60,zv0 hd40.v (t19++[q1.Name]),zv0 hd41.v (t20++[q1.Text]),zba zam zaf 62 1 hd42.v (t21++[spans1]),zba zaj zal 55 1 hd22.v t22,cells b6 (zr0 q1) 30,cells b7 [hd27.v] 62,emp,cells b8 [hd28.v] 55,zv0 hd28.v keys1,zc0 ((ds6:List Nat).map zcu),cells b15 [.string q1.Name] 9,cells b16 [.string q1.Text] 9,cells b17 [hd27.v] 62,cells b18 [hd28.v] 55]
      exact zcb (b:=(zb0,⟨zs2,hz2⟩,hd43)) (b18,⟨zs2,hz2⟩,hd43) 6 (by rfl) (by rfl) rfl (zvn (zaF (fun hD=>absurd hD hn) (zaF (fun _=>rfl) rfl))) (zkM (zay ((zbg (by rfl)).trans (za5 (fun hD=>hn (hcl 7 _ rfl hD 6 dc)) zbr)) (zga (zay ((zbg (by rfl)).trans (za5 (fun hD=>hn (hcl 7 _ rfl hD 6 dc)) zbr)) (zga (zay (zda (Or.inr rfl) rfl) rfl))))))
     ·
      intro D b hn hd hcl
      obtain ⟨b18,zb1,zb2⟩:=b
      refine zbM (zkM (zay (za5 hn zbr) (zga (zay (za5 hn zbr) (zga (zay (zda (hd 6 dc) rfl) rfl)))))) ?_
      refine zc5 (k:=6) rfl zi0 (fun zs2 hz2 => ?_)
      show TO _ _ _ _ _ _ _ _ _ _ [cells b1 [.pointer none] 24,cells b2 [zI 0] 25,cells b4 [hd40.v,hd41.v,hd42.v,hd22.v,.slice none 0 0] 60,zv0 hd40.v (t19++[q1.Name]),zv0 hd41.v (t20++[q1.Text]),zba zam zaf 62 1 hd42.v (t21++[spans1]),zv6 hd22.v zs2,cells b6 (zr0 q1) 30,cells b7 [hd27.v] 62,emp,cells b8 [hd28.v] 55,zv0 hd28.v keys1,zc0 ((ds6:List Nat).map zcu),cells b15 [.string q1.Name] 9,cells b16 [.string q1.Text] 9,cells b17 [hd27.v] 62,cells b18 [hd28.v] 55,own zal zs2]
      refine zbR (k:=6) (k2:=16) (ys:=[(keys1,hd28)]) underlying57 zwE ze2 zjw rfl dc (zaU (m:=4) rfl rfl (hd 4 dc)) (zaU (m:=6) rfl rfl (hd 6 dc)) rfl rfl rfl rfl (by rw [zqB hz2]; exact hg8) (fun v6 => ?_)
      show TO _ _ _ _ _ _ _ _ _ _ [cells b1 [.pointer none] 24,cells b2 [zI 0] 25,cells b4 [hd40.v,hd41.v,hd42.v,hd22.v,.slice none 0 0] 60,zv0 hd40.v (t19++[q1.Name]),zv0 hd41.v (t20++[q1.Text]),zba zam zaf 62 1 hd42.v (t21++[spans1]),zv6 v6 (zs2++[(keys1,hd28)]),cells b6 (zr0 q1) 30,cells b7 [hd27.v] 62,emp,cells b8 [hd28.v] 55,zv0 hd28.v keys1,zc0 ((ds6:List Nat).map zcu),cells b15 [.string q1.Name] 9,cells b16 [.string q1.Text] 9,cells b17 [hd27.v] 62,cells b18 [hd28.v] 55,own zal zs2]
      refine zc7 (k:=6) rfl (fun hd43 he6 => ?_)
      subst he6
      refine zed (k:=17) rfl (zaa [11] kr rfl) rfl (zkn (nest:=zal) (zs:=zs2) (z:=(keys1,hd28))) ?_
      show TO _ _ _ _ _ _ _ _ _ _ [cells b1 [.pointer none] 24,cells b2 [zI 0] 25,cells b4 [hd40.v,hd41.v,hd42.v,hd22.v,.slice none 0 0] 60,zv0 hd40.v (t19++[q1.Name]),zv0 hd41.v (t20++[q1.Text]),zba zam zaf 62 1 hd42.v (t21++[spans1]),zv6 hd43.v (zs2++[(keys1,hd28)]),cells b6 (zr0 q1) 30,cells b7 [hd27.v] 62,emp,cells b8 [hd28.v] 55,emp,zc0 ((ds6:List Nat).map zcu),cells b15 [.string q1.Name] 9,cells b16 [.string q1.Text] 9,cells b17 [hd27.v] 62,cells b18 [hd28.v] 55,own zal (zs2++[(keys1,hd28)])]
      refine zed (k:=6) rfl (zaa [17] kr rfl) rfl (zgU (enc:=zaj) (nest:=zal) (zsp hz2)) ?_
      refine zb6 (L':=[cells b1 [.pointer none] 24,cells b2 [zI 0] 25,cells b4 [hd40.v,hd41.v,hd42.v,hd22.v,.slice none 0 0] 60,zv0 hd40.v (t19++[q1.Name]),zv0 hd41.v (t20++[q1.Text]),zba zam zaf 62 1 hd42.v (t21++[spans1]),zba zaj zal 55 1 hd43.v (t22++[keys1]),cells b6 (zr0 q1) 30,cells b7 [hd27.v] 62,emp,cells b8 [hd28.v] 55,emp,zc0 ((ds6:List Nat).map zcu),cells b15 [.string q1.Name] 9,cells b16 [.string q1.Text] 9,cells b17 [hd27.v] 62,cells b18 [hd28.v] 55]) (zaa [0,1,2,3,4,5,6,7,8,9,10,11,12,13,14,15,16] kr rfl) ?_
      exact zcb (b:=(b18,zb1,zb2)) (b18,⟨zs2,hz2⟩,hd43) 7 (by rfl) (by rfl) rfl (zvc (zaF (fun hD=>absurd hD hn) rfl)) (zkM (zay (zda (Or.inr rfl) rfl) (zga (zay (zda (Or.inr rfl) rfl) (zga (zay ((zbg (by rfl)).trans (zda (hd 6 dc) rfl)) rfl))))))
     intro D b hall
     obtain ⟨b18,⟨zs2,hz2⟩,hd43⟩:=b
     refine zbM (zkM (zay (zda (hall 7 dc) rfl) (zga (zay (zda (hall 7 dc) rfl) (zga (zay (zda (hall 6 dc) rfl) rfl)))))) (zav rfl dc rfl (zac ziC rfl dc rfl (show _=3 from rfl) ?_))
     refine zaG (k:=2) (l':=[hd40.v,hd41.v,hd42.v,hd43.v,.slice none 0 0]) zvD rfl rfl rfl rfl rfl (fun _ _=>rfl) rfl ?_
     show TO _ _ _ _ _ _ _ _ _ _ [cells b1 [.pointer none] 24,cells b2 [zI 0] 25,cells b4 [hd40.v,hd41.v,hd42.v,hd43.v,.slice none 0 0] 60,zv0 hd40.v (t19++[q1.Name]),zv0 hd41.v (t20++[q1.Text]),zba zam zaf 62 1 hd42.v (t21++[spans1]),zba zaj zal 55 1 hd43.v (t22++[keys1]),cells b6 (zr0 q1) 30,cells b7 [hd27.v] 62,emp,cells b8 [hd28.v] 55,emp,zc0 ((ds6:List Nat).map zcu),cells b15 [.string q1.Name] 9,cells b16 [.string q1.Text] 9,cells b17 [hd27.v] 62,cells b18 [hd28.v] 55]
     refine zap (zah ?_)
     exact zaB (t19++[q1.Name],t20++[q1.Text],t21++[spans1],t22++[keys1],r1.2,r1.1,q1.Name,q1.Text,q1.Name,(q1.Name.size:Int),q1.Name,r2,hd40,hd41,hd42,hd43,b6,ds6) h rfl (zbK rfl) (zaa [0,1,2,3,4,5,6,7,12] kr rfl)
    rintro ⟨t23,t24,t25,t26,x4,x5,x6,x7,x8,x9,x10,x11,hd23,hd24,hd25,hd26,b5,ds5⟩ h
    rw [hj2] at h
    show TC _ _ _ _ _ (zcK ds5) _ _ [(0,vl1),(2,zP b1),(3,zP b2),(4,zP b4),(22,vl1),(23,zI (l1.length:Int)),(24,zI x3),(37,zI x4),(38,.bool false),(41,zI x5),(42,zP b5),(43,.string x8),(44,zI x9),(45,.bool false),(48,zP b4),(49,zP b4),(50,zP b4),(52,zP b5),(53,.string x10),(54,.bool x11)] [cells b1 [.pointer none] 24,cells b2 [zI 0] 25,cells b4 [hd23.v,hd24.v,hd25.v,hd26.v,.slice none 0 0] 60,zv0 hd23.v t23,zv0 hd24.v t24,zba zam zaf 62 1 hd25.v t25,zba zaj zal 55 1 hd26.v t26,cells b5 [.string x6,.string x7] 30,zc0 ((ds5:List Nat).map zcu)]
    refine zad ?_
    obtain ⟨hg9,h⟩:=zcU h
    refine zbn rfl (zbs (r:=x3+1) (IntWalk.i64_in _ hg9)) (zyR 1 rfl (zap ?_))
    subst hag1
    exact zcM (n1,t23,t24,t25,t26,x3+1,hd23,hd24,hd25,hd26,ds5) h (Nat.lt_succ_self _) rfl (zbK rfl) (zaa [0,1,2,3,4,5,6,8] kr rfl)
   refine zcy (zaV (zaV (zbh ?_)))
   exact zaB (t19,t20,t21,t22,b4,hd19,hd20,hd21,hd22,ds4) h rfl (zbK rfl) (zaa [0,1,2,3,4,5,6,7] kr rfl)
 rintro ⟨t1,t2,t3,t4,b3,hd1,hd2,hd3,hd4,ds1⟩ h
 rw [hj1] at h
 show TC _ _ _ _ _ (zcK ds1) _ _ [(0,vl1),(2,zP b1),(3,zP b2),(4,zP b3)] [cells b1 [.pointer none] 24,cells b2 [zI 0] 25,cells b3 [hd1.v,hd2.v,hd3.v,hd4.v,.slice none 0 0] 60,zv0 hd1.v t1,zv0 hd2.v t2,zba zam zaf 62 1 hd3.v t3,zba zaj zal 55 1 hd4.v t4,zc0 ((ds1:List Nat).map zcu)]
 obtain ⟨j4,hj4,h⟩:=zcC h
 refine zbF (β:=(List zBA)×(List zBA)×(List (List za0))×(List (List zBA))×(List zan)×Hd×Hd×Hd×Hd×Hd) 0 rfl (fun b=>j4 b.1 b.2.1 b.2.2.1 b.2.2.2.1 b.2.2.2.2.1=some r) (fun b=>zcK ds1) (fun b=>[(2,zP b1),(3,zP b2),(4,zP b3)]) (fun b=>[cells b1 [.pointer none] 24,cells b2 [zI 0] 25,cells b3 [b.2.2.2.2.2.1.v,b.2.2.2.2.2.2.1.v,b.2.2.2.2.2.2.2.1.v,b.2.2.2.2.2.2.2.2.1.v,b.2.2.2.2.2.2.2.2.2.v] 60,zv0 b.2.2.2.2.2.1.v b.1,zv0 b.2.2.2.2.2.2.1.v b.2.1,zba zam zaf 62 1 b.2.2.2.2.2.2.2.1.v b.2.2.1,zba zaj zal 55 1 b.2.2.2.2.2.2.2.2.1.v b.2.2.2.1,zba zaq zak 70 2 b.2.2.2.2.2.2.2.2.2.v b.2.2.2.2.1,zc0 ((ds1:List Nat).map zcu)]) (fun cut => ?_) ?_
 ·
  refine cut (zyG (zyR 1 rfl (zfe hwl1 rfl dc rfl underlying22 (zyR 1 rfl (zyN (zaK (zkH (enc:=zaq) (nest:=zak) (e:=70) (size:=2) ?_)))))))
  show TC _ _ _ _ _ _ _ _ _ [cells b1 [.pointer none] 24,cells b2 [zI 0] 25,cells b3 [hd1.v,hd2.v,hd3.v,hd4.v,.slice none 0 0] 60,zv0 hd1.v t1,zv0 hd2.v t2,zba zam zaf 62 1 hd3.v t3,zba zaj zal 55 1 hd4.v t4,zc0 ((ds1:List Nat).map zcu),zba zaq zak 70 2 (.slice none 0 0) ([]:List zan)]
  refine zdy (β:=Nat×(List zBA)×(List zBA)×(List (List za0))×(List (List zBA))×(List zan)×Int×Hd×Hd×Hd×Hd×Hd) (fun b=>zbq (fun _ _ _ _ _ _=>none) (zcq l1 j4) b.1 b.2.1 b.2.2.1 b.2.2.2.1 b.2.2.2.2.1 b.2.2.2.2.2.1 b.2.2.2.2.2.2.1=some r) (fun b=>zcK ds1) (fun b=>[(2,zP b1),(3,zP b2),(4,zP b3),(126,zI (l1.length:Int)),(127,zI b.2.2.2.2.2.2.1)]) (fun b=>[cells b1 [.pointer none] 24,cells b2 [zI 0] 25,cells b3 [b.2.2.2.2.2.2.2.1.v,b.2.2.2.2.2.2.2.2.1.v,b.2.2.2.2.2.2.2.2.2.1.v,b.2.2.2.2.2.2.2.2.2.2.1.v,b.2.2.2.2.2.2.2.2.2.2.2.v] 60,zv0 b.2.2.2.2.2.2.2.1.v b.2.1,zv0 b.2.2.2.2.2.2.2.2.1.v b.2.2.1,zba zam zaf 62 1 b.2.2.2.2.2.2.2.2.2.1.v b.2.2.2.1,zba zaj zal 55 1 b.2.2.2.2.2.2.2.2.2.2.1.v b.2.2.2.2.1,zba zaq zak 70 2 b.2.2.2.2.2.2.2.2.2.2.2.v b.2.2.2.2.2.1,zc0 ((ds1:List Nat).map zcu)]) (fun b=>b.1) (zc9,t1,t2,t3,t4,([]:List zan),0,hd1,hd2,hd3,hd4,Hd.nil) h rfl (zbK rfl) (zaa [0,1,2,3,4,5,6,8,7] kr rfl) ?_
  rintro ⟨n2,t46,t47,t48,t49,t50,x15,hd63,hd64,hd65,hd66,hd67⟩ h
  cases n2 with
  | zero=>exact zfG h
  | succ n2 =>
   obtain ⟨ag3,hag3⟩:∃ ag,ag=zbq (fun _ _ _ _ _ _=>none) (zcq l1 j4) n2:=⟨_,rfl⟩
   have h:zcq l1 j4 ag3 t46 t47 t48 t49 t50 x15=some r:=by rw [hag3]; exact h
   unfold zcq at h
   show TC _ _ _ _ _ (zcK ds1) _ _ [(2,zP b1),(3,zP b2),(4,zP b3),(126,zI (l1.length:Int)),(127,zI x15)] [cells b1 [.pointer none] 24,cells b2 [zI 0] 25,cells b3 [hd63.v,hd64.v,hd65.v,hd66.v,hd67.v] 60,zv0 hd63.v t46,zv0 hd64.v t47,zba zam zaf 62 1 hd65.v t48,zba zaj zal 55 1 hd66.v t49,zba zaq zak 70 2 hd67.v t50,zc0 ((ds1:List Nat).map zcu)]
   refine zyG (zbn rfl zb4 (zyN (zar ?_)))
   refine zyB rfl h (fun h => ?_) (fun h => ?_)
   ·
    refine zax (zag (zar (zaK (zyG (zyR 2 rfl (zyH (zyR 2 rfl ?_)))))))
    obtain ⟨r4,hq5,h⟩:=zcp h
    refine zdE (vs:=[zP b3,zI x15]) rfl dc rfl rfl rfl zww (zib (bt1:=b3) (t1:=(⟨t46,t47,t48,t49,t50⟩:zai)) (t1_h0:=hd63) (t1_h1:=hd64) (t1_h2:=hd65) (t1_h3:=hd66) (t1_h4:=hd67) hq5) (zaa [2,3,4,5,6,7] kr rfl) ?_
    rintro ⟨hd68,hd69,hd70,hd71,hd72⟩
    refine zb6 (L':=[cells b1 [.pointer none] 24,cells b2 [zI 0] 25,cells b3 [hd68.v,hd69.v,hd70.v,hd71.v,hd72.v] 60,zv0 hd68.v r4.names,zv0 hd69.v r4.texts,zba zam zaf 62 1 hd70.v r4.spans,zba zaj zal 55 1 hd71.v r4.keys,zba zaq zak 70 2 hd72.v r4.columns,zc0 ((ds1:List Nat).map zcu)]) (zaa [0,1,9,10,11,12,13,14,8] kr rfl) (zyH (zyR 1 rfl (zav rfl dc rfl (zac zgH rfl dc rfl (show _=4 from rfl) (zat (k:=2) zlL rfl dc rfl rfl rfl (zjB (k:=7) rfl dc rfl rfl underlying58 (zbn rfl zeP (zyN ?_))))))))
    refine zyB rfl h (fun h => ?_) (fun h => ?_)
    ·
     refine zyG ?_
     refine zaG (k:=0) (l':=[.pointer none]) zka rfl rfl rfl rfl rfl (fun _ _=>rfl) rfl ?_
     refine zaG (k:=1) (l':=[zI 3]) zkR rfl rfl rfl rfl rfl (fun _ _=>rfl) rfl ?_
     show TO _ _ _ _ _ _ _ _ _ _ [cells b1 [.pointer none] 24,cells b2 [zI 3] 25,cells b3 [hd68.v,hd69.v,hd70.v,hd71.v,hd72.v] 60,zv0 hd68.v r4.names,zv0 hd69.v r4.texts,zba zam zaf 62 1 hd70.v r4.spans,zba zaj zal 55 1 hd71.v r4.keys,zba zaq zak 70 2 hd72.v r4.columns,zc0 ((ds1:List Nat).map zcu)]
     refine zyN (zaE (zau (zao (zao (zau (zao (zfB za8 za7 60 ?_)))))))
     show TX _ _ _ _ _ _ _ [cells b1 [.pointer none] 24,cells b2 [zI 3] 25,cells b3 [hd68.v,hd69.v,hd70.v,hd71.v,hd72.v] 60,zv0 hd68.v r4.names,zv0 hd69.v r4.texts,zba zam zaf 62 1 hd70.v r4.spans,zba zaj zal 55 1 hd71.v r4.keys,zba zaq zak 70 2 hd72.v r4.columns,zc0 ((ds1:List Nat).map zcu),zkL za8 za7 60 (.pointer none) none]
     cases h
     exact zcE (rs:=[.cell 2 24,.cell 3 25]) ds1 (.pointer none) (.inl rfl) (zaT (k:=8) rfl) results5 (.cons (.cell zfr (k:=0) rfl rfl) (.cons (.cell ziR (k:=1) rfl rfl) .nil)) rfl (zaa [9] kr rfl)
    refine zax (zah (zag (zad ?_)))
    obtain ⟨hg10,h⟩:=zcU h
    refine zbn rfl (zbs (r:=x15+1) (IntWalk.i64_in _ hg10)) (zyR 1 rfl (zap ?_))
    subst hag3
    exact zcM (n2,r4.names,r4.texts,r4.spans,r4.keys,r4.columns,x15+1,hd68,hd69,hd70,hd71,hd72) h (Nat.lt_succ_self _) rfl (zbK rfl) (zaa [0,1,2,3,4,5,6,7,8] kr rfl)
   refine zcy (zaV (zaV (zbh ?_)))
   exact zaB (t46,t47,t48,t49,t50,hd63,hd64,hd65,hd66,hd67) h rfl (zbK rfl) (zaa [0,1,2,3,4,5,6,7,8] kr rfl)
 rintro ⟨t27,t28,t29,t30,t31,hd44,hd45,hd46,hd47,hd48⟩ h
 rw [hj4] at h
 show TC _ _ _ _ _ (zcK ds1) _ _ [(2,zP b1),(3,zP b2),(4,zP b3)] [cells b1 [.pointer none] 24,cells b2 [zI 0] 25,cells b3 [hd44.v,hd45.v,hd46.v,hd47.v,hd48.v] 60,zv0 hd44.v t27,zv0 hd45.v t28,zba zam zaf 62 1 hd46.v t29,zba zaj zal 55 1 hd47.v t30,zba zaq zak 70 2 hd48.v t31,zc0 ((ds1:List Nat).map zcu)]
 obtain ⟨j5,hj5,h⟩:=zcC h
 refine zbF (β:=(List zan)) 0 rfl (fun b=>j5 b=some r) (fun b=>zcK ds1) (fun b=>[(2,zP b1),(3,zP b2),(4,zP b3)]) (fun b=>[cells b1 [.pointer none] 24,cells b2 [zI 0] 25,cells b3 [hd44.v,hd45.v,hd46.v,hd47.v,hd48.v] 60,zv0 hd44.v t27,zv0 hd45.v t28,zba zam zaf 62 1 hd46.v t29,zba zaj zal 55 1 hd47.v t30,zba zaq zak 70 2 hd48.v b,zc0 ((ds1:List Nat).map zcu)]) (fun cut => ?_) ?_
 ·
  refine cut (zyG (zyR 1 rfl (zav rfl dc rfl (zac zgH rfl dc rfl (show _=4 from rfl) (zat (k:=2) zlL rfl dc rfl rfl rfl (zjB (k:=7) rfl dc rfl rfl underlying58 (zyR 1 rfl (zyN (zaK ?_)))))))))
  refine zdy (β:=Nat×(List zan)×Int) (fun b=>zbq (fun _ _=>none) (zc6 t30 t31 j5) b.1 b.2.1 b.2.2=some r) (fun b=>zcK ds1) (fun b=>[(2,zP b1),(3,zP b2),(4,zP b3),(144,zI (t31.length:Int)),(145,zI b.2.2)]) (fun b=>[cells b1 [.pointer none] 24,cells b2 [zI 0] 25,cells b3 [hd44.v,hd45.v,hd46.v,hd47.v,hd48.v] 60,zv0 hd44.v t27,zv0 hd45.v t28,zba zam zaf 62 1 hd46.v t29,zba zaj zal 55 1 hd47.v t30,zba zaq zak 70 2 hd48.v b.2.1,zc0 ((ds1:List Nat).map zcu)]) (fun b=>b.1) (zc9,t31,0) h rfl (zbK rfl) (zaa [0,1,2,3,4,5,6,7,8] kr rfl) ?_
  rintro ⟨n3,t54,x18⟩ h
  cases n3 with
  | zero=>exact zfG h
  | succ n3 =>
   obtain ⟨ag4,hag4⟩:∃ ag,ag=zbq (fun _ _=>none) (zc6 t30 t31 j5) n3:=⟨_,rfl⟩
   have h:zc6 t30 t31 j5 ag4 t54 x18=some r:=by rw [hag4]; exact h
   unfold zc6 at h
   show TC _ _ _ _ _ (zcK ds1) _ _ [(2,zP b1),(3,zP b2),(4,zP b3),(144,zI (t31.length:Int)),(145,zI x18)] [cells b1 [.pointer none] 24,cells b2 [zI 0] 25,cells b3 [hd44.v,hd45.v,hd46.v,hd47.v,hd48.v] 60,zv0 hd44.v t27,zv0 hd45.v t28,zba zam zaf 62 1 hd46.v t29,zba zaj zal 55 1 hd47.v t30,zba zaq zak 70 2 hd48.v t54,zc0 ((ds1:List Nat).map zcu)]
   refine zyG (zbn rfl zb4 (zyN (zar ?_)))
   refine zyB rfl h (fun h => ?_) (fun h => ?_)
   ·
    refine zax (zag (zar (zaK (zyG (zyR 2 rfl (zyN (zad (zyR 2 rfl (zav rfl dc rfl ?_)))))))))
    refine zac zgH rfl dc rfl (show _=4 from rfl) (zat (k:=2) zlL rfl dc rfl rfl rfl (zyR 1 rfl ?_))
    refine zc5 (k:=7) rfl zi0 (fun zs3 hz3 => ?_)
    show TO _ _ _ _ _ _ _ _ _ _ [cells b1 [.pointer none] 24,cells b2 [zI 0] 25,cells b3 [hd44.v,hd45.v,hd46.v,hd47.v,hd48.v] 60,zv0 hd44.v t27,zv0 hd45.v t28,zba zam zaf 62 1 hd46.v t29,zba zaj zal 55 1 hd47.v t30,zv2 hd48.v zs3,zc0 ((ds1:List Nat).map zcu),own zak zs3]
    obtain ⟨x19,hq6,h⟩:=zcp h
    obtain ⟨⟨eh1,eh2⟩,eq1⟩:=zgw hz3 hq6
    refine zdD (k:=7) eq1 underlying58 znh rfl dc rfl rfl rfl rfl ?_
    refine zc5 (k:=9) rfl (znl (zca eq1)) (fun _ _ => ?_)
    show TO _ _ _ _ _ _ _ _ _ _ [cells b1 [.pointer none] 24,cells b2 [zI 0] 25,cells b3 [hd44.v,hd45.v,hd46.v,hd47.v,hd48.v] 60,zv0 hd44.v t27,zv0 hd45.v t28,zba zam zaf 62 1 hd46.v t29,zba zaj zal 55 1 hd47.v t30,zv2 hd48.v zs3,zc0 ((ds1:List Nat).map zcu),own zak (zs3.eraseIdx ((x18:Int).toNat)),zv3 eh1.v x19.words,zv3 eh2.v x19.readings]
    obtain ⟨r5,hq7,h⟩:=zcp h
    refine zff (vs:=[zP b3,.pointer (some ⟨zgc hd48.v,(x18:Int).toNat*2,none⟩)]) hrd rfl dc rfl rfl rfl zwv (zgZ (t1_keys:=t30) (bt1:=b3) (t1_h0:=hd44) (t1_h1:=hd45) (t1_h2:=hd46) (t1_h3:=hd47) (t1_h4:=hd48) (vc1:=hd48.v) (c1:=x19) (c1_h0:=eh1) (c1_h1:=eh2) (zca eq1) hq7) (zaa [7,10,11] kr rfl) (.own (zaa [2] kr rfl) (fun _ _ h=>sepL.one1.1 h) (.own (zaa [6] kr rfl) (fun _ _ h=>sepL.one1.1 h) .nil)) ?_
    rintro ⟨hd73,hd74⟩
    refine zb6 (L':=[cells b1 [.pointer none] 24,cells b2 [zI 0] 25,cells b3 [hd44.v,hd45.v,hd46.v,hd47.v,hd48.v] 60,zv0 hd44.v t27,zv0 hd45.v t28,zba zam zaf 62 1 hd46.v t29,zba zaj zal 55 1 hd47.v t30,zv2 hd48.v (zs3.set ((x18:Int).toNat) (r5,(hd73,hd74))),zc0 ((ds1:List Nat).map zcu),own zak (zs3.eraseIdx ((x18:Int).toNat)),emp,emp,zv3 hd73.v r5.words,zv3 hd74.v r5.readings]) (zaa [0,1,2,3,4,5,6,12,8,9,10,11,13,14] kr rfl) (zed (k:=9) rfl (zaa [12,13] kr rfl) rfl (zlN (nest:=zak) (zs:=zs3) (z:=(r5,(hd73,hd74))) (zke (zca eq1)) zmp) ?_)
    refine zb6 (L':=[cells b1 [.pointer none] 24,cells b2 [zI 0] 25,cells b3 [hd44.v,hd45.v,hd46.v,hd47.v,hd48.v] 60,zv0 hd44.v t27,zv0 hd45.v t28,zba zam zaf 62 1 hd46.v t29,zba zaj zal 55 1 hd47.v t30,zv2 hd48.v (zs3.set ((x18:Int).toNat) (r5,(hd73,hd74))),zc0 ((ds1:List Nat).map zcu),own zak (zs3.set ((x18:Int).toNat) (r5,(hd73,hd74)))]) (zaa [0,1,2,3,4,5,6,7,8,9] kr rfl) (zap (zah (zag (zad ?_))))
    obtain ⟨hg11,h⟩:=zcU h
    refine zbn rfl (zbs (r:=x18+1) (IntWalk.i64_in _ hg11)) (zyR 1 rfl (zap (zfT (k:=7) rfl (zaa [9] kr rfl) rfl (zgU (enc:=zaq) (nest:=zak) (zwM hz3)) ?_)))
    show TX _ _ _ _ _ _ _ [cells b1 [.pointer none] 24,cells b2 [zI 0] 25,cells b3 [hd44.v,hd45.v,hd46.v,hd47.v,hd48.v] 60,zv0 hd44.v t27,zv0 hd45.v t28,zba zam zaf 62 1 hd46.v t29,zba zaj zal 55 1 hd47.v t30,zba zaq zak 70 2 hd48.v (t54.set (x18:Int).toNat r5),zc0 ((ds1:List Nat).map zcu),emp]
    subst hag4
    exact zcM (n3,t54.set (x18:Int).toNat r5,x18+1) h (Nat.lt_succ_self _) rfl (zbK rfl) (zaa [0,1,2,3,4,5,6,7,8] kr rfl)
   refine zcy (zaV (zaV (zbh ?_)))
   exact zaB t54 h rfl (zbK rfl) (zaa [0,1,2,3,4,5,6,7,8] kr rfl)
 rintro t51 h
 rw [hj5] at h
 show TC _ _ _ _ _ (zcK ds1) _ _ [(2,zP b1),(3,zP b2),(4,zP b3)] [cells b1 [.pointer none] 24,cells b2 [zI 0] 25,cells b3 [hd44.v,hd45.v,hd46.v,hd47.v,hd48.v] 60,zv0 hd44.v t27,zv0 hd45.v t28,zba zam zaf 62 1 hd46.v t29,zba zaj zal 55 1 hd47.v t30,zba zaq zak 70 2 hd48.v t51,zc0 ((ds1:List Nat).map zcu)]
 refine zyG (zyR 1 rfl ?_)
 refine zaG (k:=0) (l':=[zP b3]) zka rfl rfl rfl rfl rfl (fun _ _=>rfl) rfl ?_
 refine zaG (k:=1) (l':=[zI 0]) zkR rfl rfl rfl rfl rfl (fun _ _=>rfl) rfl ?_
 show TO _ _ _ _ _ _ _ _ _ _ [cells b1 [zP b3] 24,cells b2 [zI 0] 25,cells b3 [hd44.v,hd45.v,hd46.v,hd47.v,hd48.v] 60,zv0 hd44.v t27,zv0 hd45.v t28,zba zam zaf 62 1 hd46.v t29,zba zaj zal 55 1 hd47.v t30,zba zaq zak 70 2 hd48.v t51,zc0 ((ds1:List Nat).map zcu)]
 refine zyN (zaE ?_)
 refine ztN (As:=[cells b3 [hd44.v,hd45.v,hd46.v,hd47.v,hd48.v] 60,zv0 hd44.v t27,zv0 hd45.v t28,zba zam zaf 62 1 hd46.v t29,zba zaj zal 55 1 hd47.v t30,zba zaq zak 70 2 hd48.v t51]) (zaa [2,3,4,5,6,7] kr rfl) (zo5 (enc:=za8) (nest:=za7) (t:=60) (x:=(⟨t27,t28,t29,t30,t51⟩:zai)) (b:=b3) (hd:=(hd44,hd45,hd46,hd47,hd48))) (fun _ _ => ?_)
 show TX _ _ _ _ _ _ _ [cells b1 [zP b3] 24,cells b2 [zI 0] 25,emp,emp,emp,emp,emp,emp,zc0 ((ds1:List Nat).map zcu),zkL za8 za7 60 (zP b3) (some (⟨t27,t28,t29,t30,t51⟩:zai))]
 cases h
 exact zcE (rs:=[.cell 2 24,.cell 3 25]) ds1 (zP b3) (.inl rfl) (zaT (k:=8) rfl) results5 (.cons (.cell zfr (k:=0) rfl rfl) (.cons (.cell ziR (k:=1) rfl rfl) .nil)) rfl (zaa [9] kr rfl)
def zd1 (x1:zd6):Option Int := grd (0≤x1.witness) <| some (zmo .u64 1 x1.witness)
theorem ziw {x1:zd6} {r:Int} (h:zd1 x1=some r):FnP prog 128 [.agg #[zI x1.witness]] (.int .u64 r):=by
 unfold zd1 at h
 refine FnP.intro func128 rfl ntmps128 (by simp) ?_
 intro w0 K
 refine zyG ?_
 refine zdN rfl dc rfl (fun b1 => ?_)
 refine zyR 1 rfl (zyH (zac zlU rfl dc rfl (show _=0 from rfl) (zat (k:=0) zdk rfl dc rfl rfl rfl ?_)))
 obtain ⟨hg1,h⟩:=zcU h
 refine zbn rfl (zl8 hg1) (zyR 1 rfl (zyN (zaE ?_)))
 cases h
 exact zbN 2 results128
def zfg (x1:zdT):Option Int := some x1.all
theorem zia {x1:zdT} {r:Int} (h:zfg x1=some r):FnP prog 129 [.agg #[zab x1.left,zab x1.right,.int .u64 x1.all]] (.int .u64 r):=by
 unfold zfg at h
 refine FnP.intro func129 rfl ntmps129 (by simp) ?_
 intro w0 K
 refine zyG ?_
 refine zdN rfl dc rfl (fun b1 => ?_)
 refine zyR 1 rfl (zyH (zac zrc rfl dc rfl (show _=2 from rfl) (zat (k:=0) zfs rfl dc rfl rfl rfl (zyR 1 rfl (zyN (zaE ?_))))))
 cases h
 exact zbN 2 results129
def zdf:Iwitness_tree→Option Int
  | .nil=>none
  | .leaf a0=>zd1 (⟨a0⟩:zd6)
  | .joint a0 a1 a2=>zfg (⟨a0,a1,a2⟩:zdT)
theorem zdO {x : Iwitness_tree} {r : Int} (h : zdf x = some r) : IvP prog "canticle/witness.set" (zab x) (.int .u64 r) := by
 cases x with
 | nil=>cases h
 | leaf a0=>exact ⟨128,_,fun w=>by kernel_rfl,zuX,ziw (x1:=(⟨a0⟩:zd6)) h⟩
 | joint a0 a1 a2=>exact ⟨129,_,fun w=>by kernel_rfl,zuW,zia (x1:=(⟨a0,a1,a2⟩:zdT)) h⟩
def zcO (a1:Iwitness_tree) (b1:Iwitness_tree):Option Iwitness_tree := zcd (fun (j1:Iwitness_tree→Iwitness_tree→Option Iwitness_tree) => zaA (zdf b1) fun (q1:Int) => grd (0≤q1∧q1<18446744073709551616) <| zaA (zdf a1) fun (q2:Int) => grd (0≤q2∧q2<18446744073709551616) <| zaL (decide (((tzI q1):Int)<(tzI q2))) ( j1 b1 a1
) ( j1 a1 b1
)
) (fun (a2:Iwitness_tree) (b2:Iwitness_tree) => zaA (zdf a2) fun (q3:Int) => zaA (zdf b2) fun (q4:Int) => some (Iwitness_tree.joint a2 b2 (orI .u64 q3 q4))
)
theorem zeS {a1:Iwitness_tree} {b1:Iwitness_tree} {r:Iwitness_tree} (h:zcO a1 b1=some r):FnR prog 28 [zab a1,zab b1] [tz64A] [] (fun _:Unit=>(zab r)) (fun _=>[]):=by
 unfold zcO at h
 refine FnR.intro func28 rfl ntmps28 (by simp) ?_
 intro w0 K hrd
 obtain ⟨j1,hj1,h⟩:=zcC h
 refine zbF (β:=Iwitness_tree×Iwitness_tree) 1 rfl (fun b=>j1 b.1 b.2=some r) (fun b=>[]) (fun b=>[(0,zab b.1),(1,zab b.2)]) (fun b=>[]) (fun cut => ?_) ?_
 ·
  refine zyG (zyR 1 rfl (zyN (cut (zyG (zyR 1 rfl ?_)))))
  obtain ⟨q1,hq1,h⟩:=zcp h
  refine zgV (v:=.int .u64 q1) rfl dc rfl (zdO hq1) ?_
  obtain ⟨hg1,h⟩:=zcU h
  refine zbm (v:=zI (tzI q1)) (vs:=[.int .u64 q1]) hrd rfl dc rfl rfl rfl zto (zst hg1) (.ro 0 rfl .nil) (zyR 1 rfl ?_)
  obtain ⟨q2,hq2,h⟩:=zcp h
  refine zgV (v:=.int .u64 q2) rfl dc rfl (zdO hq2) ?_
  obtain ⟨hg2,h⟩:=zcU h
  refine zbm (v:=zI (tzI q2)) (vs:=[.int .u64 q2]) hrd rfl dc rfl rfl rfl zto (zst hg2) (.ro 0 rfl .nil) (zbn rfl zb4 (zyN ?_))
  refine zyB rfl h (fun h => ?_) (fun h => ?_)
  ·
   refine zad (zyR 4 rfl (zap ?_))
   exact zaB (b1,a1) h rfl (zbK rfl) Splits.nil
  refine zax ?_
  exact zaB (a1,b1) h rfl (zbK rfl) Splits.nil
 rintro ⟨a2,b2⟩ h
 rw [hj1] at h
 refine zyG (zyR 3 rfl ?_)
 obtain ⟨q3,hq3,h⟩:=zcp h
 refine zgV (v:=.int .u64 q3) rfl dc rfl (zdO hq3) (zyR 1 rfl ?_)
 obtain ⟨q4,hq4,h⟩:=zcp h
 refine zgV (v:=.int .u64 q4) rfl dc rfl (zdO hq4) (zbn rfl zqh (zbB (v:=.agg #[zab a2,zab b2,.int .u64 (orI .u64 q3 q4)]) (ps:=[(0,.tmp 14),(1,.tmp 15),(2,.tmp 20)]) rfl dc rfl (zqg a2 b2 (orI .u64 q3 q4)) (zfE rfl dc rfl (zdq a2 b2 (orI .u64 q3 q4)) (zyR 1 rfl (zyN (zaE ?_))))))
 cases h
 exact zbN 4 results28
def zem (x1:Int):Option Int := grd (U64 ((zaM .u64 (zbl .u64 x1 1) 6148914691236517205)+(zaM .u64 x1 6148914691236517205))) <| grd (U64 ((zaM .u64 (zbl .u64 ((zaM .u64 (zbl .u64 x1 1) 6148914691236517205)+(zaM .u64 x1 6148914691236517205)) 2) 3689348814741910323)+(zaM .u64 ((zaM .u64 (zbl .u64 x1 1) 6148914691236517205)+(zaM .u64 x1 6148914691236517205)) 3689348814741910323))) <| grd (U64 ((zbl .u64 ((zaM .u64 (zbl .u64 ((zaM .u64 (zbl .u64 x1 1) 6148914691236517205)+(zaM .u64 x1 6148914691236517205)) 2) 3689348814741910323)+(zaM .u64 ((zaM .u64 (zbl .u64 x1 1) 6148914691236517205)+(zaM .u64 x1 6148914691236517205)) 3689348814741910323)) 4)+((zaM .u64 (zbl .u64 ((zaM .u64 (zbl .u64 x1 1) 6148914691236517205)+(zaM .u64 x1 6148914691236517205)) 2) 3689348814741910323)+(zaM .u64 ((zaM .u64 (zbl .u64 x1 1) 6148914691236517205)+(zaM .u64 x1 6148914691236517205)) 3689348814741910323)))) <| grd (U64 ((zaM .u64 ((zbl .u64 ((zaM .u64 (zbl .u64 ((zaM .u64 (zbl .u64 x1 1) 6148914691236517205)+(zaM .u64 x1 6148914691236517205)) 2) 3689348814741910323)+(zaM .u64 ((zaM .u64 (zbl .u64 x1 1) 6148914691236517205)+(zaM .u64 x1 6148914691236517205)) 3689348814741910323)) 4)+((zaM .u64 (zbl .u64 ((zaM .u64 (zbl .u64 x1 1) 6148914691236517205)+(zaM .u64 x1 6148914691236517205)) 2) 3689348814741910323)+(zaM .u64 ((zaM .u64 (zbl .u64 x1 1) 6148914691236517205)+(zaM .u64 x1 6148914691236517205)) 3689348814741910323))) 1085102592571150095)+(zbl .u64 (zaM .u64 ((zbl .u64 ((zaM .u64 (zbl .u64 ((zaM .u64 (zbl .u64 x1 1) 6148914691236517205)+(zaM .u64 x1 6148914691236517205)) 2) 3689348814741910323)+(zaM .u64 ((zaM .u64 (zbl .u64 x1 1) 6148914691236517205)+(zaM .u64 x1 6148914691236517205)) 3689348814741910323)) 4)+((zaM .u64 (zbl .u64 ((zaM .u64 (zbl .u64 x1 1) 6148914691236517205)+(zaM .u64 x1 6148914691236517205)) 2) 3689348814741910323)+(zaM .u64 ((zaM .u64 (zbl .u64 x1 1) 6148914691236517205)+(zaM .u64 x1 6148914691236517205)) 3689348814741910323))) 1085102592571150095) 8))) <| grd (U64 (((zaM .u64 ((zbl .u64 ((zaM .u64 (zbl .u64 ((zaM .u64 (zbl .u64 x1 1) 6148914691236517205)+(zaM .u64 x1 6148914691236517205)) 2) 3689348814741910323)+(zaM .u64 ((zaM .u64 (zbl .u64 x1 1) 6148914691236517205)+(zaM .u64 x1 6148914691236517205)) 3689348814741910323)) 4)+((zaM .u64 (zbl .u64 ((zaM .u64 (zbl .u64 x1 1) 6148914691236517205)+(zaM .u64 x1 6148914691236517205)) 2) 3689348814741910323)+(zaM .u64 ((zaM .u64 (zbl .u64 x1 1) 6148914691236517205)+(zaM .u64 x1 6148914691236517205)) 3689348814741910323))) 1085102592571150095)+(zbl .u64 (zaM .u64 ((zbl .u64 ((zaM .u64 (zbl .u64 ((zaM .u64 (zbl .u64 x1 1) 6148914691236517205)+(zaM .u64 x1 6148914691236517205)) 2) 3689348814741910323)+(zaM .u64 ((zaM .u64 (zbl .u64 x1 1) 6148914691236517205)+(zaM .u64 x1 6148914691236517205)) 3689348814741910323)) 4)+((zaM .u64 (zbl .u64 ((zaM .u64 (zbl .u64 x1 1) 6148914691236517205)+(zaM .u64 x1 6148914691236517205)) 2) 3689348814741910323)+(zaM .u64 ((zaM .u64 (zbl .u64 x1 1) 6148914691236517205)+(zaM .u64 x1 6148914691236517205)) 3689348814741910323))) 1085102592571150095) 8))+(zbl .u64 ((zaM .u64 ((zbl .u64 ((zaM .u64 (zbl .u64 ((zaM .u64 (zbl .u64 x1 1) 6148914691236517205)+(zaM .u64 x1 6148914691236517205)) 2) 3689348814741910323)+(zaM .u64 ((zaM .u64 (zbl .u64 x1 1) 6148914691236517205)+(zaM .u64 x1 6148914691236517205)) 3689348814741910323)) 4)+((zaM .u64 (zbl .u64 ((zaM .u64 (zbl .u64 x1 1) 6148914691236517205)+(zaM .u64 x1 6148914691236517205)) 2) 3689348814741910323)+(zaM .u64 ((zaM .u64 (zbl .u64 x1 1) 6148914691236517205)+(zaM .u64 x1 6148914691236517205)) 3689348814741910323))) 1085102592571150095)+(zbl .u64 (zaM .u64 ((zbl .u64 ((zaM .u64 (zbl .u64 ((zaM .u64 (zbl .u64 x1 1) 6148914691236517205)+(zaM .u64 x1 6148914691236517205)) 2) 3689348814741910323)+(zaM .u64 ((zaM .u64 (zbl .u64 x1 1) 6148914691236517205)+(zaM .u64 x1 6148914691236517205)) 3689348814741910323)) 4)+((zaM .u64 (zbl .u64 ((zaM .u64 (zbl .u64 x1 1) 6148914691236517205)+(zaM .u64 x1 6148914691236517205)) 2) 3689348814741910323)+(zaM .u64 ((zaM .u64 (zbl .u64 x1 1) 6148914691236517205)+(zaM .u64 x1 6148914691236517205)) 3689348814741910323))) 1085102592571150095) 8)) 16))) <| grd (U64 ((((zaM .u64 ((zbl .u64 ((zaM .u64 (zbl .u64 ((zaM .u64 (zbl .u64 x1 1) 6148914691236517205)+(zaM .u64 x1 6148914691236517205)) 2) 3689348814741910323)+(zaM .u64 ((zaM .u64 (zbl .u64 x1 1) 6148914691236517205)+(zaM .u64 x1 6148914691236517205)) 3689348814741910323)) 4)+((zaM .u64 (zbl .u64 ((zaM .u64 (zbl .u64 x1 1) 6148914691236517205)+(zaM .u64 x1 6148914691236517205)) 2) 3689348814741910323)+(zaM .u64 ((zaM .u64 (zbl .u64 x1 1) 6148914691236517205)+(zaM .u64 x1 6148914691236517205)) 3689348814741910323))) 1085102592571150095)+(zbl .u64 (zaM .u64 ((zbl .u64 ((zaM .u64 (zbl .u64 ((zaM .u64 (zbl .u64 x1 1) 6148914691236517205)+(zaM .u64 x1 6148914691236517205)) 2) 3689348814741910323)+(zaM .u64 ((zaM .u64 (zbl .u64 x1 1) 6148914691236517205)+(zaM .u64 x1 6148914691236517205)) 3689348814741910323)) 4)+((zaM .u64 (zbl .u64 ((zaM .u64 (zbl .u64 x1 1) 6148914691236517205)+(zaM .u64 x1 6148914691236517205)) 2) 3689348814741910323)+(zaM .u64 ((zaM .u64 (zbl .u64 x1 1) 6148914691236517205)+(zaM .u64 x1 6148914691236517205)) 3689348814741910323))) 1085102592571150095) 8))+(zbl .u64 ((zaM .u64 ((zbl .u64 ((zaM .u64 (zbl .u64 ((zaM .u64 (zbl .u64 x1 1) 6148914691236517205)+(zaM .u64 x1 6148914691236517205)) 2) 3689348814741910323)+(zaM .u64 ((zaM .u64 (zbl .u64 x1 1) 6148914691236517205)+(zaM .u64 x1 6148914691236517205)) 3689348814741910323)) 4)+((zaM .u64 (zbl .u64 ((zaM .u64 (zbl .u64 x1 1) 6148914691236517205)+(zaM .u64 x1 6148914691236517205)) 2) 3689348814741910323)+(zaM .u64 ((zaM .u64 (zbl .u64 x1 1) 6148914691236517205)+(zaM .u64 x1 6148914691236517205)) 3689348814741910323))) 1085102592571150095)+(zbl .u64 (zaM .u64 ((zbl .u64 ((zaM .u64 (zbl .u64 ((zaM .u64 (zbl .u64 x1 1) 6148914691236517205)+(zaM .u64 x1 6148914691236517205)) 2) 3689348814741910323)+(zaM .u64 ((zaM .u64 (zbl .u64 x1 1) 6148914691236517205)+(zaM .u64 x1 6148914691236517205)) 3689348814741910323)) 4)+((zaM .u64 (zbl .u64 ((zaM .u64 (zbl .u64 x1 1) 6148914691236517205)+(zaM .u64 x1 6148914691236517205)) 2) 3689348814741910323)+(zaM .u64 ((zaM .u64 (zbl .u64 x1 1) 6148914691236517205)+(zaM .u64 x1 6148914691236517205)) 3689348814741910323))) 1085102592571150095) 8)) 16))+(zbl .u64 (((zaM .u64 ((zbl .u64 ((zaM .u64 (zbl .u64 ((zaM .u64 (zbl .u64 x1 1) 6148914691236517205)+(zaM .u64 x1 6148914691236517205)) 2) 3689348814741910323)+(zaM .u64 ((zaM .u64 (zbl .u64 x1 1) 6148914691236517205)+(zaM .u64 x1 6148914691236517205)) 3689348814741910323)) 4)+((zaM .u64 (zbl .u64 ((zaM .u64 (zbl .u64 x1 1) 6148914691236517205)+(zaM .u64 x1 6148914691236517205)) 2) 3689348814741910323)+(zaM .u64 ((zaM .u64 (zbl .u64 x1 1) 6148914691236517205)+(zaM .u64 x1 6148914691236517205)) 3689348814741910323))) 1085102592571150095)+(zbl .u64 (zaM .u64 ((zbl .u64 ((zaM .u64 (zbl .u64 ((zaM .u64 (zbl .u64 x1 1) 6148914691236517205)+(zaM .u64 x1 6148914691236517205)) 2) 3689348814741910323)+(zaM .u64 ((zaM .u64 (zbl .u64 x1 1) 6148914691236517205)+(zaM .u64 x1 6148914691236517205)) 3689348814741910323)) 4)+((zaM .u64 (zbl .u64 ((zaM .u64 (zbl .u64 x1 1) 6148914691236517205)+(zaM .u64 x1 6148914691236517205)) 2) 3689348814741910323)+(zaM .u64 ((zaM .u64 (zbl .u64 x1 1) 6148914691236517205)+(zaM .u64 x1 6148914691236517205)) 3689348814741910323))) 1085102592571150095) 8))+(zbl .u64 ((zaM .u64 ((zbl .u64 ((zaM .u64 (zbl .u64 ((zaM .u64 (zbl .u64 x1 1) 6148914691236517205)+(zaM .u64 x1 6148914691236517205)) 2) 3689348814741910323)+(zaM .u64 ((zaM .u64 (zbl .u64 x1 1) 6148914691236517205)+(zaM .u64 x1 6148914691236517205)) 3689348814741910323)) 4)+((zaM .u64 (zbl .u64 ((zaM .u64 (zbl .u64 x1 1) 6148914691236517205)+(zaM .u64 x1 6148914691236517205)) 2) 3689348814741910323)+(zaM .u64 ((zaM .u64 (zbl .u64 x1 1) 6148914691236517205)+(zaM .u64 x1 6148914691236517205)) 3689348814741910323))) 1085102592571150095)+(zbl .u64 (zaM .u64 ((zbl .u64 ((zaM .u64 (zbl .u64 ((zaM .u64 (zbl .u64 x1 1) 6148914691236517205)+(zaM .u64 x1 6148914691236517205)) 2) 3689348814741910323)+(zaM .u64 ((zaM .u64 (zbl .u64 x1 1) 6148914691236517205)+(zaM .u64 x1 6148914691236517205)) 3689348814741910323)) 4)+((zaM .u64 (zbl .u64 ((zaM .u64 (zbl .u64 x1 1) 6148914691236517205)+(zaM .u64 x1 6148914691236517205)) 2) 3689348814741910323)+(zaM .u64 ((zaM .u64 (zbl .u64 x1 1) 6148914691236517205)+(zaM .u64 x1 6148914691236517205)) 3689348814741910323))) 1085102592571150095) 8)) 16)) 32))) <| some (zaM .i64 (IntKind.i64.wrap ((((zaM .u64 ((zbl .u64 ((zaM .u64 (zbl .u64 ((zaM .u64 (zbl .u64 x1 1) 6148914691236517205)+(zaM .u64 x1 6148914691236517205)) 2) 3689348814741910323)+(zaM .u64 ((zaM .u64 (zbl .u64 x1 1) 6148914691236517205)+(zaM .u64 x1 6148914691236517205)) 3689348814741910323)) 4)+((zaM .u64 (zbl .u64 ((zaM .u64 (zbl .u64 x1 1) 6148914691236517205)+(zaM .u64 x1 6148914691236517205)) 2) 3689348814741910323)+(zaM .u64 ((zaM .u64 (zbl .u64 x1 1) 6148914691236517205)+(zaM .u64 x1 6148914691236517205)) 3689348814741910323))) 1085102592571150095)+(zbl .u64 (zaM .u64 ((zbl .u64 ((zaM .u64 (zbl .u64 ((zaM .u64 (zbl .u64 x1 1) 6148914691236517205)+(zaM .u64 x1 6148914691236517205)) 2) 3689348814741910323)+(zaM .u64 ((zaM .u64 (zbl .u64 x1 1) 6148914691236517205)+(zaM .u64 x1 6148914691236517205)) 3689348814741910323)) 4)+((zaM .u64 (zbl .u64 ((zaM .u64 (zbl .u64 x1 1) 6148914691236517205)+(zaM .u64 x1 6148914691236517205)) 2) 3689348814741910323)+(zaM .u64 ((zaM .u64 (zbl .u64 x1 1) 6148914691236517205)+(zaM .u64 x1 6148914691236517205)) 3689348814741910323))) 1085102592571150095) 8))+(zbl .u64 ((zaM .u64 ((zbl .u64 ((zaM .u64 (zbl .u64 ((zaM .u64 (zbl .u64 x1 1) 6148914691236517205)+(zaM .u64 x1 6148914691236517205)) 2) 3689348814741910323)+(zaM .u64 ((zaM .u64 (zbl .u64 x1 1) 6148914691236517205)+(zaM .u64 x1 6148914691236517205)) 3689348814741910323)) 4)+((zaM .u64 (zbl .u64 ((zaM .u64 (zbl .u64 x1 1) 6148914691236517205)+(zaM .u64 x1 6148914691236517205)) 2) 3689348814741910323)+(zaM .u64 ((zaM .u64 (zbl .u64 x1 1) 6148914691236517205)+(zaM .u64 x1 6148914691236517205)) 3689348814741910323))) 1085102592571150095)+(zbl .u64 (zaM .u64 ((zbl .u64 ((zaM .u64 (zbl .u64 ((zaM .u64 (zbl .u64 x1 1) 6148914691236517205)+(zaM .u64 x1 6148914691236517205)) 2) 3689348814741910323)+(zaM .u64 ((zaM .u64 (zbl .u64 x1 1) 6148914691236517205)+(zaM .u64 x1 6148914691236517205)) 3689348814741910323)) 4)+((zaM .u64 (zbl .u64 ((zaM .u64 (zbl .u64 x1 1) 6148914691236517205)+(zaM .u64 x1 6148914691236517205)) 2) 3689348814741910323)+(zaM .u64 ((zaM .u64 (zbl .u64 x1 1) 6148914691236517205)+(zaM .u64 x1 6148914691236517205)) 3689348814741910323))) 1085102592571150095) 8)) 16))+(zbl .u64 (((zaM .u64 ((zbl .u64 ((zaM .u64 (zbl .u64 ((zaM .u64 (zbl .u64 x1 1) 6148914691236517205)+(zaM .u64 x1 6148914691236517205)) 2) 3689348814741910323)+(zaM .u64 ((zaM .u64 (zbl .u64 x1 1) 6148914691236517205)+(zaM .u64 x1 6148914691236517205)) 3689348814741910323)) 4)+((zaM .u64 (zbl .u64 ((zaM .u64 (zbl .u64 x1 1) 6148914691236517205)+(zaM .u64 x1 6148914691236517205)) 2) 3689348814741910323)+(zaM .u64 ((zaM .u64 (zbl .u64 x1 1) 6148914691236517205)+(zaM .u64 x1 6148914691236517205)) 3689348814741910323))) 1085102592571150095)+(zbl .u64 (zaM .u64 ((zbl .u64 ((zaM .u64 (zbl .u64 ((zaM .u64 (zbl .u64 x1 1) 6148914691236517205)+(zaM .u64 x1 6148914691236517205)) 2) 3689348814741910323)+(zaM .u64 ((zaM .u64 (zbl .u64 x1 1) 6148914691236517205)+(zaM .u64 x1 6148914691236517205)) 3689348814741910323)) 4)+((zaM .u64 (zbl .u64 ((zaM .u64 (zbl .u64 x1 1) 6148914691236517205)+(zaM .u64 x1 6148914691236517205)) 2) 3689348814741910323)+(zaM .u64 ((zaM .u64 (zbl .u64 x1 1) 6148914691236517205)+(zaM .u64 x1 6148914691236517205)) 3689348814741910323))) 1085102592571150095) 8))+(zbl .u64 ((zaM .u64 ((zbl .u64 ((zaM .u64 (zbl .u64 ((zaM .u64 (zbl .u64 x1 1) 6148914691236517205)+(zaM .u64 x1 6148914691236517205)) 2) 3689348814741910323)+(zaM .u64 ((zaM .u64 (zbl .u64 x1 1) 6148914691236517205)+(zaM .u64 x1 6148914691236517205)) 3689348814741910323)) 4)+((zaM .u64 (zbl .u64 ((zaM .u64 (zbl .u64 x1 1) 6148914691236517205)+(zaM .u64 x1 6148914691236517205)) 2) 3689348814741910323)+(zaM .u64 ((zaM .u64 (zbl .u64 x1 1) 6148914691236517205)+(zaM .u64 x1 6148914691236517205)) 3689348814741910323))) 1085102592571150095)+(zbl .u64 (zaM .u64 ((zbl .u64 ((zaM .u64 (zbl .u64 ((zaM .u64 (zbl .u64 x1 1) 6148914691236517205)+(zaM .u64 x1 6148914691236517205)) 2) 3689348814741910323)+(zaM .u64 ((zaM .u64 (zbl .u64 x1 1) 6148914691236517205)+(zaM .u64 x1 6148914691236517205)) 3689348814741910323)) 4)+((zaM .u64 (zbl .u64 ((zaM .u64 (zbl .u64 x1 1) 6148914691236517205)+(zaM .u64 x1 6148914691236517205)) 2) 3689348814741910323)+(zaM .u64 ((zaM .u64 (zbl .u64 x1 1) 6148914691236517205)+(zaM .u64 x1 6148914691236517205)) 3689348814741910323))) 1085102592571150095) 8)) 16)) 32))) 127)
theorem zgO {x1:Int} {r:Int} (h:zem x1=some r):FnP prog 71 [.int .u64 x1] (zI r):=by
 unfold zem at h
 refine FnP.intro func71 rfl ntmps71 (by simp) ?_
 intro w0 K
 refine zyG (zyR 1 rfl (zyH (zyR 1 rfl (zbn rfl (ziG dc) (zbn rfl zfz (zyR 1 rfl (zbn rfl zfz ?_)))))))
 obtain ⟨hg1,h⟩:=zcU h
 refine zbn rfl (zbs (r:=(zaM .u64 (zbl .u64 x1 1) 6148914691236517205)+(zaM .u64 x1 6148914691236517205)) (IntWalk.u64_in _ hg1)) (zyR 1 rfl (zyH (zyR 1 rfl (zbn rfl (ziG dc) (zbn rfl zfz (zyR 1 rfl (zbn rfl zfz ?_)))))))
 obtain ⟨hg2,h⟩:=zcU h
 refine zbn rfl (zbs (r:=(zaM .u64 (zbl .u64 ((zaM .u64 (zbl .u64 x1 1) 6148914691236517205)+(zaM .u64 x1 6148914691236517205)) 2) 3689348814741910323)+(zaM .u64 ((zaM .u64 (zbl .u64 x1 1) 6148914691236517205)+(zaM .u64 x1 6148914691236517205)) 3689348814741910323)) (IntWalk.u64_in _ hg2)) (zyR 1 rfl (zyH (zyR 1 rfl (zbn rfl (ziG dc) (zyR 1 rfl ?_)))))
 obtain ⟨hg3,h⟩:=zcU h
 refine zbn rfl (zbs (r:=(zbl .u64 ((zaM .u64 (zbl .u64 ((zaM .u64 (zbl .u64 x1 1) 6148914691236517205)+(zaM .u64 x1 6148914691236517205)) 2) 3689348814741910323)+(zaM .u64 ((zaM .u64 (zbl .u64 x1 1) 6148914691236517205)+(zaM .u64 x1 6148914691236517205)) 3689348814741910323)) 4)+((zaM .u64 (zbl .u64 ((zaM .u64 (zbl .u64 x1 1) 6148914691236517205)+(zaM .u64 x1 6148914691236517205)) 2) 3689348814741910323)+(zaM .u64 ((zaM .u64 (zbl .u64 x1 1) 6148914691236517205)+(zaM .u64 x1 6148914691236517205)) 3689348814741910323))) (IntWalk.u64_in _ hg3)) (zbn rfl zfz (zyR 1 rfl (zyH (zyR 2 rfl (zbn rfl (ziG dc) ?_)))))
 obtain ⟨hg4,h⟩:=zcU h
 refine zbn rfl (zbs (r:=(zaM .u64 ((zbl .u64 ((zaM .u64 (zbl .u64 ((zaM .u64 (zbl .u64 x1 1) 6148914691236517205)+(zaM .u64 x1 6148914691236517205)) 2) 3689348814741910323)+(zaM .u64 ((zaM .u64 (zbl .u64 x1 1) 6148914691236517205)+(zaM .u64 x1 6148914691236517205)) 3689348814741910323)) 4)+((zaM .u64 (zbl .u64 ((zaM .u64 (zbl .u64 x1 1) 6148914691236517205)+(zaM .u64 x1 6148914691236517205)) 2) 3689348814741910323)+(zaM .u64 ((zaM .u64 (zbl .u64 x1 1) 6148914691236517205)+(zaM .u64 x1 6148914691236517205)) 3689348814741910323))) 1085102592571150095)+(zbl .u64 (zaM .u64 ((zbl .u64 ((zaM .u64 (zbl .u64 ((zaM .u64 (zbl .u64 x1 1) 6148914691236517205)+(zaM .u64 x1 6148914691236517205)) 2) 3689348814741910323)+(zaM .u64 ((zaM .u64 (zbl .u64 x1 1) 6148914691236517205)+(zaM .u64 x1 6148914691236517205)) 3689348814741910323)) 4)+((zaM .u64 (zbl .u64 ((zaM .u64 (zbl .u64 x1 1) 6148914691236517205)+(zaM .u64 x1 6148914691236517205)) 2) 3689348814741910323)+(zaM .u64 ((zaM .u64 (zbl .u64 x1 1) 6148914691236517205)+(zaM .u64 x1 6148914691236517205)) 3689348814741910323))) 1085102592571150095) 8)) (IntWalk.u64_in _ hg4)) (zyR 1 rfl (zyH (zyR 2 rfl (zbn rfl (ziG dc) ?_))))
 obtain ⟨hg5,h⟩:=zcU h
 refine zbn rfl (zbs (r:=((zaM .u64 ((zbl .u64 ((zaM .u64 (zbl .u64 ((zaM .u64 (zbl .u64 x1 1) 6148914691236517205)+(zaM .u64 x1 6148914691236517205)) 2) 3689348814741910323)+(zaM .u64 ((zaM .u64 (zbl .u64 x1 1) 6148914691236517205)+(zaM .u64 x1 6148914691236517205)) 3689348814741910323)) 4)+((zaM .u64 (zbl .u64 ((zaM .u64 (zbl .u64 x1 1) 6148914691236517205)+(zaM .u64 x1 6148914691236517205)) 2) 3689348814741910323)+(zaM .u64 ((zaM .u64 (zbl .u64 x1 1) 6148914691236517205)+(zaM .u64 x1 6148914691236517205)) 3689348814741910323))) 1085102592571150095)+(zbl .u64 (zaM .u64 ((zbl .u64 ((zaM .u64 (zbl .u64 ((zaM .u64 (zbl .u64 x1 1) 6148914691236517205)+(zaM .u64 x1 6148914691236517205)) 2) 3689348814741910323)+(zaM .u64 ((zaM .u64 (zbl .u64 x1 1) 6148914691236517205)+(zaM .u64 x1 6148914691236517205)) 3689348814741910323)) 4)+((zaM .u64 (zbl .u64 ((zaM .u64 (zbl .u64 x1 1) 6148914691236517205)+(zaM .u64 x1 6148914691236517205)) 2) 3689348814741910323)+(zaM .u64 ((zaM .u64 (zbl .u64 x1 1) 6148914691236517205)+(zaM .u64 x1 6148914691236517205)) 3689348814741910323))) 1085102592571150095) 8))+(zbl .u64 ((zaM .u64 ((zbl .u64 ((zaM .u64 (zbl .u64 ((zaM .u64 (zbl .u64 x1 1) 6148914691236517205)+(zaM .u64 x1 6148914691236517205)) 2) 3689348814741910323)+(zaM .u64 ((zaM .u64 (zbl .u64 x1 1) 6148914691236517205)+(zaM .u64 x1 6148914691236517205)) 3689348814741910323)) 4)+((zaM .u64 (zbl .u64 ((zaM .u64 (zbl .u64 x1 1) 6148914691236517205)+(zaM .u64 x1 6148914691236517205)) 2) 3689348814741910323)+(zaM .u64 ((zaM .u64 (zbl .u64 x1 1) 6148914691236517205)+(zaM .u64 x1 6148914691236517205)) 3689348814741910323))) 1085102592571150095)+(zbl .u64 (zaM .u64 ((zbl .u64 ((zaM .u64 (zbl .u64 ((zaM .u64 (zbl .u64 x1 1) 6148914691236517205)+(zaM .u64 x1 6148914691236517205)) 2) 3689348814741910323)+(zaM .u64 ((zaM .u64 (zbl .u64 x1 1) 6148914691236517205)+(zaM .u64 x1 6148914691236517205)) 3689348814741910323)) 4)+((zaM .u64 (zbl .u64 ((zaM .u64 (zbl .u64 x1 1) 6148914691236517205)+(zaM .u64 x1 6148914691236517205)) 2) 3689348814741910323)+(zaM .u64 ((zaM .u64 (zbl .u64 x1 1) 6148914691236517205)+(zaM .u64 x1 6148914691236517205)) 3689348814741910323))) 1085102592571150095) 8)) 16)) (IntWalk.u64_in _ hg5)) (zyR 1 rfl (zyH (zyR 2 rfl (zbn rfl (ziG dc) ?_))))
 obtain ⟨hg6,h⟩:=zcU h
 refine zbn rfl (zbs (r:=(((zaM .u64 ((zbl .u64 ((zaM .u64 (zbl .u64 ((zaM .u64 (zbl .u64 x1 1) 6148914691236517205)+(zaM .u64 x1 6148914691236517205)) 2) 3689348814741910323)+(zaM .u64 ((zaM .u64 (zbl .u64 x1 1) 6148914691236517205)+(zaM .u64 x1 6148914691236517205)) 3689348814741910323)) 4)+((zaM .u64 (zbl .u64 ((zaM .u64 (zbl .u64 x1 1) 6148914691236517205)+(zaM .u64 x1 6148914691236517205)) 2) 3689348814741910323)+(zaM .u64 ((zaM .u64 (zbl .u64 x1 1) 6148914691236517205)+(zaM .u64 x1 6148914691236517205)) 3689348814741910323))) 1085102592571150095)+(zbl .u64 (zaM .u64 ((zbl .u64 ((zaM .u64 (zbl .u64 ((zaM .u64 (zbl .u64 x1 1) 6148914691236517205)+(zaM .u64 x1 6148914691236517205)) 2) 3689348814741910323)+(zaM .u64 ((zaM .u64 (zbl .u64 x1 1) 6148914691236517205)+(zaM .u64 x1 6148914691236517205)) 3689348814741910323)) 4)+((zaM .u64 (zbl .u64 ((zaM .u64 (zbl .u64 x1 1) 6148914691236517205)+(zaM .u64 x1 6148914691236517205)) 2) 3689348814741910323)+(zaM .u64 ((zaM .u64 (zbl .u64 x1 1) 6148914691236517205)+(zaM .u64 x1 6148914691236517205)) 3689348814741910323))) 1085102592571150095) 8))+(zbl .u64 ((zaM .u64 ((zbl .u64 ((zaM .u64 (zbl .u64 ((zaM .u64 (zbl .u64 x1 1) 6148914691236517205)+(zaM .u64 x1 6148914691236517205)) 2) 3689348814741910323)+(zaM .u64 ((zaM .u64 (zbl .u64 x1 1) 6148914691236517205)+(zaM .u64 x1 6148914691236517205)) 3689348814741910323)) 4)+((zaM .u64 (zbl .u64 ((zaM .u64 (zbl .u64 x1 1) 6148914691236517205)+(zaM .u64 x1 6148914691236517205)) 2) 3689348814741910323)+(zaM .u64 ((zaM .u64 (zbl .u64 x1 1) 6148914691236517205)+(zaM .u64 x1 6148914691236517205)) 3689348814741910323))) 1085102592571150095)+(zbl .u64 (zaM .u64 ((zbl .u64 ((zaM .u64 (zbl .u64 ((zaM .u64 (zbl .u64 x1 1) 6148914691236517205)+(zaM .u64 x1 6148914691236517205)) 2) 3689348814741910323)+(zaM .u64 ((zaM .u64 (zbl .u64 x1 1) 6148914691236517205)+(zaM .u64 x1 6148914691236517205)) 3689348814741910323)) 4)+((zaM .u64 (zbl .u64 ((zaM .u64 (zbl .u64 x1 1) 6148914691236517205)+(zaM .u64 x1 6148914691236517205)) 2) 3689348814741910323)+(zaM .u64 ((zaM .u64 (zbl .u64 x1 1) 6148914691236517205)+(zaM .u64 x1 6148914691236517205)) 3689348814741910323))) 1085102592571150095) 8)) 16))+(zbl .u64 (((zaM .u64 ((zbl .u64 ((zaM .u64 (zbl .u64 ((zaM .u64 (zbl .u64 x1 1) 6148914691236517205)+(zaM .u64 x1 6148914691236517205)) 2) 3689348814741910323)+(zaM .u64 ((zaM .u64 (zbl .u64 x1 1) 6148914691236517205)+(zaM .u64 x1 6148914691236517205)) 3689348814741910323)) 4)+((zaM .u64 (zbl .u64 ((zaM .u64 (zbl .u64 x1 1) 6148914691236517205)+(zaM .u64 x1 6148914691236517205)) 2) 3689348814741910323)+(zaM .u64 ((zaM .u64 (zbl .u64 x1 1) 6148914691236517205)+(zaM .u64 x1 6148914691236517205)) 3689348814741910323))) 1085102592571150095)+(zbl .u64 (zaM .u64 ((zbl .u64 ((zaM .u64 (zbl .u64 ((zaM .u64 (zbl .u64 x1 1) 6148914691236517205)+(zaM .u64 x1 6148914691236517205)) 2) 3689348814741910323)+(zaM .u64 ((zaM .u64 (zbl .u64 x1 1) 6148914691236517205)+(zaM .u64 x1 6148914691236517205)) 3689348814741910323)) 4)+((zaM .u64 (zbl .u64 ((zaM .u64 (zbl .u64 x1 1) 6148914691236517205)+(zaM .u64 x1 6148914691236517205)) 2) 3689348814741910323)+(zaM .u64 ((zaM .u64 (zbl .u64 x1 1) 6148914691236517205)+(zaM .u64 x1 6148914691236517205)) 3689348814741910323))) 1085102592571150095) 8))+(zbl .u64 ((zaM .u64 ((zbl .u64 ((zaM .u64 (zbl .u64 ((zaM .u64 (zbl .u64 x1 1) 6148914691236517205)+(zaM .u64 x1 6148914691236517205)) 2) 3689348814741910323)+(zaM .u64 ((zaM .u64 (zbl .u64 x1 1) 6148914691236517205)+(zaM .u64 x1 6148914691236517205)) 3689348814741910323)) 4)+((zaM .u64 (zbl .u64 ((zaM .u64 (zbl .u64 x1 1) 6148914691236517205)+(zaM .u64 x1 6148914691236517205)) 2) 3689348814741910323)+(zaM .u64 ((zaM .u64 (zbl .u64 x1 1) 6148914691236517205)+(zaM .u64 x1 6148914691236517205)) 3689348814741910323))) 1085102592571150095)+(zbl .u64 (zaM .u64 ((zbl .u64 ((zaM .u64 (zbl .u64 ((zaM .u64 (zbl .u64 x1 1) 6148914691236517205)+(zaM .u64 x1 6148914691236517205)) 2) 3689348814741910323)+(zaM .u64 ((zaM .u64 (zbl .u64 x1 1) 6148914691236517205)+(zaM .u64 x1 6148914691236517205)) 3689348814741910323)) 4)+((zaM .u64 (zbl .u64 ((zaM .u64 (zbl .u64 x1 1) 6148914691236517205)+(zaM .u64 x1 6148914691236517205)) 2) 3689348814741910323)+(zaM .u64 ((zaM .u64 (zbl .u64 x1 1) 6148914691236517205)+(zaM .u64 x1 6148914691236517205)) 3689348814741910323))) 1085102592571150095) 8)) 16)) 32)) (IntWalk.u64_in _ hg6)) (zyR 1 rfl (zyH (zyR 1 rfl (zf9 rfl dc rfl (zmQ underlying164 underlying3) (zbn rfl zfz (zyR 1 rfl (zyN (zaE ?_))))))))
 cases h
 exact zbN 2 results71
def zcJ (x1:Int):Option Int := zaA (zem x1) fun (r1:Int) => some r1
theorem zfJ {x1:Int} {r:Int} (h:zcJ x1=some r):FnP prog 46 [.int .u64 x1] (zI r):=by
 unfold zcJ at h
 refine FnP.intro func46 rfl ntmps46 (by simp) ?_
 intro w0 K
 refine zyG (zyR 1 rfl (zyN (zar (zaS rfl (zax (zag (zyG (zyR 1 rfl ?_))))))))
 obtain ⟨r1,hq1,h⟩:=zcp h
 refine zbv (v:=zI r1) (vs:=[.int .u64 x1]) rfl dc rfl rfl rfl zwd (zgO hq1) (zyR 1 rfl (zyN (zaE ?_)))
 cases h
 exact zbN 2 results46
def zeb (wv1:Int):Option zBA := grd (I64 (48+wv1)) <| some (Utf8.encode (IntKind.i32.wrap (48+wv1)))
theorem zhz {wv1:Int} {r:zBA} (h:zeb wv1=some r):FnP prog 65 [zI wv1] (.string r):=by
 unfold zeb at h
 refine FnP.intro func65 rfl ntmps65 (by simp) ?_
 intro w0 K
 refine zyG (zyR 1 rfl (zyH (zyR 1 rfl ?_)))
 obtain ⟨hg1,h⟩:=zcU h
 refine zbn rfl (zbs (r:=48+wv1) (IntWalk.i64_in _ hg1)) (zf9 rfl dc rfl (zmQ underlying3 underlying21) (zf9 rfl dc rfl (zfa underlying21 underlying9) (zyR 1 rfl (zyN (zaE ?_)))))
 cases h
 exact zbN 2 results65
def zce (rcall:Iwitness_tree→Option zBA) (x1:Iwitness_tree):Option zBA := zaL (x1.is_leaf) ( zaA (zeb x1.get_leaf.witness) fun (r1:zBA) => some r1
) ( zaL (x1.is_joint) ( zaA (rcall x1.get_joint.left) fun (r2:zBA) => grd ((⟨#[40]⟩:zBA).size+r2.size≤9223372036854775807) <| grd (((⟨#[40]⟩:zBA)++r2).size+(⟨#[44]⟩:zBA).size≤9223372036854775807) <| zaA (rcall x1.get_joint.right) fun (r3:zBA) => grd ((((⟨#[40]⟩:zBA)++r2)++(⟨#[44]⟩:zBA)).size+r3.size≤9223372036854775807) <| grd (((((⟨#[40]⟩:zBA)++r2)++(⟨#[44]⟩:zBA))++r3).size+(⟨#[41]⟩:zBA).size≤9223372036854775807) <| some (((((⟨#[40]⟩:zBA)++r2)++(⟨#[44]⟩:zBA))++r3)++(⟨#[41]⟩:zBA))
) ( some (⟨#[]⟩:zBA)
)
)
def zdv (x1:Iwitness_tree):Option zBA:=zbq (fun _=>none) zce zc9 x1
theorem zgs (n:Nat):∀ {x1:Iwitness_tree} {r:zBA} (_:zbq (fun _=>none) zce n x1=some r),FnP prog 41 [zab x1,.func (.func 65) #[] #[]] (.string r):=by
 induction n with
 | zero=>intro x1 r h; exact zfG h
 | succ n hrec =>
 intro x1 r h
 rw [zbk] at h
 revert hrec h
 generalize zbq (fun _=>none) zce n=rcall
 intro hrec h
 unfold zce at h
 refine FnP.intro func41 rfl ntmps41 (by simp) ?_
 intro w0 K
 refine zyG (zyR 1 rfl (zyN (zar (zyG (zyR 1 rfl (zyN (zaK (zyG ?_))))))))
 refine zfQ rfl dc rfl (zez x1) (zaJ rfl dc rfl rfl (zaJ rfl dc rfl rfl (zyN ?_)))
 refine zyB rfl h (fun h => ?_) (fun h => ?_)
 ·
  refine zyG ?_
  refine za6 zso rfl dc (fun b1 => ?_)
  refine za2 (k:=0) (vs:=[zI x1.get_leaf.witness]) (l':=[zI x1.get_leaf.witness]) zsw rfl rfl rfl rfl rfl (show _≤_ by simp) rfl rfl ?_
  refine zyH (zyR 1 rfl (zac zlU rfl dc rfl (show _=0 from rfl) (zat (k:=0) zdk rfl dc rfl rfl rfl ?_)))
  obtain ⟨r1,hq1,h⟩:=zcp h
  refine zbv (v:=.string r1) (vs:=[zI x1.get_leaf.witness]) rfl dc rfl rfl rfl zwg (zhz hq1) (zyR 1 rfl (zyN (zaE (zau (zao ?_)))))
  cases h
  exact zbN 4 results41
 refine zyG (zfQ rfl dc rfl (zdQ x1) (zaJ rfl dc rfl rfl (zaJ rfl dc rfl rfl (zyN ?_))))
 refine zyB rfl h (fun h => ?_) (fun h => ?_)
 ·
  refine zyG ?_
  refine za6 zmf rfl dc (fun b2 => ?_)
  refine za2 (k:=0) (vs:=[zab x1.get_joint.left,zab x1.get_joint.right,.int .u64 x1.get_joint.all]) (l':=[zab x1.get_joint.left,zab x1.get_joint.right,.int .u64 x1.get_joint.all]) zmm rfl rfl rfl rfl rfl (show _≤_ by simp) (by simp only [List.all_cons,List.all_nil,zbX,Bool.true_and,Bool.and_true] <;> rfl) rfl ?_
  refine zyN (zar ?_)
  obtain ⟨r2,hq2,h⟩:=zcp h
  obtain ⟨hg1,h⟩:=zcU h
  obtain ⟨hg2,h⟩:=zcU h
  obtain ⟨r3,hq3,h⟩:=zcp h
  obtain ⟨hg3,h⟩:=zcU h
  obtain ⟨hg4,h⟩:=zcU h
  refine zbW 10 [(0,18,zP b2),(1,19,zab x1.get_joint.left),(2,20,.func (.func 65) #[] #[]),(3,21,.string r2),(4,22,.string ((⟨#[40]⟩:zBA)++r2)),(5,23,.string (((⟨#[40]⟩:zBA)++r2)++(⟨#[44]⟩:zBA))),(6,24,.pointer (some ⟨b2,1,none⟩)),(7,25,zab x1.get_joint.right),(8,26,.func (.func 65) #[] #[]),(9,27,.string r3)] mixed kr kr dc (by rfl) kr kr (zae ?_ (zae ?_ (zyP 1 2 rfl (zae ?_ (zae ?_ (zae ?_ (zae ?_ (zae ?_ (zyP 1 8 rfl (zae ?_ DrawPre.nil)))))))))) ?_
  · exact fun D n d c u i=>zac zj0 rfl dc (za3 (by rfl) rfl) (show _=0 from rfl) (zaI 0 u i)
  · exact fun D n d c u i=>zat (k:=0) zjO rfl dc (zaH 0 u d) rfl rfl (zaI 1 u i)
  · exact fun D n d c u i=>zbv (v:=.string r2) (vs:=[zab x1.get_joint.left,.func (.func 65) #[] #[]]) rfl dc rfl (evL.cons (zaH 1 u d) (evL.cons (zaH 2 u d) evL.nil)) rfl znD (hrec hq2) (zaI 3 u i)
  · exact fun D n d c u i=>zaX rfl dc rfl (zaH 3 u d) (zgC hg1) (zaI 4 u i)
  · exact fun D n d c u i=>zaX rfl dc (zaH 4 u d) rfl (zgC hg2) (zaI 5 u i)
  · exact fun D n d c u i=>zac zjZ rfl dc (za3 (by rfl) rfl) (show _=1 from rfl) (zaI 6 u i)
  · exact fun D n d c u i=>zat (k:=0) zjO rfl dc (zaH 6 u d) rfl rfl (zaI 7 u i)
  · exact fun D n d c u i=>zbv (v:=.string r3) (vs:=[zab x1.get_joint.right,.func (.func 65) #[] #[]]) rfl dc rfl (evL.cons (zaH 7 u d) (evL.cons (zaH 8 u d) evL.nil)) rfl znD (hrec hq3) (zaI 9 u i)
  refine zbn rfl (zgC hg3) (zbn rfl (zgC hg4) (zyR 1 rfl (zyN (zaE (zau (zao ?_))))))
  cases h
  exact zbN 4 results41
 refine zax (zah (zag (zyG (zyR 1 rfl (zyN (zaE ?_))))))
 cases h
 exact zbN 4 results41
theorem ze4 {x1:Iwitness_tree} {r:zBA} (h:zdv x1=some r):FnP prog 41 [zab x1,.func (.func 65) #[] #[]] (.string r):=by
 unfold zdv at h
 exact zgs zc9  h
def zet (set1:Int):Option Int := some set1
theorem zfK {set1:Int} {r:Int} (h:zet set1=some r):Fn prog 44 [.int .u64 set1] [] (fun v0:Nat=>.func (.func 64) #[] #[zP v0]) (fun v0=>[cells v0 [.int .u64 r] 112]):=by
 unfold zet at h
 refine Fn.intro func44 rfl ntmps44 (by simp) ?_
 intro w0 K
 refine zyG ?_
 refine zdN rfl dc rfl (fun b1 => ?_)
 refine zyR 1 rfl (zyH (zdH (x1:=[]) (x2:=[.tmp 1]) rfl dc rfl rfl (zyR 1 rfl (zyN (zaE ?_)))))
 cases h
 exact zbA (rs:=[.tmp 2]) b1 (.inl rfl) results44 (.cons (.tmp rfl) .nil) rfl (zaa [0] kr rfl)
def zdb (c0:Int) (x1:Iwitness_tree) (x2:Iwitness_tree) (ag3:(List zaN)→Option (List Iwitness_tree)) (all11:List zaN):Option (List Iwitness_tree) := zaA (zdv (Iwitness_tree.joint x1 x2 c0)) fun (r4:zBA) => grd (all11.length+1≤2147483648) <| ag3 (all11++[(⟨r4,(Iwitness_tree.joint x1 x2 c0)⟩:zaN)])
def zdc (rcall:Int→Option (List Iwitness_tree)) (c0:Int) (part3:Int) (x1:Iwitness_tree) (ag2:(List zaN)→Option (List Iwitness_tree)) (all8:List zaN):Option (List Iwitness_tree) := zaA (zet (ziI .u64 c0 part3)) fun (r3:Int) => zaA (rcall r3) fun (its2:(List Iwitness_tree)) => zcd (fun (dn2:(List zaN)→Option (List Iwitness_tree)) => zbZ dn2 (zdb c0 x1) its2 all8
) (fun (all11:List zaN) => ag2 all11
)
def zdd (rcall:Int→Option (List Iwitness_tree)) (c0:Int) (j1:(List zaN)→Option (List Iwitness_tree)) (ag1:(List zaN)→Int→Option (List Iwitness_tree)) (all4:List zaN) (part3:Int):Option (List Iwitness_tree) := zaL (decide ((0:Int)<part3)) ( zcd (fun (j2:(List zaN)→Option (List Iwitness_tree)) => zaL (((zaM .u64 part3 (zaM .u64 c0 (IntKind.u64.wrap (-c0)))):Int)==0) ( j2 all4
) ( zaA (zet part3) fun (r2:Int) => zaA (rcall r2) fun (its1:(List Iwitness_tree)) => zcd (fun (dn1:(List zaN)→Option (List Iwitness_tree)) => zbZ dn1 (zdc rcall c0 part3) its1 all4
) (fun (all8:List zaN) => j2 all8
)
)
) (fun (all5:List zaN) => grd (U64 (part3 - 1)) <| ag1 all5 (zaM .u64 (part3 - 1) c0)
)
) ( j1 all4
)
def zcH (all1:List zaN) (ag4:Int→Option (List Iwitness_tree)) (x5:Int):Option (List Iwitness_tree) := zaL (decide ((x5:Int)<((zhG all1).length:Int))) ( zaA (zeD (zhG all1) x5) fun (q1:zaN) => zhU q1.x <| grd (I64 (x5+1)) <| ag4 (x5+1)
) ( some []
)
def zcz (rcall:Int→Option (List Iwitness_tree)) (c0:Int):Option (List Iwitness_tree) := zaA (zcJ c0) fun (r1:Int) => zaL ((r1:Int)==1) ( grd (0≤c0∧c0<18446744073709551616) <| zhU (Iwitness_tree.leaf (tzI c0)) <| some []
) ( zcd (fun (j1:(List zaN)→Option (List Iwitness_tree)) => grd (U64 (c0 - 1)) <| zbq (fun _ _=>none) (zdd rcall c0 j1) zc9 ([]:List zaN) (zaM .u64 (c0 - 1) c0)
) (fun (all1:List zaN) => grd (0<all1.length∧all1.length<4611686018427387904) <| zbq (fun _=>none) (zcH all1) zc9 0
)
)
def zgu (c0:Int):Option (List Iwitness_tree):=zbq (fun _=>none) zcz zc9 c0
theorem ziv (n:Nat):∀ {b_c0:Nat} {c0:Int} {xs:(List Iwitness_tree)} (_:zbq (fun _=>none) zcz n c0=some xs),ItrR prog 64 [zP b_c0] (fun q:Iwitness_tree=>[zab q]) xs [cells b_c0 [.int .u64 c0] 112,tz64A]:=by
 induction n with
 | zero=>intro b_c0 c0 xs h; exact zfG h
 | succ n hrec =>
 intro b_c0 c0 xs h
 rw [zbk] at h
 revert hrec h
 generalize zbq (fun _=>none) zcz n=rcall
 intro hrec h
 unfold zcz at h
 refine ItrR.intro func64 rfl ntmps64 (by simp) ?_
 intro l w0 K I X hrd hy
 obtain ⟨r0,hx0⟩:∃ r,xs=[]++r:=⟨xs,rfl⟩
 have hr0:xs=r0:=hx0
 rw [hr0] at h
 refine ze3 ?_
 refine zar (zyG (zcf (i:=0) hrd rfl zfs rfl dc rfl rfl ?_))
 obtain ⟨r1,hq1,h⟩:=zcp h
 refine zbv (v:=zI r1) (vs:=[.int .u64 c0]) rfl dc rfl rfl rfl zuL (zfJ hq1) (zbn rfl zaP (zyN ?_))
 refine zyB rfl h (fun h => ?_) (fun h => ?_)
 ·
  refine zyG (zyR 1 rfl (zcf (i:=0) hrd rfl zfs rfl dc rfl rfl ?_))
  obtain ⟨hg1,h⟩:=zcU h
  refine zbm (v:=zI (tzI c0)) (vs:=[.int .u64 c0]) hrd rfl dc rfl rfl rfl zto (zst hg1) (.ro 1 rfl .nil) ?_
  refine zbB (v:=.agg #[zI (tzI c0)]) (ps:=[(0,.tmp 16)]) rfl dc rfl (fun _=>by kernel_rfl) ?_
  refine zfE rfl dc rfl (zdi (tzI c0)) ?_
  obtain ⟨rr1,hr1,h⟩:=zik h
  have hx1:xs=([]:List Iwitness_tree)++(Iwitness_tree.leaf (tzI c0))::rr1:=by rw [hx0,hr1]
  refine zcX hy rfl dc rfl hx1 rfl (k:=0) rfl ?_ ?_
  ·
   have hx2:xs=(([]:List Iwitness_tree)++[(Iwitness_tree.leaf (tzI c0))])++rr1:=by rw [hx1]; simp
   refine zyN (zaE (zao ?_))
   cases h
   exact zfD (ds:=([]:List Nat)) (.inl rfl) (zaT (k:=1) rfl) results64 (congrArg I (hx2.trans (List.append_nil _))) (zaa [0] kr rfl)
  refine zyN (zaE (zao ?_))
  exact zfi (ds:=([]:List Nat)) ([]:List Iwitness_tree) (Iwitness_tree.leaf (tzI c0)) rr1 hx1 (.inl rfl) (zaT (k:=1) rfl) results64 (zaa [0] kr rfl)
 refine zax (zag ?_)
 obtain ⟨j1,hj1,h⟩:=zcC h
 refine zbF (β:=(List zaN)×Nat×Value×(List Nat)) 2 rfl (fun b=>j1 b.1=some r0) (fun b=>zcK b.2.2.2) (fun b=>[(0,.func (.yield l) #[] #[]),(3,zP b.2.1)]) (fun b=>[I ([]:List Iwitness_tree),cells b.2.1 [b.2.2.1] 154,zv8 b.2.2.1 b.1,zc0 ((b.2.2.2:List Nat).map zcu)]) (fun cut => ?_) ?_
 ·
  refine zyG ?_
  refine za6 zt5 rfl dc (fun b2 => ?_)
  refine zyH (zcf (i:=0) hrd rfl zfs rfl dc rfl rfl (zcf (i:=0) hrd rfl zfs rfl dc rfl rfl (zdM rfl dc rfl (zua rfl) (zbn rfl zfz (zyR 1 rfl (zyN (cut (zyG ?_))))))))
  refine zcf (i:=0) hrd rfl zfs rfl dc rfl rfl ?_
  obtain ⟨hg2,h⟩:=zcU h
  refine zbn rfl (zfO (r:=c0 - 1) (IntWalk.u64_in _ hg2)) (zcf (i:=0) hrd rfl zfs rfl dc rfl rfl (zbn rfl zfz ?_))
  refine za6 zrI rfl dc (fun b3 => ?_)
  refine zaG (k:=3) (l':=[.int .u64 (zaM .u64 (c0 - 1) c0)]) zn2 rfl rfl rfl rfl rfl (fun _ _=>rfl) rfl ?_
  refine zyN (zaK (zfd (enc:=zbj) (e:=156) (size:=2) ?_))
  refine zdy (β:=Nat×(List zaN)×Int×Value×Nat×(List Nat)) (fun b=>zbq (fun _ _=>none) (zdd rcall c0 j1) b.1 b.2.1 b.2.2.1=some r0) (fun b=>zcK b.2.2.2.2.2) (fun b=>[(0,.func (.yield l) #[] #[]),(1,zP b_c0),(3,zP b2),(4,.int .u64 (zaM .u64 c0 (IntKind.u64.wrap (-c0)))),(5,zP b.2.2.2.2.1)]) (fun b=>[I ([]:List Iwitness_tree),cells b2 [b.2.2.2.1] 154,zv8 b.2.2.2.1 b.2.1,cells b.2.2.2.2.1 [.int .u64 b.2.2.1] 112,zc0 ((b.2.2.2.2.2:List Nat).map zcu)]) (fun b=>b.1) (zc9,([]:List zaN),zaM .u64 (c0 - 1) c0,(.slice none 0 0),b3,([]:List Nat)) h rfl (zbK rfl) (zaa [0,2,4,3,1] kr rfl) ?_
  rintro ⟨n1,all4,part3,v4,b6,ds4⟩ h
  cases n1 with
  | zero=>exact zfG h
  | succ n1 =>
   obtain ⟨ag1,hag1⟩:∃ ag,ag=zbq (fun _ _=>none) (zdd rcall c0 j1) n1:=⟨_,rfl⟩
   have h:zdd rcall c0 j1 ag1 all4 part3=some r0:=by rw [hag1]; exact h
   unfold zdd at h
   refine zar (zyG (zat (k:=3) zfs rfl dc rfl rfl rfl (zbn rfl zeP (zyN ?_))))
   refine zyB rfl h (fun h => ?_) (fun h => ?_)
   ·
    refine zax (zag ?_)
    obtain ⟨j2,hj2,h⟩:=zcC h
    refine zbF (β:=(List zaN)×Value×(List Nat)) 0 rfl (fun b=>j2 b.1=some r0) (fun b=>zcK b.2.2) (fun b=>[(0,.func (.yield l) #[] #[]),(1,zP b_c0),(3,zP b2),(4,.int .u64 (zaM .u64 c0 (IntKind.u64.wrap (-c0)))),(5,zP b6)]) (fun b=>[I ([]:List Iwitness_tree),cells b2 [b.2.1] 154,zv8 b.2.1 b.1,cells b6 [.int .u64 part3] 112,zc0 ((b.2.2:List Nat).map zcu)]) (fun cut => ?_) ?_
    ·
     refine cut (zaK (zar (zyG (zat (k:=3) zfs rfl dc rfl rfl rfl (zyR 1 rfl (zbn rfl zfz (zbn rfl zaP (zyN ?_))))))))
     refine zyB rfl h (fun h => ?_) (fun h => ?_)
     ·
      refine zcy (zaV (zbh ?_))
      exact zaB (all4,v4,ds4) h rfl (zbK rfl) (zaa [0,1,2,3,4] kr rfl)
     refine zax (zag (zyG (zat (k:=3) zfs rfl dc rfl rfl rfl ?_)))
     obtain ⟨r2,hq2,h⟩:=zcp h
     refine zdE (vs:=[.int .u64 part3]) rfl dc rfl rfl rfl ztr (zfK hq2) Splits.nil ?_
     rintro b7
     refine zyN (zaK ?_)
     obtain ⟨its1,hq3,h⟩:=zcp h
     obtain ⟨dn1,hdn1,h⟩:=zcC h
     refine zhX (α:=Iwitness_tree) (β:=(List zaN)×Value) (γ:=Unit) (δ:=Nat) (ps:=[40]) hrd Ro.nil rfl ztk (hrec hq3) (fun pre b=>∀ post,its1=pre++post→zbZ dn1 (zdc rcall c0 part3) post b.1=some r0) (fun pre b=>[I ([]:List Iwitness_tree),cells b2 [b.2] 154,zv8 b.2 b.1,cells b6 [.int .u64 part3] 112]) (fun c pre g=>False) (fun c pre g=>[]) (fun pre x b j=>[(0,.func (.yield l) #[] #[]),(1,zP b_c0),(3,zP b2),(4,.int .u64 (zaM .u64 c0 (IntKind.u64.wrap (-c0)))),(5,zP b6),(39,.func (.func 64) #[] #[zP b7]),(6,zP j)]) (fun pre x b j=>[I ([]:List Iwitness_tree),cells b2 [b.2] 154,zv8 b.2 b.1,cells b6 [.int .u64 part3] 112,cells j [zab x] 72]) (all4,v4) (fun post e=>by rw [List.nil_append] at e; subst e; exact h) (zaa [0,1,2,3] kr rfl) (.own (As:=[cells b7 [.int .u64 r2] 112]) (zaa [5] kr rfl) (fun _ _ h=>sepL.one1.1 h) (.ro 1 rfl .nil)) (fun _=>rfl) dc ?_ ?_ ?_ ?_
     ·
      rintro lp rc pre x1 post ⟨all8,v8⟩ w1 K1 hxs2 hext hro hinv
      have hrd:=hrd.ext hext
      have hy:=hy.later hext
      refine zad ?_
      refine za6 zt2 rfl dc (fun b8 => ?_)
      refine zaG (k:=4) (l':=[zab x1]) zsx rfl rfl rfl rfl rfl (fun _ _=>zbX _) rfl ?_
      refine zap ?_
      exact fun a w ha hw=>⟨b8,(zbK rfl) _ _ _ ha,hw.weaken (zaa [0,1,2,3,4] kr rfl)⟩
     ·
      rintro lp rc pre x1 post2 ⟨all8,v8⟩ jb1 w1 K1 hxs2 hext hro hinv
      have hrd:=hrd.ext hext
      have hy:=hy.later hext
      have h:=hinv (x1::post2) hxs2
      obtain ⟨ag2,hag2⟩:∃ ag,ag=zbZ dn1 (zdc rcall c0 part3) post2:=⟨_,rfl⟩
      have h:zdc rcall c0 part3 x1 ag2 all8=some r0:=by have h2:=h; rw [zb3,← hag2] at h2; exact h2
      unfold zdc at h
      refine zaK (zyG (zcf (i:=0) hrd rfl zfs rfl dc rfl rfl (zat (k:=3) zfs rfl dc rfl rfl rfl (zbn rfl zo0 ?_))))
      obtain ⟨r3,hq4,h⟩:=zcp h
      refine zdE (vs:=[.int .u64 (ziI .u64 c0 part3)]) rfl dc rfl rfl rfl ztr (zfK hq4) Splits.nil ?_
      rintro b9
      refine zyN (zaK ?_)
      obtain ⟨its2,hq5,h⟩:=zcp h
      obtain ⟨dn2,hdn2,h⟩:=zcC h
      refine znO (α:=Iwitness_tree) (β:=(List zaN)×Value) (γ:=Unit) (δ:=Unit) (ps:=[45]) hrd hro (i₀:=0) rfl rfl ztk (hrec hq5) (fun pre b=>∀ post,its2=pre++post→zbZ dn2 (zdb c0 x1) post b.1=some r0) (fun pre b=>[I ([]:List Iwitness_tree),cells b2 [b.2] 154,zv8 b.2 b.1,cells b6 [.int .u64 part3] 112,cells jb1 [zab x1] 72]) (fun c pre g=>False) (fun c pre g=>[]) (fun pre x b j=>[(0,.func (.yield l) #[] #[]),(1,zP b_c0),(3,zP b2),(4,.int .u64 (zaM .u64 c0 (IntKind.u64.wrap (-c0)))),(5,zP b6),(39,.func (.func 64) #[] #[zP b7]),(6,zP jb1),(44,.func (.func 64) #[] #[zP b9]),(7,zab x)]) (fun pre x b j=>[I ([]:List Iwitness_tree),cells b2 [b.2] 154,zv8 b.2 b.1,cells b6 [.int .u64 part3] 112,cells jb1 [zab x1] 72]) (all8,v8) (fun post e=>by rw [List.nil_append] at e; subst e; exact h) (zaa [0,1,2,3,4] kr rfl) (.own (As:=[cells b9 [.int .u64 r3] 112]) (zaa [5] kr rfl) (fun _ _ h=>sepL.one1.1 h) (.ro 1 rfl .nil)) (fun _=>rfl) dc ?_ ?_ ?_ ?_
      ·
       rintro lp rc pre x2 post ⟨all11,v11⟩ w1 K1 hxs3 hext hro hinv
       have hrd:=hrd.ext hext
       have hy:=hy.later hext
       refine zad (zyR 1 rfl (zap ?_))
       exact fun a w ha hw=>⟨(),(zbK rfl) _ _ _ ha,hw.weaken (zaa [0,1,2,3,4] kr rfl)⟩
      ·
       rintro lp rc pre x2 post3 ⟨all11,v11⟩ _ w1 K1 hxs3 hext hro hinv
       have hrd:=hrd.ext hext
       have hy:=hy.later hext
       have h:=hinv (x2::post3) hxs3
       obtain ⟨ag3,hag3⟩:∃ ag,ag=zbZ dn2 (zdb c0 x1) post3:=⟨_,rfl⟩
       have h:zdb c0 x1 x2 ag3 all11=some r0:=by have h2:=h; rw [zb3,← hag3] at h2; exact h2
       unfold zdb at h
       refine zaK (zyG (zat (k:=4) zjO rfl dc rfl rfl rfl (zyR 1 rfl (zcf (i:=0) hrd rfl zfs rfl dc rfl rfl (zbB (v:=.agg #[zab x1,zab x2,.int .u64 c0]) (ps:=[(0,.tmp 46),(1,.tmp 47),(2,.tmp 48)]) rfl dc rfl (zqg x1 x2 c0) ?_)))))
       refine za6 zmf rfl dc (fun b10 => ?_)
       refine za2 (k:=5) (vs:=[zab x1,zab x2,.int .u64 c0]) (l':=[zab x1,zab x2,.int .u64 c0]) zmm rfl rfl rfl rfl rfl (show _≤_ by simp) (by simp only [List.all_cons,List.all_nil,zbX,Bool.true_and,Bool.and_true] <;> rfl) rfl ?_
       refine zyN ?_
       obtain ⟨r4,hq6,h⟩:=zcp h
       obtain ⟨hg3,h⟩:=zcU h
       refine zfU (β:=Nat) 8 7 _ [(0,50,v11),(1,51,.agg #[zab x1,zab x2,.int .u64 c0]),(2,52,zab (Iwitness_tree.joint x1 x2 c0)),(3,53,.string r4),(4,54,.agg #[zab x1,zab x2,.int .u64 c0]),(5,55,zab (Iwitness_tree.joint x1 x2 c0)),(6,56,.agg #[.string r4,zab (Iwitness_tree.joint x1 x2 c0)])] (fun b11=>[(57,.slice (some ⟨b11,0,none⟩) 1 1)]) (fun b11=>[I ([]:List Iwitness_tree),cells b2 [v11] 154,zv8 v11 all11,cells b6 [.int .u64 part3] 112,cells jb1 [zab x1] 72,cells b10 [zab x1,zab x2,.int .u64 c0] 121,cells b11 [.string r4,zab (Iwitness_tree.joint x1 x2 c0)] 156]) mixed kr kr rfl dc dc (by rfl) kr kr (zas ?_ (zas ?_ (zas ?_ (zas ?_ (zas ?_ (zas ?_ (zas ?_ (zbO DrawPreX.nil)))))))) (fun b11=>(zas ?_ (zas ?_ (zas ?_ (zas ?_ (zas ?_ (zas ?_ (zas ?_ (zbO DrawPreX.nil))))))))) ?_ ?_
       · exact fun D n d c u i=>zat (k:=1) zn3 rfl dc (za3 (by rfl) rfl) rfl rfl (zaI 0 u i)
       · exact fun D n d c u i=>zaZ (k:=5) (cs:=[zab x1,zab x2,.int .u64 c0]) zn5 rfl dc (za3 (by rfl) rfl) rfl rfl rfl (zaI 1 u i)
       · exact fun D n d c u i=>zfE rfl dc (zaH 1 u d) (zdq x1 x2 c0) (zaI 2 u i)
       · exact fun D n d c u i=>zbv (v:=.string r4) (vs:=[zab (Iwitness_tree.joint x1 x2 c0),.func (.func 65) #[] #[]]) rfl dc rfl (evL.cons (zaH 2 u d) (evL.cons rfl evL.nil)) rfl znD (ze4 hq6) (zaI 3 u i)
       · exact fun D n d c u i=>zaZ (k:=5) (cs:=[zab x1,zab x2,.int .u64 c0]) zn5 rfl dc (za3 (by rfl) rfl) rfl rfl rfl (zaI 4 u i)
       · exact fun D n d c u i=>zfE rfl dc (zaH 4 u d) (zdq x1 x2 c0) (zaI 5 u i)
       · exact fun D n d c u i=>zbB (v:=.agg #[.string r4,zab (Iwitness_tree.joint x1 x2 c0)]) (ps:=[(0,.tmp 53),(1,.tmp 55)]) rfl dc (evP.cons (zaH 3 u d) (evP.cons (zaH 5 u d) evP.nil)) (zqf r4 (Iwitness_tree.joint x1 x2 c0)) (zaI 6 u i)
       · exact fun D n d c u i=>zat (k:=1) zn3 rfl dc (za3 (by rfl) rfl) rfl rfl (zaI 0 u i)
       · exact fun D n d c u i=>zaZ (k:=5) (cs:=[zab x1,zab x2,.int .u64 c0]) zn5 rfl dc (za3 (by rfl) rfl) rfl rfl rfl (zaI 1 u i)
       · exact fun D n d c u i=>zfE rfl dc (zaH 1 u d) (zdq x1 x2 c0) (zaI 2 u i)
       · exact fun D n d c u i=>zbv (v:=.string r4) (vs:=[zab (Iwitness_tree.joint x1 x2 c0),.func (.func 65) #[] #[]]) rfl dc rfl (evL.cons (zaH 2 u d) (evL.cons rfl evL.nil)) rfl znD (ze4 hq6) (zaI 3 u i)
       · exact fun D n d c u i=>zaZ (k:=5) (cs:=[zab x1,zab x2,.int .u64 c0]) zn5 rfl dc (za3 (by rfl) rfl) rfl rfl rfl (zaI 4 u i)
       · exact fun D n d c u i=>zfE rfl dc (zaH 4 u d) (zdq x1 x2 c0) (zaI 5 u i)
       · exact fun D n d c u i=>zbB (v:=.agg #[.string r4,zab (Iwitness_tree.joint x1 x2 c0)]) (ps:=[(0,.tmp 53),(1,.tmp 55)]) rfl dc (evP.cons (zaH 3 u d) (evP.cons (zaH 5 u d) evP.nil)) (zqf r4 (Iwitness_tree.joint x1 x2 c0)) (zaI 6 u i)
       ·
        intro D hn hd hcl
        refine zby (cs:=[.string r4,zab (Iwitness_tree.joint x1 x2 c0)]) (te:=156) (ps:=[(0,.tmp 56)]) rfl dc (evP.cons (zaU (m:=6) kr rfl (hd 6 dc)) evP.nil) (fun _=>by kernel_rfl) (fun b11 => ?_)
        exact fun a w ha hw=>⟨b11,znP (by rfl) _ _ _ ha,hw⟩
       intro b11
       refine zbR (k:=2) (k2:=6) (ys:=[(⟨r4,(Iwitness_tree.joint x1 x2 c0)⟩:zaN)]) underlying154 zuY zf0 zfZ rfl dc rfl rfl rfl rfl rfl rfl hg3 (fun v12 => ?_)
       refine zaG (k:=1) (l':=[v12]) zuh rfl rfl rfl rfl rfl (fun _ h=>znp h (k:=2) rfl) rfl ?_
       refine zap (zah ?_)
       exact zcj (all11++[(⟨r4,(Iwitness_tree.joint x1 x2 c0)⟩:zaN)],v12) (fun post2 e2=>by have e9:=zcI hxs3 e2; subst e9; subst hag3; exact h) (zaa [0,1,2,3,4] kr rfl)
      ·
       rintro ⟨all11,v11⟩ hinv
       have h:dn2 all11=some r0:=hinv [] (List.append_nil _).symm
       rw [hdn2] at h
       refine zah (zah ?_)
       exact zcj (all11,v11) (fun post2 e2=>by have e9:=zcI hxs2 e2; subst e9; subst hag2; exact h) (zaa [6,7,8,9] kr rfl)
      rintro c pre x2 post g hxs hX
      exact (show False from hX).elim
     ·
      rintro dm2 ⟨all8,v8⟩ hinv
      have h:dn1 all8=some r0:=hinv [] (List.append_nil _).symm
      rw [hdn1] at h
      show TX _ _ _ _ _ _ _ [emp,emp,emp,emp,zc0 ((ds4:List Nat).map zcu),cells b7 [.int .u64 r2] 112,I ([]:List Iwitness_tree),cells b2 [v8] 154,zv8 v8 all8,cells b6 [.int .u64 part3] 112,zcu dm2]
      refine zds (k:=10) (j:=4) rfl rfl dc ?_
      refine zah (zah ?_)
      exact zaB (all8,v8,dm2::ds4) h rfl (zbK rfl) (zaa [6,7,8,9,4] kr rfl)
     rintro dm2 c pre x1 post g hxs hX
     exact (show False from hX).elim
    rintro ⟨all5,v5,ds5⟩ h
    rw [hj2] at h
    refine zar (zyG (zat (k:=3) zfs rfl dc rfl rfl rfl (zyN (zad ?_))))
    refine za6 zrI rfl dc (fun b12 => ?_)
    refine zaG (k:=5) (l':=[.int .u64 part3]) zn2 rfl rfl rfl rfl rfl (fun _ _=>rfl) rfl ?_
    refine zyN (zad (zat (k:=5) zfs rfl dc rfl rfl rfl ?_))
    obtain ⟨hg4,h⟩:=zcU h
    refine zbn rfl (zfO (r:=part3 - 1) (IntWalk.u64_in _ hg4)) (zcf (i:=0) hrd rfl zfs rfl dc rfl rfl (zbn rfl zfz ?_))
    refine zaG (k:=5) (l':=[.int .u64 (zaM .u64 (part3 - 1) c0)]) zn2 rfl rfl rfl rfl rfl (fun _ _=>rfl) rfl ?_
    refine zap ?_
    subst hag1
    exact zcM (n1,all5,zaM .u64 (part3 - 1) c0,v5,b12,ds5) h (Nat.lt_succ_self _) rfl (zbK rfl) (zaa [0,1,2,5,4] kr rfl)
   refine zcy (zaV (zaV (zbh ?_)))
   exact zaB (all4,b2,v4,ds4) h rfl (zbK rfl) (zaa [0,1,2,4] kr rfl)
 rintro ⟨all1,b1,v1,ds1⟩ h
 rw [hj1] at h
 refine zyG (zat (k:=1) zn3 rfl dc rfl rfl rfl ?_)
 obtain ⟨hg5,h⟩:=zcU h
 refine zdE (vs:=[v1,.func (.func 67) #[] #[]]) rfl dc rfl rfl rfl zwf (zsz hg5) (zaa [2] kr rfl) ?_
 rintro _
 refine zyH (zat (k:=1) zn3 rfl dc rfl rfl rfl (zgr (k:=4) rfl dc rfl rfl underlying154 (zyR 1 rfl (zyN (zaK ?_)))))
 refine zdy (β:=Nat×Int×(List Iwitness_tree)×(List Iwitness_tree)) (fun b=>zbq (fun _=>none) (zcH all1) b.1 b.2.1=some b.2.2.2∧xs=b.2.2.1++b.2.2.2) (fun b=>zcK ds1) (fun b=>[(0,.func (.yield l) #[] #[]),(62,v1),(63,zI ((zhG all1).length:Int)),(64,zI b.2.1)]) (fun b=>[I b.2.2.1,zv8 v1 (zhG all1),zc0 ((ds1:List Nat).map zcu)]) (fun b=>b.1) (zc9,0,([]:List Iwitness_tree),r0) ⟨h,hx0⟩ rfl (zbK rfl) (zaa [0,4,3] kr rfl) ?_
 rintro ⟨n2,x5,acc3,rr4⟩ ⟨h,hx5⟩
 cases n2 with
 | zero=>exact zfG h
 | succ n2 =>
  obtain ⟨ag4,hag4⟩:∃ ag,ag=zbq (fun _=>none) (zcH all1) n2:=⟨_,rfl⟩
  have h:zcH all1 ag4 x5=some rr4:=by rw [hag4]; exact h
  unfold zcH at h
  refine zyG (zbn rfl zb4 (zyN (zar ?_)))
  refine zyB rfl h (fun h => ?_) (fun h => ?_)
  ·
   refine zax (zag (zar (zaK (zyG ?_))))
   obtain ⟨q1,hq7,h⟩:=zcp h
   refine zdD (k:=1) hq7 underlying154 zrL rfl dc rfl rfl rfl rfl (zgq (i:=(x5:Int).toNat) (j:=0) (k:=1) (q:=q1) (cs:=[.string q1.figures,zab q1.x]) zup zf0 rfl dc rfl rfl (zca hq7) rfl rfl rfl ?_)
   refine za6 zt4 rfl dc (fun b13 => ?_)
   refine za2 (k:=3) (vs:=[.string q1.figures,zab q1.x]) (l':=[.string q1.figures,zab q1.x]) zrL rfl rfl rfl rfl rfl (show _≤_ by simp) (by simp only [List.all_cons,List.all_nil,zbX,Bool.true_and,Bool.and_true] <;> rfl) rfl ?_
   refine zyH (zyR 1 rfl (zac zra rfl dc rfl (show _=1 from rfl) (zat (k:=3) zjO rfl dc rfl rfl rfl ?_)))
   obtain ⟨rr5,hr2,h⟩:=zik h
   have hx6:xs=acc3++q1.x::rr5:=by rw [hx5,hr2]
   refine zcX hy rfl dc rfl hx6 rfl (k:=0) rfl ?_ ?_
   ·
    have hx7:xs=(acc3++[q1.x])++rr5:=by rw [hx6]; simp
    refine zdM rfl dc rfl zcA (zyN (zaS rfl (zax (zah (zag (zad ?_))))))
    obtain ⟨hg6,h⟩:=zcU h
    refine zbn rfl (zbs (r:=x5+1) (IntWalk.i64_in _ hg6)) (zyR 1 rfl (zap ?_))
    subst hag4
    exact zcM (n2,x5+1,acc3++[q1.x],rr5) ⟨h,hx7⟩ (Nat.lt_succ_self _) rfl (zbK rfl) (zaa [0,1,2] kr rfl)
   refine zdM rfl dc rfl zcA (zyN (zbw rfl (zaE (zau (zao (zao (zau ?_)))))))
   exact zfi (ds:=ds1) acc3 q1.x rr5 hx6 (.inl rfl) (zaT (k:=2) rfl) results64 (zaa [0] kr rfl)
  refine zcy (zaV (zaV (zbh ?_)))
  cases h
  exact zfD (ds:=ds1) (.inr rfl) (zaT (k:=2) rfl) results64 (congrArg I (hx5.trans (List.append_nil _))) (zaa [0] kr rfl)
theorem zh9 {b_c0:Nat} {c0:Int} {xs:(List Iwitness_tree)} (h:zgu c0=some xs):ItrR prog 64 [zP b_c0] (fun q:Iwitness_tree=>[zab q]) xs [cells b_c0 [.int .u64 c0] 112,tz64A]:=ziv zc9 h
def zdY (wv1:Int) (xc0:zai):Option zBA := zaA (zeD xc0.names wv1) fun (q1:zBA) => some q1
theorem zg0 {wv1:Int} {bc0 pc0:Nat} {xc0:zai} {xc0_h0 xc0_h1 xc0_h2 xc0_h3 xc0_h4:Hd} {r:zBA} (h:zdY wv1 xc0=some r):FnR prog 42 [zI wv1,zP bc0] [cells bc0 [zP pc0] 24,cells pc0 [xc0_h0.v,xc0_h1.v,xc0_h2.v,xc0_h3.v,xc0_h4.v] 60,zv0 xc0_h0.v xc0.names,zv0 xc0_h1.v xc0.texts,zba zam zaf 62 1 xc0_h2.v xc0.spans,zba zaj zal 55 1 xc0_h3.v xc0.keys,zba zaq zak 70 2 xc0_h4.v xc0.columns] [] (fun _:Unit=>(.string r)) (fun _=>[]):=by
 unfold zdY at h
 refine FnR.intro func42 rfl ntmps42 (by simp) ?_
 intro w0 K hrd
 refine zyG (zyR 1 rfl (zyH (zcf (i:=0) hrd rfl zfr rfl dc rfl rfl (zav rfl dc rfl (zac zhQ rfl dc rfl (show _=0 from rfl) (zcf (i:=1) hrd rfl zic rfl dc rfl rfl (zyR 1 rfl ?_)))))))
 obtain ⟨q1,hq1,h⟩:=zcp h
 refine zcF (hrd.vw (i:=2) rfl) hq1 underlying55 zrJ rfl dc rfl rfl rfl (zm4 (n:=0+(wv1:Int).toNat) (j:=0) (i:=2) (q:=q1) hrd rfl zhH zeF rfl dc rfl (Vw.get (hrd.vw (i:=2) rfl) hq1) rfl dc rfl (zyR 1 rfl (zyN (zaE ?_))))
 cases h
 exact zbN 3 results42
def zcG (rcall:Iwitness_tree→zai→Option zBA) (x1:Iwitness_tree) (xname10:zai):Option zBA := zaL (x1.is_leaf) ( zaA (zdY x1.get_leaf.witness xname10) fun (r1:zBA) => some r1
) ( zaL (x1.is_joint) ( zaA (rcall x1.get_joint.left xname10) fun (r2:zBA) => grd ((⟨#[40]⟩:zBA).size+r2.size≤9223372036854775807) <| grd (((⟨#[40]⟩:zBA)++r2).size+(⟨#[44]⟩:zBA).size≤9223372036854775807) <| zaA (rcall x1.get_joint.right xname10) fun (r3:zBA) => grd ((((⟨#[40]⟩:zBA)++r2)++(⟨#[44]⟩:zBA)).size+r3.size≤9223372036854775807) <| grd (((((⟨#[40]⟩:zBA)++r2)++(⟨#[44]⟩:zBA))++r3).size+(⟨#[41]⟩:zBA).size≤9223372036854775807) <| some (((((⟨#[40]⟩:zBA)++r2)++(⟨#[44]⟩:zBA))++r3)++(⟨#[41]⟩:zBA))
) ( some (⟨#[]⟩:zBA)
)
)
def zeH (x1:Iwitness_tree) (xname10:zai):Option zBA:=zbq (fun _ _=>none) zcG zc9 x1 xname10
theorem zhp (n:Nat):∀ {x1:Iwitness_tree} {bname10 pname10:Nat} {xname10:zai} {xname10_h0 xname10_h1 xname10_h2 xname10_h3 xname10_h4:Hd} {r:zBA} (_:zbq (fun _ _=>none) zcG n x1 xname10=some r),FnR prog 41 [zab x1,.func (.func 42) #[] #[zP bname10]] [cells bname10 [zP pname10] 24,cells pname10 [xname10_h0.v,xname10_h1.v,xname10_h2.v,xname10_h3.v,xname10_h4.v] 60,zv0 xname10_h0.v xname10.names,zv0 xname10_h1.v xname10.texts,zba zam zaf 62 1 xname10_h2.v xname10.spans,zba zaj zal 55 1 xname10_h3.v xname10.keys,zba zaq zak 70 2 xname10_h4.v xname10.columns] [] (fun _:Unit=>(.string r)) (fun _=>[]):=by
 induction n with
 | zero=>intro x1 bname10 pname10 xname10 xname10_h0 xname10_h1 xname10_h2 xname10_h3 xname10_h4 r h; exact zfG h
 | succ n hrec =>
 intro x1 bname10 pname10 xname10 xname10_h0 xname10_h1 xname10_h2 xname10_h3 xname10_h4 r h
 rw [zbk] at h
 revert hrec h
 generalize zbq (fun _ _=>none) zcG n=rcall
 intro hrec h
 unfold zcG at h
 refine FnR.intro func41 rfl ntmps41 (by simp) ?_
 intro w0 K hrd
 refine zyG (zyR 1 rfl (zyN (zar (zyG (zyR 1 rfl (zyN (zaK (zyG ?_))))))))
 refine zfQ rfl dc rfl (zez x1) (zaJ rfl dc rfl rfl (zaJ rfl dc rfl rfl (zyN ?_)))
 refine zyB rfl h (fun h => ?_) (fun h => ?_)
 ·
  refine zyG ?_
  refine za6 zso rfl dc (fun b1 => ?_)
  refine za2 (k:=0) (vs:=[zI x1.get_leaf.witness]) (l':=[zI x1.get_leaf.witness]) zsw rfl rfl rfl rfl rfl (show _≤_ by simp) rfl rfl ?_
  refine zyH (zyR 1 rfl (zac zlU rfl dc rfl (show _=0 from rfl) (zat (k:=0) zdk rfl dc rfl rfl rfl ?_)))
  obtain ⟨r1,hq1,h⟩:=zcp h
  refine zbm (v:=.string r1) (vs:=[zI x1.get_leaf.witness]) hrd rfl dc rfl rfl rfl zwo (zg0 (bc0:=bname10) (pc0:=pname10) (xc0:=xname10) (xc0_h0:=xname10_h0) (xc0_h1:=xname10_h1) (xc0_h2:=xname10_h2) (xc0_h3:=xname10_h3) (xc0_h4:=xname10_h4) hq1) (.ro 0 rfl (.ro 1 rfl (.ro 2 rfl (.ro 3 rfl (.ro 4 rfl (.ro 5 rfl (.ro 6 rfl .nil))))))) (zyR 1 rfl (zyN (zaE (zau (zao ?_)))))
  cases h
  exact zbN 4 results41
 refine zyG (zfQ rfl dc rfl (zdQ x1) (zaJ rfl dc rfl rfl (zaJ rfl dc rfl rfl (zyN ?_))))
 refine zyB rfl h (fun h => ?_) (fun h => ?_)
 ·
  refine zyG ?_
  refine za6 zmf rfl dc (fun b2 => ?_)
  refine za2 (k:=0) (vs:=[zab x1.get_joint.left,zab x1.get_joint.right,.int .u64 x1.get_joint.all]) (l':=[zab x1.get_joint.left,zab x1.get_joint.right,.int .u64 x1.get_joint.all]) zmm rfl rfl rfl rfl rfl (show _≤_ by simp) (by simp only [List.all_cons,List.all_nil,zbX,Bool.true_and,Bool.and_true] <;> rfl) rfl ?_
  refine zyN (zar ?_)
  obtain ⟨r2,hq2,h⟩:=zcp h
  obtain ⟨hg1,h⟩:=zcU h
  obtain ⟨hg2,h⟩:=zcU h
  obtain ⟨r3,hq3,h⟩:=zcp h
  obtain ⟨hg3,h⟩:=zcU h
  obtain ⟨hg4,h⟩:=zcU h
  refine zbW 10 [(0,18,zP b2),(1,19,zab x1.get_joint.left),(2,20,.func (.func 42) #[] #[zP bname10]),(3,21,.string r2),(4,22,.string ((⟨#[40]⟩:zBA)++r2)),(5,23,.string (((⟨#[40]⟩:zBA)++r2)++(⟨#[44]⟩:zBA))),(6,24,.pointer (some ⟨b2,1,none⟩)),(7,25,zab x1.get_joint.right),(8,26,.func (.func 42) #[] #[zP bname10]),(9,27,.string r3)] mixed kr kr dc (by rfl) kr kr (zae ?_ (zae ?_ (zyP 1 2 rfl (zae ?_ (zae ?_ (zae ?_ (zae ?_ (zae ?_ (zyP 1 8 rfl (zae ?_ DrawPre.nil)))))))))) ?_
  · exact fun D n d c u i=>zac zj0 rfl dc (za3 (by rfl) rfl) (show _=0 from rfl) (zaI 0 u i)
  · exact fun D n d c u i=>zat (k:=0) zjO rfl dc (zaH 0 u d) rfl rfl (zaI 1 u i)
  · exact fun D n d c u i=>zbm (v:=.string r2) (vs:=[zab x1.get_joint.left,.func (.func 42) #[] #[zP bname10]]) hrd rfl dc rfl (evL.cons (zaH 1 u d) (evL.cons (zaH 2 u d) evL.nil)) rfl znD (hrec (bname10:=bname10) (pname10:=pname10) (xname10:=xname10) (xname10_h0:=xname10_h0) (xname10_h1:=xname10_h1) (xname10_h2:=xname10_h2) (xname10_h3:=xname10_h3) (xname10_h4:=xname10_h4) hq2) (.ro 0 rfl (.ro 1 rfl (.ro 2 rfl (.ro 3 rfl (.ro 4 rfl (.ro 5 rfl (.ro 6 rfl .nil))))))) (zaI 3 u i)
  · exact fun D n d c u i=>zaX rfl dc rfl (zaH 3 u d) (zgC hg1) (zaI 4 u i)
  · exact fun D n d c u i=>zaX rfl dc (zaH 4 u d) rfl (zgC hg2) (zaI 5 u i)
  · exact fun D n d c u i=>zac zjZ rfl dc (za3 (by rfl) rfl) (show _=1 from rfl) (zaI 6 u i)
  · exact fun D n d c u i=>zat (k:=0) zjO rfl dc (zaH 6 u d) rfl rfl (zaI 7 u i)
  · exact fun D n d c u i=>zbm (v:=.string r3) (vs:=[zab x1.get_joint.right,.func (.func 42) #[] #[zP bname10]]) hrd rfl dc rfl (evL.cons (zaH 7 u d) (evL.cons (zaH 8 u d) evL.nil)) rfl znD (hrec (bname10:=bname10) (pname10:=pname10) (xname10:=xname10) (xname10_h0:=xname10_h0) (xname10_h1:=xname10_h1) (xname10_h2:=xname10_h2) (xname10_h3:=xname10_h3) (xname10_h4:=xname10_h4) hq3) (.ro 0 rfl (.ro 1 rfl (.ro 2 rfl (.ro 3 rfl (.ro 4 rfl (.ro 5 rfl (.ro 6 rfl .nil))))))) (zaI 9 u i)
  refine zbn rfl (zgC hg3) (zbn rfl (zgC hg4) (zyR 1 rfl (zyN (zaE (zau (zao ?_))))))
  cases h
  exact zbN 4 results41
 refine zax (zah (zag (zyG (zyR 1 rfl (zyN (zaE ?_))))))
 cases h
 exact zbN 4 results41
theorem zho {x1:Iwitness_tree} {bname10 pname10:Nat} {xname10:zai} {xname10_h0 xname10_h1 xname10_h2 xname10_h3 xname10_h4:Hd} {r:zBA} (h:zeH x1 xname10=some r):FnR prog 41 [zab x1,.func (.func 42) #[] #[zP bname10]] [cells bname10 [zP pname10] 24,cells pname10 [xname10_h0.v,xname10_h1.v,xname10_h2.v,xname10_h3.v,xname10_h4.v] 60,zv0 xname10_h0.v xname10.names,zv0 xname10_h1.v xname10.texts,zba zam zaf 62 1 xname10_h2.v xname10.spans,zba zaj zal 55 1 xname10_h3.v xname10.keys,zba zaq zak 70 2 xname10_h4.v xname10.columns] [] (fun _:Unit=>(.string r)) (fun _=>[]):=by
 unfold zeH at h
 exact zhp zc9  h
def zcZ (t1:zai) (x1:Iwitness_tree):Option zBA := zaA (zeH x1 t1) fun (r1:zBA) => some r1
theorem zd3 {bt1:Nat} {t1:zai} {t1_h0 t1_h1 t1_h2 t1_h3 t1_h4:Hd} {x1:Iwitness_tree} {r:zBA} (h:zcZ t1 x1=some r):FnR prog 22 [zP bt1,zab x1] [cells bt1 [t1_h0.v,t1_h1.v,t1_h2.v,t1_h3.v,t1_h4.v] 60,zv0 t1_h0.v t1.names,zv0 t1_h1.v t1.texts,zba zam zaf 62 1 t1_h2.v t1.spans,zba zaj zal 55 1 t1_h3.v t1.keys,zba zaq zak 70 2 t1_h4.v t1.columns] [] (fun _:Unit=>(.string r)) (fun _=>[]):=by
 unfold zcZ at h
 refine FnR.intro func22 rfl ntmps22 (by simp) ?_
 intro w0 K hrd
 refine zyG ?_
 refine zdN rfl dc rfl (fun b1 => ?_)
 refine zyR 1 rfl (zyH (zyR 1 rfl (zdH (x1:=[]) (x2:=[.tmp 2]) rfl dc rfl rfl ?_)))
 obtain ⟨r1,hq1,h⟩:=zcp h
 refine zbm (v:=.string r1) (vs:=[zab x1,.func (.func 42) #[] #[zP b1]]) hrd rfl dc rfl rfl rfl znD (zho (bname10:=b1) (pname10:=bt1) (xname10:=t1) (xname10_h0:=t1_h0) (xname10_h1:=t1_h1) (xname10_h2:=t1_h2) (xname10_h3:=t1_h3) (xname10_h4:=t1_h4) hq1) (.own (zaa [0] kr rfl) (fun _ _ h=>sepL.one1.1 h) (.ro 0 rfl (.ro 1 rfl (.ro 2 rfl (.ro 3 rfl (.ro 4 rfl (.ro 5 rfl .nil))))))) ?_
 refine zyR 1 rfl (zyN (zaE ?_))
 cases h
 exact zbN 4 results22
def zdG (rcall:Iwitness_tree→(List Int)→Option (Int×Int)) (x1:Iwitness_tree) (readings1:List Int):Option (Int×Int) := zaL (x1.is_leaf) ( zaA (zeD readings1 x1.get_leaf.witness) fun (q1:Int) => grd (0≤q1) <| some (zmo .u64 1 q1,0)
) ( zaL (x1.is_joint) ( zaA (rcall x1.get_joint.left readings1) fun (r1:(Int×Int)) => zaA (rcall x1.get_joint.right readings1) fun (r2:(Int×Int)) => zaL (((zaM .u64 r1.1 r2.1):Int) != 0) ( grd (I64 (r1.2+r2.2)) <| some (zaM .u64 r1.1 r2.1,r1.2+r2.2)
) ( grd (I64 (r1.2+r2.2)) <| grd (I64 ((r1.2+r2.2)+1)) <| some (orI .u64 r1.1 r2.1,(r1.2+r2.2)+1)
)
) ( some (0,0)
)
)
def zf3 (x1:Iwitness_tree) (readings1:List Int):Option (Int×Int):=zbq (fun _ _=>none) zdG zc9 x1 readings1
theorem zjg (n:Nat):∀ {x1:Iwitness_tree} {vvreadings1 vreadings1:Value} {Lreadings1:List Int} {kreadings1:Nat} {readings1:List Int} (hwreadings1:Vw vvreadings1 Lreadings1 1 kreadings1 vreadings1 readings1) {r:(Int×Int)} (_:zbq (fun _ _=>none) zdG n x1 readings1=some r),FnR prog 48 [zab x1,vreadings1] [zcR (zfH (.i64)) 1 vvreadings1 kreadings1 Lreadings1] [] (fun _:Unit=>(.tuple #[.int .u64 r.1,zI r.2])) (fun _=>[]):=by
 induction n with
 | zero=>intro x1 vvreadings1 vreadings1 Lreadings1 kreadings1 readings1 hwreadings1 r h; exact zfG h
 | succ n hrec =>
 intro x1 vvreadings1 vreadings1 Lreadings1 kreadings1 readings1 hwreadings1 r h
 rw [zbk] at h
 revert hrec h
 generalize zbq (fun _ _=>none) zdG n=rcall
 intro hrec h
 unfold zdG at h
 refine FnR.intro func48 rfl ntmps48 (by simp) ?_
 intro w0 K hrd
 refine zyG (zyR 2 rfl (zyN (zar (zyG (zyR 1 rfl (zyN (zaK (zar ?_))))))))
 refine zad (zfQ rfl dc rfl (zez x1) (zaJ rfl dc rfl rfl (zaJ rfl dc rfl rfl (zyN ?_))))
 refine zyB rfl h (fun h => ?_) (fun h => ?_)
 ·
  refine zyG ?_
  refine za6 zso rfl dc (fun b1 => ?_)
  refine za2 (k:=0) (vs:=[zI x1.get_leaf.witness]) (l':=[zI x1.get_leaf.witness]) zsw rfl rfl rfl rfl rfl (show _≤_ by simp) rfl rfl ?_
  refine zyH (zyR 1 rfl (zac zlU rfl dc rfl (show _=0 from rfl) (zat (k:=0) zdk rfl dc rfl rfl rfl ?_)))
  obtain ⟨q1,hq1,h⟩:=zcp h
  refine zcF hwreadings1 hq1 underlying68 zeR rfl dc rfl rfl rfl (zdj (n:=kreadings1+(x1.get_leaf.witness:Int).toNat) (j:=0) (i:=0) (q:=q1) hrd rfl (by omega) zdk rfl dc rfl (Vw.get hwreadings1 hq1) rfl rfl ?_)
  obtain ⟨hg1,h⟩:=zcU h
  refine zbn rfl (zl8 hg1) (zyR 2 rfl (zyN (zaE (zau (zao ?_)))))
  cases h
  exact zbA (rs:=[.tmp 4,.tmp 5]) () (.inl rfl) results48 (.cons (.tmp rfl) (.cons (.tmp rfl) .nil)) rfl Splits.nil
 refine zyG (zfQ rfl dc rfl (zdQ x1) (zaJ rfl dc rfl rfl (zaJ rfl dc rfl rfl (zyN ?_))))
 refine zyB rfl h (fun h => ?_) (fun h => ?_)
 ·
  refine zyG ?_
  refine za6 zmf rfl dc (fun b2 => ?_)
  refine za2 (k:=0) (vs:=[zab x1.get_joint.left,zab x1.get_joint.right,.int .u64 x1.get_joint.all]) (l':=[zab x1.get_joint.left,zab x1.get_joint.right,.int .u64 x1.get_joint.all]) zmm rfl rfl rfl rfl rfl (show _≤_ by simp) (by simp only [List.all_cons,List.all_nil,zbX,Bool.true_and,Bool.and_true] <;> rfl) rfl ?_
  refine zyH (zac zj0 rfl dc rfl (show _=0 from rfl) (zat (k:=0) zjO rfl dc rfl rfl rfl (zyR 1 rfl ?_)))
  obtain ⟨r1,hq2,h⟩:=zcp h
  refine zbm (v:=.tuple #[.int .u64 r1.1,zI r1.2]) (vs:=[zab x1.get_joint.left,vreadings1]) hrd rfl dc rfl rfl rfl ztp (hrec hwreadings1 hq2) (.ro 0 rfl .nil) (zyR 1 rfl (zaJ rfl dc rfl rfl (zaJ rfl dc rfl rfl (zyR 2 rfl (zyH (zac zjZ rfl dc rfl (show _=1 from rfl) (zat (k:=0) zjO rfl dc rfl rfl rfl (zyR 1 rfl ?_))))))))
  obtain ⟨r2,hq3,h⟩:=zcp h
  refine zbm (v:=.tuple #[.int .u64 r2.1,zI r2.2]) (vs:=[zab x1.get_joint.right,vreadings1]) hrd rfl dc rfl rfl rfl ztp (hrec hwreadings1 hq3) (.ro 0 rfl .nil) (zyR 1 rfl (zaJ rfl dc rfl rfl (zaJ rfl dc rfl rfl (zyR 2 rfl (zyN (zar (zyG (zyR 2 rfl (zbn rfl zfz ?_)))))))))
  refine zbn rfl zdZ (zyN ?_)
  refine zyB rfl h (fun h => ?_) (fun h => ?_)
  ·
   refine zyG (zyR 2 rfl (zbn rfl zfz (zyR 2 rfl ?_)))
   obtain ⟨hg2,h⟩:=zcU h
   refine zbn rfl (zbs (r:=r1.2+r2.2) (IntWalk.i64_in _ hg2)) (zyR 2 rfl (zyN (zaE (zao (zau (zao ?_))))))
   cases h
   exact zbA (rs:=[.tmp 4,.tmp 5]) () (.inl rfl) results48 (.cons (.tmp rfl) (.cons (.tmp rfl) .nil)) rfl Splits.nil
  refine zax (zag (zyG (zyR 2 rfl (zbn rfl zqh (zyR 2 rfl ?_)))))
  obtain ⟨hg3,h⟩:=zcU h
  refine zbn rfl (zbs (r:=r1.2+r2.2) (IntWalk.i64_in _ hg3)) ?_
  obtain ⟨hg4,h⟩:=zcU h
  refine zbn rfl (zbs (r:=(r1.2+r2.2)+1) (IntWalk.i64_in _ hg4)) (zyR 2 rfl (zyN (zaE (zau (zao ?_)))))
  cases h
  exact zbA (rs:=[.tmp 4,.tmp 5]) () (.inl rfl) results48 (.cons (.tmp rfl) (.cons (.tmp rfl) .nil)) rfl Splits.nil
 refine zax (zah (zag (zyG (zyR 2 rfl (zyN (zaE ?_))))))
 cases h
 exact zbA (rs:=[.tmp 4,.tmp 5]) () (.inl rfl) results48 (.cons (.tmp rfl) (.cons (.tmp rfl) .nil)) rfl Splits.nil
theorem zjf {x1:Iwitness_tree} {vvreadings1 vreadings1:Value} {Lreadings1:List Int} {kreadings1:Nat} {readings1:List Int} (hwreadings1:Vw vvreadings1 Lreadings1 1 kreadings1 vreadings1 readings1) {r:(Int×Int)} (h:zf3 x1 readings1=some r):FnR prog 48 [zab x1,vreadings1] [zcR (zfH (.i64)) 1 vvreadings1 kreadings1 Lreadings1] [] (fun _:Unit=>(.tuple #[.int .u64 r.1,zI r.2])) (fun _=>[]):=by
 unfold zf3 at h
 exact zjg zc9 hwreadings1 h
def zd8 (n1:Int) (xc0:zan):Option Bool := zaA (zeD xc0.readings 0) fun (q1:Int) => some ((n1:Int) != q1)
theorem zgt {n1:Int} {bc0:Nat} {xc0:zan} {xc0_h0 xc0_h1:Hd} {vvc00:Value} {kc00:Nat} {Lc00:List Int} (hwc00:Vw vvc00 Lc00 1 kc00 xc0_h0.v xc0.words) {vvc01:Value} {kc01:Nat} {Lc01:List Int} (hwc01:Vw vvc01 Lc01 1 kc01 xc0_h1.v xc0.readings) {r:Bool} (h:zd8 n1 xc0=some r):FnR prog 73 [zI n1,zP bc0] [cells bc0 [xc0_h0.v,xc0_h1.v] 70,zcR (zfH (.i64)) 1 vvc00 kc00 Lc00,zcR (zfH (.i64)) 1 vvc01 kc01 Lc01] [] (fun _:Unit=>(.bool r)) (fun _=>[]):=by
 unfold zd8 at h
 refine FnR.intro func73 rfl ntmps73 (by simp) ?_
 intro w0 K hrd
 refine zyG (zyR 1 rfl (zyH (zyR 1 rfl (zac zku rfl dc rfl (show _=1 from rfl) (zcf (i:=0) hrd rfl zlK rfl dc rfl rfl ?_)))))
 obtain ⟨q1,hq1,h⟩:=zcp h
 refine zcF hwc01 hq1 underlying68 zeR rfl dc rfl rfl rfl (zdj (n:=kc01+(0:Int).toNat) (j:=0) (i:=2) (q:=q1) hrd rfl (by omega) zdk rfl dc rfl (Vw.get hwc01 hq1) rfl rfl (zbn rfl zdZ (zyR 1 rfl (zyN (zaE ?_)))))
 cases h
 exact zbN 3 results73
def zbt (s1:List Int) (xf10:zan) (j1:Option Int) (ag1:Int→Option Int) (x3:Int):Option Int := zaL (decide ((x3:Int)<(s1.length:Int))) ( zaA (zeD s1 x3) fun (q1:Int) => zaA (zd8 q1 xf10) fun (r1:Bool) => zaL (r1) ( some x3
) ( grd (I64 (x3+1)) <| ag1 (x3+1)
)
) ( j1
)
def zc2 (s1:List Int) (xf10:zan):Option Int := zcd (fun (j1:Option Int) => zbq (fun _=>none) (zbt s1 xf10 j1) zc9 0
) ( some (-1)
)
theorem zeU {vvs1 vs1:Value} {Ls1:List Int} {ks1:Nat} {s1:List Int} (hws1:Vw vvs1 Ls1 1 ks1 vs1 s1) {bf10:Nat} {xf10:zan} {xf10_h0 xf10_h1:Hd} {vvf100:Value} {kf100:Nat} {Lf100:List Int} (hwf100:Vw vvf100 Lf100 1 kf100 xf10_h0.v xf10.words) {vvf101:Value} {kf101:Nat} {Lf101:List Int} (hwf101:Vw vvf101 Lf101 1 kf101 xf10_h1.v xf10.readings) {r:Int} (h:zc2 s1 xf10=some r):FnR prog 91 [vs1,.func (.func 73) #[] #[zP bf10]] [zcR (zfH (.i64)) 1 vvs1 ks1 Ls1,cells bf10 [xf10_h0.v,xf10_h1.v] 70,zcR (zfH (.i64)) 1 vvf100 kf100 Lf100,zcR (zfH (.i64)) 1 vvf101 kf101 Lf101] [] (fun _:Unit=>(zI r)) (fun _=>[]):=by
 unfold zc2 at h
 refine FnR.intro func91 rfl ntmps91 (by simp) ?_
 intro w0 K hrd
 obtain ⟨j1,hj1,h⟩:=zcC h
 refine zbF (β:=Unit) 1 rfl (fun b=>j1=some r) (fun b=>[]) (fun b=>[]) (fun b=>[]) (fun cut => ?_) ?_
 ·
  refine zyG (zyR 1 rfl (zyN (cut (zyG (zyR 1 rfl (zfe hws1 rfl dc rfl underlying68 (zyR 1 rfl (zyN (zaK ?_)))))))))
  refine zdy (β:=Nat×Int) (fun b=>zbq (fun _=>none) (zbt s1 xf10 j1) b.1 b.2=some r) (fun b=>[]) (fun b=>[(0,vs1),(1,.func (.func 73) #[] #[zP bf10]),(7,zI (s1.length:Int)),(8,zI b.2)]) (fun b=>[]) (fun b=>b.1) (zc9,0) h rfl (zbK rfl) Splits.nil ?_
  rintro ⟨n1,x3⟩ h
  cases n1 with
  | zero=>exact zfG h
  | succ n1 =>
   obtain ⟨ag1,hag1⟩:∃ ag,ag=zbq (fun _=>none) (zbt s1 xf10 j1) n1:=⟨_,rfl⟩
   have h:zbt s1 xf10 j1 ag1 x3=some r:=by rw [hag1]; exact h
   unfold zbt at h
   refine zyG (zbn rfl zb4 (zyN (zar ?_)))
   refine zyB rfl h (fun h => ?_) (fun h => ?_)
   ·
    refine zax (zag (zar (zaK (zyG (zyR 2 rfl (zyH (zyR 2 rfl ?_)))))))
    refine zyR 1 rfl ?_
    obtain ⟨q1,hq1,h⟩:=zcp h
    refine zcF hws1 hq1 underlying68 zeR rfl dc rfl rfl rfl (zdj (n:=ks1+(x3:Int).toNat) (j:=0) (i:=0) (q:=q1) hrd rfl (by omega) zdk rfl dc rfl (Vw.get hws1 hq1) rfl rfl ?_)
    obtain ⟨r1,hq2,h⟩:=zcp h
    refine zbm (v:=.bool r1) (vs:=[zI q1]) hrd rfl dc rfl rfl rfl zwb (zgt (bc0:=bf10) (xc0:=xf10) (xc0_h0:=xf10_h0) (xc0_h1:=xf10_h1) hwf100 hwf101 hq2) (.ro 1 rfl (.ro 2 rfl (.ro 3 rfl .nil))) (zyN ?_)
    refine zyB rfl h (fun h => ?_) (fun h => ?_)
    ·
     refine zyG (zyR 2 rfl (zyN (zaE (zau (zao (zao (zau (zao ?_))))))))
     cases h
     exact zbN 4 results91
    refine zax (zah (zag (zad ?_)))
    obtain ⟨hg1,h⟩:=zcU h
    refine zbn rfl (zbs (r:=x3+1) (IntWalk.i64_in _ hg1)) (zyR 1 rfl (zap ?_))
    subst hag1
    exact zcM (n1,x3+1) h (Nat.lt_succ_self _) rfl (zbK rfl) Splits.nil
   refine zcy (zaV (zaV (zbh ?_)))
   exact zaB () h rfl (zeQ) Splits.nil
 rintro _ h
 rw [hj1] at h
 refine zyG (zyR 1 rfl (zyN (zaE ?_)))
 cases h
 exact zbN 4 results91
def zcD (s1:List Int) (xf10:zan):Option Bool := zaA (zc2 s1 xf10) fun (r1:Int) => some (decide ((0:Int)≤r1))
theorem zeA {vvs1 vs1:Value} {Ls1:List Int} {ks1:Nat} {s1:List Int} (hws1:Vw vvs1 Ls1 1 ks1 vs1 s1) {bf10:Nat} {xf10:zan} {xf10_h0 xf10_h1:Hd} {vvf100:Value} {kf100:Nat} {Lf100:List Int} (hwf100:Vw vvf100 Lf100 1 kf100 xf10_h0.v xf10.words) {vvf101:Value} {kf101:Nat} {Lf101:List Int} (hwf101:Vw vvf101 Lf101 1 kf101 xf10_h1.v xf10.readings) {r:Bool} (h:zcD s1 xf10=some r):FnR prog 72 [vs1,.func (.func 73) #[] #[zP bf10]] [zcR (zfH (.i64)) 1 vvs1 ks1 Ls1,cells bf10 [xf10_h0.v,xf10_h1.v] 70,zcR (zfH (.i64)) 1 vvf100 kf100 Lf100,zcR (zfH (.i64)) 1 vvf101 kf101 Lf101] [] (fun _:Unit=>(.bool r)) (fun _=>[]):=by
 unfold zcD at h
 refine FnR.intro func72 rfl ntmps72 (by simp) ?_
 intro w0 K hrd
 refine zyG (zyR 1 rfl (zyH (zyR 2 rfl ?_)))
 obtain ⟨r1,hq1,h⟩:=zcp h
 refine zbm (v:=zI r1) (vs:=[vs1,.func (.func 73) #[] #[zP bf10]]) hrd rfl dc rfl rfl rfl zvV (zeU (bf10:=bf10) (xf10:=xf10) (xf10_h0:=xf10_h0) (xf10_h1:=xf10_h1) hws1 hwf100 hwf101 hq1) (.ro 0 rfl (.ro 1 rfl (.ro 2 rfl (.ro 3 rfl .nil)))) (zbn rfl zbV (zyR 1 rfl (zyN (zaE ?_))))
 cases h
 exact zbN 4 results72
def zcV (c1:zan):Option Bool := zaA (zcD c1.readings c1) fun (r1:Bool) => some r1
theorem zgN {c1:zan} {c1_h0 c1_h1:Hd} {vvc10:Value} {kc10:Nat} {Lc10:List Int} (hwc10:Vw vvc10 Lc10 1 kc10 c1_h0.v c1.words) {vvc11:Value} {kc11:Nat} {Lc11:List Int} (hwc11:Vw vvc11 Lc11 1 kc11 c1_h1.v c1.readings) {r:Bool} (h:zcV c1=some r):FnR prog 47 [.agg #[c1_h0.v,c1_h1.v]] [zcR (zfH (.i64)) 1 vvc10 kc10 Lc10,zcR (zfH (.i64)) 1 vvc11 kc11 Lc11] [] (fun _:Unit=>(.bool r)) (fun _=>[]):=by
 unfold zcV at h
 refine FnR.intro func47 rfl ntmps47 (by simp) ?_
 intro w0 K hrd
 refine zyG ?_
 refine zdN rfl dc rfl (fun b1 => ?_)
 refine zyR 1 rfl (zyH (zac zku rfl dc rfl (show _=1 from rfl) (zat (k:=0) zlK rfl dc rfl rfl rfl (zdH (x1:=[]) (x2:=[.tmp 1]) rfl dc rfl rfl ?_))))
 obtain ⟨r1,hq1,h⟩:=zcp h
 refine zbm (v:=.bool r1) (vs:=[c1_h1.v,.func (.func 73) #[] #[zP b1]]) hrd rfl dc rfl rfl rfl zwc (zeA (bf10:=b1) (xf10:=c1) (xf10_h0:=c1_h0) (xf10_h1:=c1_h1) hwc11 hwc10 hwc11 hq1) (.ro 1 rfl (.own (zaa [0] kr rfl) (fun _ _ h=>sepL.one1.1 h) (.ro 0 rfl (.ro 1 rfl .nil)))) ?_
 refine zyR 1 rfl (zyN (zaE ?_))
 cases h
 exact zbN 2 results47
def zcm (t1:zai) (x1:Iwitness_tree) (j1:Int→Option Int) (ag1:Int→Int→Option Int) (n4:Int) (x4:Int):Option Int := zaL (decide ((x4:Int)<(t1.columns.length:Int))) ( zcd (fun (j2:Int→Option Int) => zaA (zeD t1.columns x4) fun (x5:zan) => zaA (zcV x5) fun (r1:Bool) => zaL (!r1) ( j2 n4
) ( zaA (zf3 x1 x5.readings) fun (r2:(Int×Int)) => grd (I64 (n4+r2.2)) <| j2 (n4+r2.2)
)
) (fun (n6:Int) => grd (I64 (x4+1)) <| ag1 n6 (x4+1)
)
) ( j1 n4
)
def zb9 (t1:zai) (x1:Iwitness_tree):Option Int := zcd (fun (j1:Int→Option Int) => zbq (fun _ _=>none) (zcm t1 x1 j1) zc9 0 0
) (fun (n1:Int) => some n1
)
theorem zfk {bt1:Nat} {t1:zai} {t1_h0 t1_h1 t1_h2 t1_h3 t1_h4:Hd} {x1:Iwitness_tree} {r:Int} (h:zb9 t1 x1=some r):FnR prog 26 [zP bt1,zab x1] [cells bt1 [t1_h0.v,t1_h1.v,t1_h2.v,t1_h3.v,t1_h4.v] 60,zv0 t1_h0.v t1.names,zv0 t1_h1.v t1.texts,zba zam zaf 62 1 t1_h2.v t1.spans,zba zaj zal 55 1 t1_h3.v t1.keys,zba zaq zak 70 2 t1_h4.v t1.columns] [] (fun _:Unit=>(zI r)) (fun _=>[]):=by
 unfold zb9 at h
 refine FnR.intro func26 rfl ntmps26 (by simp) ?_
 intro w0 K hrd
 refine zyG (zyR 1 rfl (zyN ?_))
 refine zh8 (β:=Unit) (l:=0) (fun _=>False) (fun _=>[]) (fun _=>[]) rfl ?_ ?_
 ·
  obtain ⟨j1,hj1,h⟩:=zcC h
  refine zbF (β:=Int) 2 rfl (fun b=>j1 b=some r) (fun b=>[]) (fun b=>[(5,zI b)]) (fun b=>[]) (fun cut => ?_) ?_
  ·
   refine zyG (zyR 1 rfl (zyN (zar (zmd (zag (cut (zyG (zyR 1 rfl (zav rfl dc rfl (zac zgH rfl dc rfl (show _=4 from rfl) ?_))))))))))
   refine zcf (i:=0) hrd rfl zlL rfl dc rfl rfl ?_
   obtain ⟨zs1,hz1,hV1,hrd⟩:=hrd.openN (i:=5) rfl zbz zhK
   replace hrd:Rd _ _ [cells bt1 [t1_h0.v,t1_h1.v,t1_h2.v,t1_h3.v,t1_h4.v] 60,zv0 t1_h0.v t1.names,zv0 t1_h1.v t1.texts,zba zam zaf 62 1 t1_h2.v t1.spans,zba zaj zal 55 1 t1_h3.v t1.keys,zba zaq zak 70 2 t1_h4.v t1.columns,zcR zaq 2 t1_h4.v 0 zs1,zhu zdh zs1]:=hrd
   refine zm5 hz1 hV1 rfl dc rfl underlying58 (zyR 1 rfl (zyN (zaK ?_)))
   refine zdy (β:=Nat×Int×Int) (fun b=>zbq (fun _ _=>none) (zcm t1 x1 j1) b.1 b.2.1 b.2.2=some r) (fun b=>[]) (fun b=>[(1,zab x1),(5,zI b.2.1),(13,t1_h4.v),(14,zI (t1.columns.length:Int)),(15,zI b.2.2)]) (fun b=>[]) (fun b=>b.1) (zc9,0,0) h rfl (zbK rfl) Splits.nil ?_
   rintro ⟨n5,n4,x4⟩ h
   cases n5 with
   | zero=>exact zfG h
   | succ n5 =>
    obtain ⟨ag1,hag1⟩:∃ ag,ag=zbq (fun _ _=>none) (zcm t1 x1 j1) n5:=⟨_,rfl⟩
    have h:zcm t1 x1 j1 ag1 n4 x4=some r:=by rw [hag1]; exact h
    unfold zcm at h
    refine zyG (zbn rfl zb4 (zyN (zar ?_)))
    refine zyB rfl h (fun h => ?_) (fun h => ?_)
    ·
     refine zax (zag ?_)
     obtain ⟨j2,hj2,h⟩:=zcC h
     refine zbF (β:=Int) 0 rfl (fun b=>j2 b=some r) (fun b=>[]) (fun b=>[(1,zab x1),(5,zI b),(13,t1_h4.v),(14,zI (t1.columns.length:Int)),(15,zI x4)]) (fun b=>[]) (fun cut => ?_) ?_
     ·
      refine cut (zaK (zyG ?_))
      obtain ⟨x5,hq1,h⟩:=zcp h
      obtain ⟨⟨eh1,eh2⟩,eq1⟩:=zgw hz1 hq1
      have hrd:Rd _ _ [cells bt1 [t1_h0.v,t1_h1.v,t1_h2.v,t1_h3.v,t1_h4.v] 60,zv0 t1_h0.v t1.names,zv0 t1_h1.v t1.texts,zba zam zaf 62 1 t1_h2.v t1.spans,zba zaj zal 55 1 t1_h3.v t1.keys,zba zaq zak 70 2 t1_h4.v t1.columns,zcR zaq 2 t1_h4.v 0 zs1,zhu zdh zs1,zjU (zfH (.i64)) 1 eh1 x5.words,zjU (zfH (.i64)) 1 eh2 x5.readings]:=hrd.openEl (i:=7) (z:=(x5,(eh1,eh2))) rfl (Vw.get hV1 eq1)
      obtain ⟨vv1,k1,L1,hV2,hrd⟩:=hrd.openSl (i:=8) rfl
      replace hrd:Rd _ _ [cells bt1 [t1_h0.v,t1_h1.v,t1_h2.v,t1_h3.v,t1_h4.v] 60,zv0 t1_h0.v t1.names,zv0 t1_h1.v t1.texts,zba zam zaf 62 1 t1_h2.v t1.spans,zba zaj zal 55 1 t1_h3.v t1.keys,zba zaq zak 70 2 t1_h4.v t1.columns,zcR zaq 2 t1_h4.v 0 zs1,zhu zdh zs1,zjU (zfH (.i64)) 1 eh1 x5.words,zjU (zfH (.i64)) 1 eh2 x5.readings,zcR (zfH (.i64)) 1 vv1 k1 L1]:=hrd
      obtain ⟨vv2,k2,L2,hV3,hrd⟩:=hrd.openSl (i:=9) rfl
      replace hrd:Rd _ _ [cells bt1 [t1_h0.v,t1_h1.v,t1_h2.v,t1_h3.v,t1_h4.v] 60,zv0 t1_h0.v t1.names,zv0 t1_h1.v t1.texts,zba zam zaf 62 1 t1_h2.v t1.spans,zba zaj zal 55 1 t1_h3.v t1.keys,zba zaq zak 70 2 t1_h4.v t1.columns,zcR zaq 2 t1_h4.v 0 zs1,zhu zdh zs1,zjU (zfH (.i64)) 1 eh1 x5.words,zjU (zfH (.i64)) 1 eh2 x5.readings,zcR (zfH (.i64)) 1 vv1 k1 L1,zcR (zfH (.i64)) 1 vv2 k2 L2]:=hrd
      refine zcF hV1 eq1 underlying58 znh rfl dc rfl rfl rfl (zja (m:=0+(x4:Int).toNat) (j:=0) (i:=6) (q:=(x5,(eh1,eh2))) (cs:=[eh1.v,eh2.v]) hrd rfl (by omega) zqO rfl dc rfl (Vw.get hV1 eq1) rfl rfl rfl ?_)
      refine za6 zvs rfl dc (fun b1 => ?_)
      refine za2 (k:=0) (vs:=[eh1.v,eh2.v]) (l':=[eh1.v,eh2.v]) znh rfl rfl rfl rfl rfl (show _≤_ by simp) rfl rfl ?_
      refine zyN (zar (zyG (zaZ (k:=0) (cs:=[eh1.v,eh2.v]) zqO rfl dc rfl rfl rfl rfl ?_)))
      obtain ⟨r1,hq2,h⟩:=zcp h
      refine zbm (v:=.bool r1) (vs:=[.agg #[eh1.v,eh2.v]]) hrd rfl dc rfl rfl rfl zwn (zgN (c1_h0:=eh1) (c1_h1:=eh2) (c1:=x5) hV2 hV3 hq2) (.ro 10 rfl (.ro 11 rfl .nil)) (zdM rfl dc rfl zcA (zyN ?_))
      refine zyB rfl h (fun h => ?_) (fun h => ?_)
      ·
       refine zcy (zaV (zbh ?_))
       exact zaB n4 h rfl (zbK rfl) Splits.nil
      refine zax (zag (zyG (zyR 1 rfl (zac zku rfl dc rfl (show _=1 from rfl) (zat (k:=0) zlK rfl dc rfl rfl rfl ?_)))))
      obtain ⟨r2,hq3,h⟩:=zcp h
      refine zbm (v:=.tuple #[.int .u64 r2.1,zI r2.2]) (vs:=[zab x1,eh2.v]) hrd rfl dc rfl rfl rfl ztp (zjf hV3 hq3) (.ro 11 rfl .nil) (zyR 1 rfl (zaJ rfl dc rfl rfl (zaJ rfl dc rfl rfl (zyR 2 rfl (zyN (zad (zyR 2 rfl ?_)))))))
      obtain ⟨hg1,h⟩:=zcU h
      refine zbn rfl (zbs (r:=n4+r2.2) (IntWalk.i64_in _ hg1)) (zyR 1 rfl (zap (zah ?_)))
      exact zaB (n4+r2.2) h rfl (zbK rfl) Splits.nil
     rintro n6 h
     rw [hj2] at h
     refine zad ?_
     obtain ⟨hg2,h⟩:=zcU h
     refine zbn rfl (zbs (r:=x4+1) (IntWalk.i64_in _ hg2)) (zyR 1 rfl (zap ?_))
     subst hag1
     exact zcM (n5,n6,x4+1) h (Nat.lt_succ_self _) rfl (zbK rfl) Splits.nil
    refine zcy (zaV (zaV (zbh ?_)))
    exact zaB n4 h rfl (zbK rfl) Splits.nil
  rintro n1 h
  rw [hj1] at h
  refine zyG (zyR 2 rfl (zyN (zaE (zfC (by simp) ?_))))
  cases h
  exact zbN 4 results26
 exact fun b hb=>hb.elim
def zcl (x1:Iwitness_tree) (ag1:Option (List Iwitness_tree)):Option (List Iwitness_tree) := zaA (zcO (Iwitness_tree.leaf 0) x1) fun (r2:Iwitness_tree) => zhU r2 <| ag1
def zcW (c0:zai):Option (List Iwitness_tree) := zaL (((c0.names.length:Int):Int)==1) ( zhU (Iwitness_tree.leaf 0) <| some []
) ( grd (0≤(c0.names.length:Int)) <| grd (U64 ((zmo .u64 1 (c0.names.length:Int)) - 2)) <| zaA (zet ((zmo .u64 1 (c0.names.length:Int)) - 2)) fun (r1:Int) => zaA (zgu r1) fun (its1:(List Iwitness_tree)) => zcd (fun (dn1:Option (List Iwitness_tree)) => zbZ dn1 (zcl) its1
) ( some []
)
)
theorem ze6 {b_c0 p_c0:Nat} {c0:zai} {c0_h0 c0_h1 c0_h2 c0_h3 c0_h4:Hd} {xs:(List Iwitness_tree)} (h:zcW c0=some xs):ItrR prog 43 [zP b_c0] (fun q:Iwitness_tree=>[zab q]) xs [cells b_c0 [zP p_c0] 24,cells p_c0 [c0_h0.v,c0_h1.v,c0_h2.v,c0_h3.v,c0_h4.v] 60,zv0 c0_h0.v c0.names,zv0 c0_h1.v c0.texts,zba zam zaf 62 1 c0_h2.v c0.spans,zba zaj zal 55 1 c0_h3.v c0.keys,zba zaq zak 70 2 c0_h4.v c0.columns,tz64A]:=by
 unfold zcW at h
 refine ItrR.intro func43 rfl ntmps43 (by simp) ?_
 intro l w0 K I X hrd hy
 obtain ⟨r0,hx0⟩:∃ r,xs=[]++r:=⟨xs,rfl⟩
 have hr0:xs=r0:=hx0
 rw [hr0] at h
 refine ze3 ?_
 refine zyG ?_
 refine zdN rfl dc rfl (fun b1 => ?_)
 refine zyN (zar (zaK (zyG (zcf (i:=0) hrd rfl zfr rfl dc rfl rfl (zbn rfl (zgL underlying24) (zyR 1 rfl (zyN (zaS rfl (zyG ?_)))))))))
 refine zcf (i:=0) hrd rfl zfr rfl dc rfl rfl (zav rfl dc rfl (zac zhQ rfl dc rfl (show _=0 from rfl) (zcf (i:=1) hrd rfl zic rfl dc rfl rfl (zfe (hrd.vw (i:=2) rfl) rfl dc rfl underlying55 (zbn rfl zaP (zyR 1 rfl (zyN ?_)))))))
 refine zyB rfl h (fun h => ?_) (fun h => ?_)
 ·
  refine zyG (zat (k:=2) zrR rfl dc rfl rfl rfl ?_)
  refine zbB (v:=.agg #[zI 0]) (ps:=[(0,.const (zI 0))]) rfl dc rfl (fun _=>by kernel_rfl) ?_
  refine zfE rfl dc rfl (zdi 0) ?_
  obtain ⟨rr1,hr1,h⟩:=zik h
  have hx1:xs=([]:List Iwitness_tree)++(Iwitness_tree.leaf 0)::rr1:=by rw [hx0,hr1]
  refine zcX hy rfl dc rfl hx1 rfl (k:=0) rfl ?_ ?_
  ·
   have hx2:xs=(([]:List Iwitness_tree)++[(Iwitness_tree.leaf 0)])++rr1:=by rw [hx1]; simp
   refine zyN (zaE (zau (zao ?_)))
   cases h
   exact zfD (ds:=([]:List Nat)) (.inl rfl) (zaT (k:=1) rfl) results43 (congrArg I (hx2.trans (List.append_nil _))) (zaa [0] kr rfl)
  refine zyN (zaE (zau (zao ?_)))
  exact zfi (ds:=([]:List Nat)) ([]:List Iwitness_tree) (Iwitness_tree.leaf 0) rr1 hx1 (.inl rfl) (zaT (k:=1) rfl) results43 (zaa [0] kr rfl)
 refine zax (zah (zag (zyG (zcf (i:=0) hrd rfl zfr rfl dc rfl rfl (zav rfl dc rfl (zac zhQ rfl dc rfl (show _=0 from rfl) (zcf (i:=1) hrd rfl zic rfl dc rfl rfl (zfe (hrd.vw (i:=2) rfl) rfl dc rfl underlying55 ?_))))))))
 obtain ⟨hg1,h⟩:=zcU h
 refine zbn rfl (zl8 hg1) ?_
 obtain ⟨hg2,h⟩:=zcU h
 refine zbn rfl (zfO (r:=(zmo .u64 1 (c0.names.length:Int)) - 2) (IntWalk.u64_in _ hg2)) ?_
 obtain ⟨r1,hq1,h⟩:=zcp h
 refine zdE (vs:=[.int .u64 ((zmo .u64 1 (c0.names.length:Int)) - 2)]) rfl dc rfl rfl rfl ztr (zfK hq1) Splits.nil ?_
 rintro b2
 refine zb6 (L':=[I [],zc0 ((([]:List Nat):List Nat).map zcu),cells b1 [.func (.yield l) #[] #[]] 110,cells b2 [.int .u64 r1] 112]) (zaa [0,1,2,3] kr rfl) (zyN (zaK ?_))
 obtain ⟨its1,hq2,h⟩:=zcp h
 obtain ⟨dn1,hdn1,h⟩:=zcC h
 refine zhX (α:=Iwitness_tree) (β:=(List Iwitness_tree)×(List Iwitness_tree)) (γ:=(List Iwitness_tree×Iwitness_tree×List Iwitness_tree)) (δ:=Unit) (ps:=[26]) hrd Ro.nil rfl ztk (zh9 hq2) (fun pre b=>(∀ post,its1=pre++post→zbZ dn1 (zcl) post=some b.2)∧xs=b.1++b.2) (fun pre b=>[I b.1,cells b1 [.func (.yield l) #[] #[]] 110]) (fun c pre g=>(fun g=>c=Code.ret∧xs=g.1++g.2.1::g.2.2) g) (fun c pre g=>(fun g=>[X (g.1++[g.2.1])]) g) (fun pre x b j=>[(2,zP b1),(25,.func (.func 64) #[] #[zP b2]),(3,zab x)]) (fun pre x b j=>[I b.1,cells b1 [.func (.yield l) #[] #[]] 110]) (([]:List Iwitness_tree),r0) ⟨fun post e=>(by rw [List.nil_append] at e; subst e; exact h),hx0⟩ (zaa [0,2] kr rfl) (.own (As:=[cells b2 [.int .u64 r1] 112]) (zaa [3] kr rfl) (fun _ _ h=>sepL.one1.1 h) (.ro 7 rfl .nil)) (fun _=>rfl) dc ?_ ?_ ?_ ?_
 ·
  rintro lp rc pre x1 post ⟨acc3,rr4⟩ w1 K1 hxs1 hext hro hinv
  have hrd:=hrd.ext hext
  have hy:=hy.later hext
  refine zad (zyR 1 rfl (zap ?_))
  exact fun a w ha hw=>⟨(),(zbK rfl) _ _ _ ha,hw.weaken (zaa [0,1] kr rfl)⟩
 ·
  rintro lp rc pre x1 post1 ⟨acc3,rr4⟩ _ w1 K1 hxs1 hext hro hinv
  have hrd:=hrd.ext hext
  have hy:=hy.later hext
  obtain ⟨hinv,hx5⟩:=hinv
  have h:=hinv (x1::post1) hxs1
  obtain ⟨ag1,hag1⟩:∃ ag,ag=zbZ dn1 (zcl) post1:=⟨_,rfl⟩
  have h:zcl x1 ag1=some rr4:=by have h2:=h; rw [zb3,← hag1] at h2; exact h2
  unfold zcl at h
  refine zaK (zar ?_)
  obtain ⟨r2,hq3,h⟩:=zcp h
  refine zbW 5 [(0,27,.func (.yield l) #[] #[]),(1,28,.agg #[zI 0]),(2,29,zab (Iwitness_tree.leaf 0)),(3,30,zab x1),(4,31,zab r2)] mixed kr kr dc (by rfl) kr kr (zae ?_ (zae ?_ (zae ?_ (zyP 1 3 rfl (zae ?_ DrawPre.nil))))) ?_
  · exact fun D n d c u i=>zat (k:=1) zrR rfl dc (za3 (by rfl) rfl) rfl rfl (zaI 0 u i)
  · exact fun D n d c u i=>zbB (v:=.agg #[zI 0]) (ps:=[(0,.const (zI 0))]) rfl dc (evP.cons rfl evP.nil) (fun _=>by kernel_rfl) (zaI 1 u i)
  · exact fun D n d c u i=>zfE rfl dc (zaH 1 u d) (zdi 0) (zaI 2 u i)
  · exact fun D n d c u i=>zbm (v:=zab r2) (vs:=[zab (Iwitness_tree.leaf 0),zab x1]) hrd rfl dc rfl (evL.cons (zaH 2 u d) (evL.cons (zaH 3 u d) evL.nil)) rfl zrl (zeS hq3) (.ro 7 rfl .nil) (zaI 4 u i)
  obtain ⟨rr5,hr2,h⟩:=zik h
  have hx6:xs=acc3++r2::rr5:=by rw [hx5,hr2]
  refine zcX hy rfl dc rfl hx6 rfl (k:=0) rfl ?_ ?_
  ·
   have hx7:xs=(acc3++[r2])++rr5:=by rw [hx6]; simp
   refine zdM rfl dc rfl zcA (zyN (zaS rfl (zax (zah ?_))))
   exact zcj (acc3++[r2],rr5) ⟨fun post2 e2=>(by have e9:=zcI hxs1 e2; subst e9; subst hag1; exact h),hx7⟩ (zaa [0,1] kr rfl)
  refine zdM rfl dc rfl zcA (zyN (zbw rfl (zaE (zau ?_))))
  exact zcv (acc3,r2,rr5) (show _∧_ from ⟨rfl,hx6⟩) (zaa [0] kr rfl)
 ·
  rintro dm1 ⟨acc3,rr4⟩ hinv
  obtain ⟨hinv,hx5⟩:=hinv
  have h:dn1=some rr4:=hinv [] (List.append_nil _).symm
  rw [hdn1] at h
  show TX _ _ _ _ _ _ _ [emp,zc0 ((([]:List Nat):List Nat).map zcu),emp,cells b2 [.int .u64 r1] 112,I acc3,cells b1 [.func (.yield l) #[] #[]] 110,zcu dm1]
  refine zds (k:=6) (j:=1) rfl rfl dc ?_
  refine zah ?_
  cases h
  exact zfD (ds:=(dm1::([]:List Nat))) (.inr rfl) (zaT (k:=1) rfl) results43 (congrArg I (hx5.trans (List.append_nil _))) (zaa [4] kr rfl)
 rintro dm1 c pre x1 post g hxs hX
 obtain ⟨ta1,tq1,tr1⟩:=g
 obtain ⟨rfl,hx8⟩:=(show _∧_ from hX)
 show TC _ _ _ _ _ _ _ _ _ [emp,zc0 ((([]:List Nat):List Nat).map zcu),emp,cells b2 [.int .u64 r1] 112,X (ta1++[tq1]),zcu dm1]
 refine zfj (k:=5) (j:=1) rfl rfl dc ?_
 refine zaE (zau ?_)
 exact zfi (ds:=(dm1::([]:List Nat))) ta1 tq1 tr1 hx8 (.inl rfl) (zaT (k:=1) rfl) results43 (zaa [4] kr rfl)
def zd2 (t1:zai):Option Unit := some ()
theorem zfI {bt1:Nat} {t1:zai} {t1_h0 t1_h1 t1_h2 t1_h3 t1_h4:Hd} {r:Unit} (h:zd2 t1=some r):FnR prog 24 [zP bt1] [cells bt1 [t1_h0.v,t1_h1.v,t1_h2.v,t1_h3.v,t1_h4.v] 60,zv0 t1_h0.v t1.names,zv0 t1_h1.v t1.texts,zba zam zaf 62 1 t1_h2.v t1.spans,zba zaj zal 55 1 t1_h3.v t1.keys,zba zaq zak 70 2 t1_h4.v t1.columns] [] (fun v0:Nat=>.func (.func 43) #[] #[zP v0]) (fun v0=>[cells v0 [zP bt1] 24]):=by
 unfold zd2 at h
 refine FnR.intro func24 rfl ntmps24 (by simp) ?_
 intro w0 K hrd
 refine zyG ?_
 refine zdN rfl dc rfl (fun b1 => ?_)
 refine zyR 1 rfl (zyH (zdH (x1:=[]) (x2:=[.tmp 1]) rfl dc rfl rfl (zyR 1 rfl (zyN (zaE ?_)))))
 cases h
 exact zbA (rs:=[.tmp 2]) b1 (.inl rfl) results24 (.cons (.tmp rfl) .nil) rfl (zaa [0] kr rfl)
def zcn (c0:zai) (x1:Iwitness_tree) (ag1:Option (List zBA)):Option (List zBA) := zaA (zcZ c0 x1) fun (r2:zBA) => zhU r2 <| ag1
def zdP (c0:zai):Option (List zBA) := zaA (zd2 c0) fun (r1:Unit) => zaA (zcW c0) fun (its1:(List Iwitness_tree)) => zcd (fun (dn1:Option (List zBA)) => zbZ dn1 (zcn c0) its1
) ( some []
)
theorem zgD {b_c0 p_c0:Nat} {c0:zai} {c0_h0 c0_h1 c0_h2 c0_h3 c0_h4:Hd} {xs:(List zBA)} (h:zdP c0=some xs):ItrR prog 23 [zP b_c0] (fun q:zBA=>[.string q]) xs [cells b_c0 [zP p_c0] 24,cells p_c0 [c0_h0.v,c0_h1.v,c0_h2.v,c0_h3.v,c0_h4.v] 60,zv0 c0_h0.v c0.names,zv0 c0_h1.v c0.texts,zba zam zaf 62 1 c0_h2.v c0.spans,zba zaj zal 55 1 c0_h3.v c0.keys,zba zaq zak 70 2 c0_h4.v c0.columns,tz64A]:=by
 unfold zdP at h
 refine ItrR.intro func23 rfl ntmps23 (by simp) ?_
 intro l w0 K I X hrd hy
 obtain ⟨r0,hx0⟩:∃ r,xs=[]++r:=⟨xs,rfl⟩
 have hr0:xs=r0:=hx0
 rw [hr0] at h
 refine ze3 ?_
 refine zyG ?_
 refine zdN rfl dc rfl (fun b1 => ?_)
 refine zyH (zcf (i:=0) hrd rfl zfr rfl dc rfl rfl ?_)
 obtain ⟨r1,hq1,h⟩:=zcp h
 refine zff (vs:=[zP p_c0]) hrd rfl dc rfl rfl rfl zuS (zfI (bt1:=p_c0) (t1:=c0) (t1_h0:=c0_h0) (t1_h1:=c0_h1) (t1_h2:=c0_h2) (t1_h3:=c0_h3) (t1_h4:=c0_h4) hq1) Splits.nil (.ro 1 rfl (.ro 2 rfl (.ro 3 rfl (.ro 4 rfl (.ro 5 rfl (.ro 6 rfl .nil)))))) ?_
 rintro b2
 refine zb6 (L':=[I [],zc0 ((([]:List Nat):List Nat).map zcu),cells b1 [.func (.yield l) #[] #[]] 76,cells b2 [zP p_c0] 24]) (zaa [0,1,2,3] kr rfl) (zyN (zaK ?_))
 obtain ⟨its1,hq2,h⟩:=zcp h
 obtain ⟨dn1,hdn1,h⟩:=zcC h
 refine zhX (α:=Iwitness_tree) (β:=(List zBA)×(List zBA)) (γ:=(List zBA×zBA×List zBA)) (δ:=Unit) (ps:=[6]) hrd Ro.nil rfl zuM (ze6 hq2) (fun pre b=>(∀ post,its1=pre++post→zbZ dn1 (zcn c0) post=some b.2)∧xs=b.1++b.2) (fun pre b=>[I b.1,cells b1 [.func (.yield l) #[] #[]] 76]) (fun c pre g=>(fun g=>c=Code.ret∧xs=g.1++g.2.1::g.2.2) g) (fun c pre g=>(fun g=>[X (g.1++[g.2.1])]) g) (fun pre x b j=>[(1,zP b_c0),(2,zP b1),(5,.func (.func 43) #[] #[zP b2]),(3,zab x)]) (fun pre x b j=>[I b.1,cells b1 [.func (.yield l) #[] #[]] 76]) (([]:List zBA),r0) ⟨fun post e=>(by rw [List.nil_append] at e; subst e; exact h),hx0⟩ (zaa [0,2] kr rfl) (.own (As:=[cells b2 [zP p_c0] 24]) (zaa [3] kr rfl) (fun _ _ h=>sepL.one1.1 h) (.ro 1 rfl (.ro 2 rfl (.ro 3 rfl (.ro 4 rfl (.ro 5 rfl (.ro 6 rfl (.ro 7 rfl .nil)))))))) (fun _=>rfl) dc ?_ ?_ ?_ ?_
 ·
  rintro lp rc pre x1 post ⟨acc3,rr3⟩ w1 K1 hxs1 hext hro hinv
  have hrd:=hrd.ext hext
  have hy:=hy.later hext
  refine zad (zyR 1 rfl (zap ?_))
  exact fun a w ha hw=>⟨(),(zbK rfl) _ _ _ ha,hw.weaken (zaa [0,1] kr rfl)⟩
 ·
  rintro lp rc pre x1 post1 ⟨acc3,rr3⟩ _ w1 K1 hxs1 hext hro hinv
  have hrd:=hrd.ext hext
  have hy:=hy.later hext
  obtain ⟨hinv,hx3⟩:=hinv
  have h:=hinv (x1::post1) hxs1
  obtain ⟨ag1,hag1⟩:∃ ag,ag=zbZ dn1 (zcn c0) post1:=⟨_,rfl⟩
  have h:zcn c0 x1 ag1=some rr3:=by have h2:=h; rw [zb3,← hag1] at h2; exact h2
  unfold zcn at h
  refine zaK (zar ?_)
  obtain ⟨r2,hq3,h⟩:=zcp h
  refine zbW 4 [(0,7,.func (.yield l) #[] #[]),(1,8,zP p_c0),(2,9,zab x1),(3,10,.string r2)] mixed kr kr dc (by rfl) kr kr (zae ?_ (zae ?_ (zyP 1 2 rfl (zae ?_ DrawPre.nil)))) ?_
  · exact fun D n d c u i=>zat (k:=1) zvG rfl dc (za3 (by rfl) rfl) rfl rfl (zaI 0 u i)
  · exact fun D n d c u i=>zcf (i:=0) hrd rfl zfr rfl dc (za3 (by rfl) rfl) rfl (zaI 1 u i)
  · exact fun D n d c u i=>zbm (v:=.string r2) (vs:=[zP p_c0,zab x1]) hrd rfl dc rfl (evL.cons (zaH 1 u d) (evL.cons (zaH 2 u d) evL.nil)) rfl zrm (zd3 (bt1:=p_c0) (t1:=c0) (t1_h0:=c0_h0) (t1_h1:=c0_h1) (t1_h2:=c0_h2) (t1_h3:=c0_h3) (t1_h4:=c0_h4) hq3) (.ro 1 rfl (.ro 2 rfl (.ro 3 rfl (.ro 4 rfl (.ro 5 rfl (.ro 6 rfl .nil)))))) (zaI 3 u i)
  obtain ⟨rr4,hr1,h⟩:=zik h
  have hx4:xs=acc3++r2::rr4:=by rw [hx3,hr1]
  refine zcX hy rfl dc rfl hx4 rfl (k:=0) rfl ?_ ?_
  ·
   have hx5:xs=(acc3++[r2])++rr4:=by rw [hx4]; simp
   refine zdM rfl dc rfl zcA (zyN (zaS rfl (zax (zah ?_))))
   exact zcj (acc3++[r2],rr4) ⟨fun post2 e2=>(by have e9:=zcI hxs1 e2; subst e9; subst hag1; exact h),hx5⟩ (zaa [0,1] kr rfl)
  refine zdM rfl dc rfl zcA (zyN (zbw rfl (zaE (zau ?_))))
  exact zcv (acc3,r2,rr4) (show _∧_ from ⟨rfl,hx4⟩) (zaa [0] kr rfl)
 ·
  rintro dm1 ⟨acc3,rr3⟩ hinv
  obtain ⟨hinv,hx3⟩:=hinv
  have h:dn1=some rr3:=hinv [] (List.append_nil _).symm
  rw [hdn1] at h
  show TX _ _ _ _ _ _ _ [emp,zc0 ((([]:List Nat):List Nat).map zcu),emp,cells b2 [zP p_c0] 24,I acc3,cells b1 [.func (.yield l) #[] #[]] 76,zcu dm1]
  refine zds (k:=6) (j:=1) rfl rfl dc ?_
  refine zah ?_
  cases h
  exact zfD (ds:=(dm1::([]:List Nat))) (.inr rfl) (zaT (k:=1) rfl) results23 (congrArg I (hx3.trans (List.append_nil _))) (zaa [4] kr rfl)
 rintro dm1 c pre x1 post g hxs hX
 obtain ⟨ta1,tq1,tr1⟩:=g
 obtain ⟨rfl,hx6⟩:=(show _∧_ from hX)
 show TC _ _ _ _ _ _ _ _ _ [emp,zc0 ((([]:List Nat):List Nat).map zcu),emp,cells b2 [zP p_c0] 24,X (ta1++[tq1]),zcu dm1]
 refine zfj (k:=5) (j:=1) rfl rfl dc ?_
 refine zaE (zau ?_)
 exact zfi (ds:=(dm1::([]:List Nat))) ta1 tq1 tr1 hx6 (.inl rfl) (zaT (k:=1) rfl) results23 (zaa [4] kr rfl)
def zeJ (t1:zai):Option Unit := some ()
theorem zht {bt1:Nat} {t1:zai} {t1_h0 t1_h1 t1_h2 t1_h3 t1_h4:Hd} {r:Unit} (h:zeJ t1=some r):FnR prog 8 [zP bt1] [cells bt1 [t1_h0.v,t1_h1.v,t1_h2.v,t1_h3.v,t1_h4.v] 60,zv0 t1_h0.v t1.names,zv0 t1_h1.v t1.texts,zba zam zaf 62 1 t1_h2.v t1.spans,zba zaj zal 55 1 t1_h3.v t1.keys,zba zaq zak 70 2 t1_h4.v t1.columns] [] (fun v0:Nat=>.func (.func 23) #[] #[zP v0]) (fun v0=>[cells v0 [zP bt1] 24]):=by
 unfold zeJ at h
 refine FnR.intro func8 rfl ntmps8 (by simp) ?_
 intro w0 K hrd
 refine zyG ?_
 refine zdN rfl dc rfl (fun b1 => ?_)
 refine zyR 1 rfl (zyH (zdH (x1:=[]) (x2:=[.tmp 1]) rfl dc rfl rfl (zyR 1 rfl (zyN (zaE ?_)))))
 cases h
 exact zbA (rs:=[.tmp 2]) b1 (.inl rfl) results8 (.cons (.tmp rfl) .nil) rfl (zaa [0] kr rfl)
def zcs (t1:zai) (x1:Iwitness_tree) (ag1:Iwitness_tree→Int→Int→Option (Iwitness_tree×Int×Int)) (first4:Iwitness_tree) (n4:Int) (ties4:Int):Option (Iwitness_tree×Int×Int) := zaA (zb9 t1 x1) fun (r2:Int) => zaL (first4.isnil) ( ag1 x1 r2 1
) ( zaL (decide ((r2:Int)<n4)) ( ag1 x1 r2 1
) ( zaL ((r2:Int)==n4) ( grd (I64 (ties4+1)) <| ag1 first4 n4 (ties4+1)
) ( ag1 first4 n4 ties4
)
)
)
def zdm (t1:zai):Option (Iwitness_tree×Int×Int) := zcd (fun (j1:Iwitness_tree→Int→Int→Option (Iwitness_tree×Int×Int)) => zaA (zd2 t1) fun (r1:Unit) => zaA (zcW t1) fun (its1:(List Iwitness_tree)) => zcd (fun (dn1:Iwitness_tree→Int→Int→Option (Iwitness_tree×Int×Int)) => zbZ dn1 (zcs t1) its1 Iwitness_tree.nil 0 0
) (fun (first4:Iwitness_tree) (n4:Int) (ties4:Int) => j1 first4 n4 ties4
)
) (fun (first1:Iwitness_tree) (n1:Int) (ties1:Int) => some (first1,n1,ties1)
)
theorem zfX {bt1:Nat} {t1:zai} {t1_h0 t1_h1 t1_h2 t1_h3 t1_h4:Hd} {r:(Iwitness_tree×Int×Int)} (h:zdm t1=some r):FnR prog 21 [zP bt1] [cells bt1 [t1_h0.v,t1_h1.v,t1_h2.v,t1_h3.v,t1_h4.v] 60,zv0 t1_h0.v t1.names,zv0 t1_h1.v t1.texts,zba zam zaf 62 1 t1_h2.v t1.spans,zba zaj zal 55 1 t1_h3.v t1.keys,zba zaq zak 70 2 t1_h4.v t1.columns,tz64A] [] (fun _:Unit=>(.tuple #[zab r.1,zI r.2.1,zI r.2.2])) (fun _=>[]):=by
 unfold zdm at h
 refine FnR.intro func21 rfl ntmps21 (by simp) ?_
 intro w0 K hrd
 refine ze3 ?_
 obtain ⟨j1,hj1,h⟩:=zcC h
 refine zbF (β:=Iwitness_tree×Int×Int×Nat×Nat×Nat×(List Nat)) 3 rfl (fun b=>j1 b.1 b.2.1 b.2.2.1=some r) (fun b=>zcK b.2.2.2.2.2.2) (fun b=>[(5,zP b.2.2.2.1),(6,zP b.2.2.2.2.1),(7,zP b.2.2.2.2.2.1)]) (fun b=>[cells b.2.2.2.1 [zab b.1] 72,cells b.2.2.2.2.1 [zI b.2.1] 3,cells b.2.2.2.2.2.1 [zI b.2.2.1] 3,zc0 ((b.2.2.2.2.2.2:List Nat).map zcu)]) (fun cut => ?_) ?_
 ·
  refine zyG ?_
  refine zdN rfl dc rfl (fun b4 => ?_)
  refine zyR 3 rfl (zyH ?_)
  refine za6 zt2 rfl dc (fun b5 => ?_)
  refine zyH ?_
  refine za6 zo6 rfl dc (fun b6 => ?_)
  refine za6 zo6 rfl dc (fun b7 => ?_)
  refine zaG (k:=3) (l':=[zI 0]) zeR rfl rfl rfl rfl rfl (fun _ _=>rfl) rfl ?_
  refine zaG (k:=4) (l':=[zI 0]) zeR rfl rfl rfl rfl rfl (fun _ _=>rfl) rfl ?_
  refine zyN (cut (zyG (zat (k:=1) zfr rfl dc rfl rfl rfl ?_)))
  obtain ⟨r1,hq1,h⟩:=zcp h
  refine zff (vs:=[zP bt1]) hrd rfl dc rfl rfl rfl zuS (zfI (bt1:=bt1) (t1:=t1) (t1_h0:=t1_h0) (t1_h1:=t1_h1) (t1_h2:=t1_h2) (t1_h3:=t1_h3) (t1_h4:=t1_h4) hq1) Splits.nil (.ro 0 rfl (.ro 1 rfl (.ro 2 rfl (.ro 3 rfl (.ro 4 rfl (.ro 5 rfl .nil)))))) ?_
  rintro b8
  refine zb6 (L':=[zc0 ((([]:List Nat):List Nat).map zcu),cells b4 [zP bt1] 24,cells b5 [zab Iwitness_tree.nil] 72,cells b6 [zI 0] 3,cells b7 [zI 0] 3,cells b8 [zP bt1] 24]) (zaa [0,1,2,3,4,5] kr rfl) (zyN (zaK ?_))
  obtain ⟨its1,hq2,h⟩:=zcp h
  obtain ⟨dn1,hdn1,h⟩:=zcC h
  refine zhX (α:=Iwitness_tree) (β:=Iwitness_tree×Int×Int) (γ:=Unit) (δ:=Unit) (ps:=[12]) hrd Ro.nil rfl zuM (ze6 hq2) (fun pre b=>∀ post,its1=pre++post→zbZ dn1 (zcs t1) post b.1 b.2.1 b.2.2=some r) (fun pre b=>[cells b4 [zP bt1] 24,cells b5 [zab b.1] 72,cells b6 [zI b.2.1] 3,cells b7 [zI b.2.2] 3]) (fun c pre g=>False) (fun c pre g=>[]) (fun pre x b j=>[(1,zP b4),(2,zab Iwitness_tree.nil),(3,zI 0),(4,zI 0),(5,zP b5),(6,zP b6),(7,zP b7),(11,.func (.func 43) #[] #[zP b8]),(8,zab x)]) (fun pre x b j=>[cells b4 [zP bt1] 24,cells b5 [zab b.1] 72,cells b6 [zI b.2.1] 3,cells b7 [zI b.2.2] 3]) (Iwitness_tree.nil,0,0) (fun post e=>by rw [List.nil_append] at e; subst e; exact h) (zaa [1,2,3,4] kr rfl) (.own (As:=[cells b8 [zP bt1] 24]) (zaa [5] kr rfl) (fun _ _ h=>sepL.one1.1 h) (.ro 0 rfl (.ro 1 rfl (.ro 2 rfl (.ro 3 rfl (.ro 4 rfl (.ro 5 rfl (.ro 6 rfl .nil)))))))) (fun _=>rfl) dc ?_ ?_ ?_ ?_
  ·
   rintro lp rc pre x1 post ⟨first4,n4,ties4⟩ w1 K1 hxs1 hext hro hinv
   have hrd:=hrd.ext hext
   refine zad (zyR 1 rfl (zap ?_))
   exact fun a w ha hw=>⟨(),(zbK rfl) _ _ _ ha,hw.weaken (zaa [0,1,2,3] kr rfl)⟩
  ·
   rintro lp rc pre x1 post1 ⟨first4,n4,ties4⟩ _ w1 K1 hxs1 hext hro hinv
   have hrd:=hrd.ext hext
   have h:=hinv (x1::post1) hxs1
   obtain ⟨ag1,hag1⟩:∃ ag,ag=zbZ dn1 (zcs t1) post1:=⟨_,rfl⟩
   have h:zcs t1 x1 ag1 first4 n4 ties4=some r:=by have h2:=h; rw [zb3,← hag1] at h2; exact h2
   unfold zcs at h
   refine zaK (zyG (zat (k:=0) zfr rfl dc rfl rfl rfl (zyR 1 rfl ?_)))
   obtain ⟨r2,hq3,h⟩:=zcp h
   refine zbm (v:=zI r2) (vs:=[zP bt1,zab x1]) hrd rfl dc rfl rfl rfl zuQ (zfk (bt1:=bt1) (t1:=t1) (t1_h0:=t1_h0) (t1_h1:=t1_h1) (t1_h2:=t1_h2) (t1_h3:=t1_h3) (t1_h4:=t1_h4) hq3) (.ro 0 rfl (.ro 1 rfl (.ro 2 rfl (.ro 3 rfl (.ro 4 rfl (.ro 5 rfl .nil)))))) (zyR 1 rfl (zyN (zaK (zyG (zat (k:=1) zjO rfl dc rfl rfl rfl (zbn rfl (zct first4) (zyR 1 rfl ?_)))))))
   refine zyS (s:=19) rfl h (fun h => ?_) (fun h => ?_)
   ·
    refine zyR 5 rfl (zyN (zbw rfl (zad (zyR 2 rfl ?_))))
    refine zaG (k:=1) (l':=[zab x1]) zsx rfl rfl rfl rfl rfl (fun _ _=>zbX _) rfl ?_
    refine zaG (k:=2) (l':=[zI r2]) zeR rfl rfl rfl rfl rfl (fun _ _=>rfl) rfl ?_
    refine zaG (k:=3) (l':=[zI 1]) zeR rfl rfl rfl rfl rfl (fun _ _=>rfl) rfl ?_
    refine zap (zah (zah ?_))
    exact zcj (x1,r2,1) (fun post2 e2=>by have e9:=zcI hxs1 e2; subst e9; subst hag1; exact h) (zaa [0,1,2,3] kr rfl)
   refine zyR 1 rfl (zat (k:=2) zdk rfl dc rfl rfl rfl (zbn rfl zb4 (zyR 2 rfl (zyN ?_))))
   refine zyB rfl h (fun h => ?_) (fun h => ?_)
   ·
    refine zad (zyR 2 rfl ?_)
    refine zaG (k:=1) (l':=[zab x1]) zsx rfl rfl rfl rfl rfl (fun _ _=>zbX _) rfl ?_
    refine zaG (k:=2) (l':=[zI r2]) zeR rfl rfl rfl rfl rfl (fun _ _=>rfl) rfl ?_
    refine zaG (k:=3) (l':=[zI 1]) zeR rfl rfl rfl rfl rfl (fun _ _=>rfl) rfl ?_
    refine zap (zah (zah ?_))
    exact zcj (x1,r2,1) (fun post2 e2=>by have e9:=zcI hxs1 e2; subst e9; subst hag1; exact h) (zaa [0,1,2,3] kr rfl)
   refine zyG (zyR 1 rfl (zat (k:=2) zdk rfl dc rfl rfl rfl (zbn rfl zaP (zyR 1 rfl (zyN ?_)))))
   refine zyB rfl h (fun h => ?_) (fun h => ?_)
   ·
    refine zad (zat (k:=3) zdk rfl dc rfl rfl rfl ?_)
    obtain ⟨hg1,h⟩:=zcU h
    refine zbn rfl (zbs (r:=ties4+1) (IntWalk.i64_in _ hg1)) ?_
    refine zaG (k:=3) (l':=[zI (ties4+1)]) zeR rfl rfl rfl rfl rfl (fun _ _=>rfl) rfl ?_
    refine zap (zah (zah ?_))
    exact zcj (first4,n4,ties4+1) (fun post2 e2=>by have e9:=zcI hxs1 e2; subst e9; subst hag1; exact h) (zaa [0,1,2,3] kr rfl)
   refine zax (zah (zah ?_))
   exact zcj (first4,n4,ties4) (fun post2 e2=>by have e9:=zcI hxs1 e2; subst e9; subst hag1; exact h) (zaa [0,1,2,3] kr rfl)
  ·
   rintro dm1 ⟨first4,n4,ties4⟩ hinv
   have h:dn1 first4 n4 ties4=some r:=hinv [] (List.append_nil _).symm
   rw [hdn1] at h
   show TX _ _ _ _ _ _ _ [zc0 ((([]:List Nat):List Nat).map zcu),emp,emp,emp,emp,cells b8 [zP bt1] 24,cells b4 [zP bt1] 24,cells b5 [zab first4] 72,cells b6 [zI n4] 3,cells b7 [zI ties4] 3,zcu dm1]
   refine zds (k:=10) (j:=0) rfl rfl dc ?_
   refine zah ?_
   exact zaB (first4,n4,ties4,b5,b6,b7,dm1::([]:List Nat)) h rfl (zbK rfl) (zaa [7,8,9,0] kr rfl)
  rintro dm1 c pre x1 post g hxs hX
  exact (show False from hX).elim
 rintro ⟨first1,n1,ties1,b1,b2,b3,ds1⟩ h
 rw [hj1] at h
 refine zar ?_
 refine zbW 5 [(0,32,zab first1),(1,33,zI n1),(2,34,zI ties1),(3,2,zab first1),(4,3,zI n1)] mixed kr kr dc (by rfl) kr kr (zae ?_ (zae ?_ (zae ?_ (zyP 2 3 rfl DrawPre.nil)))) ?_
 · exact fun D n d c u i=>zat (k:=0) zjO rfl dc (za3 (by rfl) rfl) rfl rfl (zaI 0 u i)
 · exact fun D n d c u i=>zat (k:=1) zdk rfl dc (za3 (by rfl) rfl) rfl rfl (zaI 1 u i)
 · exact fun D n d c u i=>zat (k:=2) zdk rfl dc (za3 (by rfl) rfl) rfl rfl (zaI 2 u i)
 refine zyR 1 rfl (zyN (zaE ?_))
 cases h
 exact zcE (rs:=[.tmp 2,.tmp 3,.tmp 4]) ds1 () (.inl rfl) (zaT (k:=3) rfl) results21 (.cons (.tmp rfl) (.cons (.tmp rfl) (.cons (.tmp rfl) .nil))) rfl Splits.nil
def zec (t1:zai):Option (zBA×Int) := zaA (zdm t1) fun (r1:(Iwitness_tree×Int×Int)) => zaL (r1.1.isnil) ( some ((⟨#[]⟩:zBA),0)
) ( zaA (zcZ t1 r1.1) fun (r2:zBA) => some (r2,r1.2.1)
)
theorem zhB {bt1:Nat} {t1:zai} {t1_h0 t1_h1 t1_h2 t1_h3 t1_h4:Hd} {r:(zBA×Int)} (h:zec t1=some r):FnR prog 7 [zP bt1] [cells bt1 [t1_h0.v,t1_h1.v,t1_h2.v,t1_h3.v,t1_h4.v] 60,zv0 t1_h0.v t1.names,zv0 t1_h1.v t1.texts,zba zam zaf 62 1 t1_h2.v t1.spans,zba zaj zal 55 1 t1_h3.v t1.keys,zba zaq zak 70 2 t1_h4.v t1.columns,tz64A] [] (fun _:Unit=>(.tuple #[.string r.1,zI r.2])) (fun _=>[]):=by
 unfold zec at h
 refine FnR.intro func7 rfl ntmps7 (by simp) ?_
 intro w0 K hrd
 refine zyG (zyR 2 rfl (zyH (zyR 1 rfl ?_)))
 obtain ⟨r1,hq1,h⟩:=zcp h
 refine zbm (v:=.tuple #[zab r1.1,zI r1.2.1,zI r1.2.2]) (vs:=[zP bt1]) hrd rfl dc rfl rfl rfl zuT (zfX (bt1:=bt1) (t1:=t1) (t1_h0:=t1_h0) (t1_h1:=t1_h1) (t1_h2:=t1_h2) (t1_h3:=t1_h3) (t1_h4:=t1_h4) hq1) (.ro 0 rfl (.ro 1 rfl (.ro 2 rfl (.ro 3 rfl (.ro 4 rfl (.ro 5 rfl (.ro 6 rfl .nil))))))) (zyR 1 rfl (zaJ rfl dc rfl rfl (zaJ rfl dc rfl rfl (zaJ rfl dc rfl rfl (zyR 3 rfl (zyN (zar (zyG (zyR 1 rfl ?_)))))))))
 refine zbn rfl (zct r1.1) (zyN ?_)
 refine zyB rfl h (fun h => ?_) (fun h => ?_)
 ·
  refine zyG (zyR 2 rfl (zyN (zaE (zao ?_))))
  cases h
  exact zbA (rs:=[.tmp 2,.tmp 3]) () (.inl rfl) results7 (.cons (.tmp rfl) (.cons (.tmp rfl) .nil)) rfl Splits.nil
 refine zax (zag (zyG (zyR 2 rfl ?_)))
 obtain ⟨r2,hq2,h⟩:=zcp h
 refine zbm (v:=.string r2) (vs:=[zP bt1,zab r1.1]) hrd rfl dc rfl rfl rfl zrm (zd3 (bt1:=bt1) (t1:=t1) (t1_h0:=t1_h0) (t1_h1:=t1_h1) (t1_h2:=t1_h2) (t1_h3:=t1_h3) (t1_h4:=t1_h4) hq2) (.ro 0 rfl (.ro 1 rfl (.ro 2 rfl (.ro 3 rfl (.ro 4 rfl (.ro 5 rfl .nil)))))) (zyR 3 rfl (zyN (zaE ?_)))
 cases h
 exact zbA (rs:=[.tmp 2,.tmp 3]) () (.inl rfl) results7 (.cons (.tmp rfl) (.cons (.tmp rfl) .nil)) rfl Splits.nil
def zdJ (t1:zai):Option Int := zaA (zdm t1) fun (r1:(Iwitness_tree×Int×Int)) => some r1.2.2
theorem zeK {bt1:Nat} {t1:zai} {t1_h0 t1_h1 t1_h2 t1_h3 t1_h4:Hd} {r:Int} (h:zdJ t1=some r):FnR prog 11 [zP bt1] [cells bt1 [t1_h0.v,t1_h1.v,t1_h2.v,t1_h3.v,t1_h4.v] 60,zv0 t1_h0.v t1.names,zv0 t1_h1.v t1.texts,zba zam zaf 62 1 t1_h2.v t1.spans,zba zaj zal 55 1 t1_h3.v t1.keys,zba zaq zak 70 2 t1_h4.v t1.columns,tz64A] [] (fun _:Unit=>(zI r)) (fun _=>[]):=by
 unfold zdJ at h
 refine FnR.intro func11 rfl ntmps11 (by simp) ?_
 intro w0 K hrd
 refine zyG (zyR 1 rfl (zyH (zyR 1 rfl ?_)))
 obtain ⟨r1,hq1,h⟩:=zcp h
 refine zbm (v:=.tuple #[zab r1.1,zI r1.2.1,zI r1.2.2]) (vs:=[zP bt1]) hrd rfl dc rfl rfl rfl zuT (zfX (bt1:=bt1) (t1:=t1) (t1_h0:=t1_h0) (t1_h1:=t1_h1) (t1_h2:=t1_h2) (t1_h3:=t1_h3) (t1_h4:=t1_h4) hq1) (.ro 0 rfl (.ro 1 rfl (.ro 2 rfl (.ro 3 rfl (.ro 4 rfl (.ro 5 rfl (.ro 6 rfl .nil))))))) (zyR 1 rfl (zaJ rfl dc rfl rfl (zaJ rfl dc rfl rfl (zaJ rfl dc rfl rfl (zyR 3 rfl (zyH (zyR 2 rfl ?_)))))))
 refine zyN (zaE ?_)
 cases h
 exact zbN 2 results11
def zbE (xbT:zai) (r1:Gwitness_reader) (c1:Int):Option (Bool×Gwitness_reader) := zcd (fun (j1:Option (Bool×Gwitness_reader)) => zaL (decide ((r1.at_:Int)<(r1.text.size:Int))) ( zaA (znv r1.text r1.at_) fun (c2:Int) => zaL ((c2:Int)==c1) ( grd (I64 (r1.at_+1)) <| some (true,(⟨r1.text,r1.at_+1,r1.seen⟩:Gwitness_reader))
) ( j1
)
) ( j1
)
) ( some (false,r1)
)
theorem zey {bT:Nat} {xbT:zai} {xbT_h0 xbT_h1 xbT_h2 xbT_h3 xbT_h4:Hd} {br1:Nat} {r1:Gwitness_reader} {c1:Int} {r:(Bool×Gwitness_reader)} (h:zbE xbT r1 c1=some r):FnR prog 69 [zP br1,.int .u8 c1] [cells bT [xbT_h0.v,xbT_h1.v,xbT_h2.v,xbT_h3.v,xbT_h4.v] 60,zv0 xbT_h0.v xbT.names,zv0 xbT_h1.v xbT.texts,zba zam zaf 62 1 xbT_h2.v xbT.spans,zba zaj zal 55 1 xbT_h3.v xbT.keys,zba zaq zak 70 2 xbT_h4.v xbT.columns] [cells br1 [zP bT,.string r1.text,zI r1.at_,.int .u64 r1.seen] 115] (fun _b:Unit=>.bool r.1) (fun _b=>[cells br1 [zP bT,.string r.2.text,zI r.2.at_,.int .u64 r.2.seen] 115]):=by
 unfold zbE at h
 refine FnR.intro func69 rfl ntmps69 (by simp) ?_
 intro w0 K hrd
 have hrd:Rd _ _ [cells bT [xbT_h0.v,xbT_h1.v,xbT_h2.v,xbT_h3.v,xbT_h4.v] 60,zv0 xbT_h0.v xbT.names,zv0 xbT_h1.v xbT.texts,zba zam zaf 62 1 xbT_h2.v xbT.spans,zba zaj zal 55 1 xbT_h3.v xbT.keys,zba zaq zak 70 2 xbT_h4.v xbT.columns,zcR zgA 1 xbT_h0.v 0 xbT.names]:=zlx (i:=1) hrd rfl zeF
 have hrd:Rd _ _ [cells bT [xbT_h0.v,xbT_h1.v,xbT_h2.v,xbT_h3.v,xbT_h4.v] 60,zv0 xbT_h0.v xbT.names,zv0 xbT_h1.v xbT.texts,zba zam zaf 62 1 xbT_h2.v xbT.spans,zba zaj zal 55 1 xbT_h3.v xbT.keys,zba zaq zak 70 2 xbT_h4.v xbT.columns,zcR zgA 1 xbT_h0.v 0 xbT.names,zcR zgA 1 xbT_h1.v 0 xbT.texts]:=zlx (i:=2) hrd rfl zeF
 obtain ⟨j1,hj1,h⟩:=zcC h
 refine zbF (β:=Unit) 1 rfl (fun b=>j1=some r) (fun b=>[]) (fun b=>[]) (fun b=>[cells br1 [zP bT,.string r1.text,zI r1.at_,.int .u64 r1.seen] 115]) (fun cut => ?_) ?_
 ·
  refine zyG (zyR 1 rfl (zyN (cut (zar ?_))))
  refine zej (b:=decide ((r1.at_:Int)<(r1.text.size:Int))) (fun hb1 => ?_) (fun hb1 => ?_)
  ·
   have h:=zg5 hb1 h
   obtain ⟨c2,hq1,h⟩:=zcp h
   refine zbW 21 [(0,5,zP br1),(1,6,zP br1),(2,7,.pointer (some ⟨br1,2,none⟩)),(3,8,zI r1.at_),(4,9,zP br1),(5,10,zP br1),(6,11,.pointer (some ⟨br1,1,none⟩)),(7,12,.string r1.text),(8,13,zI (r1.text.size:Int)),(9,14,.bool true),(10,15,.bool true),(11,16,zP br1),(12,17,zP br1),(13,18,.pointer (some ⟨br1,1,none⟩)),(14,19,.string r1.text),(15,20,zP br1),(16,21,zP br1),(17,22,.pointer (some ⟨br1,2,none⟩)),(18,23,zI r1.at_),(19,24,.int .u8 c2),(20,25,.int .u8 c1)] mixed kr kr dc (by rfl) kr kr (zyP 1 0 rfl (zae ?_ (zae ?_ (zae ?_ (zyP 1 4 rfl (zae ?_ (zae ?_ (zae ?_ (zae ?_ (zae ?_ (zyP 2 10 rfl (zae ?_ (zae ?_ (zae ?_ (zyP 1 15 rfl (zae ?_ (zae ?_ (zae ?_ (zae ?_ (zyP 1 20 rfl DrawPre.nil)))))))))))))))))))) ?_
   · exact fun D n d c u i=>zav rfl dc (zaH 0 u d) (zaI 1 u i)
   · exact fun D n d c u i=>zac zeq rfl dc (zaH 1 u d) (show _=2 from rfl) (zaI 2 u i)
   · exact fun D n d c u i=>zat (k:=0) zdk rfl dc (zaH 2 u d) rfl rfl (zaI 3 u i)
   · exact fun D n d c u i=>zav rfl dc (zaH 4 u d) (zaI 5 u i)
   · exact fun D n d c u i=>zac zi4 rfl dc (zaH 5 u d) (show _=1 from rfl) (zaI 6 u i)
   · exact fun D n d c u i=>zat (k:=0) zhH rfl dc (zaH 6 u d) rfl rfl (zaI 7 u i)
   · exact fun D n d c u i=>zdC rfl dc (zaH 7 u d) underlying9 (zaI 8 u i)
   · exact fun D n d c u i=>zaX rfl dc (zaH 3 u d) (zaH 8 u d) zb4 (zdt (show Value.bool (decide ((r1.at_:Int)<(r1.text.size:Int)))=Value.bool true from congrArg Value.bool hb1) (zaI 9 u i))
   · exact fun D n d c u i=>zav (zeY rfl (zaH 10 u d)) dc (zaH 11 u d) (zaI 12 u i)
   · exact fun D n d c u i=>zac zi4 (zeY rfl (zaH 10 u d)) dc (zaH 12 u d) (show _=1 from rfl) (zaI 13 u i)
   · exact fun D n d c u i=>zat (k:=0) zhH (zeY rfl (zaH 10 u d)) dc (zaH 13 u d) rfl rfl (zaI 14 u i)
   · exact fun D n d c u i=>zav (zeY rfl (zaH 10 u d)) dc (zaH 15 u d) (zaI 16 u i)
   · exact fun D n d c u i=>zac zeq (zeY rfl (zaH 10 u d)) dc (zaH 16 u d) (show _=2 from rfl) (zaI 17 u i)
   · exact fun D n d c u i=>zat (k:=0) zdk (zeY rfl (zaH 10 u d)) dc (zaH 17 u d) rfl rfl (zaI 18 u i)
   · exact fun D n d c u i=>zmc (zeY rfl (zaH 10 u d)) dc (zaH 14 u d) (zaH 18 u d) (zg2 underlying9 hq1) (zaI 19 u i)
   refine zbn rfl zaP (zyR 1 rfl (zyN ?_))
   refine zyB rfl h (fun h => ?_) (fun h => ?_)
   ·
    refine zyG (zyR 1 rfl (zav rfl dc rfl (zac zeq rfl dc rfl (show _=2 from rfl) (zat (k:=0) zdk rfl dc rfl rfl rfl ?_))))
    obtain ⟨hg1,h⟩:=zcU h
    refine zbn rfl (zbs (r:=r1.at_+1) (IntWalk.i64_in _ hg1)) (zav rfl dc rfl (zac zeq rfl dc rfl (show _=2 from rfl) ?_))
    refine zaG (k:=0) (l':=[zP bT,.string r1.text,zI (r1.at_+1),.int .u64 r1.seen]) zeR rfl rfl rfl rfl rfl (fun _ _=>rfl) rfl ?_
    refine zyH (zyR 1 rfl (zyN (zaE (zao ?_))))
    cases h
    exact zbA (rs:=[.tmp 4]) () (.inl rfl) results69 (.cons (.tmp rfl) .nil) rfl (zaa [0] kr rfl)
   refine zax ?_
   exact zaB () h rfl (zeQ) (zaa [0] kr rfl)
  have h:=zg6 hb1 h
  refine zbW 21 [(0,5,zP br1),(1,6,zP br1),(2,7,.pointer (some ⟨br1,2,none⟩)),(3,8,zI r1.at_),(4,9,zP br1),(5,10,zP br1),(6,11,.pointer (some ⟨br1,1,none⟩)),(7,12,.string r1.text),(8,13,zI (r1.text.size:Int)),(9,14,.bool false),(10,15,.bool false),(11,16,undef),(12,17,undef),(13,18,undef),(14,19,undef),(15,20,undef),(16,21,undef),(17,22,undef),(18,23,undef),(19,24,undef),(20,25,undef)] mixed kr kr dc (by rfl) kr kr (zyP 1 0 rfl (zae ?_ (zae ?_ (zae ?_ (zyP 1 4 rfl (zae ?_ (zae ?_ (zae ?_ (zae ?_ (zae ?_ (zyP 11 10 rfl DrawPre.nil))))))))))) ?_
  · exact fun D n d c u i=>zav rfl dc (zaH 0 u d) (zaI 1 u i)
  · exact fun D n d c u i=>zac zeq rfl dc (zaH 1 u d) (show _=2 from rfl) (zaI 2 u i)
  · exact fun D n d c u i=>zat (k:=0) zdk rfl dc (zaH 2 u d) rfl rfl (zaI 3 u i)
  · exact fun D n d c u i=>zav rfl dc (zaH 4 u d) (zaI 5 u i)
  · exact fun D n d c u i=>zac zi4 rfl dc (zaH 5 u d) (show _=1 from rfl) (zaI 6 u i)
  · exact fun D n d c u i=>zat (k:=0) zhH rfl dc (zaH 6 u d) rfl rfl (zaI 7 u i)
  · exact fun D n d c u i=>zdC rfl dc (zaH 7 u d) underlying9 (zaI 8 u i)
  · exact fun D n d c u i=>zaX rfl dc (zaH 3 u d) (zaH 8 u d) zb4 (zdt (show Value.bool (decide ((r1.at_:Int)<(r1.text.size:Int)))=Value.bool false from congrArg Value.bool hb1) (zaI 9 u i))
  refine zyR 2 rfl (zyN (zaS rfl (zax ?_)))
  exact zaB () h rfl (zeQ) (zaa [0] kr rfl)
 rintro _ h
 rw [hj1] at h
 refine zyG (zyR 1 rfl (zyN (zaE ?_)))
 cases h
 exact zbA (rs:=[.tmp 4]) () (.inl rfl) results69 (.cons (.tmp rfl) .nil) rfl (zaa [0] kr rfl)
def zbL (rcall:zai→Gwitness_reader→Option (Iwitness_tree×Gwitness_reader)) (xbT:zai) (r1:Gwitness_reader):Option (Iwitness_tree×Gwitness_reader) := zaA (zbE xbT r1 40) fun (r2:(Bool×Gwitness_reader)) => zaL (r2.1) ( zaA (rcall xbT r2.2) fun (r3:(Iwitness_tree×Gwitness_reader)) => zaL (r3.1.isnil) ( some (Iwitness_tree.nil,r3.2)
) ( zaA (zbE xbT r3.2 44) fun (r4:(Bool×Gwitness_reader)) => zaL (!r4.1) ( some (Iwitness_tree.nil,r4.2)
) ( zaA (rcall xbT r4.2) fun (r5:(Iwitness_tree×Gwitness_reader)) => zaL (r5.1.isnil) ( some (Iwitness_tree.nil,r5.2)
) ( zaA (zbE xbT r5.2 41) fun (r6:(Bool×Gwitness_reader)) => zaL (!r6.1) ( some (Iwitness_tree.nil,r6.2)
) ( zaA (zcO r3.1 r5.1) fun (r7:Iwitness_tree) => some (r7,r6.2)
)
)
)
)
) ( grd (0≤(r2.2.at_:Int)∧(r2.2.at_:Int)≤(r2.2.text.size:Int)∧((r2.2.text.size:Int):Int)≤(r2.2.text.size:Int)) <| zaA (zdz (zgT r2.2.text r2.2.at_ (r2.2.text.size:Int))) fun (r8:(Int×Int)) => grd (I64 (r2.2.at_+r8.1)) <| grd (0≤(r2.2.at_:Int)∧(r2.2.at_:Int)≤(r2.2.at_+r8.1)∧(r2.2.at_+r8.1:Int)≤(r2.2.text.size:Int)) <| zaA (zbu xbT.names (zgT r2.2.text r2.2.at_ (r2.2.at_+r8.1))) fun (r9:Int) => zaL (decide ((r9:Int)<0)) ( some (Iwitness_tree.nil,r2.2)
) ( grd (0≤r9) <| zaL (((zaM .u64 (zbl .u64 r2.2.seen r9) 1):Int)==1) ( some (Iwitness_tree.nil,r2.2)
) ( grd (0≤r9) <| grd (I64 (r2.2.at_+r8.1)) <| some ((Iwitness_tree.leaf r9),(⟨r2.2.text,r2.2.at_+r8.1,orI .u64 r2.2.seen (zmo .u64 1 r9)⟩:Gwitness_reader))
)
)
)
def zeI (xbT:zai) (r1:Gwitness_reader):Option (Iwitness_tree×Gwitness_reader):=zbq (fun _ _=>none) zbL zc9 xbT r1
theorem zhs (n:Nat):∀ {bT:Nat} {xbT:zai} {xbT_h0 xbT_h1 xbT_h2 xbT_h3 xbT_h4:Hd} {br1:Nat} {r1:Gwitness_reader} {r:(Iwitness_tree×Gwitness_reader)} (_:zbq (fun _ _=>none) zbL n xbT r1=some r),FnR prog 45 [zP br1] [cells bT [xbT_h0.v,xbT_h1.v,xbT_h2.v,xbT_h3.v,xbT_h4.v] 60,zv0 xbT_h0.v xbT.names,zv0 xbT_h1.v xbT.texts,zba zam zaf 62 1 xbT_h2.v xbT.spans,zba zaj zal 55 1 xbT_h3.v xbT.keys,zba zaq zak 70 2 xbT_h4.v xbT.columns,tz64A] [cells br1 [zP bT,.string r1.text,zI r1.at_,.int .u64 r1.seen] 115] (fun _b:Unit=>zab r.1) (fun _b=>[cells br1 [zP bT,.string r.2.text,zI r.2.at_,.int .u64 r.2.seen] 115]):=by
 induction n with
 | zero=>intro bT xbT xbT_h0 xbT_h1 xbT_h2 xbT_h3 xbT_h4 br1 r1 r h; exact zfG h
 | succ n hrec =>
 intro bT xbT xbT_h0 xbT_h1 xbT_h2 xbT_h3 xbT_h4 br1 r1 r h
 rw [zbk] at h
 revert hrec h
 generalize zbq (fun _ _=>none) zbL n=rcall
 intro hrec h
 unfold zbL at h
 refine FnR.intro func45 rfl ntmps45 (by simp) ?_
 intro w0 K hrd
 have hrd:Rd _ _ [cells bT [xbT_h0.v,xbT_h1.v,xbT_h2.v,xbT_h3.v,xbT_h4.v] 60,zv0 xbT_h0.v xbT.names,zv0 xbT_h1.v xbT.texts,zba zam zaf 62 1 xbT_h2.v xbT.spans,zba zaj zal 55 1 xbT_h3.v xbT.keys,zba zaq zak 70 2 xbT_h4.v xbT.columns,tz64A,zcR zgA 1 xbT_h0.v 0 xbT.names]:=zlx (i:=1) hrd rfl zeF
 have hrd:Rd _ _ [cells bT [xbT_h0.v,xbT_h1.v,xbT_h2.v,xbT_h3.v,xbT_h4.v] 60,zv0 xbT_h0.v xbT.names,zv0 xbT_h1.v xbT.texts,zba zam zaf 62 1 xbT_h2.v xbT.spans,zba zaj zal 55 1 xbT_h3.v xbT.keys,zba zaq zak 70 2 xbT_h4.v xbT.columns,tz64A,zcR zgA 1 xbT_h0.v 0 xbT.names,zcR zgA 1 xbT_h1.v 0 xbT.texts]:=zlx (i:=2) hrd rfl zeF
 refine zyG (zyR 1 rfl (zyN (zar (zyG (zyR 1 rfl ?_)))))
 obtain ⟨r2,hq1,h⟩:=zcp h
 refine zff (vs:=[zP br1,.int .u8 40]) hrd rfl dc rfl rfl rfl ztj (zey (bT:=bT) (xbT:=xbT) (xbT_h0:=xbT_h0) (xbT_h1:=xbT_h1) (xbT_h2:=xbT_h2) (xbT_h3:=xbT_h3) (xbT_h4:=xbT_h4) (br1:=br1) (r1:=r1) hq1) (zaa [0] kr rfl) (.ro 0 rfl (.ro 1 rfl (.ro 2 rfl (.ro 3 rfl (.ro 4 rfl (.ro 5 rfl .nil)))))) ?_
 rintro _
 refine zb6 (L':=[cells br1 [zP bT,.string r2.2.text,zI r2.2.at_,.int .u64 r2.2.seen] 115]) (zaa [1] kr rfl) (zyN ?_)
 refine zyB rfl h (fun h => ?_) (fun h => ?_)
 ·
  refine zyG (zyR 1 rfl ?_)
  obtain ⟨r3,hq2,h⟩:=zcp h
  refine zff (vs:=[zP br1]) hrd rfl dc rfl rfl rfl ztq (hrec (bT:=bT) (xbT:=xbT) (xbT_h0:=xbT_h0) (xbT_h1:=xbT_h1) (xbT_h2:=xbT_h2) (xbT_h3:=xbT_h3) (xbT_h4:=xbT_h4) (br1:=br1) (r1:=r2.2) hq2) (zaa [0] kr rfl) (.ro 0 rfl (.ro 1 rfl (.ro 2 rfl (.ro 3 rfl (.ro 4 rfl (.ro 5 rfl (.ro 6 rfl .nil))))))) ?_
  rintro _
  refine zb6 (L':=[cells br1 [zP bT,.string r3.2.text,zI r3.2.at_,.int .u64 r3.2.seen] 115]) (zaa [1] kr rfl) (zyR 1 rfl (zyN (zar (zyG (zyR 1 rfl (zbn rfl (zct r3.1) (zyR 1 rfl ?_)))))))
  refine zyS (s:=14) rfl h (fun h => ?_) (fun h => ?_)
  ·
   refine zyR 4 rfl (zyN (zbw rfl (zyG (zyR 1 rfl (zyN (zaE (zao ?_)))))))
   refine zao ?_
   cases h
   exact zbA (rs:=[.tmp 2]) () (.inl rfl) results45 (.cons (.tmp rfl) .nil) rfl (zaa [0] kr rfl)
  refine zyR 1 rfl ?_
  obtain ⟨r4,hq3,h⟩:=zcp h
  refine zff (vs:=[zP br1,.int .u8 44]) hrd rfl dc rfl rfl rfl ztj (zey (bT:=bT) (xbT:=xbT) (xbT_h0:=xbT_h0) (xbT_h1:=xbT_h1) (xbT_h2:=xbT_h2) (xbT_h3:=xbT_h3) (xbT_h4:=xbT_h4) (br1:=br1) (r1:=r3.2) hq3) (zaa [0] kr rfl) (.ro 0 rfl (.ro 1 rfl (.ro 2 rfl (.ro 3 rfl (.ro 4 rfl (.ro 5 rfl .nil)))))) ?_
  rintro _
  refine zb6 (L':=[cells br1 [zP bT,.string r4.2.text,zI r4.2.at_,.int .u64 r4.2.seen] 115]) (zaa [1] kr rfl) (zdM rfl dc rfl zcA (zyR 1 rfl (zyN ?_)))
  refine zyB rfl h (fun h => ?_) (fun h => ?_)
  ·
   refine zyG (zyR 1 rfl (zyN (zaE (zao (zao ?_)))))
   cases h
   exact zbA (rs:=[.tmp 2]) () (.inl rfl) results45 (.cons (.tmp rfl) .nil) rfl (zaa [0] kr rfl)
  refine zax (zag (zyG (zyR 1 rfl ?_)))
  obtain ⟨r5,hq4,h⟩:=zcp h
  refine zff (vs:=[zP br1]) hrd rfl dc rfl rfl rfl ztq (hrec (bT:=bT) (xbT:=xbT) (xbT_h0:=xbT_h0) (xbT_h1:=xbT_h1) (xbT_h2:=xbT_h2) (xbT_h3:=xbT_h3) (xbT_h4:=xbT_h4) (br1:=br1) (r1:=r4.2) hq4) (zaa [0] kr rfl) (.ro 0 rfl (.ro 1 rfl (.ro 2 rfl (.ro 3 rfl (.ro 4 rfl (.ro 5 rfl (.ro 6 rfl .nil))))))) ?_
  rintro _
  refine zb6 (L':=[cells br1 [zP bT,.string r5.2.text,zI r5.2.at_,.int .u64 r5.2.seen] 115]) (zaa [1] kr rfl) (zyR 1 rfl (zyN (zar (zyG (zyR 1 rfl (zbn rfl (zct r5.1) (zyR 1 rfl ?_)))))))
  refine zyS (s:=23) rfl h (fun h => ?_) (fun h => ?_)
  ·
   refine zyR 4 rfl (zyN (zbw rfl (zyG (zyR 1 rfl (zyN (zaE (zao ?_)))))))
   refine zao ?_
   cases h
   exact zbA (rs:=[.tmp 2]) () (.inl rfl) results45 (.cons (.tmp rfl) .nil) rfl (zaa [0] kr rfl)
  refine zyR 1 rfl ?_
  obtain ⟨r6,hq5,h⟩:=zcp h
  refine zff (vs:=[zP br1,.int .u8 41]) hrd rfl dc rfl rfl rfl ztj (zey (bT:=bT) (xbT:=xbT) (xbT_h0:=xbT_h0) (xbT_h1:=xbT_h1) (xbT_h2:=xbT_h2) (xbT_h3:=xbT_h3) (xbT_h4:=xbT_h4) (br1:=br1) (r1:=r5.2) hq5) (zaa [0] kr rfl) (.ro 0 rfl (.ro 1 rfl (.ro 2 rfl (.ro 3 rfl (.ro 4 rfl (.ro 5 rfl .nil)))))) ?_
  rintro _
  refine zb6 (L':=[cells br1 [zP bT,.string r6.2.text,zI r6.2.at_,.int .u64 r6.2.seen] 115]) (zaa [1] kr rfl) (zdM rfl dc rfl zcA (zyR 1 rfl (zyN ?_)))
  refine zyB rfl h (fun h => ?_) (fun h => ?_)
  ·
   refine zyG (zyR 1 rfl (zyN (zaE (zao (zao ?_)))))
   cases h
   exact zbA (rs:=[.tmp 2]) () (.inl rfl) results45 (.cons (.tmp rfl) .nil) rfl (zaa [0] kr rfl)
  refine zax (zag (zyG (zyR 2 rfl ?_)))
  obtain ⟨r7,hq6,h⟩:=zcp h
  refine zbm (v:=zab r7) (vs:=[zab r3.1,zab r5.1]) hrd rfl dc rfl rfl rfl zrl (zeS hq6) (.ro 6 rfl .nil) (zyR 1 rfl (zyN (zaE (zao ?_))))
  cases h
  exact zbA (rs:=[.tmp 2]) () (.inl rfl) results45 (.cons (.tmp rfl) .nil) rfl (zaa [0] kr rfl)
 refine zax (zag (zar ?_))
 obtain ⟨hg1,h⟩:=zcU h
 obtain ⟨r8,hq7,h⟩:=zcp h
 refine zbW 14 [(0,32,zP br1),(1,33,zP br1),(2,34,.pointer (some ⟨br1,1,none⟩)),(3,35,.string r2.2.text),(4,36,zP br1),(5,37,zP br1),(6,38,.pointer (some ⟨br1,2,none⟩)),(7,39,zI r2.2.at_),(8,40,.string (zgT r2.2.text r2.2.at_ (r2.2.text.size:Int))),(9,41,.tuple #[zI r8.1,zI r8.2]),(10,31,.tuple #[zI r8.1,zI r8.2]),(11,42,zI r8.1),(12,43,zI r8.2),(13,5,zI r8.1)] mixed kr kr dc (by rfl) kr kr (zyP 1 0 rfl (zae ?_ (zae ?_ (zae ?_ (zyP 1 4 rfl (zae ?_ (zae ?_ (zae ?_ (zae ?_ (zae ?_ (zyP 1 10 rfl (zae ?_ (zae ?_ (zyP 1 13 rfl DrawPre.nil)))))))))))))) ?_
 · exact fun D n d c u i=>zav rfl dc (zaH 0 u d) (zaI 1 u i)
 · exact fun D n d c u i=>zac zi4 rfl dc (zaH 1 u d) (show _=1 from rfl) (zaI 2 u i)
 · exact fun D n d c u i=>zat (k:=0) zhH rfl dc (zaH 2 u d) rfl rfl (zaI 3 u i)
 · exact fun D n d c u i=>zav rfl dc (zaH 4 u d) (zaI 5 u i)
 · exact fun D n d c u i=>zac zeq rfl dc (zaH 5 u d) (show _=2 from rfl) (zaI 6 u i)
 · exact fun D n d c u i=>zat (k:=0) zdk rfl dc (zaH 6 u d) rfl rfl (zaI 7 u i)
 · exact fun D n d c u i=>zeG rfl dc (zaH 3 u d) (evO.some (zaH 7 u d)) evO.none (zek (i:=r2.2.at_) (j:=(r2.2.text.size:Int)) underlying9 (.inr rfl) (.inl ⟨rfl,rfl⟩) hg1) (zaI 8 u i)
 · exact fun D n d c u i=>zbv (v:=.tuple #[zI r8.1,zI r8.2]) (vs:=[.string (zgT r2.2.text r2.2.at_ (r2.2.text.size:Int))]) rfl dc rfl (evL.cons (zaH 8 u d) evL.nil) rfl zuU (zhh hq7) (zaI 9 u i)
 · exact fun D n d c u i=>zaJ rfl dc (zaH 10 u d) rfl (zaI 11 u i)
 · exact fun D n d c u i=>zaJ rfl dc (zaH 10 u d) rfl (zaI 12 u i)
 refine zyR 1 rfl (zyN (zar ?_))
 obtain ⟨hg2,h⟩:=zcU h
 obtain ⟨hg3,h⟩:=zcU h
 obtain ⟨r9,hq8,h⟩:=zcp h
 refine zbW 22 [(0,44,zP br1),(1,45,zP br1),(2,46,zP br1),(3,47,zP bT),(4,48,zP bT),(5,49,zP bT),(6,50,xbT_h0.v),(7,51,zP br1),(8,52,zP br1),(9,53,.pointer (some ⟨br1,1,none⟩)),(10,54,.string r2.2.text),(11,55,zP br1),(12,56,zP br1),(13,57,.pointer (some ⟨br1,2,none⟩)),(14,58,zI r2.2.at_),(15,59,zP br1),(16,60,zP br1),(17,61,.pointer (some ⟨br1,2,none⟩)),(18,62,zI r2.2.at_),(19,63,zI r8.1),(20,64,zI (r2.2.at_+r8.1)),(21,65,.string (zgT r2.2.text r2.2.at_ (r2.2.at_+r8.1)))] mixed kr kr dc (by rfl) kr kr (zyP 1 0 rfl (zae ?_ (zae ?_ (zae ?_ (zae ?_ (zae ?_ (zae ?_ (zyP 1 7 rfl (zae ?_ (zae ?_ (zae ?_ (zyP 1 11 rfl (zae ?_ (zae ?_ (zae ?_ (zyP 1 15 rfl (zae ?_ (zae ?_ (zae ?_ (zyP 1 19 rfl (zae ?_ (zae ?_ DrawPre.nil)))))))))))))))))))))) ?_
 · exact fun D n d c u i=>zav rfl dc (zaH 0 u d) (zaI 1 u i)
 · exact fun D n d c u i=>zac zrd rfl dc (zaH 1 u d) (show _=0 from rfl) (zaI 2 u i)
 · exact fun D n d c u i=>zat (k:=0) zfr rfl dc (zaH 2 u d) rfl rfl (zaI 3 u i)
 · exact fun D n d c u i=>zav rfl dc (zaH 3 u d) (zaI 4 u i)
 · exact fun D n d c u i=>zac zhQ rfl dc (zaH 4 u d) (show _=0 from rfl) (zaI 5 u i)
 · exact fun D n d c u i=>zcf (i:=0) hrd rfl zic rfl dc (zaH 5 u d) rfl (zaI 6 u i)
 · exact fun D n d c u i=>zav rfl dc (zaH 7 u d) (zaI 8 u i)
 · exact fun D n d c u i=>zac zi4 rfl dc (zaH 8 u d) (show _=1 from rfl) (zaI 9 u i)
 · exact fun D n d c u i=>zat (k:=0) zhH rfl dc (zaH 9 u d) rfl rfl (zaI 10 u i)
 · exact fun D n d c u i=>zav rfl dc (zaH 11 u d) (zaI 12 u i)
 · exact fun D n d c u i=>zac zeq rfl dc (zaH 12 u d) (show _=2 from rfl) (zaI 13 u i)
 · exact fun D n d c u i=>zat (k:=0) zdk rfl dc (zaH 13 u d) rfl rfl (zaI 14 u i)
 · exact fun D n d c u i=>zav rfl dc (zaH 15 u d) (zaI 16 u i)
 · exact fun D n d c u i=>zac zeq rfl dc (zaH 16 u d) (show _=2 from rfl) (zaI 17 u i)
 · exact fun D n d c u i=>zat (k:=0) zdk rfl dc (zaH 17 u d) rfl rfl (zaI 18 u i)
 · exact fun D n d c u i=>zaX rfl dc (zaH 18 u d) (zaH 19 u d) (zbs (r:=r2.2.at_+r8.1) (IntWalk.i64_in _ hg2)) (zaI 20 u i)
 · exact fun D n d c u i=>zeG rfl dc (zaH 10 u d) (evO.some (zaH 14 u d)) (evO.some (zaH 20 u d)) (zek (i:=r2.2.at_) (j:=r2.2.at_+r8.1) underlying9 (.inr rfl) (.inr rfl) hg3) (zaI 21 u i)
 refine zbm (v:=zI r9) (vs:=[xbT_h0.v,.string (zgT r2.2.text r2.2.at_ (r2.2.at_+r8.1))]) hrd rfl dc rfl rfl rfl zts (zdr (hrd.vw (i:=1) rfl) hq8) (.ro 7 rfl .nil) (zyR 1 rfl (zyN (zar (zyG (zyR 1 rfl (zbn rfl zb4 (zyR 1 rfl ?_)))))))
 refine zyS (s:=69) rfl h (fun h => ?_) (fun h => ?_)
 ·
  refine zyR 9 rfl (zyN (zbw rfl (zyG ?_)))
  refine zyR 1 rfl (zyN (zaE (zao ?_)))
  cases h
  exact zbA (rs:=[.tmp 2]) () (.inl rfl) results45 (.cons (.tmp rfl) .nil) rfl (zaa [0] kr rfl)
 refine zyR 1 rfl (zav rfl dc rfl (zac zj1 rfl dc rfl (show _=3 from rfl) (zat (k:=0) zfs rfl dc rfl rfl rfl (zyR 1 rfl ?_))))
 obtain ⟨hg4,h⟩:=zcU h
 refine zbn rfl (ziG hg4) (zbn rfl zfz (zbn rfl zaP (zyR 1 rfl (zyN ?_))))
 refine zyB rfl h (fun h => ?_) (fun h => ?_)
 ·
  refine zyG (zyR 1 rfl (zyN (zaE (zao ?_))))
  cases h
  exact zbA (rs:=[.tmp 2]) () (.inl rfl) results45 (.cons (.tmp rfl) .nil) rfl (zaa [0] kr rfl)
 refine zax (zag (zar ?_))
 obtain ⟨hg5,h⟩:=zcU h
 refine zbW 6 [(0,79,zP br1),(1,80,zP br1),(2,81,.pointer (some ⟨br1,3,none⟩)),(3,82,.int .u64 r2.2.seen),(4,83,zI r9),(5,84,.int .u64 (zmo .u64 1 r9))] mixed kr kr dc (by rfl) kr kr (zyP 1 0 rfl (zae ?_ (zae ?_ (zae ?_ (zyP 1 4 rfl (zae ?_ DrawPre.nil)))))) ?_
 · exact fun D n d c u i=>zav rfl dc (zaH 0 u d) (zaI 1 u i)
 · exact fun D n d c u i=>zac zj1 rfl dc (zaH 1 u d) (show _=3 from rfl) (zaI 2 u i)
 · exact fun D n d c u i=>zat (k:=0) zfs rfl dc (zaH 2 u d) rfl rfl (zaI 3 u i)
 · exact fun D n d c u i=>zaX rfl dc rfl (zaH 4 u d) (zl8 hg5) (zaI 5 u i)
 refine zbn rfl zqh (zav rfl dc rfl (zac zj1 rfl dc rfl (show _=3 from rfl) ?_))
 refine zaG (k:=0) (l':=[zP bT,.string r2.2.text,zI r2.2.at_,.int .u64 (orI .u64 r2.2.seen (zmo .u64 1 r9))]) zn2 rfl rfl rfl rfl rfl (fun _ _=>rfl) rfl ?_
 refine zyH (zyR 1 rfl (zav rfl dc rfl (zac zeq rfl dc rfl (show _=2 from rfl) (zat (k:=0) zdk rfl dc rfl rfl rfl (zyR 1 rfl ?_)))))
 obtain ⟨hg6,h⟩:=zcU h
 refine zbn rfl (zbs (r:=r2.2.at_+r8.1) (IntWalk.i64_in _ hg6)) (zav rfl dc rfl (zac zeq rfl dc rfl (show _=2 from rfl) ?_))
 refine zaG (k:=0) (l':=[zP bT,.string r2.2.text,zI (r2.2.at_+r8.1),.int .u64 (orI .u64 r2.2.seen (zmo .u64 1 r9))]) zeR rfl rfl rfl rfl rfl (fun _ _=>rfl) rfl ?_
 refine zyH (zyR 1 rfl ?_)
 refine zbB (v:=.agg #[zI r9]) (ps:=[(0,.tmp 96)]) rfl dc rfl (fun _=>by kernel_rfl) ?_
 refine zfE rfl dc rfl (zdi r9) (zyR 1 rfl (zyN (zaE ?_)))
 cases h
 exact zbA (rs:=[.tmp 2]) () (.inl rfl) results45 (.cons (.tmp rfl) .nil) rfl (zaa [0] kr rfl)
theorem zhr {bT:Nat} {xbT:zai} {xbT_h0 xbT_h1 xbT_h2 xbT_h3 xbT_h4:Hd} {br1:Nat} {r1:Gwitness_reader} {r:(Iwitness_tree×Gwitness_reader)} (h:zeI xbT r1=some r):FnR prog 45 [zP br1] [cells bT [xbT_h0.v,xbT_h1.v,xbT_h2.v,xbT_h3.v,xbT_h4.v] 60,zv0 xbT_h0.v xbT.names,zv0 xbT_h1.v xbT.texts,zba zam zaf 62 1 xbT_h2.v xbT.spans,zba zaj zal 55 1 xbT_h3.v xbT.keys,zba zaq zak 70 2 xbT_h4.v xbT.columns,tz64A] [cells br1 [zP bT,.string r1.text,zI r1.at_,.int .u64 r1.seen] 115] (fun _b:Unit=>zab r.1) (fun _b=>[cells br1 [zP bT,.string r.2.text,zI r.2.at_,.int .u64 r.2.seen] 115]):=by
 unfold zeI at h
 exact zhs zc9  h
def zdw (rcall:Iwitness_tree→Iwitness_tree→Option Iwitness_tree) (x1:Iwitness_tree) (up1:Iwitness_tree):Option Iwitness_tree := zaL (!x1.is_joint) ( some up1
) ( zcd (fun (j1:Iwitness_tree→Iwitness_tree→Option Iwitness_tree) => zaA (zdf x1.get_joint.right) fun (q1:Int) => zaL (((zaM .u64 q1 1):Int)==1) ( j1 x1.get_joint.right x1.get_joint.left
) ( j1 x1.get_joint.left x1.get_joint.right
)
) (fun (down1:Iwitness_tree) (other1:Iwitness_tree) => zcd (fun (j2:Iwitness_tree→Option Iwitness_tree) => zaL (!up1.isnil) ( zaA (zcO other1 up1) fun (r1:Iwitness_tree) => j2 r1
) ( j2 other1
)
) (fun (other2:Iwitness_tree) => zaA (rcall down1 other2) fun (r2:Iwitness_tree) => some r2
)
)
)
def zd7 (x1:Iwitness_tree) (up1:Iwitness_tree):Option Iwitness_tree:=zbq (fun _ _=>none) zdw zc9 x1 up1
theorem zj8 (n:Nat):∀ {x1:Iwitness_tree} {up1:Iwitness_tree} {r:Iwitness_tree} (_:zbq (fun _ _=>none) zdw n x1 up1=some r),FnR prog 27 [zab x1,zab up1] [tz64A] [] (fun _:Unit=>(zab r)) (fun _=>[]):=by
 induction n with
 | zero=>intro x1 up1 r h; exact zfG h
 | succ n hrec =>
 intro x1 up1 r h
 rw [zbk] at h
 revert hrec h
 generalize zbq (fun _ _=>none) zdw n=rcall
 intro hrec h
 unfold zdw at h
 refine FnR.intro func27 rfl ntmps27 (by simp) ?_
 intro w0 K hrd
 refine zyG (zyR 1 rfl (zyH (zyR 1 rfl (zfQ rfl dc rfl (zdQ x1) (zyR 1 rfl (zaJ rfl dc rfl rfl (zaJ rfl dc rfl rfl ?_)))))))
 refine za6 zmf rfl dc (fun b1 => ?_)
 refine za2 (k:=0) (vs:=[zab x1.get_joint.left,zab x1.get_joint.right,.int .u64 x1.get_joint.all]) (l':=[zab x1.get_joint.left,zab x1.get_joint.right,.int .u64 x1.get_joint.all]) zmm rfl rfl rfl rfl rfl (show _≤_ by simp) (by simp only [List.all_cons,List.all_nil,zbX,Bool.true_and,Bool.and_true] <;> rfl) rfl ?_
 refine zyR 1 rfl (zyN (zar (zyG (zyR 1 rfl (zdM rfl dc rfl zcA (zyN ?_))))))
 refine zyB rfl h (fun h => ?_) (fun h => ?_)
 ·
  refine zyG (zyR 2 rfl (zyN (zaE (zao ?_))))
  cases h
  exact zbN 4 results27
 refine zax (zag ?_)
 obtain ⟨j1,hj1,h⟩:=zcC h
 refine zbF (β:=Iwitness_tree×Iwitness_tree) 1 rfl (fun b=>j1 b.1 b.2=some r) (fun b=>[]) (fun b=>[(1,zab up1),(7,zab b.1),(8,zab b.2)]) (fun b=>[]) (fun cut => ?_) ?_
 ·
  refine zar ?_
  refine zbW 5 [(0,17,zP b1),(1,18,zab x1.get_joint.left),(2,19,.pointer (some ⟨b1,1,none⟩)),(3,20,zab x1.get_joint.right),(4,7,zab x1.get_joint.left)] mixed kr kr dc (by rfl) kr kr (zae ?_ (zae ?_ (zae ?_ (zae ?_ (zyP 1 4 rfl DrawPre.nil))))) ?_
  · exact fun D n d c u i=>zac zj0 rfl dc (za3 (by rfl) rfl) (show _=0 from rfl) (zaI 0 u i)
  · exact fun D n d c u i=>zat (k:=0) zjO rfl dc (zaH 0 u d) rfl rfl (zaI 1 u i)
  · exact fun D n d c u i=>zac zjZ rfl dc (za3 (by rfl) rfl) (show _=1 from rfl) (zaI 2 u i)
  · exact fun D n d c u i=>zat (k:=0) zjO rfl dc (zaH 2 u d) rfl rfl (zaI 3 u i)
  refine zyR 1 rfl (zyN (cut (zyG (zyR 1 rfl ?_))))
  obtain ⟨q1,hq1,h⟩:=zcp h
  refine zgV (v:=.int .u64 q1) rfl dc rfl (zdO hq1) (zbn rfl zfz (zbn rfl zaP (zyN ?_)))
  refine zyB rfl h (fun h => ?_) (fun h => ?_)
  ·
   refine zad (zyR 4 rfl (zap ?_))
   exact zaB (x1.get_joint.right,x1.get_joint.left) h rfl (zbK rfl) Splits.nil
  refine zax ?_
  exact zaB (x1.get_joint.left,x1.get_joint.right) h rfl (zbK rfl) Splits.nil
 rintro ⟨down1,other1⟩ h
 rw [hj1] at h
 obtain ⟨j2,hj2,h⟩:=zcC h
 refine zbF (β:=Iwitness_tree) 0 rfl (fun b=>j2 b=some r) (fun b=>[]) (fun b=>[(7,zab down1),(8,zab b)]) (fun b=>[]) (fun cut => ?_) ?_
 ·
  refine cut (zyG (zyR 1 rfl (zbn rfl (zhV up1) (zyN ?_))))
  refine zyB rfl h (fun h => ?_) (fun h => ?_)
  ·
   refine zad (zyR 2 rfl ?_)
   obtain ⟨r1,hq2,h⟩:=zcp h
   refine zbm (v:=zab r1) (vs:=[zab other1,zab up1]) hrd rfl dc rfl rfl rfl zrl (zeS hq2) (.ro 0 rfl .nil) (zyR 1 rfl (zap ?_))
   exact zaB r1 h rfl (zbK rfl) Splits.nil
  refine zax ?_
  exact zaB other1 h rfl (zbK rfl) Splits.nil
 rintro other2 h
 rw [hj2] at h
 refine zyG (zyR 2 rfl ?_)
 obtain ⟨r2,hq3,h⟩:=zcp h
 refine zbm (v:=zab r2) (vs:=[zab down1,zab other2]) hrd rfl dc rfl rfl rfl zuP (hrec hq3) (.ro 0 rfl .nil) (zyR 1 rfl (zyN (zaE ?_)))
 cases h
 exact zbN 4 results27
theorem zj7 {x1:Iwitness_tree} {up1:Iwitness_tree} {r:Iwitness_tree} (h:zd7 x1 up1=some r):FnR prog 27 [zab x1,zab up1] [tz64A] [] (fun _:Unit=>(zab r)) (fun _=>[]):=by
 unfold zd7 at h
 exact zj8 zc9  h
def zcw (t1:zai) (text1:zBA):Option (Iwitness_tree×zbY) := zaA (zeI t1 (⟨text1,0,0⟩:Gwitness_reader)) fun (r1:(Iwitness_tree×Gwitness_reader)) => zaL (r1.1.isnil) ( some (Iwitness_tree.nil,(⟨290,r1.2.at_⟩:zbY))
) ( zaL (decide ((r1.2.at_:Int)<(text1.size:Int))) ( some (Iwitness_tree.nil,(⟨290,r1.2.at_⟩:zbY))
) ( zaA (zcJ r1.2.seen) fun (r2:Int) => zaL (decide ((r2:Int)<(t1.names.length:Int))) ( some (Iwitness_tree.nil,(⟨290,r1.2.at_⟩:zbY))
) ( some (r1.1,(⟨0,0⟩:zbY))
)
)
)
theorem zfV {bt1:Nat} {t1:zai} {t1_h0 t1_h1 t1_h2 t1_h3 t1_h4:Hd} {text1:zBA} {r:(Iwitness_tree×zbY)} (h:zcw t1 text1=some r):FnR prog 25 [zP bt1,.string text1] [cells bt1 [t1_h0.v,t1_h1.v,t1_h2.v,t1_h3.v,t1_h4.v] 60,zv0 t1_h0.v t1.names,zv0 t1_h1.v t1.texts,zba zam zaf 62 1 t1_h2.v t1.spans,zba zaj zal 55 1 t1_h3.v t1.keys,zba zaq zak 70 2 t1_h4.v t1.columns,tz64A] [] (fun _:Unit=>(.tuple #[zab r.1,.agg (zr2 r.2).toArray])) (fun _=>[]):=by
 unfold zcw at h
 refine FnR.intro func25 rfl ntmps25 (by simp) ?_
 intro w0 K hrd
 have hrd:Rd _ _ [cells bt1 [t1_h0.v,t1_h1.v,t1_h2.v,t1_h3.v,t1_h4.v] 60,zv0 t1_h0.v t1.names,zv0 t1_h1.v t1.texts,zba zam zaf 62 1 t1_h2.v t1.spans,zba zaj zal 55 1 t1_h3.v t1.keys,zba zaq zak 70 2 t1_h4.v t1.columns,tz64A,zcR zgA 1 t1_h0.v 0 t1.names]:=zlx (i:=1) hrd rfl zeF
 have hrd:Rd _ _ [cells bt1 [t1_h0.v,t1_h1.v,t1_h2.v,t1_h3.v,t1_h4.v] 60,zv0 t1_h0.v t1.names,zv0 t1_h1.v t1.texts,zba zam zaf 62 1 t1_h2.v t1.spans,zba zaj zal 55 1 t1_h3.v t1.keys,zba zaq zak 70 2 t1_h4.v t1.columns,tz64A,zcR zgA 1 t1_h0.v 0 t1.names,zcR zgA 1 t1_h1.v 0 t1.texts]:=zlx (i:=2) hrd rfl zeF
 refine zyG (zyR 1 rfl ?_)
 refine za6 zlA rfl dc (fun b1 => ?_)
 refine zyN (zar (zyG (zyR 1 rfl (zbn rfl (zgL underlying24) (zyN (zaS rfl (zax (zag (zyG ?_)))))))))
 refine zyR 2 rfl ?_
 refine zbB (v:=.agg #[zP bt1,.string text1,zI 0,.int .u64 0]) (ps:=[(0,.tmp 11),(1,.tmp 12)]) rfl dc rfl (fun _=>by kernel_rfl) ?_
 refine zdN rfl dc rfl (fun b2 => ?_)
 refine zyR 1 rfl (zyH (zyR 1 rfl ?_))
 obtain ⟨r1,hq1,h⟩:=zcp h
 refine zff (vs:=[zP b2]) hrd rfl dc rfl rfl rfl ztq (zhr (bT:=bt1) (xbT:=t1) (xbT_h0:=t1_h0) (xbT_h1:=t1_h1) (xbT_h2:=t1_h2) (xbT_h3:=t1_h3) (xbT_h4:=t1_h4) (br1:=b2) (r1:=(⟨text1,0,0⟩:Gwitness_reader)) hq1) (zaa [1] kr rfl) (.ro 0 rfl (.ro 1 rfl (.ro 2 rfl (.ro 3 rfl (.ro 4 rfl (.ro 5 rfl (.ro 6 rfl .nil))))))) ?_
 rintro _
 refine zb6 (L':=[cells b1 [zI 0,zI 0] 37,cells b2 [zP bt1,.string r1.2.text,zI r1.2.at_,.int .u64 r1.2.seen] 115]) (zaa [0,2] kr rfl) (zyR 1 rfl (zyN (zar (zar ?_))))
 refine zej (b:=r1.1.isnil) (fun hb1 => ?_) (fun hb1 => ?_)
 ·
  have h:=zg5 hb1 h
  refine zbW 22 [(0,17,zab r1.1),(1,18,.bool true),(2,19,.bool true),(3,20,undef),(4,21,undef),(5,22,undef),(6,23,undef),(7,24,undef),(8,25,undef),(9,26,undef),(10,27,.bool true),(11,28,.bool true),(12,29,undef),(13,30,undef),(14,31,undef),(15,32,undef),(16,33,undef),(17,34,undef),(18,35,undef),(19,36,undef),(20,37,undef),(21,38,undef)] mixed kr kr dc (by rfl) kr kr (zyP 1 0 rfl (zae ?_ (zyP 20 2 rfl DrawPre.nil))) ?_
  · exact fun D n d c u i=>zaX rfl dc (zaH 0 u d) rfl (zct r1.1) (zdt (show Value.bool (r1.1.isnil)=Value.bool true from congrArg Value.bool hb1) (zaI 1 u i))
  refine zyR 2 rfl (zyN (zbw rfl (zar ?_)))
  refine zbW 6 [(0,41,zP b2),(1,42,zP b2),(2,43,.pointer (some ⟨b2,2,none⟩)),(3,44,zI r1.2.at_),(4,45,.agg #[zI 290,zI r1.2.at_]),(5,4,zab Iwitness_tree.nil)] mixed kr kr dc (by rfl) kr kr (zyP 1 0 rfl (zae ?_ (zae ?_ (zae ?_ (zae ?_ (zae ?_ DrawPre.nil)))))) ?_
  · exact fun D n d c u i=>zav rfl dc (zaH 0 u d) (zaI 1 u i)
  · exact fun D n d c u i=>zac zeq rfl dc (zaH 1 u d) (show _=2 from rfl) (zaI 2 u i)
  · exact fun D n d c u i=>zat (k:=1) zdk rfl dc (zaH 2 u d) rfl rfl (zaI 3 u i)
  · exact fun D n d c u i=>zbB (v:=.agg #[zI 290,zI r1.2.at_]) (ps:=[(0,.const (zI 290)),(1,.tmp 44)]) rfl dc (evP.cons rfl (evP.cons (zaH 3 u d) evP.nil)) (fun _=>by kernel_rfl) (zaI 4 u i)
  · exact fun D n d c u i=>zyR 1 rfl (zaI 5 u i)
  refine za2 (k:=0) (vs:=[zI 290,zI r1.2.at_]) (l':=[zI 290,zI r1.2.at_]) zix rfl rfl rfl rfl rfl (show _≤_ by simp) rfl rfl (zyN (zaE (zao ?_)))
  cases h
  exact zbA (rs:=[.tmp 4,.cell 5 37]) () (.inl rfl) results25 (.cons (.tmp rfl) (.cons (.cells zid (k:=0) rfl rfl rfl) .nil)) rfl Splits.nil
 have h:=zg6 hb1 h
 refine zej (b:=decide ((r1.2.at_:Int)<(text1.size:Int))) (fun hb2 => ?_) (fun hb2 => ?_)
 ·
  have h:=zg5 hb2 h
  refine zbW 22 [(0,17,zab r1.1),(1,18,.bool false),(2,19,.bool false),(3,20,zP b2),(4,21,zP b2),(5,22,.pointer (some ⟨b2,2,none⟩)),(6,23,zI r1.2.at_),(7,24,.string text1),(8,25,zI (text1.size:Int)),(9,26,.bool true),(10,27,.bool true),(11,28,.bool true),(12,29,undef),(13,30,undef),(14,31,undef),(15,32,undef),(16,33,undef),(17,34,undef),(18,35,undef),(19,36,undef),(20,37,undef),(21,38,undef)] mixed kr kr dc (by rfl) kr kr (zyP 1 0 rfl (zae ?_ (zyP 2 2 rfl (zae ?_ (zae ?_ (zae ?_ (zyP 1 7 rfl (zae ?_ (zae ?_ (zyP 12 10 rfl DrawPre.nil)))))))))) ?_
  · exact fun D n d c u i=>zaX rfl dc (zaH 0 u d) rfl (zct r1.1) (zdt (show Value.bool (r1.1.isnil)=Value.bool false from congrArg Value.bool hb1) (zaI 1 u i))
  · exact fun D n d c u i=>zav (zeY rfl (zaH 2 u d)) dc (zaH 3 u d) (zaI 4 u i)
  · exact fun D n d c u i=>zac zeq (zeY rfl (zaH 2 u d)) dc (zaH 4 u d) (show _=2 from rfl) (zaI 5 u i)
  · exact fun D n d c u i=>zat (k:=1) zdk (zeY rfl (zaH 2 u d)) dc (zaH 5 u d) rfl rfl (zaI 6 u i)
  · exact fun D n d c u i=>zdC (zeY rfl (zaH 2 u d)) dc (zaH 7 u d) underlying9 (zaI 8 u i)
  · exact fun D n d c u i=>zaX (zeY rfl (zaH 2 u d)) dc (zaH 6 u d) (zaH 8 u d) zb4 (zdt (show Value.bool (decide ((r1.2.at_:Int)<(text1.size:Int)))=Value.bool true from congrArg Value.bool hb2) (zaI 9 u i))
  refine zyR 2 rfl (zyN (zbw rfl (zar ?_)))
  refine zbW 6 [(0,41,zP b2),(1,42,zP b2),(2,43,.pointer (some ⟨b2,2,none⟩)),(3,44,zI r1.2.at_),(4,45,.agg #[zI 290,zI r1.2.at_]),(5,4,zab Iwitness_tree.nil)] mixed kr kr dc (by rfl) kr kr (zyP 1 0 rfl (zae ?_ (zae ?_ (zae ?_ (zae ?_ (zae ?_ DrawPre.nil)))))) ?_
  · exact fun D n d c u i=>zav rfl dc (zaH 0 u d) (zaI 1 u i)
  · exact fun D n d c u i=>zac zeq rfl dc (zaH 1 u d) (show _=2 from rfl) (zaI 2 u i)
  · exact fun D n d c u i=>zat (k:=1) zdk rfl dc (zaH 2 u d) rfl rfl (zaI 3 u i)
  · exact fun D n d c u i=>zbB (v:=.agg #[zI 290,zI r1.2.at_]) (ps:=[(0,.const (zI 290)),(1,.tmp 44)]) rfl dc (evP.cons rfl (evP.cons (zaH 3 u d) evP.nil)) (fun _=>by kernel_rfl) (zaI 4 u i)
  · exact fun D n d c u i=>zyR 1 rfl (zaI 5 u i)
  refine za2 (k:=0) (vs:=[zI 290,zI r1.2.at_]) (l':=[zI 290,zI r1.2.at_]) zix rfl rfl rfl rfl rfl (show _≤_ by simp) rfl rfl (zyN (zaE (zao ?_)))
  cases h
  exact zbA (rs:=[.tmp 4,.cell 5 37]) () (.inl rfl) results25 (.cons (.tmp rfl) (.cons (.cells zid (k:=0) rfl rfl rfl) .nil)) rfl Splits.nil
 have h:=zg6 hb2 h
 obtain ⟨r2,hq2,h⟩:=zcp h
 refine zbW 22 [(0,17,zab r1.1),(1,18,.bool false),(2,19,.bool false),(3,20,zP b2),(4,21,zP b2),(5,22,.pointer (some ⟨b2,2,none⟩)),(6,23,zI r1.2.at_),(7,24,.string text1),(8,25,zI (text1.size:Int)),(9,26,.bool false),(10,27,.bool false),(11,28,.bool false),(12,29,zP b2),(13,30,zP b2),(14,31,.pointer (some ⟨b2,3,none⟩)),(15,32,.int .u64 r1.2.seen),(16,33,zI r2),(17,34,zP bt1),(18,35,zP bt1),(19,36,zP bt1),(20,37,t1_h0.v),(21,38,zI (t1.names.length:Int))] mixed kr kr dc (by rfl) kr kr (zyP 1 0 rfl (zae ?_ (zyP 2 2 rfl (zae ?_ (zae ?_ (zae ?_ (zyP 1 7 rfl (zae ?_ (zae ?_ (zyP 3 10 rfl (zae ?_ (zae ?_ (zae ?_ (zae ?_ (zyP 1 17 rfl (zae ?_ (zae ?_ (zae ?_ (zae ?_ DrawPre.nil))))))))))))))))))) ?_
 · exact fun D n d c u i=>zaX rfl dc (zaH 0 u d) rfl (zct r1.1) (zdt (show Value.bool (r1.1.isnil)=Value.bool false from congrArg Value.bool hb1) (zaI 1 u i))
 · exact fun D n d c u i=>zav (zeY rfl (zaH 2 u d)) dc (zaH 3 u d) (zaI 4 u i)
 · exact fun D n d c u i=>zac zeq (zeY rfl (zaH 2 u d)) dc (zaH 4 u d) (show _=2 from rfl) (zaI 5 u i)
 · exact fun D n d c u i=>zat (k:=1) zdk (zeY rfl (zaH 2 u d)) dc (zaH 5 u d) rfl rfl (zaI 6 u i)
 · exact fun D n d c u i=>zdC (zeY rfl (zaH 2 u d)) dc (zaH 7 u d) underlying9 (zaI 8 u i)
 · exact fun D n d c u i=>zaX (zeY rfl (zaH 2 u d)) dc (zaH 6 u d) (zaH 8 u d) zb4 (zdt (show Value.bool (decide ((r1.2.at_:Int)<(text1.size:Int)))=Value.bool false from congrArg Value.bool hb2) (zaI 9 u i))
 · exact fun D n d c u i=>zav (zeY rfl (zaH 11 u d)) dc (zaH 12 u d) (zaI 13 u i)
 · exact fun D n d c u i=>zac zj1 (zeY rfl (zaH 11 u d)) dc (zaH 13 u d) (show _=3 from rfl) (zaI 14 u i)
 · exact fun D n d c u i=>zat (k:=1) zfs (zeY rfl (zaH 11 u d)) dc (zaH 14 u d) rfl rfl (zaI 15 u i)
 · exact fun D n d c u i=>zbv (v:=zI r2) (vs:=[.int .u64 r1.2.seen]) (zeY rfl (zaH 11 u d)) dc rfl (evL.cons (zaH 15 u d) evL.nil) rfl zuL (zfJ hq2) (zaI 16 u i)
 · exact fun D n d c u i=>zav (zeY rfl (zaH 11 u d)) dc (zaH 17 u d) (zaI 18 u i)
 · exact fun D n d c u i=>zac zhQ (zeY rfl (zaH 11 u d)) dc (zaH 18 u d) (show _=0 from rfl) (zaI 19 u i)
 · exact fun D n d c u i=>zcf (i:=0) hrd rfl zic (zeY rfl (zaH 11 u d)) dc (zaH 19 u d) rfl (zaI 20 u i)
 · exact fun D n d c u i=>zfe (hrd.vw (i:=1) rfl) (zeY rfl (zaH 11 u d)) dc (zaH 20 u d) underlying55 (zaI 21 u i)
 refine zbn rfl zb4 (zyR 1 rfl (zyN ?_))
 refine zyB rfl h (fun h => ?_) (fun h => ?_)
 ·
  refine zar ?_
  refine zbW 6 [(0,41,zP b2),(1,42,zP b2),(2,43,.pointer (some ⟨b2,2,none⟩)),(3,44,zI r1.2.at_),(4,45,.agg #[zI 290,zI r1.2.at_]),(5,4,zab Iwitness_tree.nil)] mixed kr kr dc (by rfl) kr kr (zyP 1 0 rfl (zae ?_ (zae ?_ (zae ?_ (zae ?_ (zae ?_ DrawPre.nil)))))) ?_
  · exact fun D n d c u i=>zav rfl dc (zaH 0 u d) (zaI 1 u i)
  · exact fun D n d c u i=>zac zeq rfl dc (zaH 1 u d) (show _=2 from rfl) (zaI 2 u i)
  · exact fun D n d c u i=>zat (k:=1) zdk rfl dc (zaH 2 u d) rfl rfl (zaI 3 u i)
  · exact fun D n d c u i=>zbB (v:=.agg #[zI 290,zI r1.2.at_]) (ps:=[(0,.const (zI 290)),(1,.tmp 44)]) rfl dc (evP.cons rfl (evP.cons (zaH 3 u d) evP.nil)) (fun _=>by kernel_rfl) (zaI 4 u i)
  · exact fun D n d c u i=>zyR 1 rfl (zaI 5 u i)
  refine za2 (k:=0) (vs:=[zI 290,zI r1.2.at_]) (l':=[zI 290,zI r1.2.at_]) zix rfl rfl rfl rfl rfl (show _≤_ by simp) rfl rfl (zyN (zaE (zao ?_)))
  cases h
  exact zbA (rs:=[.tmp 4,.cell 5 37]) () (.inl rfl) results25 (.cons (.tmp rfl) (.cons (.cells zid (k:=0) rfl rfl rfl) .nil)) rfl Splits.nil
 refine zax (zag (zyG (zyR 1 rfl ?_)))
 refine zbB (v:=.agg #[zI 0,zI 0]) (ps:=[]) rfl dc rfl (fun _=>by kernel_rfl) ?_
 refine zyR 1 rfl (za2 (k:=0) (vs:=[zI 0,zI 0]) (l':=[zI 0,zI 0]) zix rfl rfl rfl rfl rfl (show _≤_ by simp) rfl rfl (zyN (zaE ?_)))
 cases h
 exact zbA (rs:=[.tmp 4,.cell 5 37]) () (.inl rfl) results25 (.cons (.tmp rfl) (.cons (.cells zid (k:=0) rfl rfl rfl) .nil)) rfl Splits.nil
def zbD (t1:zai) (tree1:zBA):Option (Int×zbY) := zaA (zcw t1 tree1) fun (r1:(Iwitness_tree×zbY)) => zaL (!(zdS r1.2 (⟨0,0⟩:zbY))) ( some (0,r1.2)
) ( zaA (zb9 t1 r1.1) fun (r2:Int) => some (r2,r1.2)
)
theorem zee {bt1:Nat} {t1:zai} {t1_h0 t1_h1 t1_h2 t1_h3 t1_h4:Hd} {tree1:zBA} {r:(Int×zbY)} (h:zbD t1 tree1=some r):FnR prog 9 [zP bt1,.string tree1] [cells bt1 [t1_h0.v,t1_h1.v,t1_h2.v,t1_h3.v,t1_h4.v] 60,zv0 t1_h0.v t1.names,zv0 t1_h1.v t1.texts,zba zam zaf 62 1 t1_h2.v t1.spans,zba zaj zal 55 1 t1_h3.v t1.keys,zba zaq zak 70 2 t1_h4.v t1.columns,tz64A] [] (fun _:Unit=>(.tuple #[zI r.1,.agg (zr2 r.2).toArray])) (fun _=>[]):=by
 unfold zbD at h
 refine FnR.intro func9 rfl ntmps9 (by simp) ?_
 intro w0 K hrd
 refine zyG (zyR 1 rfl ?_)
 refine za6 zlA rfl dc (fun b1 => ?_)
 refine zyH (zyR 2 rfl ?_)
 obtain ⟨r1,hq1,h⟩:=zcp h
 refine zbm (v:=.tuple #[zab r1.1,.agg (zr2 r1.2).toArray]) (vs:=[zP bt1,.string tree1]) hrd rfl dc rfl rfl rfl zuR (zfV (bt1:=bt1) (t1:=t1) (t1_h0:=t1_h0) (t1_h1:=t1_h1) (t1_h2:=t1_h2) (t1_h3:=t1_h3) (t1_h4:=t1_h4) hq1) (.ro 0 rfl (.ro 1 rfl (.ro 2 rfl (.ro 3 rfl (.ro 4 rfl (.ro 5 rfl (.ro 6 rfl .nil))))))) (zyR 1 rfl (zaJ rfl dc rfl rfl (zaJ rfl dc rfl rfl ?_)))
 refine za6 zlA rfl dc (fun b2 => ?_)
 refine zyR 1 rfl (za2 (k:=1) (vs:=(zr2 r1.2)) (l':=(zr2 r1.2)) zix rfl rfl rfl rfl rfl (show _≤_ by simp) rfl rfl (zyN (zar (zyG (zaZ (k:=1) (cs:=(zr2 r1.2)) zid rfl dc rfl rfl rfl rfl ?_)))))
 refine zbB (v:=.agg #[zI 0,zI 0]) (ps:=[]) rfl dc rfl (fun _=>by kernel_rfl) ?_
 refine zbn rfl (zls r1.2 (⟨0,0⟩:zbY)) (zyN ?_)
 refine zyB rfl h (fun h => ?_) (fun h => ?_)
 ·
  refine zar ?_
  refine zbW 2 [(0,17,.agg (zr2 r1.2).toArray),(1,4,zI 0)] mixed kr kr dc (by rfl) kr kr (zae ?_ (zae ?_ DrawPre.nil)) ?_
  · exact fun D n d c u i=>zaZ (k:=1) (cs:=(zr2 r1.2)) zid rfl dc (za3 (by rfl) rfl) rfl rfl rfl (zaI 0 u i)
  · exact fun D n d c u i=>zyR 1 rfl (zaI 1 u i)
  refine za2 (k:=0) (vs:=(zr2 r1.2)) (l':=(zr2 r1.2)) zix rfl rfl rfl rfl rfl (show _≤_ by simp) rfl rfl ?_
  refine zyN (zaE (zao ?_))
  cases h
  exact zbA (rs:=[.tmp 4,.cell 5 37]) () (.inl rfl) results9 (.cons (.tmp rfl) (.cons (.cells zid (k:=0) rfl rfl rfl) .nil)) rfl Splits.nil
 refine zax (zag (zar ?_))
 obtain ⟨r2,hq2,h⟩:=zcp h
 refine zbW 5 [(0,18,zP bt1),(1,19,zab r1.1),(2,20,zI r2),(3,21,.agg (zr2 r1.2).toArray),(4,4,zI r2)] mixed kr kr dc (by rfl) kr kr (zyP 2 0 rfl (zae ?_ (zae ?_ (zyP 1 4 rfl DrawPre.nil)))) ?_
 · exact fun D n d c u i=>zbm (v:=zI r2) (vs:=[zP bt1,zab r1.1]) hrd rfl dc rfl (evL.cons (zaH 0 u d) (evL.cons (zaH 1 u d) evL.nil)) rfl zuQ (zfk (bt1:=bt1) (t1:=t1) (t1_h0:=t1_h0) (t1_h1:=t1_h1) (t1_h2:=t1_h2) (t1_h3:=t1_h3) (t1_h4:=t1_h4) hq2) (.ro 0 rfl (.ro 1 rfl (.ro 2 rfl (.ro 3 rfl (.ro 4 rfl (.ro 5 rfl .nil)))))) (zaI 2 u i)
 · exact fun D n d c u i=>zaZ (k:=1) (cs:=(zr2 r1.2)) zid rfl dc (za3 (by rfl) rfl) rfl rfl rfl (zaI 3 u i)
 refine za2 (k:=0) (vs:=(zr2 r1.2)) (l':=(zr2 r1.2)) zix rfl rfl rfl rfl rfl (show _≤_ by simp) rfl rfl ?_
 refine zyN (zaE ?_)
 cases h
 exact zbA (rs:=[.tmp 4,.cell 5 37]) () (.inl rfl) results9 (.cons (.tmp rfl) (.cons (.cells zid (k:=0) rfl rfl rfl) .nil)) rfl Splits.nil
def zdI (t1:zai) (text1:zBA):Option (zBA×zbY) := zaA (zcw t1 text1) fun (r1:(Iwitness_tree×zbY)) => zaL (!(zdS r1.2 (⟨0,0⟩:zbY))) ( some ((⟨#[]⟩:zBA),r1.2)
) ( zaA (zd7 r1.1 Iwitness_tree.nil) fun (r2:Iwitness_tree) => zaL (r2.isnil) ( zaA (zcZ t1 (Iwitness_tree.leaf 0)) fun (r3:zBA) => some (r3,r1.2)
) ( zaA (zcO (Iwitness_tree.leaf 0) r2) fun (r4:Iwitness_tree) => zaA (zcZ t1 r4) fun (r5:zBA) => some (r5,r1.2)
)
)
theorem zhA {bt1:Nat} {t1:zai} {t1_h0 t1_h1 t1_h2 t1_h3 t1_h4:Hd} {text1:zBA} {r:(zBA×zbY)} (h:zdI t1 text1=some r):FnR prog 10 [zP bt1,.string text1] [cells bt1 [t1_h0.v,t1_h1.v,t1_h2.v,t1_h3.v,t1_h4.v] 60,zv0 t1_h0.v t1.names,zv0 t1_h1.v t1.texts,zba zam zaf 62 1 t1_h2.v t1.spans,zba zaj zal 55 1 t1_h3.v t1.keys,zba zaq zak 70 2 t1_h4.v t1.columns,tz64A] [] (fun _:Unit=>(.tuple #[.string r.1,.agg (zr2 r.2).toArray])) (fun _=>[]):=by
 unfold zdI at h
 refine FnR.intro func10 rfl ntmps10 (by simp) ?_
 intro w0 K hrd
 refine zyG (zyR 1 rfl ?_)
 refine za6 zlA rfl dc (fun b1 => ?_)
 refine zyH (zyR 2 rfl ?_)
 obtain ⟨r1,hq1,h⟩:=zcp h
 refine zbm (v:=.tuple #[zab r1.1,.agg (zr2 r1.2).toArray]) (vs:=[zP bt1,.string text1]) hrd rfl dc rfl rfl rfl zuR (zfV (bt1:=bt1) (t1:=t1) (t1_h0:=t1_h0) (t1_h1:=t1_h1) (t1_h2:=t1_h2) (t1_h3:=t1_h3) (t1_h4:=t1_h4) hq1) (.ro 0 rfl (.ro 1 rfl (.ro 2 rfl (.ro 3 rfl (.ro 4 rfl (.ro 5 rfl (.ro 6 rfl .nil))))))) (zyR 1 rfl (zaJ rfl dc rfl rfl (zaJ rfl dc rfl rfl ?_)))
 refine za6 zlA rfl dc (fun b2 => ?_)
 refine zyR 1 rfl (za2 (k:=1) (vs:=(zr2 r1.2)) (l':=(zr2 r1.2)) zix rfl rfl rfl rfl rfl (show _≤_ by simp) rfl rfl (zyN (zar (zyG (zaZ (k:=1) (cs:=(zr2 r1.2)) zid rfl dc rfl rfl rfl rfl ?_)))))
 refine zbB (v:=.agg #[zI 0,zI 0]) (ps:=[]) rfl dc rfl (fun _=>by kernel_rfl) ?_
 refine zbn rfl (zls r1.2 (⟨0,0⟩:zbY)) (zyN ?_)
 refine zyB rfl h (fun h => ?_) (fun h => ?_)
 ·
  refine zar ?_
  refine zbW 2 [(0,18,.agg (zr2 r1.2).toArray),(1,4,.string (⟨#[]⟩:zBA))] mixed kr kr dc (by rfl) kr kr (zae ?_ (zae ?_ DrawPre.nil)) ?_
  · exact fun D n d c u i=>zaZ (k:=1) (cs:=(zr2 r1.2)) zid rfl dc (za3 (by rfl) rfl) rfl rfl rfl (zaI 0 u i)
  · exact fun D n d c u i=>zyR 1 rfl (zaI 1 u i)
  refine za2 (k:=0) (vs:=(zr2 r1.2)) (l':=(zr2 r1.2)) zix rfl rfl rfl rfl rfl (show _≤_ by simp) rfl rfl ?_
  refine zyN (zaE (zao ?_))
  cases h
  exact zbA (rs:=[.tmp 4,.cell 5 37]) () (.inl rfl) results10 (.cons (.tmp rfl) (.cons (.cells zid (k:=0) rfl rfl rfl) .nil)) rfl Splits.nil
 refine zax (zag (zyG (zyR 1 rfl ?_)))
 obtain ⟨r2,hq2,h⟩:=zcp h
 refine zbm (v:=zab r2) (vs:=[zab r1.1,zab Iwitness_tree.nil]) hrd rfl dc rfl rfl rfl zuP (zj7 hq2) (.ro 6 rfl .nil) (zyR 1 rfl (zyN (zar (zyG (zyR 1 rfl (zbn rfl (zct r2) (zyN ?_)))))))
 refine zyB rfl h (fun h => ?_) (fun h => ?_)
 ·
  refine zar ?_
  obtain ⟨r3,hq3,h⟩:=zcp h
  refine zbW 6 [(0,23,zP bt1),(1,24,.agg #[zI 0]),(2,25,zab (Iwitness_tree.leaf 0)),(3,26,.string r3),(4,27,.agg (zr2 r1.2).toArray),(5,4,.string r3)] mixed kr kr dc (by rfl) kr kr (zyP 1 0 rfl (zae ?_ (zae ?_ (zae ?_ (zae ?_ (zyP 1 5 rfl DrawPre.nil)))))) ?_
  · exact fun D n d c u i=>zbB (v:=.agg #[zI 0]) (ps:=[(0,.const (zI 0))]) rfl dc (evP.cons rfl evP.nil) (fun _=>by kernel_rfl) (zaI 1 u i)
  · exact fun D n d c u i=>zfE rfl dc (zaH 1 u d) (zdi 0) (zaI 2 u i)
  · exact fun D n d c u i=>zbm (v:=.string r3) (vs:=[zP bt1,zab (Iwitness_tree.leaf 0)]) hrd rfl dc rfl (evL.cons (zaH 0 u d) (evL.cons (zaH 2 u d) evL.nil)) rfl zrm (zd3 (bt1:=bt1) (t1:=t1) (t1_h0:=t1_h0) (t1_h1:=t1_h1) (t1_h2:=t1_h2) (t1_h3:=t1_h3) (t1_h4:=t1_h4) hq3) (.ro 0 rfl (.ro 1 rfl (.ro 2 rfl (.ro 3 rfl (.ro 4 rfl (.ro 5 rfl .nil)))))) (zaI 3 u i)
  · exact fun D n d c u i=>zaZ (k:=1) (cs:=(zr2 r1.2)) zid rfl dc (za3 (by rfl) rfl) rfl rfl rfl (zaI 4 u i)
  refine za2 (k:=0) (vs:=(zr2 r1.2)) (l':=(zr2 r1.2)) zix rfl rfl rfl rfl rfl (show _≤_ by simp) rfl rfl ?_
  refine zyN (zaE (zao ?_))
  cases h
  exact zbA (rs:=[.tmp 4,.cell 5 37]) () (.inl rfl) results10 (.cons (.tmp rfl) (.cons (.cells zid (k:=0) rfl rfl rfl) .nil)) rfl Splits.nil
 refine zax (zag (zar ?_))
 obtain ⟨r4,hq4,h⟩:=zcp h
 obtain ⟨r5,hq5,h⟩:=zcp h
 refine zbW 8 [(0,28,zP bt1),(1,29,.agg #[zI 0]),(2,30,zab (Iwitness_tree.leaf 0)),(3,31,zab r2),(4,32,zab r4),(5,33,.string r5),(6,34,.agg (zr2 r1.2).toArray),(7,4,.string r5)] mixed kr kr dc (by rfl) kr kr (zyP 1 0 rfl (zae ?_ (zae ?_ (zyP 1 3 rfl (zae ?_ (zae ?_ (zae ?_ (zyP 1 7 rfl DrawPre.nil)))))))) ?_
 · exact fun D n d c u i=>zbB (v:=.agg #[zI 0]) (ps:=[(0,.const (zI 0))]) rfl dc (evP.cons rfl evP.nil) (fun _=>by kernel_rfl) (zaI 1 u i)
 · exact fun D n d c u i=>zfE rfl dc (zaH 1 u d) (zdi 0) (zaI 2 u i)
 · exact fun D n d c u i=>zbm (v:=zab r4) (vs:=[zab (Iwitness_tree.leaf 0),zab r2]) hrd rfl dc rfl (evL.cons (zaH 2 u d) (evL.cons (zaH 3 u d) evL.nil)) rfl zrl (zeS hq4) (.ro 6 rfl .nil) (zaI 4 u i)
 · exact fun D n d c u i=>zbm (v:=.string r5) (vs:=[zP bt1,zab r4]) hrd rfl dc rfl (evL.cons (zaH 0 u d) (evL.cons (zaH 4 u d) evL.nil)) rfl zrm (zd3 (bt1:=bt1) (t1:=t1) (t1_h0:=t1_h0) (t1_h1:=t1_h1) (t1_h2:=t1_h2) (t1_h3:=t1_h3) (t1_h4:=t1_h4) hq5) (.ro 0 rfl (.ro 1 rfl (.ro 2 rfl (.ro 3 rfl (.ro 4 rfl (.ro 5 rfl .nil)))))) (zaI 5 u i)
 · exact fun D n d c u i=>zaZ (k:=1) (cs:=(zr2 r1.2)) zid rfl dc (za3 (by rfl) rfl) rfl rfl rfl (zaI 6 u i)
 refine za2 (k:=0) (vs:=(zr2 r1.2)) (l':=(zr2 r1.2)) zix rfl rfl rfl rfl rfl (show _≤_ by simp) rfl rfl ?_
 refine zyN (zaE ?_)
 cases h
 exact zbA (rs:=[.tmp 4,.cell 5 37]) () (.inl rfl) results10 (.cons (.tmp rfl) (.cons (.cells zid (k:=0) rfl rfl rfl) .nil)) rfl Splits.nil
end Go.Proofs.YtdnalnmahlakkaaGreatDoor
