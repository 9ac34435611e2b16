/-
  Texts laid together: LcA, LcB, LcC, LcS, LcE, Ka, Kb, Qm, Kc, Kd, Ke, LcU, LcF, Kg, Kh. Nothing is assumed.
-/
import Derived.Test.YtifpjbgnikjglaaDoorCollateDress3
import Derived.Test.YtifpjbgnikjglaaDoorCollateDress2
set_option maxRecDepth 100000
set_option maxHeartbeats 4000000
namespace Go.Proofs.YtifpjbgnikjglaaDoor
open Go.RowKit Go.Lib
open Tryd
set_option linter.unusedVariables false
set_option linter.unusedSimpArgs false
def zdr (p1:zal):Option Bool := grd (I32 p1.Rune) <| some (((zbx p1.Broken p1.Rune):Int)==1)
theorem zgK {p1:zal} {r:Bool} (h:zdr p1=some r):FnP prog 85 [.agg (zr0 p1).toArray] (.bool r):=by
 unfold zdr at h
 refine FnP.intro func85 rfl ntmps85 (by simp) ?_
 intro w0 K
 refine zyG ?_
 refine zea rfl dc rfl (fun b1 => ?_)
 refine zyR 1 rfl (zyH (zbT (k:=0) (cs:=(zr0 p1)) zgW rfl dc rfl rfl rfl rfl ?_))
 obtain ⟨hg1,h⟩:=zb7 h
 refine zaK (v:=zI (zbx p1.Broken p1.Rune)) (vs:=[.agg (zr0 p1).toArray]) rfl dc rfl rfl rfl zqR (zwr p1.At p1.Width p1.Rune p1.Broken hg1.1 hg1.2) (zaU rfl zbi (zyR 1 rfl (zyN (zaD ?_))))
 cases h
 exact za1 2 results85
def zdC (p1:zal):Option Bool := grd (I32 p1.Rune) <| some (((zbx p1.Broken p1.Rune):Int)==2)
theorem zhG {p1:zal} {r:Bool} (h:zdC p1=some r):FnP prog 52 [.agg (zr0 p1).toArray] (.bool r):=by
 unfold zdC at h
 refine FnP.intro func52 rfl ntmps52 (by simp) ?_
 intro w0 K
 refine zyG ?_
 refine zea rfl dc rfl (fun b1 => ?_)
 refine zyR 1 rfl (zyH (zbT (k:=0) (cs:=(zr0 p1)) zgW rfl dc rfl rfl rfl rfl ?_))
 obtain ⟨hg1,h⟩:=zb7 h
 refine zaK (v:=zI (zbx p1.Broken p1.Rune)) (vs:=[.agg (zr0 p1).toArray]) rfl dc rfl rfl rfl zqR (zwr p1.At p1.Width p1.Rune p1.Broken hg1.1 hg1.2) (zaU rfl zbi (zyR 1 rfl (zyN (zaD ?_))))
 cases h
 exact za1 2 results52
def zcQ (line1:zBA) (at1:Int) (j1:(List zau)→Option (List zau)) (ag1:(List zau)→Bool→Int→Option (List zau)) (l4:List zau) (open3:Bool) (x3:Int):Option (List zau) := zat (decide ((x3:Int)<(line1.size:Int))) ( zbB (fun (j2:(List zau)→Bool→Option (List zau)) => zak (zlz line1 x3) fun (c1:Int) => zat ((c1:Int)==32) ( j2 l4 false
) ( zat (open3) ( grd (I64 ((l4.length:Int) - 1)) <| zak (zd6 l4 ((l4.length:Int) - 1)) fun (q1:zau) => grd (I64 (x3+1)) <| grd (0≤(x3:Int)∧(x3:Int)≤(x3+1)∧(x3+1:Int)≤(line1.size:Int)) <| grd (q1.text.size+(zco line1 x3 (x3+1)).size≤9223372036854775807) <| j2 (l4.set ((l4.length:Int) - 1:Int).toNat (⟨q1.at_,q1.text++(zco line1 x3 (x3+1))⟩:zau)) open3
) ( grd (I64 (at1+x3)) <| grd (I64 (x3+1)) <| grd (0≤(x3:Int)∧(x3:Int)≤(x3+1)∧(x3+1:Int)≤(line1.size:Int)) <| grd (l4.length+1≤2147483648) <| j2 (l4++[(⟨at1+x3,zco line1 x3 (x3+1)⟩:zau)]) true
)
)
) (fun (l5:List zau) (open4:Bool) => grd (I64 (x3+1)) <| ag1 l5 open4 (x3+1)
)
) ( j1 l4
)
def zep (line1:zBA) (at1:Int):Option (List zau) := zbB (fun (j1:(List zau)→Option (List zau)) => zaT (fun _ _ _=>none) (zcQ line1 at1 j1) zcI ([]:List zau) false 0
) (fun (l1:List zau) => some l1
)
theorem zke {line1:zBA} {at1:Int} {r:(List zau)} (h:zep line1 at1=some r):Fn prog 37 [.string line1,zI at1] [] (fun v0:Value=>v0) (fun v0=>[zv4 v0 r]):=by
 unfold zep at h
 refine Fn.intro func37 rfl ntmps37 (by simp) ?_
 intro w0 K
 obtain ⟨j1,hj1,h⟩:=zbP h
 refine zaZ (β:=(List zau)×Value) 3 rfl (fun b=>j1 b.1=some r) (fun b=>[]) (fun b=>[(5,b.2)]) (fun b=>[zv4 b.2 b.1]) (fun cut => ?_) ?_
 ·
  refine zyG (zyR 1 rfl (zyH (zyR 1 rfl (zyH (zyR 1 rfl (zaC ?_))))))
  refine zaF (cut (zyG (zyR 1 rfl (zcN rfl dc rfl underlying9 (zyR 1 rfl (zyN (zaB (zfF (enc:=zcZ) (e:=116) (size:=2) ?_))))))))
  refine zbN (β:=Nat×(List zau)×Bool×Int×Value) (fun b=>zaT (fun _ _ _=>none) (zcQ line1 at1 j1) b.1 b.2.1 b.2.2.1 b.2.2.2.1=some r) (fun b=>[]) (fun b=>[(0,.string line1),(1,zI at1),(5,b.2.2.2.2),(6,.bool b.2.2.1),(9,zI (line1.size:Int)),(10,zI b.2.2.2.1)]) (fun b=>[zv4 b.2.2.2.2 b.2.1]) (fun b=>b.1) (zcI,([]:List zau),false,0,(.slice none 0 0)) h rfl (za7 rfl) (zaa [0] kr rfl) ?_
  rintro ⟨n1,l4,open3,x3,v4⟩ h
  cases n1 with
  | zero=>exact zez h
  | succ n1 =>
   obtain ⟨ag1,hag1⟩:∃ ag,ag=zaT (fun _ _ _=>none) (zcQ line1 at1 j1) n1:=⟨_,rfl⟩
   have h:zcQ line1 at1 j1 ag1 l4 open3 x3=some r:=by rw [hag1]; exact h
   unfold zcQ at h
   refine zyG (zaU rfl zbE (zyN (zaP ?_)))
   refine zyB rfl h (fun h => ?_) (fun h => ?_)
   ·
    refine zaq (zaF ?_)
    obtain ⟨j2,hj2,h⟩:=zbP h
    refine zaZ (β:=(List zau)×Bool×Value) 0 rfl (fun b=>j2 b.1 b.2.1=some r) (fun b=>[]) (fun b=>[(0,.string line1),(1,zI at1),(5,b.2.2),(6,.bool b.2.1),(9,zI (line1.size:Int)),(10,zI x3)]) (fun b=>[zv4 b.2.2 b.1]) (fun cut => ?_) ?_
    ·
     refine cut (zaB (zyG (zyR 2 rfl (zyN (zaB (zyG (zyR 2 rfl ?_)))))))
     obtain ⟨c1,hq1,h⟩:=zbz h
     refine zfm rfl dc rfl rfl (zfd underlying9 hq1) (zaU rfl zbi (zyR 1 rfl (zyN ?_)))
     refine zyB rfl h (fun h => ?_) (fun h => ?_)
     ·
      refine zap (zyR 1 rfl (zaC (zad (zad ?_))))
      exact zai (l4,false,v4) h rfl (za7 rfl) (zaa [0] kr rfl)
     refine zyG (zyR 2 rfl (zyN ?_))
     refine zyB rfl h (fun h => ?_) (fun h => ?_)
     ·
      obtain ⟨hg1,h⟩:=zb7 h
      obtain ⟨q1,hq2,h⟩:=zbz h
      obtain ⟨hg2,h⟩:=zb7 h
      obtain ⟨hg3,h⟩:=zb7 h
      obtain ⟨hg4,h⟩:=zb7 h
      refine zdo 12 [(0,32,v4),(1,33,v4),(2,34,zI (l4.length:Int)),(3,35,zI ((l4.length:Int) - 1)),(4,36,.pointer (some ⟨ziD v4,((l4.length:Int) - 1:Int).toNat*2,none⟩)),(5,37,.pointer (some ⟨ziD v4,(((l4.length:Int) - 1:Int).toNat)*2+1,none⟩)),(6,38,.string q1.text),(7,39,.string line1),(8,40,zI x3),(9,41,zI x3),(10,42,zI (x3+1)),(11,43,.string (zco line1 x3 (x3+1)))] mixed kr kr dc (by rfl) kr kr (zyP 2 0 rfl (zae ?_ (zae ?_ (zae ?_ (zae ?_ (zae ?_ (zyP 3 7 rfl (zae ?_ (zae ?_ DrawPre.nil))))))))) ?_
      · exact fun D n d c u i=>zet (k:=0) rfl dc (zaX 1 u d) rfl underlying86 (zaJ 2 u i)
      · exact fun D n d c u i=>zhK rfl dc (zaX 2 u d) rfl (zg5 (r:=(l4.length:Int) - 1) (IntWalk.i64_in _ hg1)) (zaJ 3 u i)
      · exact fun D n d c u i=>zbI (k:=0) hq2 underlying86 zgg rfl dc (zaX 0 u d) (zaX 3 u d) rfl rfl (zaJ 4 u i)
      · exact fun D n d c u i=>zag zhS rfl dc (zaX 4 u d) (show _=(((l4.length:Int) - 1:Int).toNat)*2+1 from rfl) (zaJ 5 u i)
      · exact fun D n d c u i=>zcP (i:=((l4.length:Int) - 1:Int).toNat) (j:=1) (k:=0) (q:=q1) zfn zdu rfl dc (zaX 5 u d) rfl (zcj hq2) rfl dc rfl (zaJ 6 u i)
      · exact fun D n d c u i=>zhK rfl dc (zaX 9 u d) rfl (zbh (r:=x3+1) (IntWalk.i64_in _ hg2)) (zaJ 10 u i)
      · exact fun D n d c u i=>zb4 rfl dc (zaX 7 u d) (evO.some (zaX 8 u d)) (evO.some (zaX 10 u d)) (za3 (i:=x3) (j:=x3+1) underlying9 (.inr rfl) (.inr rfl) hg3) (zaJ 11 u i)
      refine zaU rfl (zeN hg4) (zbI (k:=0) hq2 underlying86 zgg rfl dc rfl rfl rfl rfl (zag zhS rfl dc rfl (show _=(((l4.length:Int) - 1:Int).toNat)*2+1 from rfl) ?_))
      refine zf6 (i:=((l4.length:Int) - 1:Int).toNat) (j:=1) (k:=0) (q:=q1) (q':=(⟨q1.at_,q1.text++(zco line1 x3 (x3+1))⟩:zau)) zkq zdu rfl rfl rfl rfl (zcj hq2) rfl dc rfl (fun _ _=>rfl) ?_
      refine zaC (zad (zad ?_))
      exact zai (l4.set ((l4.length:Int) - 1:Int).toNat (⟨q1.at_,q1.text++(zco line1 x3 (x3+1))⟩:zau),open3,v4) h rfl (za7 rfl) (zaa [0] kr rfl)
     refine zyG (zyR 3 rfl ?_)
     obtain ⟨hg5,h⟩:=zb7 h
     refine zaU rfl (zbh (r:=at1+x3) (IntWalk.i64_in _ hg5)) (zyR 3 rfl ?_)
     obtain ⟨hg6,h⟩:=zb7 h
     refine zaU rfl (zbh (r:=x3+1) (IntWalk.i64_in _ hg6)) ?_
     obtain ⟨hg7,h⟩:=zb7 h
     refine zb4 rfl dc rfl rfl rfl (za3 (i:=x3) (j:=x3+1) underlying9 (.inr rfl) (.inr rfl) hg7) ?_
     refine zb8 (v:=.agg #[zI (at1+x3),.string (zco line1 x3 (x3+1))]) (ps:=[(0,.tmp 16),(1,.tmp 21)]) rfl dc rfl (fun _=>by kernel_rfl) ?_
     refine za0 (cs:=[zI (at1+x3),.string (zco line1 x3 (x3+1))]) (te:=116) (ps:=[(0,.tmp 22)]) rfl dc rfl (fun _=>by kernel_rfl) (fun b1 => ?_)
     obtain ⟨hg8,h⟩:=zb7 h
     refine zbY (k:=0) (k2:=1) (ys:=[(⟨at1+x3,zco line1 x3 (x3+1)⟩:zau)]) underlying86 zxv zdu zhD rfl dc rfl rfl rfl rfl rfl rfl hg8 (fun v6 => ?_)
     refine zyR 1 rfl (zyN (zap (zyR 1 rfl (zaC (zad (zad ?_))))))
     exact zai (l4++[(⟨at1+x3,zco line1 x3 (x3+1)⟩:zau)],true,v6) h rfl (za7 rfl) (zaa [0] kr rfl)
    rintro ⟨l5,open4,v5⟩ h
    rw [hj2] at h
    refine zap ?_
    obtain ⟨hg9,h⟩:=zb7 h
    refine zaU rfl (zbh (r:=x3+1) (IntWalk.i64_in _ hg9)) (zyR 1 rfl (zaC ?_))
    subst hag1
    exact zbs (n1,l5,open4,x3+1,v5) h (Nat.lt_succ_self _) rfl (za7 rfl) (zaa [0] kr rfl)
   refine zbA (zao (zao (zaH ?_)))
   exact zai (l4,v4) h rfl (za7 rfl) (zaa [0] kr rfl)
 rintro ⟨l1,v1⟩ h
 rw [hj1] at h
 refine zyG (zyR 2 rfl (zyN (zaD ?_)))
 cases h
 exact zch (rs:=[.tmp 4]) v1 (.inl rfl) results37 (.cons (.tmp rfl) .nil) rfl (zaa [0] kr rfl)
def zer (l1:List zau) (end1:Int):Option Int := zbB (fun (j1:Int→Int→Option Int) => zak (zd6 l1 0) fun (q1:zau) => zat (decide (q1.text=(⟨#[112,117,116]⟩:zBA))) ( zbB (fun (j2:Option Int) => zat (decide ((2:Int)<(l1.length:Int))) ( zak (zd6 l1 2) fun (q2:zau) => zat (!decide (q2.text=(⟨#[97,102,116,101,114]⟩:zBA))) ( zak (zd6 l1 2) fun (q3:zau) => some q3.at_
) ( j2
)
) ( j2
)
) ( j1 4 4
)
) ( zat (decide (q1.text=(⟨#[97,115]⟩:zBA))) ( j1 3 6
) ( zat (decide (q1.text=(⟨#[115,107,105,112]⟩:zBA))) ( j1 2 2
) ( zak (zd6 l1 0) fun (q4:zau) => some q4.at_
)
)
)
) (fun (least1:Int) (most1:Int) => zat (decide (((l1.length:Int):Int)<least1)) ( some end1
) ( zat (decide ((most1:Int)<(l1.length:Int))) ( zak (zd6 l1 most1) fun (q5:zau) => some q5.at_
) ( some (-1)
)
)
)
theorem zkh {vvl1 vl1:Value} {Ll1:List zau} {kl1:Nat} {l1:List zau} (hwl1:Vw vvl1 Ll1 2 kl1 vl1 l1) {end1:Int} {r:Int} (h:zer l1 end1=some r):FnR prog 63 [vl1,zI end1] [zeQ zcZ 2 vvl1 kl1 Ll1] [] (fun _:Unit=>(zI r)) (fun _=>[]):=by
 unfold zer at h
 refine FnR.intro func63 rfl ntmps63 (by simp) ?_
 intro w0 K hrd
 obtain ⟨j1,hj1,h⟩:=zbP h
 refine zaZ (β:=Int×Int) 2 rfl (fun b=>j1 b.1 b.2=some r) (fun b=>[]) (fun b=>[(0,vl1),(1,zI end1),(5,zI b.1),(6,zI b.2)]) (fun b=>[]) (fun cut => ?_) ?_
 ·
  refine zyG (zyR 1 rfl (zyH (zyR 2 rfl (zyN (cut (zyG ?_))))))
  refine zyR 1 rfl ?_
  obtain ⟨q1,hq1,h⟩:=zbz h
  refine zbd hwl1 hq1 underlying86 zgg rfl dc rfl rfl rfl (zag zhS rfl dc rfl (show _=(kl1+(0:Int).toNat)*2+1 from rfl) (zct (n:=kl1+(0:Int).toNat) (j:=1) (i:=0) (q:=q1) hrd rfl (by omega) zfn rfl dc rfl (Vw.get hwl1 hq1) rfl rfl (zyN (zaB (zyG (zaU rfl zed (zyR 1 rfl (zyN ?_))))))))
  refine zyB rfl h (fun h => ?_) (fun h => ?_)
  ·
   obtain ⟨j2,hj2,h⟩:=zbP h
   refine zaZ (β:=Unit) 0 rfl (fun b=>j2=some r) (fun b=>[]) (fun b=>[(0,vl1),(1,zI end1)]) (fun b=>[]) (fun cut => ?_) ?_
   ·
    refine cut (zyG (zyR 1 rfl (zck hwl1 rfl dc rfl underlying86 (zaU rfl zeU (zyR 1 rfl ?_)))))
    refine zyS (s:=20) rfl h (fun h => ?_) (fun h => ?_)
    ·
     refine zyR 1 rfl ?_
     obtain ⟨q2,hq2,h⟩:=zbz h
     refine zbd hwl1 hq2 underlying86 zgg rfl dc rfl rfl rfl (zag zhS rfl dc rfl (show _=(kl1+(2:Int).toNat)*2+1 from rfl) (zct (n:=kl1+(2:Int).toNat) (j:=1) (i:=0) (q:=q2) hrd rfl (by omega) zfn rfl dc rfl (Vw.get hwl1 hq2) rfl rfl (zaU rfl zm8 (zyR 1 rfl (zyN ?_)))))
     refine zyB rfl h (fun h => ?_) (fun h => ?_)
     ·
      refine zyG (zyR 1 rfl ?_)
      obtain ⟨q3,hq3,h⟩:=zbz h
      refine zbd hwl1 hq3 underlying86 zgg rfl dc rfl rfl rfl (zag zgl rfl dc rfl (show _=(kl1+(2:Int).toNat)*2 from rfl) (zct (n:=kl1+(2:Int).toNat) (j:=0) (i:=0) (q:=q3) hrd rfl (by omega) zdV rfl dc rfl (Vw.get hwl1 hq3) rfl rfl (zyR 1 rfl (zyN (zaD (zaj (zam (zaj ?_))))))))
      cases h
      exact za1 4 results63
     refine zaq ?_
     exact zai () h rfl (za7 rfl) Splits.nil
    refine zyR 6 rfl (zyN (zaY rfl (zaq ?_)))
    exact zai () h rfl (za7 rfl) Splits.nil
   rintro _ h
   rw [hj2] at h
   refine zap (zyR 2 rfl (zaC (zad ?_)))
   exact zai (4,4) h rfl (za7 rfl) Splits.nil
  refine zyG (zaU rfl zed (zyR 1 rfl (zyN ?_)))
  refine zyB rfl h (fun h => ?_) (fun h => ?_)
  ·
   refine zap (zyR 2 rfl (zaC (zad ?_)))
   exact zai (3,6) h rfl (za7 rfl) Splits.nil
  refine zyG (zaU rfl zed (zyR 1 rfl (zyN ?_)))
  refine zyB rfl h (fun h => ?_) (fun h => ?_)
  ·
   refine zaq (zad ?_)
   exact zai (2,2) h rfl (za7 rfl) Splits.nil
  refine zyG (zyR 1 rfl ?_)
  obtain ⟨q4,hq4,h⟩:=zbz h
  refine zbd hwl1 hq4 underlying86 zgg rfl dc rfl rfl rfl (zag zgl rfl dc rfl (show _=(kl1+(0:Int).toNat)*2 from rfl) (zct (n:=kl1+(0:Int).toNat) (j:=0) (i:=0) (q:=q4) hrd rfl (by omega) zdV rfl dc rfl (Vw.get hwl1 hq4) rfl rfl (zyR 1 rfl (zyN (zaD (zam (zaj ?_)))))))
  cases h
  exact za1 4 results63
 rintro ⟨least1,most1⟩ h
 rw [hj1] at h
 refine zaP (zaB (zyG (zyR 1 rfl (zck hwl1 rfl dc rfl underlying86 (zyR 1 rfl (zaU rfl zbE (zyR 1 rfl (zyN ?_))))))))
 refine zyB rfl h (fun h => ?_) (fun h => ?_)
 ·
  refine zyG (zyR 2 rfl (zyN (zaD (zam (zaj ?_)))))
  cases h
  exact za1 4 results63
 refine zyG (zyR 1 rfl (zck hwl1 rfl dc rfl underlying86 (zyR 1 rfl (zaU rfl zeU (zyR 1 rfl (zyN ?_))))))
 refine zyB rfl h (fun h => ?_) (fun h => ?_)
 ·
  refine zyG (zyR 2 rfl ?_)
  obtain ⟨q5,hq5,h⟩:=zbz h
  refine zbd hwl1 hq5 underlying86 zgg rfl dc rfl rfl rfl (zag zgl rfl dc rfl (show _=(kl1+(most1:Int).toNat)*2 from rfl) (zct (n:=kl1+(most1:Int).toNat) (j:=0) (i:=0) (q:=q5) hrd rfl (by omega) zdV rfl dc rfl (Vw.get hwl1 hq5) rfl rfl (zyR 1 rfl (zyN (zaD (zam (zaj ?_)))))))
  cases h
  exact za1 4 results63
 refine zaq (zad (zaF (zyG (zyR 1 rfl (zyN (zaD ?_))))))
 cases h
 exact za1 4 results63
def zcC (r1:zBA) (x1:zal) (ag1:zBA→Option zBA) (b8:zBA):Option zBA := zak (zdr x1) fun (r3:Bool) => zat (r3) ( grd (I32 x1.Rune) <| grd (b8.size+(Utf8.encode (zaV x1.Rune)).size≤140737488355328) <| ag1 (b8++(Utf8.encode (zaV x1.Rune)))
) ( grd (I64 (x1.At+x1.Width)) <| grd (0≤(x1.At:Int)∧(x1.At:Int)≤(x1.At+x1.Width)∧(x1.At+x1.Width:Int)≤(r1.size:Int)) <| grd (b8.size+(zco r1 x1.At (x1.At+x1.Width)).size≤140737488355328) <| ag1 (b8++(zco r1 x1.At (x1.At+x1.Width)))
)
def zeq (s1:zBA):Option zBA := zbB (fun (j1:zBA→Option zBA) => zak (zdg s1) fun (r1:zBA) => zak (zdA r1) fun (r2:zBA) => zak (zcB r2) fun (its1:(List zal)) => zbB (fun (dn1:zBA→Option zBA) => zcH dn1 (zcC r1) its1 ByteArray.empty
) (fun (b8:zBA) => j1 b8
)
) (fun (b2:zBA) => some b2
)
theorem zkg {s1:zBA} {r:zBA} (h:zeq s1=some r):FnP prog 84 [.string s1] (.string r):=by
 unfold zeq at h
 refine FnP.intro func84 rfl ntmps84 (by simp) ?_
 intro w0 K
 refine zgr ?_
 obtain ⟨j1,hj1,h⟩:=zbP h
 refine zaZ (β:=zBA×Nat×Value×(List Nat)) 3 rfl (fun b=>j1 b.1=some r) (fun b=>ze8 b.2.2.2) (fun b=>[(3,zP b.2.1)]) (fun b=>[cells b.2.1 [b.2.2.1] 43,byt 5 b.2.2.1 b.1,zfG ((b.2.2.2:List Nat).map zfr)]) (fun cut => ?_) ?_
 ·
  refine zyG ?_
  refine zea rfl dc rfl (fun b3 => ?_)
  refine zyR 1 rfl (zyH (zan (k:=1) zfn rfl dc rfl rfl rfl ?_))
  obtain ⟨r1,hq1,h⟩:=zbz h
  refine zaK (v:=.string r1) (vs:=[.string s1]) rfl dc rfl rfl rfl zwv (zeB hq1) ?_
  refine zaQ (k:=1) (l':=[.string r1]) zkq rfl rfl rfl rfl rfl (fun _ _=>rfl) rfl ?_
  refine zyH ?_
  refine za6 zx0 rfl dc (fun b4 => ?_)
  refine zyN (cut (zyG (zan (k:=1) zfn rfl dc rfl rfl rfl ?_)))
  obtain ⟨r2,hq2,h⟩:=zbz h
  refine zb6 (vs:=[.string r1]) rfl dc rfl rfl rfl zss (zei hq2) Splits.nil ?_
  rintro b5
  refine zyN (zaB ?_)
  obtain ⟨its1,hq3,h⟩:=zbz h
  refine zjm (e:=5) ?_
  obtain ⟨dn1,hdn1,h⟩:=zbP h
  refine zhb (α:=zal) (β:=zBA×Value) (γ:=Unit) (δ:=Nat) (ps:=[9]) Ro.nil rfl zsr (zds hq3) (fun pre b=>∀ post,its1=pre++post→zcH dn1 (zcC r1) post b.1=some r) (fun pre b=>[cells b3 [.string r1] 9,cells b4 [b.2] 43,byt 5 b.2 b.1]) (fun c pre g=>False) (fun c pre g=>[]) (fun pre x b j=>[(1,zP b3),(2,.string (⟨#[]⟩:zBA)),(3,zP b4),(8,.func (.func 71) #[] #[zP b5]),(4,zP j)]) (fun pre x b j=>[cells b3 [.string r1] 9,cells b4 [b.2] 43,byt 5 b.2 b.1,cells j (zr0 x) 95]) (ByteArray.empty,(.slice none 0 0)) (fun post e=>by rw [List.nil_append] at e; subst e; exact h) (zaa [1,2,4] kr rfl) ⟨.inl ⟨3,rfl⟩,trivial⟩ (fun _=>rfl) dc ?_ ?_ ?_ ?_
  ·
   rintro lp rc pre x1 post ⟨b8,v4⟩ w1 K1 hxs1 hext hro hinv
   refine zap ?_
   refine za6 zkD rfl dc (fun b9 => ?_)
   refine za4 (k:=3) (vs:=(zr0 x1)) (l':=(zr0 x1)) zfN rfl rfl rfl rfl rfl (show _≤_ by simp) rfl rfl ?_
   refine zaC ?_
   exact fun a w ha hw=>⟨b9,(za7 rfl) _ _ _ ha,hw.weaken (zaa [0,1,2,3] kr rfl)⟩
  ·
   rintro lp rc pre x1 post1 ⟨b8,v4⟩ jb1 w1 K1 hxs1 hext hro hinv
   have h:=hinv (x1::post1) hxs1
   obtain ⟨ag1,hag1⟩:∃ ag,ag=zcH dn1 (zcC r1) post1:=⟨_,rfl⟩
   have h:zcC r1 x1 ag1 b8=some r:=by have h2:=h; rw [zcr,← hag1] at h2; exact h2
   unfold zcC at h
   refine zaB (zyG (zbT (k:=3) (cs:=(zr0 x1)) zgW rfl dc rfl rfl rfl rfl ?_))
   obtain ⟨r3,hq4,h⟩:=zbz h
   refine zaK (v:=.bool r3) (vs:=[.agg (zr0 x1).toArray]) rfl dc rfl rfl rfl zxj (zgK (p1:=x1) hq4) (zyN ?_)
   refine zyB rfl h (fun h => ?_) (fun h => ?_)
   ·
    obtain ⟨hg1,h⟩:=zb7 h
    obtain ⟨hg2,h⟩:=zb7 h
    refine zdo 5 [(0,12,v4),(1,13,.pointer (some ⟨jb1,2,none⟩)),(2,14,.int .i32 x1.Rune),(3,15,.int .i32 (zaV x1.Rune)),(4,16,.string (Utf8.encode (zaV x1.Rune)))] mixed kr kr dc (by rfl) kr kr (zae ?_ (zae ?_ (zae ?_ (zae ?_ (zae ?_ DrawPre.nil))))) ?_
    · exact fun D n d c u i=>zan (k:=1) zu6 rfl dc (zba (by rfl) rfl) rfl rfl (zaJ 0 u i)
    · exact fun D n d c u i=>zag zgu rfl dc (zba (by rfl) rfl) (show _=2 from rfl) (zaJ 1 u i)
    · exact fun D n d c u i=>zan (k:=3) zfo rfl dc (zaX 1 u d) rfl rfl (zaJ 2 u i)
    · exact fun D n d c u i=>zaK (v:=.int .i32 (zaV x1.Rune)) (vs:=[.int .i32 x1.Rune]) rfl dc rfl (evL.cons (zaX 2 u d) evL.nil) rfl zst (zdn fun w=>zgF x1.Rune w hg1.1 hg1.2) (zaJ 3 u i)
    · exact fun D n d c u i=>zdd rfl dc (zaX 3 u d) (zcW underlying21 underlying9) (zaJ 4 u i)
    refine zfE (k:=2) underlying43 underlying9 zuG rfl dc rfl rfl rfl hg2 (fun v5 => ?_)
    refine zaQ (k:=1) (l':=[v5]) zwS rfl rfl rfl rfl rfl (fun _ h=>zrN h (k:=2) rfl) rfl ?_
    refine zaC (zad ?_)
    exact zcK (b8++(Utf8.encode (zaV x1.Rune)),v5) (fun post2 e2=>by have e9:=zca hxs1 e2; subst e9; subst hag1; exact h) (zaa [0,1,2] kr rfl)
   obtain ⟨hg3,h⟩:=zb7 h
   obtain ⟨hg4,h⟩:=zb7 h
   obtain ⟨hg5,h⟩:=zb7 h
   refine zdo 10 [(0,18,v4),(1,19,.string r1),(2,20,zP jb1),(3,21,zI x1.At),(4,22,zP jb1),(5,23,zI x1.At),(6,24,.pointer (some ⟨jb1,1,none⟩)),(7,25,zI x1.Width),(8,26,zI (x1.At+x1.Width)),(9,27,.string (zco r1 x1.At (x1.At+x1.Width)))] mixed kr kr dc (by rfl) kr kr (zae ?_ (zae ?_ (zae ?_ (zae ?_ (zae ?_ (zae ?_ (zae ?_ (zae ?_ (zae ?_ (zae ?_ DrawPre.nil)))))))))) ?_
   · exact fun D n d c u i=>zan (k:=1) zu6 rfl dc (zba (by rfl) rfl) rfl rfl (zaJ 0 u i)
   · exact fun D n d c u i=>zan (k:=0) zfn rfl dc (zba (by rfl) rfl) rfl rfl (zaJ 1 u i)
   · exact fun D n d c u i=>zag zdK rfl dc (zba (by rfl) rfl) (show _=0 from rfl) (zaJ 2 u i)
   · exact fun D n d c u i=>zan (k:=3) zdV rfl dc (zaX 2 u d) rfl rfl (zaJ 3 u i)
   · exact fun D n d c u i=>zag zdK rfl dc (zba (by rfl) rfl) (show _=0 from rfl) (zaJ 4 u i)
   · exact fun D n d c u i=>zan (k:=3) zdV rfl dc (zaX 4 u d) rfl rfl (zaJ 5 u i)
   · exact fun D n d c u i=>zag zg1 rfl dc (zba (by rfl) rfl) (show _=1 from rfl) (zaJ 6 u i)
   · exact fun D n d c u i=>zan (k:=3) zdV rfl dc (zaX 6 u d) rfl rfl (zaJ 7 u i)
   · exact fun D n d c u i=>zhK rfl dc (zaX 5 u d) (zaX 7 u d) (zbh (r:=x1.At+x1.Width) (IntWalk.i64_in _ hg3)) (zaJ 8 u i)
   · exact fun D n d c u i=>zb4 rfl dc (zaX 1 u d) (evO.some (zaX 3 u d)) (evO.some (zaX 8 u d)) (za3 (i:=x1.At) (j:=x1.At+x1.Width) underlying9 (.inr rfl) (.inr rfl) hg4) (zaJ 9 u i)
   refine zfE (k:=2) underlying43 underlying9 zuG rfl dc rfl rfl rfl hg5 (fun v6 => ?_)
   refine zaQ (k:=1) (l':=[v6]) zwS rfl rfl rfl rfl rfl (fun _ h=>zrN h (k:=2) rfl) rfl ?_
   refine zaC (zad ?_)
   exact zcK (b8++(zco r1 x1.At (x1.At+x1.Width)),v6) (fun post2 e2=>by have e9:=zca hxs1 e2; subst e9; subst hag1; exact h) (zaa [0,1,2] kr rfl)
  ·
   rintro dm1 ⟨b8,v4⟩ hinv
   have h:dn1 b8=some r:=hinv [] (List.append_nil _).symm
   rw [hdn1] at h
   show TX _ _ _ _ _ _ _ [zfG ((([]:List Nat):List Nat).map zfr),emp,emp,cells b5 [.string r2] 9,emp,cells b3 [.string r1] 9,cells b4 [v4] 43,byt 5 v4 b8,zfr dm1]
   refine zes (k:=8) (j:=0) rfl rfl dc ?_
   refine zad ?_
   exact zai (b8,b4,v4,dm1::([]:List Nat)) h rfl (za7 rfl) (zaa [6,7,0] kr rfl)
  rintro dm1 c pre x1 post g hxs hX
  exact (show False from hX).elim
 rintro ⟨b2,b1,v1,ds1⟩ h
 rw [hj1] at h
 refine zyG (zan (k:=0) zu6 rfl dc rfl rfl rfl (zfD (k:=1) rfl dc rfl rfl underlying43 underlying5 underlying9 (zyR 1 rfl (zyN (zaD ?_)))))
 cases h
 exact zfL (rs:=[.tmp 2]) ds1 () (.inl rfl) (zcS (k:=2) rfl) results84 (.cons (.tmp rfl) .nil) rfl Splits.nil
def zcR (ek1:Int→Option zBA) (x1:zal) (ag1:Int→Option zBA) (n3:Int):Option zBA := grd (I64 (n3+1)) <| zat (decide ((8:Int)<(n3+1))) ( ek1 (n3+1)
) ( zak (zdr x1) fun (r3:Bool) => zat (!r3) ( zat (((n3+1):Int)==1) ( ek1 (n3+1)
) ( zak (zdC x1) fun (r4:Bool) => zat (!r4) ( ek1 (n3+1)
) ( ag1 (n3+1)
)
)
) ( ag1 (n3+1)
)
)
def zdM (s1:zBA):Option zBA := zbB (fun (j1:zBA→Option zBA) => zak (zeq s1) fun (r1:zBA) => zak (zdA r1) fun (r2:zBA) => zak (zcB r2) fun (its1:(List zal)) => zbB (fun (ek1:Int→Option zBA) => zbB (fun (dn1:Int→Option zBA) => zcH dn1 (zcR ek1) its1 0
) (fun (n3:Int) => j1 r1
)
) (fun (n4:Int) => some (⟨#[]⟩:zBA)
)
) (fun (s2:zBA) => some s2
)
theorem zkf {s1:zBA} {r:zBA} (h:zdM s1=some r):FnP prog 64 [.string s1] (.string r):=by
 unfold zdM at h
 refine FnP.intro func64 rfl ntmps64 (by simp) ?_
 intro w0 K
 refine zgr ?_
 obtain ⟨j1,hj1,h⟩:=zbP h
 refine zaZ (β:=zBA×Nat×(List Nat)) 3 rfl (fun b=>j1 b.1=some r) (fun b=>ze8 b.2.2) (fun b=>[(0,.string b.1),(2,zP b.2.1)]) (fun b=>[cells b.2.1 [.string ByteArray.empty] 9,zfG ((b.2.2:List Nat).map zfr)]) (fun cut => ?_) ?_
 ·
  refine zyG ?_
  refine za6 zzu rfl dc (fun b2 => ?_)
  refine zyH (zyR 1 rfl ?_)
  obtain ⟨r1,hq1,h⟩:=zbz h
  refine zaK (v:=.string r1) (vs:=[.string s1]) rfl dc rfl rfl rfl zyy (zkg hq1) (zyR 1 rfl (zyH ?_))
  refine za6 zwE rfl dc (fun b3 => ?_)
  refine zaQ (k:=2) (l':=[zI 0]) zik rfl rfl rfl rfl rfl (fun _ _=>rfl) rfl ?_
  refine zyN (cut (zyG (zyR 1 rfl ?_)))
  obtain ⟨r2,hq2,h⟩:=zbz h
  refine zb6 (vs:=[.string r1]) rfl dc rfl rfl rfl zss (zei hq2) Splits.nil ?_
  rintro b4
  refine zyN (zaB ?_)
  obtain ⟨its1,hq3,h⟩:=zbz h
  obtain ⟨ek1,hek1,h⟩:=zbP h
  obtain ⟨dn1,hdn1,h⟩:=zbP h
  refine zhb (α:=zal) (β:=Int) (γ:=Int) (δ:=Nat) (ps:=[9]) Ro.nil rfl zsr (zds hq3) (fun pre b=>∀ post,its1=pre++post→zcH dn1 (zcR ek1) post b=some r) (fun pre b=>[cells b2 [.string ByteArray.empty] 9,cells b3 [zI b] 3]) (fun c pre g=>(fun g=>c=.ret∧ek1 g=some r) g) (fun c pre g=>(fun g=>[cells b2 [.string (⟨#[]⟩:zBA)] 9,cells b3 [zI g] 3]) g) (fun pre x b j=>[(0,.string r1),(2,zP b2),(3,zP b3),(8,.func (.func 71) #[] #[zP b4]),(4,zP j)]) (fun pre x b j=>[cells b2 [.string ByteArray.empty] 9,cells b3 [zI b] 3,cells j (zr0 x) 95]) 0 (fun post e=>by rw [List.nil_append] at e; subst e; exact h) (zaa [1,2] kr rfl) ⟨.inl ⟨3,rfl⟩,trivial⟩ (fun _=>rfl) dc ?_ ?_ ?_ ?_
  ·
   rintro lp rc pre x1 post n3 w1 K1 hxs1 hext hro hinv
   refine zap ?_
   refine za6 zkD rfl dc (fun b5 => ?_)
   refine za4 (k:=2) (vs:=(zr0 x1)) (l':=(zr0 x1)) zfN rfl rfl rfl rfl rfl (show _≤_ by simp) rfl rfl ?_
   refine zaC ?_
   exact fun a w ha hw=>⟨b5,(za7 rfl) _ _ _ ha,hw.weaken (zaa [0,1,2] kr rfl)⟩
  ·
   rintro lp rc pre x1 post1 n3 jb1 w1 K1 hxs1 hext hro hinv
   have h:=hinv (x1::post1) hxs1
   obtain ⟨ag1,hag1⟩:∃ ag,ag=zcH dn1 (zcR ek1) post1:=⟨_,rfl⟩
   have h:zcR ek1 x1 ag1 n3=some r:=by have h2:=h; rw [zcr,← hag1] at h2; exact h2
   unfold zcR at h
   refine zaB (zyG (zan (k:=1) zdV rfl dc rfl rfl rfl ?_))
   obtain ⟨hg1,h⟩:=zb7 h
   refine zaU rfl (zbh (r:=n3+1) (IntWalk.i64_in _ hg1)) ?_
   refine zaQ (k:=1) (l':=[zI (n3+1)]) zik rfl rfl rfl rfl rfl (fun _ _=>rfl) rfl ?_
   refine zyH (zan (k:=1) zdV rfl dc rfl rfl rfl (zaU rfl zeU (zyR 1 rfl ?_)))
   refine zyS (s:=14) rfl h (fun h => ?_) (fun h => ?_)
   ·
    refine zyR 13 rfl (zaC ?_)
    refine zaF (zcd rfl (zyG ?_))
    refine zaQ (k:=0) (l':=[.string (⟨#[]⟩:zBA)]) zkq rfl rfl rfl rfl rfl (fun _ _=>rfl) rfl ?_
    refine zyN (zaD (zam ?_))
    exact zbR (n3+1) (show _∧_ from ⟨rfl,h⟩) (zaa [0,1] kr rfl)
   refine zbT (k:=2) (cs:=(zr0 x1)) zgW rfl dc rfl rfl rfl rfl ?_
   obtain ⟨r3,hq4,h⟩:=zbz h
   refine zaK (v:=.bool r3) (vs:=[.agg (zr0 x1).toArray]) rfl dc rfl rfl rfl zxj (zgK (p1:=x1) hq4) (zg6 rfl dc rfl ze4 (zyR 1 rfl ?_))
   refine zyS (s:=18) rfl h (fun h => ?_) (fun h => ?_)
   ·
    refine zan (k:=1) zdV rfl dc rfl rfl rfl (zaU rfl zbi (zyR 1 rfl ?_))
    refine zyS (s:=21) rfl h (fun h => ?_) (fun h => ?_)
    ·
     refine zyR 6 rfl (zyN (zcd rfl (zyG ?_)))
     refine zaQ (k:=0) (l':=[.string (⟨#[]⟩:zBA)]) zkq rfl rfl rfl rfl rfl (fun _ _=>rfl) rfl ?_
     refine zyN (zaD (zam ?_))
     exact zbR (n3+1) (show _∧_ from ⟨rfl,h⟩) (zaa [0,1] kr rfl)
    refine zbT (k:=2) (cs:=(zr0 x1)) zgW rfl dc rfl rfl rfl rfl ?_
    obtain ⟨r4,hq5,h⟩:=zbz h
    refine zaK (v:=.bool r4) (vs:=[.agg (zr0 x1).toArray]) rfl dc rfl rfl rfl zxn (zhG (p1:=x1) hq5) (zg6 rfl dc rfl ze4 (zyR 3 rfl (zyN ?_)))
    refine zyB rfl h (fun h => ?_) (fun h => ?_)
    ·
     refine zyG ?_
     refine zaQ (k:=0) (l':=[.string (⟨#[]⟩:zBA)]) zkq rfl rfl rfl rfl rfl (fun _ _=>rfl) rfl ?_
     refine zyN (zaD (zam ?_))
     exact zbR (n3+1) (show _∧_ from ⟨rfl,h⟩) (zaa [0,1] kr rfl)
    refine zaq (zad ?_)
    exact zcK (n3+1) (fun post2 e2=>by have e9:=zca hxs1 e2; subst e9; subst hag1; exact h) (zaa [0,1] kr rfl)
   refine zyR 9 rfl (zyN (zaY rfl (zaq (zad ?_))))
   exact zcK (n3+1) (fun post2 e2=>by have e9:=zca hxs1 e2; subst e9; subst hag1; exact h) (zaa [0,1] kr rfl)
  ·
   rintro dm1 n3 hinv
   have h:dn1 n3=some r:=hinv [] (List.append_nil _).symm
   rw [hdn1] at h
   show TX _ _ _ _ _ _ _ [zfG ((([]:List Nat):List Nat).map zfr),emp,emp,cells b4 [.string r2] 9,cells b2 [.string ByteArray.empty] 9,cells b3 [zI n3] 3,zfr dm1]
   refine zes (k:=6) (j:=0) rfl rfl dc ?_
   refine zad ?_
   exact zai (r1,b2,dm1::([]:List Nat)) h rfl (za7 rfl) (zaa [4,0] kr rfl)
  rintro dm1 c pre x1 post g hxs hX
  obtain ⟨rfl,h⟩:=(show _∧_ from hX)
  generalize g=n4 at *
  rw [hek1] at h
  show TC _ _ _ _ _ _ _ _ _ [zfG ((([]:List Nat):List Nat).map zfr),emp,emp,cells b4 [.string r2] 9,cells b2 [.string (⟨#[]⟩:zBA)] 9,cells b3 [zI n4] 3,zfr dm1]
  refine ziA (k:=6) (j:=0) rfl rfl dc ?_
  refine zaD (zam (zaj ?_))
  cases h
  exact zfL (rs:=[.cell 2 9]) (dm1::([]:List Nat)) () (.inl rfl) (zcS (k:=0) rfl) results64 (.cons (.cell zfn (k:=4) rfl rfl) .nil) rfl Splits.nil
 rintro ⟨s2,b1,ds1⟩ h
 rw [hj1] at h
 refine zyG (zyR 1 rfl ?_)
 refine zaQ (k:=0) (l':=[.string s2]) zkq rfl rfl rfl rfl rfl (fun _ _=>rfl) rfl ?_
 refine zyN (zaD ?_)
 cases h
 exact zfL (rs:=[.cell 2 9]) ds1 () (.inl rfl) (zcS (k:=1) rfl) results64 (.cons (.cell zfn (k:=0) rfl rfl) .nil) rfl Splits.nil
def zbH (o1:zac) (ag1:(List (zBA×Int))→Int→Option zac) (m3:List (zBA×Int)) (x3:Int):Option zac := zat (decide ((x3:Int)<(o1.units.length:Int))) ( zak (zd6 o1.units x3) fun (q1:zBA) => grd (I64 (x3+1)) <| ag1 (zgC q1 x3 m3) (x3+1)
) ( some (⟨o1.units,m3,o1.fors,o1.skips,o1.lines⟩:zac)
)
def zcv (o1:zac):Option zac := zaT (fun _ _=>none) (zbH o1) zcI o1.place 0
theorem zfg {bo1:Nat} {o1:zac} {o1_h0 o1_h1 o1_h2 o1_h3 o1_h4:Hd} {r:zac} (h:zcv o1=some r):Fn prog 61 [zP bo1] [cells bo1 [o1_h0.v,.map (some (za5 o1_h1)),.map (some (za5 o1_h2)),.map (some (za5 o1_h3)),o1_h4.v] 79,zv0 o1_h0.v o1.units,zbJ (fun n:zBA=>Value.string n) (fun n:Int=>Value.int .i64 n) (za5 o1_h1) o1.place,zcy (za5 o1_h2) o1.fors,zbJ (fun n:zBA=>Value.string n) (fun n:Bool=>Value.bool n) (za5 o1_h3) o1.skips,zv0 o1_h4.v o1.lines] (fun b:Hd×Hd×Hd×Hd×Hd=>.tuple #[]) (fun b=>[cells bo1 [b.1.v,.map (some (za5 b.2.1)),.map (some (za5 b.2.2.1)),.map (some (za5 b.2.2.2.1)),b.2.2.2.2.v] 79,zv0 b.1.v r.units,zbJ (fun n:zBA=>Value.string n) (fun n:Int=>Value.int .i64 n) (za5 b.2.1) r.place,zcy (za5 b.2.2.1) r.fors,zbJ (fun n:zBA=>Value.string n) (fun n:Bool=>Value.bool n) (za5 b.2.2.2.1) r.skips,zv0 b.2.2.2.2.v r.lines]):=by
 unfold zcv at h
 refine Fn.intro func61 rfl ntmps61 (by simp) ?_
 intro w0 K
 refine zyG (zyR 1 rfl (za2 rfl dc rfl (zag zjF rfl dc rfl (show _=0 from rfl) (zan (k:=0) zoz rfl dc rfl rfl rfl (zet (k:=1) rfl dc rfl rfl underlying38 (zyR 1 rfl (zyN (zaB ?_))))))))
 refine zbN (β:=Nat×(List (zBA×Int))×Int) (fun b=>zaT (fun _ _=>none) (zbH o1) b.1 b.2.1 b.2.2=some r) (fun b=>[]) (fun b=>[(0,zP bo1),(7,o1_h0.v),(8,zI (o1.units.length:Int)),(9,zI b.2.2)]) (fun b=>[cells bo1 [o1_h0.v,.map (some (za5 o1_h1)),.map (some (za5 o1_h2)),.map (some (za5 o1_h3)),o1_h4.v] 79,zv0 o1_h0.v o1.units,zbJ (fun n:zBA=>Value.string n) (fun n:Int=>Value.int .i64 n) (za5 o1_h1) b.2.1,zcy (za5 o1_h2) o1.fors,zbJ (fun n:zBA=>Value.string n) (fun n:Bool=>Value.bool n) (za5 o1_h3) o1.skips,zv0 o1_h4.v o1.lines]) (fun b=>b.1) (zcI,o1.place,0) h rfl (za7 rfl) (zaa [0,1,2,3,4,5] kr rfl) ?_
 rintro ⟨n1,m3,x3⟩ h
 cases n1 with
 | zero=>exact zez h
 | succ n1 =>
  obtain ⟨ag1,hag1⟩:∃ ag,ag=zaT (fun _ _=>none) (zbH o1) n1:=⟨_,rfl⟩
  have h:zbH o1 ag1 m3 x3=some r:=by rw [hag1]; exact h
  unfold zbH at h
  refine zyG (zaU rfl zbE (zyN (zaP ?_)))
  refine zyB rfl h (fun h => ?_) (fun h => ?_)
  ·
   refine zaq (zaF (zaP (zaB (zyG (zyR 1 rfl ?_)))))
   obtain ⟨q1,hq1,h⟩:=zbz h
   refine zbI (k:=1) hq1 underlying38 zkq rfl dc rfl rfl rfl rfl (zcP (i:=(x3:Int).toNat) (j:=0) (k:=1) (q:=q1) zfn zcM rfl dc rfl rfl (zcj hq1) rfl dc rfl (zyR 2 rfl (zyN (zap (zyR 1 rfl (za2 rfl dc rfl (zag zjE rfl dc rfl (show _=1 from rfl) (zan (k:=0) zqh rfl dc rfl rfl rfl (zyR 2 rfl ?_)))))))))
   refine zfC (k:=2) (ek:=(fun n:zBA=>Value.string n)) (ev':=(fun n:Int=>Value.int .i64 n)) (kk:=q1) (vv:=x3) (zcO underlying9) underlying75 rfl rfl rfl rfl rfl ?_
   refine zaC (zad (zaF (zap ?_)))
   obtain ⟨hg1,h⟩:=zb7 h
   refine zaU rfl (zbh (r:=x3+1) (IntWalk.i64_in _ hg1)) (zyR 1 rfl (zaC ?_))
   subst hag1
   exact zbs (n1,zgC q1 x3 m3,x3+1) h (Nat.lt_succ_self _) rfl (za7 rfl) (zaa [0,1,2,3,4,5] kr rfl)
  refine zbA (zao (zao (zaH ?_)))
  cases h
  exact zch (rs:=[]) (o1_h0,o1_h1,o1_h2,o1_h3,o1_h4) (.inr rfl) results61 .nil rfl (zaa [0,1,2,3,4,5] kr rfl)
def zdw (o1:zac) (u1:zBA):Option Bool := zat ((zby u1 o1.place).isSome) ( some true
) ( some ((zby u1 o1.fors).isSome)
)
theorem ziv {bo1:Nat} {o1:zac} {o1_h0 o1_h1 o1_h2 o1_h3 o1_h4:Hd} {u1:zBA} {r:Bool} (h:zdw o1 u1=some r):FnR prog 66 [zP bo1,.string u1] [cells bo1 [o1_h0.v,.map (some (za5 o1_h1)),.map (some (za5 o1_h2)),.map (some (za5 o1_h3)),o1_h4.v] 79,zv0 o1_h0.v o1.units,zbJ (fun n:zBA=>Value.string n) (fun n:Int=>Value.int .i64 n) (za5 o1_h1) o1.place,zcy (za5 o1_h2) o1.fors,zbJ (fun n:zBA=>Value.string n) (fun n:Bool=>Value.bool n) (za5 o1_h3) o1.skips,zv0 o1_h4.v o1.lines] [] (fun _:Unit=>(.bool r)) (fun _=>[]):=by
 unfold zdw at h
 refine FnR.intro func66 rfl ntmps66 (by simp) ?_
 intro w0 K hrd
 refine zyG (zyR 1 rfl (zyH (zyR 1 rfl (za2 rfl dc rfl (zag zjE rfl dc rfl (show _=1 from rfl) (zdz (i:=0) hrd rfl zqh rfl dc rfl rfl (zyR 1 rfl ?_)))))))
 refine zfP (k:=2) (ek:=(fun n:zBA=>Value.string n)) (ev':=(fun n:Int=>Value.int .i64 n)) (kk:=u1) (z0:=0) (zcO underlying9) underlying75 kr rfl dc rfl rfl hrd rfl ?_
 refine zyR 1 rfl (zaE rfl dc rfl rfl (zaE rfl dc rfl rfl (zyR 2 rfl (zyH (zyR 1 rfl (za2 rfl dc rfl (zag zoU rfl dc rfl (show _=2 from rfl) (zdz (i:=0) hrd rfl zu5 rfl dc rfl rfl (zyR 1 rfl ?_)))))))))
 refine zpd (i:=3) (kk:=u1) underlying9 underlying76 kr rfl dc rfl rfl hrd rfl (fun hd1 hx1 => ?_)
 refine zyR 1 rfl (zaE rfl dc rfl rfl (zaE rfl dc rfl rfl (zyR 2 rfl (zyH (zyR 2 rfl ?_)))))
 refine zyS (s:=28) rfl h (fun h => ?_) (fun h => ?_)
 ·
  refine zyR 3 rfl (zyN (zaD ?_))
  cases h
  exact za1 4 results66
 refine zyR 3 rfl (zyN (zaD ?_))
 cases h
 exact za1 4 results66
def zd8 (j1:(List zBA)→Option zac) (ag1:(List zBA)→Int→Option zac) (o4:List zBA) (r3:Int):Option zac := zat (decide ((r3:Int)<1120)) ( zbB (fun (j2:(List zBA)→Option zac) => grd (I32 r3) <| zat (ziK r3) ( zak (zhB r3) fun (r4:(List Int)) => zat (((r4.length:Int):Int)==1) ( zak (zeo r3) fun (r5:zBA) => zat (decide (r5=Utf8.encode r3)) ( grd (o4.length+1≤2147483648) <| j2 (o4++[Utf8.encode r3])
) ( j2 o4
)
) ( j2 o4
)
) ( j2 o4
)
) (fun (o5:List zBA) => grd (I32 (r3+1)) <| ag1 o5 (r3+1)
)
) ( j1 o4
)
def zdO  : Option zac := zbB (fun (j1:(List zBA)→Option zac) => zaT (fun _ _=>none) (zd8 j1) zcI ([]:List zBA) 97
) (fun (o1:List zBA) => zak (zcv (⟨o1,([]:List (zBA×Int)),([]:List (zBA×List zBA)),([]:List (zBA×Bool)),([]:List zBA)⟩:zac)) fun (r6:zac) => some r6
)
theorem zkj  {r:zac} (h:zdO=some r):Fn prog 35 [] [] (fun b:Nat×Hd×Hd×Hd×Hd×Hd=>zP b.1) (fun b=>[cells b.1 [b.2.1.v,.map (some (za5 b.2.2.1)),.map (some (za5 b.2.2.2.1)),.map (some (za5 b.2.2.2.2.1)),b.2.2.2.2.2.v] 79,zv0 b.2.1.v r.units,zbJ (fun n:zBA=>Value.string n) (fun n:Int=>Value.int .i64 n) (za5 b.2.2.1) r.place,zcy (za5 b.2.2.2.1) r.fors,zbJ (fun n:zBA=>Value.string n) (fun n:Bool=>Value.bool n) (za5 b.2.2.2.2.1) r.skips,zv0 b.2.2.2.2.2.v r.lines]):=by
 unfold zdO at h
 refine Fn.intro func35 rfl ntmps35 (by simp) ?_
 intro w0 K
 obtain ⟨j1,hj1,h⟩:=zbP h
 refine zaZ (β:=(List zBA)×Nat×Hd×Nat×Nat×Nat) 2 rfl (fun b=>j1 b.1=some r) (fun b=>[]) (fun b=>[(1,zP b.2.1)]) (fun b=>[cells b.2.1 [b.2.2.1.v,.map (some b.2.2.2.1),.map (some b.2.2.2.2.1),.map (some b.2.2.2.2.2),.slice none 0 0] 79,zv0 b.2.2.1.v b.1,zbJ (fun n:zBA=>Value.string n) (fun n:Int=>Value.int .i64 n) b.2.2.2.1 ([]:List (zBA×Int)),zcy b.2.2.2.2.1 ([]:List (zBA×List zBA)),zbJ (fun n:zBA=>Value.string n) (fun n:Bool=>Value.bool n) b.2.2.2.2.2 ([]:List (zBA×Bool))]) (fun cut => ?_) ?_
 ·
  refine zyG (zyR 1 rfl (zyH ?_))
  refine zgR (fun n:zBA=>Value.string n) (fun n:Int=>Value.int .i64 n) rfl dc (fun b5 => ?_)
  refine zgR (fun s:zBA=>Value.string s) fsV rfl dc (fun b6 => ?_)
  refine zne (As:=[zbJ (fun s:zBA=>Value.string s) fsV b6 []]) (zaa [1] kr rfl) (zol (b:=b6)) (fun _ _ => ?_)
  refine zgR (fun n:zBA=>Value.string n) (fun n:Bool=>Value.bool n) rfl dc (fun b7 => ?_)
  refine zb8 (v:=.agg #[.slice none 0 0,.map (some b5),.map (some b6),.map (some b7),.slice none 0 0]) (ps:=[(1,.tmp 3),(2,.tmp 4),(3,.tmp 5)]) rfl dc rfl (fun _=>by kernel_rfl) ?_
  refine zea rfl dc rfl (fun b8 => ?_)
  refine zyR 1 rfl (zyN (cut (zyG (zyR 1 rfl (zyN (zaB (zfF (enc:=zgT) (e:=9) (size:=1) ?_)))))))
  refine zbN (β:=Nat×(List zBA)×Int×Hd) (fun b=>zaT (fun _ _=>none) (zd8 j1) b.1 b.2.1 b.2.2.1=some r) (fun b=>[]) (fun b=>[(1,zP b8),(2,.int .i32 b.2.2.1)]) (fun b=>[cells b8 [b.2.2.2.v,.map (some b5),.map (some b6),.map (some b7),.slice none 0 0] 79,zv0 b.2.2.2.v b.2.1,zbJ (fun n:zBA=>Value.string n) (fun n:Int=>Value.int .i64 n) b5 ([]:List (zBA×Int)),zcy b6 ([]:List (zBA×List zBA)),zbJ (fun n:zBA=>Value.string n) (fun n:Bool=>Value.bool n) b7 ([]:List (zBA×Bool))]) (fun b=>b.1) (zcI,([]:List zBA),97,Hd.nil) h rfl (za7 rfl) (zaa [4,5,0,2,3] kr rfl) ?_
  rintro ⟨n1,o4,r3,hd4⟩ h
  cases n1 with
  | zero=>exact zez h
  | succ n1 =>
   obtain ⟨ag1,hag1⟩:∃ ag,ag=zaT (fun _ _=>none) (zd8 j1) n1:=⟨_,rfl⟩
   have h:zd8 j1 ag1 o4 r3=some r:=by rw [hag1]; exact h
   unfold zd8 at h
   refine zaP (zyG (zyR 1 rfl (zaU rfl zbE (zyN ?_))))
   refine zyB rfl h (fun h => ?_) (fun h => ?_)
   ·
    refine zaq (zaF ?_)
    obtain ⟨j2,hj2,h⟩:=zbP h
    refine zaZ (β:=(List zBA)×Hd) 0 rfl (fun b=>j2 b.1=some r) (fun b=>[]) (fun b=>[(1,zP b8),(2,.int .i32 r3)]) (fun b=>[cells b8 [b.2.v,.map (some b5),.map (some b6),.map (some b7),.slice none 0 0] 79,zv0 b.2.v b.1,zbJ (fun n:zBA=>Value.string n) (fun n:Int=>Value.int .i64 n) b5 ([]:List (zBA×Int)),zcy b6 ([]:List (zBA×List zBA)),zbJ (fun n:zBA=>Value.string n) (fun n:Bool=>Value.bool n) b7 ([]:List (zBA×Bool))]) (fun cut => ?_) ?_
    ·
     refine cut (zaB (zyG (zyR 1 rfl ?_)))
     obtain ⟨hg1,h⟩:=zb7 h
     refine zaK (v:=.bool (ziK r3)) (vs:=[.int .i32 r3]) rfl dc rfl rfl rfl zy0 (zdn fun w=>ziJ r3 w hg1.1 hg1.2) ?_
     refine zyR 1 rfl ?_
     refine zyS (s:=14) rfl h (fun h => ?_) (fun h => ?_)
     ·
      refine zyR 1 rfl ?_
      obtain ⟨r4,hq1,h⟩:=zbz h
      refine zb6 (vs:=[.int .i32 r3]) rfl dc rfl rfl rfl zyZ (zmP hq1) Splits.nil ?_
      rintro v1
      refine zcp (k:=5) rfl (fun hd6 he1 => ?_)
      subst he1
      refine zet (k:=5) rfl dc rfl rfl underlying30 (zaU rfl zbi (zyR 2 rfl ?_))
      refine zyS (s:=20) rfl h (fun h => ?_) (fun h => ?_)
      ·
       refine zyR 1 rfl ?_
       obtain ⟨r5,hq2,h⟩:=zbz h
       refine zaK (v:=.string r5) (vs:=[.int .i32 r3]) rfl dc rfl rfl rfl zxm (zhd hq2) (zyR 1 rfl (zdd rfl dc rfl (zcW underlying21 underlying9) (zaU rfl zed (zyR 1 rfl (zyN ?_)))))
       refine zyB rfl h (fun h => ?_) (fun h => ?_)
       ·
        refine zap (zyR 2 rfl (za2 rfl dc rfl (zag zjF rfl dc rfl (show _=0 from rfl) (zan (k:=0) zoz rfl dc rfl rfl rfl (zyR 1 rfl (zdd rfl dc rfl (zcW underlying21 underlying9) ?_))))))
        refine za0 (cs:=[.string (Utf8.encode r3)]) (te:=9) (ps:=[(0,.tmp 33)]) rfl dc rfl (fun _=>by kernel_rfl) (fun b9 => ?_)
        obtain ⟨hg2,h⟩:=zb7 h
        refine zbY (k:=1) (k2:=6) (ys:=[Utf8.encode r3]) underlying38 zxs zcM zkw rfl dc rfl rfl rfl rfl rfl rfl hg2 (fun v2 => ?_)
        refine zcp (k:=1) rfl (fun hd7 he2 => ?_)
        subst he2
        refine za2 rfl dc rfl (zag zjF rfl dc rfl (show _=0 from rfl) ?_)
        refine zaQ (k:=0) (l':=[hd7.v,.map (some b5),.map (some b6),.map (some b7),.slice none 0 0]) ztr rfl rfl rfl rfl rfl (fun _ _=>rfl) rfl ?_
        refine zaC (zad ?_)
        exact zai (o4++[Utf8.encode r3],hd7) h rfl (za7 rfl) (zaa [0,1,2,3,4] kr rfl)
       refine zaq (zad ?_)
       exact zai (o4,hd4) h rfl (za7 rfl) (zaa [0,1,2,3,4] kr rfl)
      refine zyR 6 rfl (zyN (zaY rfl (zaq (zad ?_))))
      exact zai (o4,hd4) h rfl (za7 rfl) (zaa [0,1,2,3,4] kr rfl)
     refine zyR 12 rfl (zyN ?_)
     refine zaY rfl (zaq (zad ?_))
     exact zai (o4,hd4) h rfl (za7 rfl) (zaa [0,1,2,3,4] kr rfl)
    rintro ⟨o5,hd5⟩ h
    rw [hj2] at h
    refine zap (zyR 1 rfl ?_)
    obtain ⟨hg3,h⟩:=zb7 h
    refine zaU rfl (zbh (r:=r3+1) (IntWalk.i32_in _ hg3)) (zyR 1 rfl (zaC ?_))
    subst hag1
    exact zbs (n1,o5,r3+1,hd5) h (Nat.lt_succ_self _) rfl (za7 rfl) (zaa [0,1,2,3,4] kr rfl)
   refine zbA (zao (zao (zaH ?_)))
   exact zai (o4,b8,hd4,b5,b6,b7) h rfl (za7 rfl) (zaa [0,1,2,3,4] kr rfl)
 rintro ⟨o1,b1,hd1,b2,b3,b4⟩ h
 rw [hj1] at h
 refine zyG (zyR 1 rfl (zgQ (enc:=zgT) (e:=9) (size:=1) ?_))
 obtain ⟨r6,hq3,h⟩:=zbz h
 refine zb6 (vs:=[zP b1]) rfl dc rfl rfl rfl zxl (zfg (bo1:=b1) (o1:=(⟨o1,([]:List (zBA×Int)),([]:List (zBA×List zBA)),([]:List (zBA×Bool)),([]:List zBA)⟩:zac)) (o1_h0:=hd1) (o1_h1:=(⟨some ⟨b2,0,none⟩,0,0⟩:Hd)) (o1_h2:=(⟨some ⟨b3,0,none⟩,0,0⟩:Hd)) (o1_h3:=(⟨some ⟨b4,0,none⟩,0,0⟩:Hd)) (o1_h4:=Hd.nil) hq3) (zaa [0,1,2,3,4,5] kr rfl) ?_
 rintro ⟨hd8,hd9,hd10,hd11,hd12⟩
 refine zcw (L':=[cells b1 [hd8.v,.map (some (za5 hd9)),.map (some (za5 hd10)),.map (some (za5 hd11)),hd12.v] 79,zv0 hd8.v r6.units,zbJ (fun n:zBA=>Value.string n) (fun n:Int=>Value.int .i64 n) (za5 hd9) r6.place,zcy (za5 hd10) r6.fors,zbJ (fun n:zBA=>Value.string n) (fun n:Bool=>Value.bool n) (za5 hd11) r6.skips,zv0 hd12.v r6.lines]) (zaa [6,7,8,9,10,11] kr rfl) ?_
 refine zyH (zyR 2 rfl (zyN (zaD ?_)))
 cases h
 exact zch (rs:=[.tmp 0]) (b1,hd8,hd9,hd10,hd11,hd12) (.inl rfl) results35 (.cons (.tmp rfl) .nil) rfl (zaa [0,1,2,3,4,5] kr rfl)
def zc3 (j2:Option (List zBA)) (ag1:zBA→Option (List zBA)) (x3:zBA):Option (List zBA) := zat (decide ((0:Int)<(x3.size:Int))) ( grd (False) <| grd (0≤(0:Int)∧(0:Int)≤0∧(0:Int)≤(x3.size:Int)) <| zo5 (zco x3 0 0) <| grd (0≤(0:Int)∧(0:Int)≤(x3.size:Int)∧((x3.size:Int):Int)≤(x3.size:Int)) <| ag1 (zco x3 0 (x3.size:Int))
) ( j2
)
def zbU (c0:zBA) (c2:Int) (j3:zBA→Option (List zBA)) (ag2:zBA→Option (List zBA)) (x7:zBA):Option (List zBA) := grd (c0=⟨#[10]⟩) <| zat (decide (((Lib.indexByte x7.data.toList 10):Int)<0)) ( j3 x7
) ( grd (I64 ((Lib.indexByte x7.data.toList 10)+c2)) <| grd (0≤(0:Int)∧(0:Int)≤((Lib.indexByte x7.data.toList 10)+c2)∧((Lib.indexByte x7.data.toList 10)+c2:Int)≤(x7.size:Int)) <| zo5 (zco x7 0 ((Lib.indexByte x7.data.toList 10)+c2)) <| grd (I64 ((Lib.indexByte x7.data.toList 10)+(c0.size:Int))) <| grd (0≤((Lib.indexByte x7.data.toList 10)+(c0.size:Int):Int)∧((Lib.indexByte x7.data.toList 10)+(c0.size:Int):Int)≤(x7.size:Int)∧((x7.size:Int):Int)≤(x7.size:Int)) <| ag2 (zco x7 ((Lib.indexByte x7.data.toList 10)+(c0.size:Int)) (x7.size:Int))
)
def zdH (c0:zBA) (c1:zBA) (c2:Int):Option (List zBA) := zbB (fun (j1:Option (List zBA)) => zat (((c0.size:Int):Int)==0) ( zbB (fun (j2:Option (List zBA)) => zaT (fun _=>none) (zc3 j2) zcI c1
) ( some []
)
) ( j1
)
) ( zbB (fun (j3:zBA→Option (List zBA)) => zaT (fun _=>none) (zbU c0 c2 j3) zcI c1
) (fun (x4:zBA) => zo5 x4 <| some []
)
)
theorem zhh {b_c0:Nat} {c0:zBA} {b_c1:Nat} {c1:zBA} {b_c2:Nat} {c2:Int} {xs:(List zBA)} (h:zdH c0 c1 c2=some xs):ItrM prog 81 [zP b_c0,zP b_c1,zP b_c2] (fun q:zBA=>[.string q]) xs [cells b_c0 [.string c0] 9,cells b_c1 [.string c1] 9,cells b_c2 [zI c2] 3]:=by
 unfold zdH at h
 refine ItrM.intro func81 rfl ntmps81 (by simp) ?_
 intro l w0 K I X  hy
 obtain ⟨r0,hx0⟩:∃ r,xs=[]++r:=⟨xs,rfl⟩
 have hr0:xs=r0:=hx0
 rw [hr0] at h
 obtain ⟨j1,hj1,h⟩:=zbP h
 refine zaZ (β:=Unit) 0 rfl (fun b=>j1=some r0) (fun b=>[]) (fun b=>[(0,.func (.yield l) #[] #[]),(1,zP b_c0),(2,zP b_c1),(3,zP b_c2)]) (fun b=>[I ([]:List zBA),cells b_c0 [.string c0] 9,cells b_c1 [.string c1] 9,cells b_c2 [zI c2] 3]) (fun cut => ?_) ?_
 ·
  refine cut (zyG (zan (k:=1) zfn rfl dc rfl rfl rfl (zcN rfl dc rfl underlying9 (zaU rfl zbi (zyN ?_)))))
  refine zyB rfl h (fun h => ?_) (fun h => ?_)
  ·
   obtain ⟨j2,hj2,h⟩:=zbP h
   refine zaZ (β:=(List zBA)×(List zBA)) 0 rfl (fun b=>j2=some b.2∧xs=b.1++b.2) (fun b=>[]) (fun b=>[]) (fun b=>[I b.1]) (fun cut => ?_) ?_
   ·
    refine cut (zaB ?_)
    refine zbN (β:=Nat×zBA×(List zBA)×(List zBA)) (fun b=>zaT (fun _=>none) (zc3 j2) b.1 b.2.1=some b.2.2.2∧xs=b.2.2.1++b.2.2.2) (fun b=>[]) (fun b=>[(0,.func (.yield l) #[] #[]),(2,zP b_c1)]) (fun b=>[I b.2.2.1,cells b_c1 [.string b.2.1] 9]) (fun b=>b.1) (zcI,c1,([]:List zBA),r0) ⟨h,hx0⟩ rfl (za7 rfl) (zaa [0,2] kr rfl) ?_
    rintro ⟨n1,x3,acc4,rr4⟩ ⟨h,hx4⟩
    cases n1 with
    | zero=>exact zez h
    | succ n1 =>
     obtain ⟨ag1,hag1⟩:∃ ag,ag=zaT (fun _=>none) (zc3 j2) n1:=⟨_,rfl⟩
     have h:zc3 j2 ag1 x3=some rr4:=by rw [hag1]; exact h
     unfold zc3 at h
     refine zaP (zyG (zan (k:=1) zfn rfl dc rfl rfl rfl (zcN rfl dc rfl underlying9 (zaU rfl zeU (zyN ?_)))))
     refine zyB rfl h (fun h => ?_) (fun h => ?_)
     ·
      refine zaq (zaF (zaB (zyG (zan (k:=1) zfn rfl dc rfl rfl rfl ?_))))
      obtain ⟨hg1,h⟩:=zb7 h
      refine zaK (v:=.tuple #[.int .i32 0,zI 0]) (vs:=[.string x3]) rfl dc rfl rfl rfl zyA (hg1).elim (zyR 1 rfl (zaE rfl dc rfl rfl (zaE rfl dc rfl rfl (zyR 2 rfl (zyN (zaP (zyG (zyR 1 rfl (zan (k:=1) zfn rfl dc rfl rfl rfl (zyR 1 rfl ?_))))))))))
      obtain ⟨hg2,h⟩:=zb7 h
      refine zb4 rfl dc rfl rfl rfl (za3 (i:=0) (j:=0) underlying9 (.inl ⟨rfl,rfl⟩) (.inr rfl) hg2) ?_
      obtain ⟨rr5,hr1,h⟩:=zqV h
      have hx5:xs=acc4++(zco x3 0 0)::rr5:=by rw [hx4,hr1]
      refine zhY hy rfl dc rfl hx5 rfl (k:=0) rfl ?_ ?_
      ·
       have hx6:xs=(acc4++[zco x3 0 0])++rr5:=by rw [hx5]; simp
       refine zg6 rfl dc rfl ze4 (zyN (zaY rfl (zaq (zaF (zap (zan (k:=1) zfn rfl dc rfl rfl rfl (zyR 1 rfl ?_)))))))
       obtain ⟨hg3,h⟩:=zb7 h
       refine zb4 rfl dc rfl rfl rfl (za3 (i:=0) (j:=(x3.size:Int)) underlying9 (.inr rfl) (.inl ⟨rfl,rfl⟩) hg3) ?_
       refine zaQ (k:=1) (l':=[.string (zco x3 0 (x3.size:Int))]) zkq rfl rfl rfl rfl rfl (fun _ _=>rfl) rfl ?_
       refine zaC (zad ?_)
       subst hag1
       exact zbs (n1,zco x3 0 (x3.size:Int),acc4++[zco x3 0 0],rr5) ⟨h,hx6⟩ (Nat.lt_succ_self _) rfl (za7 rfl) (zaa [0,1] kr rfl)
      refine zg6 rfl dc rfl ze4 (zyN (zcd rfl (zaD (zaj (zam (zaj (zam (zaj (zaj ?_)))))))))
      exact zjT (ds:=[]) acc4 (zco x3 0 0) rr5 hx5 (.inl rfl) Splits.nil results81 (zaa [0] kr rfl)
     refine zbA (zao (zao (zaH ?_)))
     exact zai (acc4,rr4) ⟨h,hx4⟩ rfl (zhM) (zaa [0] kr rfl)
   rintro ⟨acc1,rr1⟩ ⟨h,hx1⟩
   rw [hj2] at h
   refine zaD (zaj ?_)
   cases h
   exact zlj (ds:=[]) (.inl rfl) Splits.nil results81 (congrArg I (hx1.trans (List.append_nil _))) (zaa [0] kr rfl)
  refine zaq ?_
  exact zai () h rfl (za7 rfl) (zaa [0,1,2,3] kr rfl)
 rintro _ h
 rw [hj1] at h
 obtain ⟨j3,hj3,h⟩:=zbP h
 refine zaZ (β:=zBA×(List zBA)×(List zBA)) 0 rfl (fun b=>j3 b.1=some b.2.2∧xs=b.2.1++b.2.2) (fun b=>[]) (fun b=>[(0,.func (.yield l) #[] #[]),(2,zP b_c1)]) (fun b=>[I b.2.1,cells b_c1 [.string b.1] 9]) (fun cut => ?_) ?_
 ·
  refine cut (zaB ?_)
  refine zbN (β:=Nat×zBA×(List zBA)×(List zBA)) (fun b=>zaT (fun _=>none) (zbU c0 c2 j3) b.1 b.2.1=some b.2.2.2∧xs=b.2.2.1++b.2.2.2) (fun b=>[]) (fun b=>[(0,.func (.yield l) #[] #[]),(1,zP b_c0),(2,zP b_c1),(3,zP b_c2)]) (fun b=>[I b.2.2.1,cells b_c0 [.string c0] 9,cells b_c1 [.string b.2.1] 9,cells b_c2 [zI c2] 3]) (fun b=>b.1) (zcI,c1,([]:List zBA),r0) ⟨h,hx0⟩ rfl (za7 rfl) (zaa [0,1,2,3] kr rfl) ?_
  rintro ⟨n2,x7,acc8,rr9⟩ ⟨h,hx10⟩
  cases n2 with
  | zero=>exact zez h
  | succ n2 =>
   obtain ⟨ag2,hag2⟩:∃ ag,ag=zaT (fun _=>none) (zbU c0 c2 j3) n2:=⟨_,rfl⟩
   have h:zbU c0 c2 j3 ag2 x7=some rr9:=by rw [hag2]; exact h
   unfold zbU at h
   refine zaB (zyG (zan (k:=2) zfn rfl dc rfl rfl rfl (zan (k:=1) zfn rfl dc rfl rfl rfl ?_)))
   obtain ⟨hg4,h⟩:=zb7 h
   refine zaK (v:=zI (Lib.indexByte x7.data.toList 10)) (vs:=[.string x7,.string c0]) rfl dc rfl rfl rfl zyz (zvp x7 hg4) (zyR 1 rfl (zyN (zaP (zyG (zyR 1 rfl (zaU rfl zbE (zyN ?_)))))))
   refine zyB rfl h (fun h => ?_) (fun h => ?_)
   ·
    refine zbA (zao (zhX dc (zao (zaH ?_))))
    exact zai (x7,acc8,rr9) ⟨h,hx10⟩ rfl (za7 rfl) (zaa [0,2] kr rfl)
   refine zaq (zaF (zyG (zan (k:=2) zfn rfl dc rfl rfl rfl (zyR 1 rfl (zan (k:=3) zdV rfl dc rfl rfl rfl ?_)))))
   obtain ⟨hg5,h⟩:=zb7 h
   refine zaU rfl (zbh (r:=(Lib.indexByte x7.data.toList 10)+c2) (IntWalk.i64_in _ hg5)) ?_
   obtain ⟨hg6,h⟩:=zb7 h
   refine zb4 rfl dc rfl rfl rfl (za3 (i:=0) (j:=(Lib.indexByte x7.data.toList 10)+c2) underlying9 (.inl ⟨rfl,rfl⟩) (.inr rfl) hg6) (zyR 1 rfl (zyN (zaP (zyG (zyR 2 rfl ?_)))))
   obtain ⟨rr10,hr2,h⟩:=zqV h
   have hx11:xs=acc8++(zco x7 0 ((Lib.indexByte x7.data.toList 10)+c2))::rr10:=by rw [hx10,hr2]
   refine zhY hy rfl dc rfl hx11 rfl (k:=0) rfl ?_ ?_
   ·
    have hx12:xs=(acc8++[zco x7 0 ((Lib.indexByte x7.data.toList 10)+c2)])++rr10:=by rw [hx11]; simp
    refine zg6 rfl dc rfl ze4 (zyN (zaY rfl (zaq (zaF (zap (zan (k:=2) zfn rfl dc rfl rfl rfl (zyR 1 rfl (zan (k:=1) zfn rfl dc rfl rfl rfl (zcN rfl dc rfl underlying9 ?_)))))))))
    obtain ⟨hg7,h⟩:=zb7 h
    refine zaU rfl (zbh (r:=(Lib.indexByte x7.data.toList 10)+(c0.size:Int)) (IntWalk.i64_in _ hg7)) ?_
    obtain ⟨hg8,h⟩:=zb7 h
    refine zb4 rfl dc rfl rfl rfl (za3 (i:=(Lib.indexByte x7.data.toList 10)+(c0.size:Int)) (j:=(x7.size:Int)) underlying9 (.inr rfl) (.inl ⟨rfl,rfl⟩) hg8) ?_
    refine zaQ (k:=2) (l':=[.string (zco x7 ((Lib.indexByte x7.data.toList 10)+(c0.size:Int)) (x7.size:Int))]) zkq rfl rfl rfl rfl rfl (fun _ _=>rfl) rfl ?_
    refine zaC (zad ?_)
    subst hag2
    exact zbs (n2,zco x7 ((Lib.indexByte x7.data.toList 10)+(c0.size:Int)) (x7.size:Int),acc8++[zco x7 0 ((Lib.indexByte x7.data.toList 10)+c2)],rr10) ⟨h,hx12⟩ (Nat.lt_succ_self _) rfl (za7 rfl) (zaa [0,1,2,3] kr rfl)
   refine zg6 rfl dc rfl ze4 (zyN (zcd rfl (zaD (zaj (zam (zaj (zam (zaj ?_))))))))
   exact zjT (ds:=[]) acc8 (zco x7 0 ((Lib.indexByte x7.data.toList 10)+c2)) rr10 hx11 (.inl rfl) Splits.nil results81 (zaa [0] kr rfl)
 rintro ⟨x4,acc5,rr6⟩ ⟨h,hx7⟩
 rw [hj3] at h
 refine zap (zyR 1 rfl (zan (k:=1) zfn rfl dc rfl rfl rfl ?_))
 obtain ⟨rr11,hr3,h⟩:=zqV h
 have hx13:xs=acc5++x4::rr11:=by rw [hx7,hr3]
 refine zhY hy rfl dc rfl hx13 rfl (k:=0) rfl ?_ ?_
 ·
  have hx14:xs=(acc5++[x4])++rr11:=by rw [hx13]; simp
  refine zaC ?_
  cases h
  exact zlj (ds:=[]) (.inr rfl) Splits.nil results81 (congrArg I (hx14.trans (List.append_nil _))) (zaa [0] kr rfl)
 refine zaC ?_
 exact zjT (ds:=[]) acc5 x4 rr11 hx13 (.inr rfl) Splits.nil results81 (zaa [0] kr rfl)
def ze6 (s1:zBA) (sep1:zBA) (sepSave1:Int):Option (zBA×zBA×Int) := some (sep1,s1,sepSave1)
theorem zil {s1:zBA} {sep1:zBA} {sepSave1:Int} {r:(zBA×zBA×Int)} (h:ze6 s1 sep1 sepSave1=some r):Fn prog 62 [.string s1,.string sep1,zI sepSave1] [] (fun b:Nat×Nat×Nat=>.func (.func 81) #[] #[zP b.1,zP b.2.1,zP b.2.2]) (fun b=>[cells b.1 [.string r.1] 9,cells b.2.1 [.string r.2.1] 9,cells b.2.2 [zI r.2.2] 3]):=by
 unfold ze6 at h
 refine Fn.intro func62 rfl ntmps62 (by simp) ?_
 intro w0 K
 refine zyG ?_
 refine zea rfl dc rfl (fun b1 => ?_)
 refine zea rfl dc rfl (fun b2 => ?_)
 refine zea rfl dc rfl (fun b3 => ?_)
 refine zyR 1 rfl (zyH (zf7 (x1:=[]) (x2:=[.tmp 4,.tmp 3,.tmp 5]) rfl dc rfl rfl (zyR 1 rfl (zyN (zaD ?_)))))
 cases h
 exact zch (rs:=[.tmp 6]) (b2,b1,b3) (.inl rfl) results62 (.cons (.tmp rfl) .nil) rfl (zaa [1,0,2] kr rfl)
def ze7 (s1:zBA) (sep1:zBA):Option (zBA×zBA×Int) := zak (ze6 s1 sep1 0) fun (r1:(zBA×zBA×Int)) => some (r1.1,r1.2.1,r1.2.2)
theorem zim {s1:zBA} {sep1:zBA} {r:(zBA×zBA×Int)} (h:ze7 s1 sep1=some r):Fn prog 36 [.string s1,.string sep1] [] (fun b:Nat×Nat×Nat=>.func (.func 81) #[] #[zP b.1,zP b.2.1,zP b.2.2]) (fun b=>[cells b.1 [.string r.1] 9,cells b.2.1 [.string r.2.1] 9,cells b.2.2 [zI r.2.2] 3]):=by
 unfold ze7 at h
 refine Fn.intro func36 rfl ntmps36 (by simp) ?_
 intro w0 K
 refine zyG (zyR 1 rfl (zyH (zyR 2 rfl ?_)))
 obtain ⟨r1,hq1,h⟩:=zbz h
 refine zb6 (vs:=[.string s1,.string sep1,zI 0]) rfl dc rfl rfl rfl zyY (zil hq1) Splits.nil ?_
 rintro ⟨b1,b2,b3⟩
 refine zyR 1 rfl (zyN (zaD ?_))
 cases h
 exact zch (rs:=[.tmp 4]) (b1,b2,b3) (.inl rfl) results36 (.cons (.tmp rfl) .nil) rfl (zaa [0,1,2] kr rfl)
def zaO (x1:zal) (ag1:(List zal)→Option (List zal)) (s5:List zal):Option (List zal) := grd (s5.length+1≤2147483648) <| ag1 (s5++[x1])
def zbj (xseq10:zBA):Option (List zal) := zbB (fun (j1:(List zal)→Option (List zal)) => zak (zcB xseq10) fun (its1:(List zal)) => zbB (fun (dn1:(List zal)→Option (List zal)) => zcH dn1 (zaO) its1 ([]:List zal)
) (fun (s5:List zal) => j1 s5
)
) (fun (s2:List zal) => some s2
)
theorem zdS {bseq10:Nat} {xseq10:zBA} {r:(List zal)} (h:zbj xseq10=some r):Fn prog 92 [.slice none 0 0,.func (.func 71) #[] #[zP bseq10]] [cells bseq10 [.string xseq10] 9] (fun v0:Value=>v0) (fun v0=>[cells bseq10 [.string xseq10] 9,zv5 v0 r]):=by
 unfold zbj at h
 refine Fn.intro func92 rfl ntmps92 (by simp) ?_
 intro w0 K
 refine zgr ?_
 obtain ⟨j1,hj1,h⟩:=zbP h
 refine zaZ (β:=(List zal)×Nat×Value×(List Nat)) 1 rfl (fun b=>j1 b.1=some r) (fun b=>ze8 b.2.2.2) (fun b=>[(2,zP b.2.1)]) (fun b=>[cells bseq10 [.string xseq10] 9,cells b.2.1 [b.2.2.1] 103,zv5 b.2.2.1 b.1,zfG ((b.2.2.2:List Nat).map zfr)]) (fun cut => ?_) ?_
 ·
  refine zyG ?_
  refine zwg (fun _ _=>rfl) rfl dc rfl (fun b2 => ?_)
  refine zyR 1 rfl (zyN (cut (zyG (zyR 1 rfl (zyN (zaB ?_))))))
  obtain ⟨its1,hq1,h⟩:=zbz h
  refine zfF (enc:=zbK) (e:=95) (size:=4) ?_
  obtain ⟨dn1,hdn1,h⟩:=zbP h
  refine zhb (α:=zal) (β:=(List zal)×Value) (γ:=Unit) (δ:=Nat) (ps:=[7]) Ro.nil rfl zsr (zds hq1) (fun pre b=>∀ post,its1=pre++post→zcH dn1 (zaO) post b.1=some r) (fun pre b=>[cells b2 [b.2] 103,zv5 b.2 b.1]) (fun c pre g=>False) (fun c pre g=>[]) (fun pre x b j=>[(2,zP b2),(4,.slice none 0 0),(6,.func (.func 71) #[] #[zP bseq10]),(5,zP j)]) (fun pre x b j=>[cells b2 [b.2] 103,zv5 b.2 b.1,cells j (zr0 x) 95]) (([]:List zal),(.slice none 0 0)) (fun post e=>by rw [List.nil_append] at e; subst e; exact h) (zaa [2,3] kr rfl) ⟨.inl ⟨0,rfl⟩,trivial⟩ (fun _=>rfl) dc ?_ ?_ ?_ ?_
  ·
   rintro lp rc pre x1 post ⟨s5,v4⟩ w1 K1 hxs1 hext hro hinv
   refine zap ?_
   refine za6 zkD rfl dc (fun b3 => ?_)
   refine za4 (k:=2) (vs:=(zr0 x1)) (l':=(zr0 x1)) zfN rfl rfl rfl rfl rfl (show _≤_ by simp) rfl rfl ?_
   refine zaC ?_
   exact fun a w ha hw=>⟨b3,(za7 rfl) _ _ _ ha,hw.weaken (zaa [0,1,2] kr rfl)⟩
  ·
   rintro lp rc pre x1 post1 ⟨s5,v4⟩ jb1 w1 K1 hxs1 hext hro hinv
   have h:=hinv (x1::post1) hxs1
   obtain ⟨ag1,hag1⟩:∃ ag,ag=zcH dn1 (zaO) post1:=⟨_,rfl⟩
   have h:zaO x1 ag1 s5=some r:=by have h2:=h; rw [zcr,← hag1] at h2; exact h2
   unfold zaO at h
   refine zaB (zap (zan (k:=0) zup rfl dc rfl rfl rfl (zbT (k:=2) (cs:=(zr0 x1)) zgW rfl dc rfl rfl rfl rfl ?_)))
   refine za0 (cs:=(zr0 x1)) (te:=95) (ps:=[(0,.tmp 9)]) rfl dc rfl (fun _=>by kernel_rfl) (fun b4 => ?_)
   obtain ⟨hg1,h⟩:=zb7 h
   refine zbY (k:=1) (k2:=3) (ys:=[x1]) underlying103 zzk zgn zjb rfl dc rfl rfl rfl rfl rfl rfl hg1 (fun v5 => ?_)
   refine zaQ (k:=0) (l':=[v5]) zwU rfl rfl rfl rfl rfl (fun _ h=>zvf h (k:=1) rfl) rfl ?_
   refine zaC (zad ?_)
   exact zcK (s5++[x1],v5) (fun post2 e2=>by have e9:=zca hxs1 e2; subst e9; subst hag1; exact h) (zaa [0,1] kr rfl)
  ·
   rintro dm1 ⟨s5,v4⟩ hinv
   have h:dn1 s5=some r:=hinv [] (List.append_nil _).symm
   rw [hdn1] at h
   show TX _ _ _ _ _ _ _ [cells bseq10 [.string xseq10] 9,zfG ((([]:List Nat):List Nat).map zfr),emp,emp,cells b2 [v4] 103,zv5 v4 s5,zfr dm1]
   refine zes (k:=6) (j:=1) rfl rfl dc ?_
   refine zad ?_
   exact zai (s5,b2,v4,dm1::([]:List Nat)) h rfl (za7 rfl) (zaa [0,4,5,1] kr rfl)
  rintro dm1 c pre x1 post g hxs hX
  exact (show False from hX).elim
 rintro ⟨s2,b1,v1,ds1⟩ h
 rw [hj1] at h
 refine zyG (zan (k:=1) zup rfl dc rfl rfl rfl (zyR 1 rfl (zyN (zaD ?_))))
 cases h
 exact zfL (rs:=[.tmp 4]) ds1 v1 (.inl rfl) (zcS (k:=3) rfl) results92 (.cons (.tmp rfl) .nil) rfl (zaa [0,2] kr rfl)
def zdx (xseq10:zBA):Option (List zal) := zak (zbj xseq10) fun (r1:(List zal)) => some r1
theorem zhk {bseq10:Nat} {xseq10:zBA} {r:(List zal)} (h:zdx xseq10=some r):Fn prog 76 [.func (.func 71) #[] #[zP bseq10]] [cells bseq10 [.string xseq10] 9] (fun v0:Value=>v0) (fun v0=>[cells bseq10 [.string xseq10] 9,zv5 v0 r]):=by
 unfold zdx at h
 refine Fn.intro func76 rfl ntmps76 (by simp) ?_
 intro w0 K
 refine zyG (zyR 1 rfl (zyH (zyR 1 rfl ?_)))
 obtain ⟨r1,hq1,h⟩:=zbz h
 refine zb6 (vs:=[.slice none 0 0,.func (.func 71) #[] #[zP bseq10]]) rfl dc rfl rfl rfl zyv (zdS (bseq10:=bseq10) hq1) (zaa [0] kr rfl) ?_
 rintro v1
 refine zyR 1 rfl (zyN (zaD ?_))
 cases h
 exact zch (rs:=[.tmp 2]) v1 (.inl rfl) results76 (.cons (.tmp rfl) .nil) rfl (zaa [1,2] kr rfl)
def zdh (vals1:List Int) (j1:Option Int) (ag1:Int→Option Int) (x3:Int):Option Int := zat (decide ((x3:Int)<(vals1.length:Int))) ( zak (zd6 vals1 x3) fun (q1:Int) => zat ((q1:Int) != 0) ( some q1
) ( grd (I64 (x3+1)) <| ag1 (x3+1)
)
) ( j1
)
def zfh (vals1:List Int):Option Int := zbB (fun (j1:Option Int) => zaT (fun _=>none) (zdh vals1 j1) zcI 0
) ( some 0
)
theorem zlE {vvvals1 vvals1:Value} {Lvals1:List Int} {kvals1:Nat} {vals1:List Int} (hwvals1:Vw vvvals1 Lvals1 1 kvals1 vvals1 vals1) {r:Int} (h:zfh vals1=some r):FnR prog 53 [vvals1] [zeQ (zkd (.i64)) 1 vvvals1 kvals1 Lvals1] [] (fun _:Unit=>(zI r)) (fun _=>[]):=by
 unfold zfh at h
 refine FnR.intro func53 rfl ntmps53 (by simp) ?_
 intro w0 K hrd
 obtain ⟨j1,hj1,h⟩:=zbP h
 refine zaZ (β:=Unit) 2 rfl (fun b=>j1=some r) (fun b=>[]) (fun b=>[(3,zI 0)]) (fun b=>[]) (fun cut => ?_) ?_
 ·
  refine zyG (zyR 1 rfl (zyH (zyR 1 rfl (zyN (cut (zyG (zyR 1 rfl ?_)))))))
  refine zck hwvals1 rfl dc rfl underlying128 (zyR 1 rfl (zyN (zaB ?_)))
  refine zbN (β:=Nat×Int) (fun b=>zaT (fun _=>none) (zdh vals1 j1) b.1 b.2=some r) (fun b=>[]) (fun b=>[(3,zI 0),(6,vvals1),(7,zI (vals1.length:Int)),(8,zI b.2)]) (fun b=>[]) (fun b=>b.1) (zcI,0) h rfl (za7 rfl) Splits.nil ?_
  rintro ⟨n1,x3⟩ h
  cases n1 with
  | zero=>exact zez h
  | succ n1 =>
   obtain ⟨ag1,hag1⟩:∃ ag,ag=zaT (fun _=>none) (zdh vals1 j1) n1:=⟨_,rfl⟩
   have h:zdh vals1 j1 ag1 x3=some r:=by rw [hag1]; exact h
   unfold zdh at h
   refine zyG (zaU rfl zbE (zyN (zaP ?_)))
   refine zyB rfl h (fun h => ?_) (fun h => ?_)
   ·
    refine zaq (zaF (zaP (zaB (zyG ?_))))
    obtain ⟨q1,hq1,h⟩:=zbz h
    refine zbd hwvals1 hq1 underlying128 zik rfl dc rfl rfl rfl (zct (n:=kvals1+(x3:Int).toNat) (j:=0) (i:=0) (q:=q1) hrd rfl (by omega) zdV rfl dc rfl (Vw.get hwvals1 hq1) rfl rfl (zyR 1 rfl (zyH (zyR 2 rfl (zaU rfl zeH (zyN ?_))))))
    refine zyB rfl h (fun h => ?_) (fun h => ?_)
    ·
     refine zyG (zyR 2 rfl (zyN (zaD (zam (zaj (zaj (zam (zaj ?_))))))))
     cases h
     exact za1 2 results53
    refine zaq (zad (zaF (zap ?_)))
    obtain ⟨hg1,h⟩:=zb7 h
    refine zaU rfl (zbh (r:=x3+1) (IntWalk.i64_in _ hg1)) (zyR 1 rfl (zaC ?_))
    subst hag1
    exact zbs (n1,x3+1) h (Nat.lt_succ_self _) rfl (za7 rfl) Splits.nil
   refine zbA (zao (zao (zaH ?_)))
   exact zai () h rfl (za7 rfl) Splits.nil
 rintro _ h
 rw [hj1] at h
 refine zyG (zyR 2 rfl (zyN (zaD ?_)))
 cases h
 exact za1 2 results53
def zd9 (x1:Int):Option Bool := some ((x1:Int) != x1)
theorem zgM {x1:Int} {r:Bool} (h:zd9 x1=some r):FnP prog 78 [zI x1] (.bool r):=by
 unfold zd9 at h
 refine FnP.intro func78 rfl ntmps78 (by simp) ?_
 intro w0 K
 refine zyG (zyR 1 rfl (zyH (zyR 2 rfl (zaU rfl zeH (zyR 1 rfl (zyN (zaD ?_)))))))
 cases h
 exact za1 2 results78
def zec (x1:Int) (y1:Int):Option Int := zak (zd9 x1) fun (r1:Bool) => zak (zd9 y1) fun (r2:Bool) => zat (r1) ( zat (r2) ( some 0
) ( some (-1)
)
) ( zat (r2) ( some 1
) ( zat (decide ((x1:Int)<y1)) ( some (-1)
) ( zat (decide ((y1:Int)<x1)) ( some 1
) ( some 0
)
)
)
)
theorem ziw {x1:Int} {y1:Int} {r:Int} (h:zec x1 y1=some r):FnP prog 55 [zI x1,zI y1] (zI r):=by
 unfold zec at h
 refine FnP.intro func55 rfl ntmps55 (by simp) ?_
 intro w0 K
 refine zyG (zyR 1 rfl (zyH (zyR 1 rfl ?_)))
 obtain ⟨r1,hq1,h⟩:=zbz h
 refine zaK (v:=.bool r1) (vs:=[zI x1]) rfl dc rfl rfl rfl zxk (zgM hq1) (zyR 1 rfl (zyH (zyR 1 rfl ?_)))
 obtain ⟨r2,hq2,h⟩:=zbz h
 refine zaK (v:=.bool r2) (vs:=[zI y1]) rfl dc rfl rfl rfl zxk (zgM hq2) (zyR 1 rfl (zyN (zaP (zyG (zyR 1 rfl (zyN ?_))))))
 refine zyB rfl h (fun h => ?_) (fun h => ?_)
 ·
  refine zaP (zyG (zyR 1 rfl (zyN ?_)))
  refine zyB rfl h (fun h => ?_) (fun h => ?_)
  ·
   refine zyG (zyR 1 rfl (zyN (zaD (zaj (zaj ?_)))))
   cases h
   exact za1 4 results55
  refine zaq (zaF (zyG (zyR 1 rfl (zyN (zaD (zaj ?_))))))
  cases h
  exact za1 4 results55
 refine zaq (zaF (zaP (zyG (zyR 1 rfl (zyN ?_)))))
 refine zyB rfl h (fun h => ?_) (fun h => ?_)
 ·
  refine zyG (zyR 1 rfl (zyN (zaD (zaj ?_))))
  cases h
  exact za1 4 results55
 refine zaq (zaF (zaP (zyG (zyR 2 rfl (zaU rfl zbE (zyN ?_))))))
 refine zyB rfl h (fun h => ?_) (fun h => ?_)
 ·
  refine zyG (zyR 1 rfl (zyN (zaD (zaj ?_))))
  cases h
  exact za1 4 results55
 refine zaq (zaF (zaP (zyG (zyR 2 rfl (zaU rfl zeU (zyN ?_))))))
 refine zyB rfl h (fun h => ?_) (fun h => ?_)
 ·
  refine zyG (zyR 1 rfl (zyN (zaD (zaj ?_))))
  cases h
  exact za1 4 results55
 refine zaq (zaF (zyG (zyR 1 rfl (zyN (zaD ?_)))))
 cases h
 exact za1 4 results55
def zbe (o1:zac) (s1:zBA) (ek1:Int→Int→Int→Option Int) (x1:zal) (ag1:Int→Int→Bool→Option Int) (from4:Int) (to4:Int) (open3:Bool):Option Int := grd (I32 x1.Rune) <| zat (decide ((from4:Int)<0)) ( zat (((zbx x1.Broken x1.Rune):Int)==1) ( grd (I64 (x1.At+x1.Width)) <| ag1 x1.At (x1.At+x1.Width) open3
) ( zat (decide ((from4:Int)<0)) ( ag1 from4 to4 open3
) ( zat (open3) ( zat (((zbx x1.Broken x1.Rune):Int)==1) ( grd (I64 (x1.At+x1.Width)) <| ag1 from4 (x1.At+x1.Width) open3
) ( zat (((zbx x1.Broken x1.Rune):Int)==2) ( grd (I64 (x1.At+x1.Width)) <| ag1 from4 (x1.At+x1.Width) open3
) ( zat (((zbx x1.Broken x1.Rune):Int)==1) ( grd (0≤(from4:Int)∧(from4:Int)≤to4∧(to4:Int)≤(s1.size:Int)) <| zak (zcF (zco s1 from4 to4)) fun (r2:zBA) => zat (((zby r2 o1.skips).getD false)) ( ek1 to4 from4 to4
) ( ek1 0 from4 to4
)
) ( zat (((zbx x1.Broken x1.Rune):Int)==3) ( grd (0≤(from4:Int)∧(from4:Int)≤to4∧(to4:Int)≤(s1.size:Int)) <| zak (zcF (zco s1 from4 to4)) fun (r3:zBA) => zat (((zby r3 o1.skips).getD false)) ( ek1 to4 from4 to4
) ( ek1 0 from4 to4
)
) ( ag1 from4 to4 false
)
)
)
)
) ( zat (((zbx x1.Broken x1.Rune):Int)==1) ( grd (0≤(from4:Int)∧(from4:Int)≤to4∧(to4:Int)≤(s1.size:Int)) <| zak (zcF (zco s1 from4 to4)) fun (r4:zBA) => zat (((zby r4 o1.skips).getD false)) ( ek1 to4 from4 to4
) ( ek1 0 from4 to4
)
) ( zat (((zbx x1.Broken x1.Rune):Int)==3) ( grd (0≤(from4:Int)∧(from4:Int)≤to4∧(to4:Int)≤(s1.size:Int)) <| zak (zcF (zco s1 from4 to4)) fun (r5:zBA) => zat (((zby r5 o1.skips).getD false)) ( ek1 to4 from4 to4
) ( ek1 0 from4 to4
)
) ( ag1 from4 to4 false
)
)
)
)
)
) ( zat (decide ((from4:Int)<0)) ( ag1 from4 to4 open3
) ( zat (open3) ( zat (((zbx x1.Broken x1.Rune):Int)==1) ( grd (I64 (x1.At+x1.Width)) <| ag1 from4 (x1.At+x1.Width) open3
) ( zat (((zbx x1.Broken x1.Rune):Int)==2) ( grd (I64 (x1.At+x1.Width)) <| ag1 from4 (x1.At+x1.Width) open3
) ( zat (((zbx x1.Broken x1.Rune):Int)==1) ( grd (0≤(from4:Int)∧(from4:Int)≤to4∧(to4:Int)≤(s1.size:Int)) <| zak (zcF (zco s1 from4 to4)) fun (r6:zBA) => zat (((zby r6 o1.skips).getD false)) ( ek1 to4 from4 to4
) ( ek1 0 from4 to4
)
) ( zat (((zbx x1.Broken x1.Rune):Int)==3) ( grd (0≤(from4:Int)∧(from4:Int)≤to4∧(to4:Int)≤(s1.size:Int)) <| zak (zcF (zco s1 from4 to4)) fun (r7:zBA) => zat (((zby r7 o1.skips).getD false)) ( ek1 to4 from4 to4
) ( ek1 0 from4 to4
)
) ( ag1 from4 to4 false
)
)
)
)
) ( zat (((zbx x1.Broken x1.Rune):Int)==1) ( grd (0≤(from4:Int)∧(from4:Int)≤to4∧(to4:Int)≤(s1.size:Int)) <| zak (zcF (zco s1 from4 to4)) fun (r8:zBA) => zat (((zby r8 o1.skips).getD false)) ( ek1 to4 from4 to4
) ( ek1 0 from4 to4
)
) ( zat (((zbx x1.Broken x1.Rune):Int)==3) ( grd (0≤(from4:Int)∧(from4:Int)≤to4∧(to4:Int)≤(s1.size:Int)) <| zak (zcF (zco s1 from4 to4)) fun (r9:zBA) => zat (((zby r9 o1.skips).getD false)) ( ek1 to4 from4 to4
) ( ek1 0 from4 to4
)
) ( ag1 from4 to4 false
)
)
)
)
)
def zcX (o1:zac) (s1:zBA):Option Int := zbB (fun (j1:Option Int) => zak (zdA s1) fun (r1:zBA) => zak (zcB r1) fun (its1:(List zal)) => zbB (fun (ek1:Int→Int→Int→Option Int) => zbB (fun (dn1:Int→Int→Bool→Option Int) => zcH dn1 (zbe o1 s1 ek1) its1 (-1) 0 true
) (fun (from4:Int) (to4:Int) (open3:Bool) => j1
)
) (fun (x2:Int) (from5:Int) (to5:Int) => some x2
)
) ( some 0
)
theorem zg4 {bo1:Nat} {o1:zac} {o1_h0 o1_h1 o1_h2 o1_h3 o1_h4:Hd} {s1:zBA} {r:Int} (h:zcX o1 s1=some r):FnR prog 47 [zP bo1,.string s1] [cells bo1 [o1_h0.v,.map (some (za5 o1_h1)),.map (some (za5 o1_h2)),.map (some (za5 o1_h3)),o1_h4.v] 79,zv0 o1_h0.v o1.units,zbJ (fun n:zBA=>Value.string n) (fun n:Int=>Value.int .i64 n) (za5 o1_h1) o1.place,zcy (za5 o1_h2) o1.fors,zbJ (fun n:zBA=>Value.string n) (fun n:Bool=>Value.bool n) (za5 o1_h3) o1.skips,zv0 o1_h4.v o1.lines] [] (fun _:Unit=>(zI r)) (fun _=>[]):=by
 unfold zcX at h
 refine FnR.intro func47 rfl ntmps47 (by simp) ?_
 intro w0 K hrd
 refine zgr ?_
 obtain ⟨j1,hj1,h⟩:=zbP h
 refine zaZ (β:=Nat×(List Nat)) 3 rfl (fun b=>j1=some r) (fun b=>ze8 b.2) (fun b=>[(4,zP b.1)]) (fun b=>[cells b.1 [zI 0] 3,zfG ((b.2:List Nat).map zfr)]) (fun cut => ?_) ?_
 ·
  refine zyG ?_
  refine zea rfl dc rfl (fun b2 => ?_)
  refine zea rfl dc rfl (fun b3 => ?_)
  refine za6 zwE rfl dc (fun b4 => ?_)
  refine zyH ?_
  refine za6 zwE rfl dc (fun b5 => ?_)
  refine za6 zwE rfl dc (fun b6 => ?_)
  refine zaQ (k:=4) (l':=[zI (-1)]) zik rfl rfl rfl rfl rfl (fun _ _=>rfl) rfl ?_
  refine zaQ (k:=5) (l':=[zI 0]) zik rfl rfl rfl rfl rfl (fun _ _=>rfl) rfl ?_
  refine zyH ?_
  refine za6 zx1 rfl dc (fun b7 => ?_)
  refine zaQ (k:=6) (l':=[.bool true]) zrq rfl rfl rfl rfl rfl (fun _ _=>rfl) rfl ?_
  refine zyN (cut (zyG (zan (k:=2) zfn rfl dc rfl rfl rfl ?_)))
  obtain ⟨r1,hq1,h⟩:=zbz h
  refine zb6 (vs:=[.string s1]) rfl dc rfl rfl rfl zss (zei hq1) Splits.nil ?_
  rintro b8
  refine zcw (L':=[zfG ((([]:List Nat):List Nat).map zfr),cells b2 [zP bo1] 23,cells b3 [.string s1] 9,cells b4 [zI 0] 3,cells b5 [zI (-1)] 3,cells b6 [zI 0] 3,cells b7 [.bool true] 4,cells b8 [.string r1] 9]) (zaa [0,1,2,3,4,5,6,7] kr rfl) (zyN (zaB ?_))
  obtain ⟨its1,hq2,h⟩:=zbz h
  obtain ⟨ek1,hek1,h⟩:=zbP h
  obtain ⟨dn1,hdn1,h⟩:=zbP h
  refine zhb (α:=zal) (β:=Int×Int×Bool) (γ:=(Int×Int×Int)) (δ:=Nat) (ps:=[12]) Ro.nil rfl zsr (zds hq2) (fun pre b=>∀ post,its1=pre++post→zcH dn1 (zbe o1 s1 ek1) post b.1 b.2.1 b.2.2=some r) (fun pre b=>[cells b2 [zP bo1] 23,cells b3 [.string s1] 9,cells b4 [zI 0] 3,cells b5 [zI b.1] 3,cells b6 [zI b.2.1] 3,cells b7 [.bool b.2.2] 4]) (fun c pre g=>(fun g=>c=.ret∧ek1 g.1 g.2.1 g.2.2=some r) g) (fun c pre g=>(fun g=>[cells b2 [zP bo1] 23,cells b3 [.string s1] 9,cells b4 [zI g.1] 3,cells b5 [zI g.2.1] 3,cells b6 [zI g.2.2] 3,cells b7 [.bool false] 4]) g) (fun pre x b j=>[(2,zP b2),(3,zP b3),(4,zP b4),(5,zP b5),(6,zP b6),(7,zP b7),(11,.func (.func 71) #[] #[zP b8]),(8,zP j)]) (fun pre x b j=>[cells b2 [zP bo1] 23,cells b3 [.string s1] 9,cells b4 [zI 0] 3,cells b5 [zI b.1] 3,cells b6 [zI b.2.1] 3,cells b7 [.bool b.2.2] 4,cells j (zr0 x) 95]) ((-1),0,true) (fun post e=>by rw [List.nil_append] at e; subst e; exact h) (zaa [1,2,3,4,5,6] kr rfl) ⟨.inl ⟨7,rfl⟩,trivial⟩ (fun _=>rfl) dc ?_ ?_ ?_ ?_
  ·
   rintro lp rc pre x1 post ⟨from4,to4,open3⟩ w1 K1 hxs1 hext hro hinv
   have hrd:=hrd.ext hext
   refine zap ?_
   refine za6 zkD rfl dc (fun b9 => ?_)
   refine za4 (k:=6) (vs:=(zr0 x1)) (l':=(zr0 x1)) zfN rfl rfl rfl rfl rfl (show _≤_ by simp) rfl rfl ?_
   refine zaC ?_
   exact fun a w ha hw=>⟨b9,(za7 rfl) _ _ _ ha,hw.weaken (zaa [0,1,2,3,4,5,6] kr rfl)⟩
  ·
   rintro lp rc pre x1 post1 ⟨from4,to4,open3⟩ jb1 w1 K1 hxs1 hext hro hinv
   have hrd:=hrd.ext hext
   have h:=hinv (x1::post1) hxs1
   obtain ⟨ag1,hag1⟩:∃ ag,ag=zcH dn1 (zbe o1 s1 ek1) post1:=⟨_,rfl⟩
   have h:zbe o1 s1 ek1 x1 ag1 from4 to4 open3=some r:=by have h2:=h; rw [zcr,← hag1] at h2; exact h2
   unfold zbe at h
   refine zaB (zyG (zbT (k:=6) (cs:=(zr0 x1)) zgW rfl dc rfl rfl rfl rfl ?_))
   obtain ⟨hg1,h⟩:=zb7 h
   refine zaK (v:=zI (zbx x1.Broken x1.Rune)) (vs:=[.agg (zr0 x1).toArray]) rfl dc rfl rfl rfl zqR (zwr x1.At x1.Width x1.Rune x1.Broken hg1.1 hg1.2) (zyR 1 rfl (zyN (zaB (zyG (zan (k:=3) zdV rfl dc rfl rfl rfl (zaU rfl zbE (zyR 1 rfl ?_)))))))
   refine zyS (s:=35) rfl h (fun h => ?_) (fun h => ?_)
   ·
    refine zyR 1 rfl (zaU rfl zbi (zyR 2 rfl (zyN ?_)))
    refine zyB rfl h (fun h => ?_) (fun h => ?_)
    ·
     obtain ⟨hg2,h⟩:=zb7 h
     refine znf (β:=Unit) 8 7 _ [(0,39,zP jb1),(1,40,zI x1.At),(2,41,zP jb1),(3,42,zI x1.At),(4,43,.pointer (some ⟨jb1,1,none⟩)),(5,44,zI x1.Width),(6,45,zI (x1.At+x1.Width))] (fun _b=>[]) (fun _b=>[cells b2 [zP bo1] 23,cells b3 [.string s1] 9,cells b4 [zI 0] 3,cells b5 [zI x1.At] 3,cells b6 [zI to4] 3,cells b7 [.bool open3] 4,cells jb1 (zr0 x1) 95]) mixed kr kr rfl dc dc (by rfl) kr kr (zaI ?_ (zaI ?_ (zaI ?_ (zaI ?_ (zaI ?_ (zaI ?_ (zaI ?_ (zeC DrawPreX.nil)))))))) (fun _b=>(zaI ?_ (zaI ?_ (zaI ?_ (zaI ?_ (zaI ?_ (zaI ?_ (zaI ?_ (zeC DrawPreX.nil))))))))) ?_ ?_
     · exact fun D n d c u i=>zag zdK rfl dc (zba (by rfl) rfl) (show _=0 from rfl) (zaJ 0 u i)
     · exact fun D n d c u i=>zan (k:=6) zdV rfl dc (zaX 0 u d) rfl rfl (zaJ 1 u i)
     · exact fun D n d c u i=>zag zdK rfl dc (zba (by rfl) rfl) (show _=0 from rfl) (zaJ 2 u i)
     · exact fun D n d c u i=>zan (k:=6) zdV rfl dc (zaX 2 u d) rfl rfl (zaJ 3 u i)
     · exact fun D n d c u i=>zag zg1 rfl dc (zba (by rfl) rfl) (show _=1 from rfl) (zaJ 4 u i)
     · exact fun D n d c u i=>zan (k:=6) zdV rfl dc (zaX 4 u d) rfl rfl (zaJ 5 u i)
     · exact fun D n d c u i=>zhK rfl dc (zaX 3 u d) (zaX 5 u d) (zbh (r:=x1.At+x1.Width) (IntWalk.i64_in _ hg2)) (zaJ 6 u i)
     · exact fun D n d c u i=>zag zdK rfl dc (zba (by rfl) rfl) (show _=0 from rfl) (zaJ 0 u i)
     · exact fun D n d c u i=>zan (k:=6) zdV rfl dc (zaX 0 u d) rfl rfl (zaJ 1 u i)
     · exact fun D n d c u i=>zag zdK rfl dc (zba (by rfl) rfl) (show _=0 from rfl) (zaJ 2 u i)
     · exact fun D n d c u i=>zan (k:=6) zdV rfl dc (zaX 2 u d) rfl rfl (zaJ 3 u i)
     · exact fun D n d c u i=>zag zg1 rfl dc (zba (by rfl) rfl) (show _=1 from rfl) (zaJ 4 u i)
     · exact fun D n d c u i=>zan (k:=6) zdV rfl dc (zaX 4 u d) rfl rfl (zaJ 5 u i)
     · exact fun D n d c u i=>zhK rfl dc (zaX 3 u d) (zaX 5 u d) (zbh (r:=x1.At+x1.Width) (IntWalk.i64_in _ hg2)) (zaJ 6 u i)
     ·
      intro D hn hd hcl
      refine zaQ (k:=3) (l':=[zI x1.At]) zik rfl (zba (by rfl) rfl) (zdL (m:=1) kr rfl (hd 1 dc)) rfl rfl (fun _ _=>rfl) rfl ?_
      exact fun a w ha hw=>⟨(),ha,hw⟩
     intro _b
     refine zaQ (k:=4) (l':=[zI (x1.At+x1.Width)]) zik rfl rfl rfl rfl rfl (fun _ _=>rfl) rfl ?_
     refine zaC (zad (zad ?_))
     exact zcK (x1.At,x1.At+x1.Width,open3) (fun post2 e2=>by have e9:=zca hxs1 e2; subst e9; subst hag1; exact h) (zaa [0,1,2,3,4,5] kr rfl)
    refine zyG (zan (k:=3) zdV rfl dc rfl rfl rfl (zaU rfl zbE (zyR 1 rfl (zyN ?_))))
    refine zyB rfl h (fun h => ?_) (fun h => ?_)
    ·
     refine zaq (zad (zad ?_))
     exact zcK (from4,to4,open3) (fun post2 e2=>by have e9:=zca hxs1 e2; subst e9; subst hag1; exact h) (zaa [0,1,2,3,4,5] kr rfl)
    refine zyG (zan (k:=5) zwq rfl dc rfl rfl rfl (zyR 1 rfl ?_))
    refine zyS (s:=51) rfl h (fun h => ?_) (fun h => ?_)
    ·
     refine zyR 1 rfl (zaU rfl zbi (zyR 1 rfl ?_))
     refine zyS (s:=54) rfl h (fun h => ?_) (fun h => ?_)
     ·
      refine zyR 5 rfl (zyN (zcd rfl (zap (zag zdK rfl dc rfl (show _=0 from rfl) (zan (k:=6) zdV rfl dc rfl rfl rfl (zag zg1 rfl dc rfl (show _=1 from rfl) (zan (k:=6) zdV rfl dc rfl rfl rfl ?_)))))))
      obtain ⟨hg3,h⟩:=zb7 h
      refine zaU rfl (zbh (r:=x1.At+x1.Width) (IntWalk.i64_in _ hg3)) ?_
      refine zaQ (k:=4) (l':=[zI (x1.At+x1.Width)]) zik rfl rfl rfl rfl rfl (fun _ _=>rfl) rfl ?_
      refine zaC (zad (zad ?_))
      exact zcK (from4,x1.At+x1.Width,open3) (fun post2 e2=>by have e9:=zca hxs1 e2; subst e9; subst hag1; exact h) (zaa [0,1,2,3,4,5] kr rfl)
     refine zyR 1 rfl (zaU rfl zbi (zyR 3 rfl (zyN ?_)))
     refine zyB rfl h (fun h => ?_) (fun h => ?_)
     ·
      refine zap (zag zdK rfl dc rfl (show _=0 from rfl) (zan (k:=6) zdV rfl dc rfl rfl rfl (zag zg1 rfl dc rfl (show _=1 from rfl) (zan (k:=6) zdV rfl dc rfl rfl rfl ?_))))
      obtain ⟨hg4,h⟩:=zb7 h
      refine zaU rfl (zbh (r:=x1.At+x1.Width) (IntWalk.i64_in _ hg4)) ?_
      refine zaQ (k:=4) (l':=[zI (x1.At+x1.Width)]) zik rfl rfl rfl rfl rfl (fun _ _=>rfl) rfl ?_
      refine zaC (zad (zad ?_))
      exact zcK (from4,x1.At+x1.Width,open3) (fun post2 e2=>by have e9:=zca hxs1 e2; subst e9; subst hag1; exact h) (zaa [0,1,2,3,4,5] kr rfl)
     refine zyG ?_
     refine zaQ (k:=5) (l':=[.bool false]) zrq rfl rfl rfl rfl rfl (fun _ _=>rfl) rfl ?_
     refine zyH (zyR 1 rfl (zaU rfl zbi (zyR 1 rfl ?_)))
     refine zyS (s:=17) rfl h (fun h => ?_) (fun h => ?_)
     ·
      refine zyR 3 rfl (zyN (zcd rfl (zaP (zaP ?_))))
      obtain ⟨hg5,h⟩:=zb7 h
      obtain ⟨r2,hq3,h⟩:=zbz h
      refine zdo 9 [(0,21,zP bo1),(1,22,zP bo1),(2,23,.pointer (some ⟨bo1,3,none⟩)),(3,24,.map (some (za5 o1_h3))),(4,25,.string s1),(5,26,zI from4),(6,27,zI to4),(7,28,.string (zco s1 from4 to4)),(8,29,.string r2)] mixed kr kr dc (by rfl) kr kr (zae ?_ (zae ?_ (zae ?_ (zae ?_ (zae ?_ (zae ?_ (zae ?_ (zae ?_ (zae ?_ DrawPre.nil))))))))) ?_
      · exact fun D n d c u i=>zan (k:=0) zjr rfl dc (zba (by rfl) rfl) rfl rfl (zaJ 0 u i)
      · exact fun D n d c u i=>za2 rfl dc (zaX 0 u d) (zaJ 1 u i)
      · exact fun D n d c u i=>zag zgv rfl dc (zaX 1 u d) (show _=3 from rfl) (zaJ 2 u i)
      · exact fun D n d c u i=>zdz (i:=0) hrd rfl zlr rfl dc (zaX 2 u d) rfl (zaJ 3 u i)
      · exact fun D n d c u i=>zan (k:=1) zfn rfl dc (zba (by rfl) rfl) rfl rfl (zaJ 4 u i)
      · exact fun D n d c u i=>zan (k:=3) zdV rfl dc (zba (by rfl) rfl) rfl rfl (zaJ 5 u i)
      · exact fun D n d c u i=>zan (k:=4) zdV rfl dc (zba (by rfl) rfl) rfl rfl (zaJ 6 u i)
      · exact fun D n d c u i=>zb4 rfl dc (zaX 4 u d) (evO.some (zaX 5 u d)) (evO.some (zaX 6 u d)) (za3 (i:=from4) (j:=to4) underlying9 (.inr rfl) (.inr rfl) hg5) (zaJ 7 u i)
      · exact fun D n d c u i=>zaK (v:=.string r2) (vs:=[.string (zco s1 from4 to4)]) rfl dc rfl (evL.cons (zaX 7 u d) evL.nil) rfl zlC (zdf hq3) (zaJ 8 u i)
      refine zdy (k:=4) (ek:=(fun n:zBA=>Value.string n)) (ev':=(fun n:Bool=>Value.bool n)) (kk:=r2) (z0:=false) (zcO underlying9) underlying77 kr rfl dc rfl rfl hrd rfl ?_
      refine zyN ?_
      refine zyB rfl h (fun h => ?_) (fun h => ?_)
      ·
       refine zyG (zan (k:=4) zdV rfl dc rfl rfl rfl ?_)
       refine zaQ (k:=2) (l':=[zI to4]) zik rfl rfl rfl rfl rfl (fun _ _=>rfl) rfl ?_
       refine zyN (zaD (zaj (zam (zam ?_))))
       exact zbR (to4,from4,to4) (show _∧_ from ⟨rfl,h⟩) (zaa [0,1,2,3,4,5] kr rfl)
      refine zaq (zaF (zyG ?_))
      refine zaQ (k:=2) (l':=[zI 0]) zik rfl rfl rfl rfl rfl (fun _ _=>rfl) rfl ?_
      refine zyN (zaD (zam (zam ?_)))
      exact zbR (0,from4,to4) (show _∧_ from ⟨rfl,h⟩) (zaa [0,1,2,3,4,5] kr rfl)
     refine zyR 1 rfl (zaU rfl zbi (zyR 1 rfl (zyN ?_)))
     refine zyB rfl h (fun h => ?_) (fun h => ?_)
     ·
      refine zaP (zaP ?_)
      obtain ⟨hg6,h⟩:=zb7 h
      obtain ⟨r3,hq4,h⟩:=zbz h
      refine zdo 9 [(0,21,zP bo1),(1,22,zP bo1),(2,23,.pointer (some ⟨bo1,3,none⟩)),(3,24,.map (some (za5 o1_h3))),(4,25,.string s1),(5,26,zI from4),(6,27,zI to4),(7,28,.string (zco s1 from4 to4)),(8,29,.string r3)] mixed kr kr dc (by rfl) kr kr (zae ?_ (zae ?_ (zae ?_ (zae ?_ (zae ?_ (zae ?_ (zae ?_ (zae ?_ (zae ?_ DrawPre.nil))))))))) ?_
      · exact fun D n d c u i=>zan (k:=0) zjr rfl dc (zba (by rfl) rfl) rfl rfl (zaJ 0 u i)
      · exact fun D n d c u i=>za2 rfl dc (zaX 0 u d) (zaJ 1 u i)
      · exact fun D n d c u i=>zag zgv rfl dc (zaX 1 u d) (show _=3 from rfl) (zaJ 2 u i)
      · exact fun D n d c u i=>zdz (i:=0) hrd rfl zlr rfl dc (zaX 2 u d) rfl (zaJ 3 u i)
      · exact fun D n d c u i=>zan (k:=1) zfn rfl dc (zba (by rfl) rfl) rfl rfl (zaJ 4 u i)
      · exact fun D n d c u i=>zan (k:=3) zdV rfl dc (zba (by rfl) rfl) rfl rfl (zaJ 5 u i)
      · exact fun D n d c u i=>zan (k:=4) zdV rfl dc (zba (by rfl) rfl) rfl rfl (zaJ 6 u i)
      · exact fun D n d c u i=>zb4 rfl dc (zaX 4 u d) (evO.some (zaX 5 u d)) (evO.some (zaX 6 u d)) (za3 (i:=from4) (j:=to4) underlying9 (.inr rfl) (.inr rfl) hg6) (zaJ 7 u i)
      · exact fun D n d c u i=>zaK (v:=.string r3) (vs:=[.string (zco s1 from4 to4)]) rfl dc rfl (evL.cons (zaX 7 u d) evL.nil) rfl zlC (zdf hq4) (zaJ 8 u i)
      refine zdy (k:=4) (ek:=(fun n:zBA=>Value.string n)) (ev':=(fun n:Bool=>Value.bool n)) (kk:=r3) (z0:=false) (zcO underlying9) underlying77 kr rfl dc rfl rfl hrd rfl ?_
      refine zyN ?_
      refine zyB rfl h (fun h => ?_) (fun h => ?_)
      ·
       refine zyG (zan (k:=4) zdV rfl dc rfl rfl rfl ?_)
       refine zaQ (k:=2) (l':=[zI to4]) zik rfl rfl rfl rfl rfl (fun _ _=>rfl) rfl ?_
       refine zyN (zaD (zaj (zam (zam ?_))))
       exact zbR (to4,from4,to4) (show _∧_ from ⟨rfl,h⟩) (zaa [0,1,2,3,4,5] kr rfl)
      refine zaq (zaF (zyG ?_))
      refine zaQ (k:=2) (l':=[zI 0]) zik rfl rfl rfl rfl rfl (fun _ _=>rfl) rfl ?_
      refine zyN (zaD (zam (zam ?_)))
      exact zbR (0,from4,to4) (show _∧_ from ⟨rfl,h⟩) (zaa [0,1,2,3,4,5] kr rfl)
     refine zaq (zad (zad ?_))
     exact zcK (from4,to4,false) (fun post2 e2=>by have e9:=zca hxs1 e2; subst e9; subst hag1; exact h) (zaa [0,1,2,3,4,5] kr rfl)
    refine zyR 8 rfl (zyN (zaY rfl (zyG ?_)))
    refine zaQ (k:=5) (l':=[.bool false]) zrq rfl rfl rfl rfl rfl (fun _ _=>rfl) rfl ?_
    refine zyH (zyR 1 rfl (zaU rfl zbi (zyR 1 rfl ?_)))
    refine zyS (s:=17) rfl h (fun h => ?_) (fun h => ?_)
    ·
     refine zyR 3 rfl (zyN (zcd rfl (zaP (zaP ?_))))
     obtain ⟨hg7,h⟩:=zb7 h
     obtain ⟨r4,hq5,h⟩:=zbz h
     refine zdo 9 [(0,21,zP bo1),(1,22,zP bo1),(2,23,.pointer (some ⟨bo1,3,none⟩)),(3,24,.map (some (za5 o1_h3))),(4,25,.string s1),(5,26,zI from4),(6,27,zI to4),(7,28,.string (zco s1 from4 to4)),(8,29,.string r4)] mixed kr kr dc (by rfl) kr kr (zae ?_ (zae ?_ (zae ?_ (zae ?_ (zae ?_ (zae ?_ (zae ?_ (zae ?_ (zae ?_ DrawPre.nil))))))))) ?_
     · exact fun D n d c u i=>zan (k:=0) zjr rfl dc (zba (by rfl) rfl) rfl rfl (zaJ 0 u i)
     · exact fun D n d c u i=>za2 rfl dc (zaX 0 u d) (zaJ 1 u i)
     · exact fun D n d c u i=>zag zgv rfl dc (zaX 1 u d) (show _=3 from rfl) (zaJ 2 u i)
     · exact fun D n d c u i=>zdz (i:=0) hrd rfl zlr rfl dc (zaX 2 u d) rfl (zaJ 3 u i)
     · exact fun D n d c u i=>zan (k:=1) zfn rfl dc (zba (by rfl) rfl) rfl rfl (zaJ 4 u i)
     · exact fun D n d c u i=>zan (k:=3) zdV rfl dc (zba (by rfl) rfl) rfl rfl (zaJ 5 u i)
     · exact fun D n d c u i=>zan (k:=4) zdV rfl dc (zba (by rfl) rfl) rfl rfl (zaJ 6 u i)
     · exact fun D n d c u i=>zb4 rfl dc (zaX 4 u d) (evO.some (zaX 5 u d)) (evO.some (zaX 6 u d)) (za3 (i:=from4) (j:=to4) underlying9 (.inr rfl) (.inr rfl) hg7) (zaJ 7 u i)
     · exact fun D n d c u i=>zaK (v:=.string r4) (vs:=[.string (zco s1 from4 to4)]) rfl dc rfl (evL.cons (zaX 7 u d) evL.nil) rfl zlC (zdf hq5) (zaJ 8 u i)
     refine zdy (k:=4) (ek:=(fun n:zBA=>Value.string n)) (ev':=(fun n:Bool=>Value.bool n)) (kk:=r4) (z0:=false) (zcO underlying9) underlying77 kr rfl dc rfl rfl hrd rfl ?_
     refine zyN ?_
     refine zyB rfl h (fun h => ?_) (fun h => ?_)
     ·
      refine zyG (zan (k:=4) zdV rfl dc rfl rfl rfl ?_)
      refine zaQ (k:=2) (l':=[zI to4]) zik rfl rfl rfl rfl rfl (fun _ _=>rfl) rfl ?_
      refine zyN (zaD (zaj (zam (zam ?_))))
      exact zbR (to4,from4,to4) (show _∧_ from ⟨rfl,h⟩) (zaa [0,1,2,3,4,5] kr rfl)
     refine zaq (zaF (zyG ?_))
     refine zaQ (k:=2) (l':=[zI 0]) zik rfl rfl rfl rfl rfl (fun _ _=>rfl) rfl ?_
     refine zyN (zaD (zam (zam ?_)))
     exact zbR (0,from4,to4) (show _∧_ from ⟨rfl,h⟩) (zaa [0,1,2,3,4,5] kr rfl)
    refine zyR 1 rfl (zaU rfl zbi (zyR 1 rfl (zyN ?_)))
    refine zyB rfl h (fun h => ?_) (fun h => ?_)
    ·
     refine zaP (zaP ?_)
     obtain ⟨hg8,h⟩:=zb7 h
     obtain ⟨r5,hq6,h⟩:=zbz h
     refine zdo 9 [(0,21,zP bo1),(1,22,zP bo1),(2,23,.pointer (some ⟨bo1,3,none⟩)),(3,24,.map (some (za5 o1_h3))),(4,25,.string s1),(5,26,zI from4),(6,27,zI to4),(7,28,.string (zco s1 from4 to4)),(8,29,.string r5)] mixed kr kr dc (by rfl) kr kr (zae ?_ (zae ?_ (zae ?_ (zae ?_ (zae ?_ (zae ?_ (zae ?_ (zae ?_ (zae ?_ DrawPre.nil))))))))) ?_
     · exact fun D n d c u i=>zan (k:=0) zjr rfl dc (zba (by rfl) rfl) rfl rfl (zaJ 0 u i)
     · exact fun D n d c u i=>za2 rfl dc (zaX 0 u d) (zaJ 1 u i)
     · exact fun D n d c u i=>zag zgv rfl dc (zaX 1 u d) (show _=3 from rfl) (zaJ 2 u i)
     · exact fun D n d c u i=>zdz (i:=0) hrd rfl zlr rfl dc (zaX 2 u d) rfl (zaJ 3 u i)
     · exact fun D n d c u i=>zan (k:=1) zfn rfl dc (zba (by rfl) rfl) rfl rfl (zaJ 4 u i)
     · exact fun D n d c u i=>zan (k:=3) zdV rfl dc (zba (by rfl) rfl) rfl rfl (zaJ 5 u i)
     · exact fun D n d c u i=>zan (k:=4) zdV rfl dc (zba (by rfl) rfl) rfl rfl (zaJ 6 u i)
     · exact fun D n d c u i=>zb4 rfl dc (zaX 4 u d) (evO.some (zaX 5 u d)) (evO.some (zaX 6 u d)) (za3 (i:=from4) (j:=to4) underlying9 (.inr rfl) (.inr rfl) hg8) (zaJ 7 u i)
     · exact fun D n d c u i=>zaK (v:=.string r5) (vs:=[.string (zco s1 from4 to4)]) rfl dc rfl (evL.cons (zaX 7 u d) evL.nil) rfl zlC (zdf hq6) (zaJ 8 u i)
     refine zdy (k:=4) (ek:=(fun n:zBA=>Value.string n)) (ev':=(fun n:Bool=>Value.bool n)) (kk:=r5) (z0:=false) (zcO underlying9) underlying77 kr rfl dc rfl rfl hrd rfl ?_
     refine zyN ?_
     refine zyB rfl h (fun h => ?_) (fun h => ?_)
     ·
      refine zyG (zan (k:=4) zdV rfl dc rfl rfl rfl ?_)
      refine zaQ (k:=2) (l':=[zI to4]) zik rfl rfl rfl rfl rfl (fun _ _=>rfl) rfl ?_
      refine zyN (zaD (zaj (zam (zam ?_))))
      exact zbR (to4,from4,to4) (show _∧_ from ⟨rfl,h⟩) (zaa [0,1,2,3,4,5] kr rfl)
     refine zaq (zaF (zyG ?_))
     refine zaQ (k:=2) (l':=[zI 0]) zik rfl rfl rfl rfl rfl (fun _ _=>rfl) rfl ?_
     refine zyN (zaD (zam (zam ?_)))
     exact zbR (0,from4,to4) (show _∧_ from ⟨rfl,h⟩) (zaa [0,1,2,3,4,5] kr rfl)
    refine zaq (zad (zad ?_))
    exact zcK (from4,to4,false) (fun post2 e2=>by have e9:=zca hxs1 e2; subst e9; subst hag1; exact h) (zaa [0,1,2,3,4,5] kr rfl)
   refine zyR 4 rfl (zyN (zaY rfl (zyG (zan (k:=3) zdV rfl dc rfl rfl rfl (zaU rfl zbE (zyR 1 rfl (zyN ?_)))))))
   refine zyB rfl h (fun h => ?_) (fun h => ?_)
   ·
    refine zaq (zad (zad ?_))
    exact zcK (from4,to4,open3) (fun post2 e2=>by have e9:=zca hxs1 e2; subst e9; subst hag1; exact h) (zaa [0,1,2,3,4,5] kr rfl)
   refine zyG (zan (k:=5) zwq rfl dc rfl rfl rfl (zyR 1 rfl ?_))
   refine zyS (s:=51) rfl h (fun h => ?_) (fun h => ?_)
   ·
    refine zyR 1 rfl (zaU rfl zbi (zyR 1 rfl ?_))
    refine zyS (s:=54) rfl h (fun h => ?_) (fun h => ?_)
    ·
     refine zyR 5 rfl (zyN (zcd rfl (zap (zag zdK rfl dc rfl (show _=0 from rfl) (zan (k:=6) zdV rfl dc rfl rfl rfl (zag zg1 rfl dc rfl (show _=1 from rfl) (zan (k:=6) zdV rfl dc rfl rfl rfl ?_)))))))
     obtain ⟨hg9,h⟩:=zb7 h
     refine zaU rfl (zbh (r:=x1.At+x1.Width) (IntWalk.i64_in _ hg9)) ?_
     refine zaQ (k:=4) (l':=[zI (x1.At+x1.Width)]) zik rfl rfl rfl rfl rfl (fun _ _=>rfl) rfl ?_
     refine zaC (zad (zad ?_))
     exact zcK (from4,x1.At+x1.Width,open3) (fun post2 e2=>by have e9:=zca hxs1 e2; subst e9; subst hag1; exact h) (zaa [0,1,2,3,4,5] kr rfl)
    refine zyR 1 rfl (zaU rfl zbi (zyR 3 rfl (zyN ?_)))
    refine zyB rfl h (fun h => ?_) (fun h => ?_)
    ·
     refine zap (zag zdK rfl dc rfl (show _=0 from rfl) (zan (k:=6) zdV rfl dc rfl rfl rfl (zag zg1 rfl dc rfl (show _=1 from rfl) (zan (k:=6) zdV rfl dc rfl rfl rfl ?_))))
     obtain ⟨hg10,h⟩:=zb7 h
     refine zaU rfl (zbh (r:=x1.At+x1.Width) (IntWalk.i64_in _ hg10)) ?_
     refine zaQ (k:=4) (l':=[zI (x1.At+x1.Width)]) zik rfl rfl rfl rfl rfl (fun _ _=>rfl) rfl ?_
     refine zaC (zad (zad ?_))
     exact zcK (from4,x1.At+x1.Width,open3) (fun post2 e2=>by have e9:=zca hxs1 e2; subst e9; subst hag1; exact h) (zaa [0,1,2,3,4,5] kr rfl)
    refine zyG ?_
    refine zaQ (k:=5) (l':=[.bool false]) zrq rfl rfl rfl rfl rfl (fun _ _=>rfl) rfl ?_
    refine zyH (zyR 1 rfl (zaU rfl zbi (zyR 1 rfl ?_)))
    refine zyS (s:=17) rfl h (fun h => ?_) (fun h => ?_)
    ·
     refine zyR 3 rfl (zyN (zcd rfl (zaP (zaP ?_))))
     obtain ⟨hg11,h⟩:=zb7 h
     obtain ⟨r6,hq7,h⟩:=zbz h
     refine zdo 9 [(0,21,zP bo1),(1,22,zP bo1),(2,23,.pointer (some ⟨bo1,3,none⟩)),(3,24,.map (some (za5 o1_h3))),(4,25,.string s1),(5,26,zI from4),(6,27,zI to4),(7,28,.string (zco s1 from4 to4)),(8,29,.string r6)] mixed kr kr dc (by rfl) kr kr (zae ?_ (zae ?_ (zae ?_ (zae ?_ (zae ?_ (zae ?_ (zae ?_ (zae ?_ (zae ?_ DrawPre.nil))))))))) ?_
     · exact fun D n d c u i=>zan (k:=0) zjr rfl dc (zba (by rfl) rfl) rfl rfl (zaJ 0 u i)
     · exact fun D n d c u i=>za2 rfl dc (zaX 0 u d) (zaJ 1 u i)
     · exact fun D n d c u i=>zag zgv rfl dc (zaX 1 u d) (show _=3 from rfl) (zaJ 2 u i)
     · exact fun D n d c u i=>zdz (i:=0) hrd rfl zlr rfl dc (zaX 2 u d) rfl (zaJ 3 u i)
     · exact fun D n d c u i=>zan (k:=1) zfn rfl dc (zba (by rfl) rfl) rfl rfl (zaJ 4 u i)
     · exact fun D n d c u i=>zan (k:=3) zdV rfl dc (zba (by rfl) rfl) rfl rfl (zaJ 5 u i)
     · exact fun D n d c u i=>zan (k:=4) zdV rfl dc (zba (by rfl) rfl) rfl rfl (zaJ 6 u i)
     · exact fun D n d c u i=>zb4 rfl dc (zaX 4 u d) (evO.some (zaX 5 u d)) (evO.some (zaX 6 u d)) (za3 (i:=from4) (j:=to4) underlying9 (.inr rfl) (.inr rfl) hg11) (zaJ 7 u i)
     · exact fun D n d c u i=>zaK (v:=.string r6) (vs:=[.string (zco s1 from4 to4)]) rfl dc rfl (evL.cons (zaX 7 u d) evL.nil) rfl zlC (zdf hq7) (zaJ 8 u i)
     refine zdy (k:=4) (ek:=(fun n:zBA=>Value.string n)) (ev':=(fun n:Bool=>Value.bool n)) (kk:=r6) (z0:=false) (zcO underlying9) underlying77 kr rfl dc rfl rfl hrd rfl ?_
     refine zyN ?_
     refine zyB rfl h (fun h => ?_) (fun h => ?_)
     ·
      refine zyG (zan (k:=4) zdV rfl dc rfl rfl rfl ?_)
      refine zaQ (k:=2) (l':=[zI to4]) zik rfl rfl rfl rfl rfl (fun _ _=>rfl) rfl ?_
      refine zyN (zaD (zaj (zam (zam ?_))))
      exact zbR (to4,from4,to4) (show _∧_ from ⟨rfl,h⟩) (zaa [0,1,2,3,4,5] kr rfl)
     refine zaq (zaF (zyG ?_))
     refine zaQ (k:=2) (l':=[zI 0]) zik rfl rfl rfl rfl rfl (fun _ _=>rfl) rfl ?_
     refine zyN (zaD (zam (zam ?_)))
     exact zbR (0,from4,to4) (show _∧_ from ⟨rfl,h⟩) (zaa [0,1,2,3,4,5] kr rfl)
    refine zyR 1 rfl (zaU rfl zbi (zyR 1 rfl (zyN ?_)))
    refine zyB rfl h (fun h => ?_) (fun h => ?_)
    ·
     refine zaP (zaP ?_)
     obtain ⟨hg12,h⟩:=zb7 h
     obtain ⟨r7,hq8,h⟩:=zbz h
     refine zdo 9 [(0,21,zP bo1),(1,22,zP bo1),(2,23,.pointer (some ⟨bo1,3,none⟩)),(3,24,.map (some (za5 o1_h3))),(4,25,.string s1),(5,26,zI from4),(6,27,zI to4),(7,28,.string (zco s1 from4 to4)),(8,29,.string r7)] mixed kr kr dc (by rfl) kr kr (zae ?_ (zae ?_ (zae ?_ (zae ?_ (zae ?_ (zae ?_ (zae ?_ (zae ?_ (zae ?_ DrawPre.nil))))))))) ?_
     · exact fun D n d c u i=>zan (k:=0) zjr rfl dc (zba (by rfl) rfl) rfl rfl (zaJ 0 u i)
     · exact fun D n d c u i=>za2 rfl dc (zaX 0 u d) (zaJ 1 u i)
     · exact fun D n d c u i=>zag zgv rfl dc (zaX 1 u d) (show _=3 from rfl) (zaJ 2 u i)
     · exact fun D n d c u i=>zdz (i:=0) hrd rfl zlr rfl dc (zaX 2 u d) rfl (zaJ 3 u i)
     · exact fun D n d c u i=>zan (k:=1) zfn rfl dc (zba (by rfl) rfl) rfl rfl (zaJ 4 u i)
     · exact fun D n d c u i=>zan (k:=3) zdV rfl dc (zba (by rfl) rfl) rfl rfl (zaJ 5 u i)
     · exact fun D n d c u i=>zan (k:=4) zdV rfl dc (zba (by rfl) rfl) rfl rfl (zaJ 6 u i)
     · exact fun D n d c u i=>zb4 rfl dc (zaX 4 u d) (evO.some (zaX 5 u d)) (evO.some (zaX 6 u d)) (za3 (i:=from4) (j:=to4) underlying9 (.inr rfl) (.inr rfl) hg12) (zaJ 7 u i)
     · exact fun D n d c u i=>zaK (v:=.string r7) (vs:=[.string (zco s1 from4 to4)]) rfl dc rfl (evL.cons (zaX 7 u d) evL.nil) rfl zlC (zdf hq8) (zaJ 8 u i)
     refine zdy (k:=4) (ek:=(fun n:zBA=>Value.string n)) (ev':=(fun n:Bool=>Value.bool n)) (kk:=r7) (z0:=false) (zcO underlying9) underlying77 kr rfl dc rfl rfl hrd rfl ?_
     refine zyN ?_
     refine zyB rfl h (fun h => ?_) (fun h => ?_)
     ·
      refine zyG (zan (k:=4) zdV rfl dc rfl rfl rfl ?_)
      refine zaQ (k:=2) (l':=[zI to4]) zik rfl rfl rfl rfl rfl (fun _ _=>rfl) rfl ?_
      refine zyN (zaD (zaj (zam (zam ?_))))
      exact zbR (to4,from4,to4) (show _∧_ from ⟨rfl,h⟩) (zaa [0,1,2,3,4,5] kr rfl)
     refine zaq (zaF (zyG ?_))
     refine zaQ (k:=2) (l':=[zI 0]) zik rfl rfl rfl rfl rfl (fun _ _=>rfl) rfl ?_
     refine zyN (zaD (zam (zam ?_)))
     exact zbR (0,from4,to4) (show _∧_ from ⟨rfl,h⟩) (zaa [0,1,2,3,4,5] kr rfl)
    refine zaq (zad (zad ?_))
    exact zcK (from4,to4,false) (fun post2 e2=>by have e9:=zca hxs1 e2; subst e9; subst hag1; exact h) (zaa [0,1,2,3,4,5] kr rfl)
   refine zyR 8 rfl (zyN (zaY rfl (zyG ?_)))
   refine zaQ (k:=5) (l':=[.bool false]) zrq rfl rfl rfl rfl rfl (fun _ _=>rfl) rfl ?_
   refine zyH (zyR 1 rfl (zaU rfl zbi (zyR 1 rfl ?_)))
   refine zyS (s:=17) rfl h (fun h => ?_) (fun h => ?_)
   ·
    refine zyR 3 rfl (zyN (zcd rfl (zaP (zaP ?_))))
    obtain ⟨hg13,h⟩:=zb7 h
    obtain ⟨r8,hq9,h⟩:=zbz h
    refine zdo 9 [(0,21,zP bo1),(1,22,zP bo1),(2,23,.pointer (some ⟨bo1,3,none⟩)),(3,24,.map (some (za5 o1_h3))),(4,25,.string s1),(5,26,zI from4),(6,27,zI to4),(7,28,.string (zco s1 from4 to4)),(8,29,.string r8)] mixed kr kr dc (by rfl) kr kr (zae ?_ (zae ?_ (zae ?_ (zae ?_ (zae ?_ (zae ?_ (zae ?_ (zae ?_ (zae ?_ DrawPre.nil))))))))) ?_
    · exact fun D n d c u i=>zan (k:=0) zjr rfl dc (zba (by rfl) rfl) rfl rfl (zaJ 0 u i)
    · exact fun D n d c u i=>za2 rfl dc (zaX 0 u d) (zaJ 1 u i)
    · exact fun D n d c u i=>zag zgv rfl dc (zaX 1 u d) (show _=3 from rfl) (zaJ 2 u i)
    · exact fun D n d c u i=>zdz (i:=0) hrd rfl zlr rfl dc (zaX 2 u d) rfl (zaJ 3 u i)
    · exact fun D n d c u i=>zan (k:=1) zfn rfl dc (zba (by rfl) rfl) rfl rfl (zaJ 4 u i)
    · exact fun D n d c u i=>zan (k:=3) zdV rfl dc (zba (by rfl) rfl) rfl rfl (zaJ 5 u i)
    · exact fun D n d c u i=>zan (k:=4) zdV rfl dc (zba (by rfl) rfl) rfl rfl (zaJ 6 u i)
    · exact fun D n d c u i=>zb4 rfl dc (zaX 4 u d) (evO.some (zaX 5 u d)) (evO.some (zaX 6 u d)) (za3 (i:=from4) (j:=to4) underlying9 (.inr rfl) (.inr rfl) hg13) (zaJ 7 u i)
    · exact fun D n d c u i=>zaK (v:=.string r8) (vs:=[.string (zco s1 from4 to4)]) rfl dc rfl (evL.cons (zaX 7 u d) evL.nil) rfl zlC (zdf hq9) (zaJ 8 u i)
    refine zdy (k:=4) (ek:=(fun n:zBA=>Value.string n)) (ev':=(fun n:Bool=>Value.bool n)) (kk:=r8) (z0:=false) (zcO underlying9) underlying77 kr rfl dc rfl rfl hrd rfl ?_
    refine zyN ?_
    refine zyB rfl h (fun h => ?_) (fun h => ?_)
    ·
     refine zyG (zan (k:=4) zdV rfl dc rfl rfl rfl ?_)
     refine zaQ (k:=2) (l':=[zI to4]) zik rfl rfl rfl rfl rfl (fun _ _=>rfl) rfl ?_
     refine zyN (zaD (zaj (zam (zam ?_))))
     exact zbR (to4,from4,to4) (show _∧_ from ⟨rfl,h⟩) (zaa [0,1,2,3,4,5] kr rfl)
    refine zaq (zaF (zyG ?_))
    refine zaQ (k:=2) (l':=[zI 0]) zik rfl rfl rfl rfl rfl (fun _ _=>rfl) rfl ?_
    refine zyN (zaD (zam (zam ?_)))
    exact zbR (0,from4,to4) (show _∧_ from ⟨rfl,h⟩) (zaa [0,1,2,3,4,5] kr rfl)
   refine zyR 1 rfl (zaU rfl zbi (zyR 1 rfl (zyN ?_)))
   refine zyB rfl h (fun h => ?_) (fun h => ?_)
   ·
    refine zaP (zaP ?_)
    obtain ⟨hg14,h⟩:=zb7 h
    obtain ⟨r9,hq10,h⟩:=zbz h
    refine zdo 9 [(0,21,zP bo1),(1,22,zP bo1),(2,23,.pointer (some ⟨bo1,3,none⟩)),(3,24,.map (some (za5 o1_h3))),(4,25,.string s1),(5,26,zI from4),(6,27,zI to4),(7,28,.string (zco s1 from4 to4)),(8,29,.string r9)] mixed kr kr dc (by rfl) kr kr (zae ?_ (zae ?_ (zae ?_ (zae ?_ (zae ?_ (zae ?_ (zae ?_ (zae ?_ (zae ?_ DrawPre.nil))))))))) ?_
    · exact fun D n d c u i=>zan (k:=0) zjr rfl dc (zba (by rfl) rfl) rfl rfl (zaJ 0 u i)
    · exact fun D n d c u i=>za2 rfl dc (zaX 0 u d) (zaJ 1 u i)
    · exact fun D n d c u i=>zag zgv rfl dc (zaX 1 u d) (show _=3 from rfl) (zaJ 2 u i)
    · exact fun D n d c u i=>zdz (i:=0) hrd rfl zlr rfl dc (zaX 2 u d) rfl (zaJ 3 u i)
    · exact fun D n d c u i=>zan (k:=1) zfn rfl dc (zba (by rfl) rfl) rfl rfl (zaJ 4 u i)
    · exact fun D n d c u i=>zan (k:=3) zdV rfl dc (zba (by rfl) rfl) rfl rfl (zaJ 5 u i)
    · exact fun D n d c u i=>zan (k:=4) zdV rfl dc (zba (by rfl) rfl) rfl rfl (zaJ 6 u i)
    · exact fun D n d c u i=>zb4 rfl dc (zaX 4 u d) (evO.some (zaX 5 u d)) (evO.some (zaX 6 u d)) (za3 (i:=from4) (j:=to4) underlying9 (.inr rfl) (.inr rfl) hg14) (zaJ 7 u i)
    · exact fun D n d c u i=>zaK (v:=.string r9) (vs:=[.string (zco s1 from4 to4)]) rfl dc rfl (evL.cons (zaX 7 u d) evL.nil) rfl zlC (zdf hq10) (zaJ 8 u i)
    refine zdy (k:=4) (ek:=(fun n:zBA=>Value.string n)) (ev':=(fun n:Bool=>Value.bool n)) (kk:=r9) (z0:=false) (zcO underlying9) underlying77 kr rfl dc rfl rfl hrd rfl ?_
    refine zyN ?_
    refine zyB rfl h (fun h => ?_) (fun h => ?_)
    ·
     refine zyG (zan (k:=4) zdV rfl dc rfl rfl rfl ?_)
     refine zaQ (k:=2) (l':=[zI to4]) zik rfl rfl rfl rfl rfl (fun _ _=>rfl) rfl ?_
     refine zyN (zaD (zaj (zam (zam ?_))))
     exact zbR (to4,from4,to4) (show _∧_ from ⟨rfl,h⟩) (zaa [0,1,2,3,4,5] kr rfl)
    refine zaq (zaF (zyG ?_))
    refine zaQ (k:=2) (l':=[zI 0]) zik rfl rfl rfl rfl rfl (fun _ _=>rfl) rfl ?_
    refine zyN (zaD (zam (zam ?_)))
    exact zbR (0,from4,to4) (show _∧_ from ⟨rfl,h⟩) (zaa [0,1,2,3,4,5] kr rfl)
   refine zaq (zad (zad ?_))
   exact zcK (from4,to4,false) (fun post2 e2=>by have e9:=zca hxs1 e2; subst e9; subst hag1; exact h) (zaa [0,1,2,3,4,5] kr rfl)
  ·
   rintro dm1 ⟨from4,to4,open3⟩ hinv
   have h:dn1 from4 to4 open3=some r:=hinv [] (List.append_nil _).symm
   rw [hdn1] at h
   show TX _ _ _ _ _ _ _ [zfG ((([]:List Nat):List Nat).map zfr),emp,emp,emp,emp,emp,emp,cells b8 [.string r1] 9,cells b2 [zP bo1] 23,cells b3 [.string s1] 9,cells b4 [zI 0] 3,cells b5 [zI from4] 3,cells b6 [zI to4] 3,cells b7 [.bool open3] 4,zfr dm1]
   refine zes (k:=14) (j:=0) rfl rfl dc ?_
   refine zad ?_
   exact zai (b4,dm1::([]:List Nat)) h rfl (za7 rfl) (zaa [10,0] kr rfl)
  rintro dm1 c pre x1 post g hxs hX
  obtain ⟨rfl,h⟩:=(show _∧_ from hX)
  obtain ⟨x2,from5,to5⟩:=g
  rw [hek1] at h
  show TC _ _ _ _ _ _ _ _ _ [zfG ((([]:List Nat):List Nat).map zfr),emp,emp,emp,emp,emp,emp,cells b8 [.string r1] 9,cells b2 [zP bo1] 23,cells b3 [.string s1] 9,cells b4 [zI x2] 3,cells b5 [zI from5] 3,cells b6 [zI to5] 3,cells b7 [.bool false] 4,zfr dm1]
  refine ziA (k:=14) (j:=0) rfl rfl dc ?_
  refine zaD (zam (zaj ?_))
  cases h
  exact zfL (rs:=[.cell 4 3]) (dm1::([]:List Nat)) () (.inl rfl) (zcS (k:=0) rfl) results47 (.cons (.cell zdV (k:=10) rfl rfl) .nil) rfl Splits.nil
 rintro ⟨b1,ds1⟩ h
 rw [hj1] at h
 refine zyG ?_
 refine zaQ (k:=0) (l':=[zI 0]) zik rfl rfl rfl rfl rfl (fun _ _=>rfl) rfl ?_
 refine zyN (zaD ?_)
 cases h
 exact zfL (rs:=[.cell 4 3]) ds1 () (.inl rfl) (zcS (k:=1) rfl) results47 (.cons (.cell zdV (k:=0) rfl rfl) .nil) rfl Splits.nil
def zd7 (s1:zBA):Option (List zal) := zak (zdA s1) fun (r1:zBA) => zak (zdx r1) fun (r2:(List zal)) => some r2
theorem zjO {s1:zBA} {r:(List zal)} (h:zd7 s1=some r):Fn prog 49 [.string s1] [] (fun v0:Value=>v0) (fun v0=>[zv5 v0 r]):=by
 unfold zd7 at h
 refine Fn.intro func49 rfl ntmps49 (by simp) ?_
 intro w0 K
 refine zyG (zyR 1 rfl (zyH (zyR 1 rfl ?_)))
 obtain ⟨r1,hq1,h⟩:=zbz h
 refine zb6 (vs:=[.string s1]) rfl dc rfl rfl rfl zss (zei hq1) Splits.nil ?_
 rintro b1
 obtain ⟨r2,hq2,h⟩:=zbz h
 refine zb6 (vs:=[.func (.func 71) #[] #[zP b1]]) rfl dc rfl rfl rfl zyI (zhk (bseq10:=b1) hq2) (zaa [0] kr rfl) ?_
 rintro v1
 refine zyR 1 rfl (zyN (zaD ?_))
 cases h
 exact zch (rs:=[.tmp 2]) v1 (.inl rfl) results49 (.cons (.tmp rfl) .nil) rfl (zaa [2] kr rfl)
def zbM (o1:zac) (l1:List zal) (j1:Int→Nat→(List zBA)→Option (Int×(List zBA))) (ag1:Int→zBA→Nat→(List zBA)→Int→Option (Int×(List zBA))) (best4:Int) (form3:zBA) (kd4:Nat) (places4:List zBA) (x3:Int):Option (Int×(List zBA)) := zat (decide ((x3:Int)<((zhi l1 0 (min (l1.length:Int) 8)).length:Int))) ( zbB (fun (j2:Int→zBA→Nat→(List zBA)→Option (Int×(List zBA))) => zak (zd6 (zhi l1 0 (min (l1.length:Int) 8)) x3) fun (q1:zal) => zat (q1.Broken) ( j1 best4 kd4 places4
) ( grd (I32 q1.Rune) <| grd (form3.size+(Utf8.encode (zaV q1.Rune)).size≤9223372036854775807) <| zat ((zby (form3++(Utf8.encode (zaV q1.Rune))) o1.place).isSome) ( grd (I64 (x3+1)) <| j2 (x3+1) (form3++(Utf8.encode (zaV q1.Rune))) 1 ([form3++(Utf8.encode (zaV q1.Rune))]:List zBA)
) ( zat ((zby (form3++(Utf8.encode (zaV q1.Rune))) o1.fors).isSome) ( grd (I64 (x3+1)) <| zak ((zby (form3++(Utf8.encode (zaV q1.Rune))) o1.fors)) fun (xs1:List zBA) => j2 (x3+1) (form3++(Utf8.encode (zaV q1.Rune))) 2 xs1
) ( j2 best4 (form3++(Utf8.encode (zaV q1.Rune))) kd4 places4
)
)
)
) (fun (best5:Int) (form4:zBA) (kd5:Nat) (places5:List zBA) => grd (I64 (x3+1)) <| ag1 best5 form4 kd5 places5 (x3+1)
)
) ( j1 best4 kd4 places4
)
def zbw (j3:(List zBA)→Option (Int×(List zBA))) (r1:zBA) (ag2:(List zBA)→Nat→Option (Int×(List zBA))) (places9:List zBA) (m3:Nat):Option (Int×(List zBA)) := zat (decide (m3<(pcs r1.data.toList).length)) ( zak ((pcs r1.data.toList)[m3]?) fun (p1:Pc) => grd (places9.length+1≤2147483648) <| ag2 (places9++[Utf8.encode (p1.r:Int)]) (m3+1)
) ( j3 places9
)
def zc7 (o1:zac) (l1:List zal):Option (Int×(List zBA)) := zbB (fun (j1:Int→Nat→(List zBA)→Option (Int×(List zBA))) => grd (0≤(0:Int)∧(0:Int)≤(min (l1.length:Int) 8)∧(min (l1.length:Int) 8:Int)≤(l1.length:Int)) <| zaT (fun _ _ _ _ _=>none) (zbM o1 l1 j1) zcI 0 (⟨#[]⟩:zBA) 0 ([]:List zBA) 0
) (fun (best1:Int) (kd1:Nat) (places1:List zBA) => zat (decide ((0:Int)<best1)) ( some (best1,places1)
) ( zbB (fun (j3:(List zBA)→Option (Int×(List zBA))) => grd (kd1=0) <| zak (zd6 l1 0) fun (q2:zal) => grd (I32 q2.Rune) <| zak (zeo (zaV q2.Rune)) fun (r1:zBA) => zaT (fun _ _=>none) (zbw j3 r1) zcI ([]:List zBA) 0
) (fun (places6:List zBA) => some (1,places6)
)
)
)
theorem zhj {bo1:Nat} {o1:zac} {o1_h0 o1_h1 o1_h2 o1_h3 o1_h4:Hd} {vvl1 vl1:Value} {Ll1:List zal} {kl1:Nat} {l1:List zal} (hwl1:Vw vvl1 Ll1 4 kl1 vl1 l1) {r:(Int×(List zBA))} (h:zc7 o1 l1=some r):FnD prog 51 [zP bo1,vl1] [cells bo1 [o1_h0.v,.map (some (za5 o1_h1)),.map (some (za5 o1_h2)),.map (some (za5 o1_h3)),o1_h4.v] 79,zv0 o1_h0.v o1.units,zbJ (fun n:zBA=>Value.string n) (fun n:Int=>Value.int .i64 n) (za5 o1_h1) o1.place,zcy (za5 o1_h2) o1.fors,zbJ (fun n:zBA=>Value.string n) (fun n:Bool=>Value.bool n) (za5 o1_h3) o1.skips,zv0 o1_h4.v o1.lines,zeQ zbK 4 vvl1 kl1 Ll1] (fun v0:Hd=>.tuple #[zI r.1,v0.v]) (fun v0=>[zmA zgT 1 v0 r.2]):=by
 unfold zc7 at h
 refine FnD.intro func51 rfl ntmps51 (by simp) ?_
 intro w0 K hrd
 obtain ⟨Lf,hLf,hrd⟩:=hrd.fors (i:=3) rfl
 replace hrd:Rd _ _ [cells bo1 [o1_h0.v,.map (some (za5 o1_h1)),.map (some (za5 o1_h2)),.map (some (za5 o1_h3)),o1_h4.v] 79,zv0 o1_h0.v o1.units,zbJ (fun n:zBA=>Value.string n) (fun n:Int=>Value.int .i64 n) (za5 o1_h1) o1.place,zcy (za5 o1_h2) o1.fors,zbJ (fun n:zBA=>Value.string n) (fun n:Bool=>Value.bool n) (za5 o1_h3) o1.skips,zv0 o1_h4.v o1.lines,zeQ zbK 4 vvl1 kl1 Ll1,fsM (za5 o1_h2) Lf,fsO Lf]:=hrd
 obtain ⟨j1,hj1,h⟩:=zbP h
 refine zaZ (β:=Int×Nat×(List zBA)×Hd) 3 rfl (fun b=>j1 b.1 b.2.1 b.2.2.1=some r∧Rov b.2.1 b.2.2.2 b.2.2.1 Lf) (fun b=>[]) (fun b=>[(1,vl1),(6,zI b.1),(8,b.2.2.2.v)]) (fun b=>[rdX b.2.1 b.2.2.2 b.2.2.1,zoM w0 K]) (fun cut => ?_) ?_
 ·
  refine zyG (zyR 2 rfl (zyH (zyR 2 rfl (zyH ?_))))
  refine zyR 1 rfl (zgQ (enc:=zgT) (e:=9) (size:=1) (zmi (k:=1) rfl (zq7 9) ?_))
  refine zyN (cut (zyG (zyR 2 rfl (zck hwl1 rfl dc rfl underlying103 (zwf rfl dc rfl rfl ?_)))))
  obtain ⟨hg1,h⟩:=zb7 h
  obtain ⟨v1,hv1,hs1⟩:=ziL (lo:=none) (hi:=some (zI (min (l1.length:Int) 8))) hwl1 underlying103 zfN (.inl ⟨rfl,rfl⟩) (.inr rfl) hg1
  refine zb4 rfl dc rfl rfl rfl hs1 (zck hv1 rfl dc rfl underlying103 (zyR 1 rfl (zyN (zaB ?_))))
  refine zbN (β:=Nat×Int×zBA×Nat×(List zBA)×Int×Hd) (fun b=>zaT (fun _ _ _ _ _=>none) (zbM o1 l1 j1) b.1 b.2.1 b.2.2.1 b.2.2.2.1 b.2.2.2.2.1 b.2.2.2.2.2.1=some r∧Rov b.2.2.2.1 b.2.2.2.2.2.2 b.2.2.2.2.1 Lf) (fun b=>[]) (fun b=>[(0,zP bo1),(1,vl1),(6,zI b.2.1),(7,.string b.2.2.1),(8,b.2.2.2.2.2.2.v),(21,v1),(22,zI ((zhi l1 0 (min (l1.length:Int) 8)).length:Int)),(23,zI b.2.2.2.2.2.1)]) (fun b=>[rdX b.2.2.2.1 b.2.2.2.2.2.2 b.2.2.2.2.1,zoM w0 K]) (fun b=>b.1) (zcI,0,(⟨#[]⟩:zBA),0,([]:List zBA),0,Hd.nil) ⟨h,Rov.nil⟩ rfl (za7 rfl) (zaa [1,0] kr rfl) ?_
  rintro ⟨n1,best4,form3,kd4,places4,x3,hd4⟩ ⟨h,hx4⟩
  cases n1 with
  | zero=>exact zez h
  | succ n1 =>
   obtain ⟨ag1,hag1⟩:∃ ag,ag=zaT (fun _ _ _ _ _=>none) (zbM o1 l1 j1) n1:=⟨_,rfl⟩
   have h:zbM o1 l1 j1 ag1 best4 form3 kd4 places4 x3=some r:=by rw [hag1]; exact h
   unfold zbM at h
   refine zyG (zaU rfl zbE (zyN (zaP ?_)))
   refine zyB rfl h (fun h => ?_) (fun h => ?_)
   ·
    refine zaq (zaF ?_)
    obtain ⟨j2,hj2,h⟩:=zbP h
    refine zaZ (β:=Int×zBA×Nat×(List zBA)×Hd) 0 rfl (fun b=>j2 b.1 b.2.1 b.2.2.1 b.2.2.2.1=some r∧Rov b.2.2.1 b.2.2.2.2 b.2.2.2.1 Lf) (fun b=>[]) (fun b=>[(0,zP bo1),(1,vl1),(6,zI b.1),(7,.string b.2.1),(8,b.2.2.2.2.v),(21,v1),(22,zI ((zhi l1 0 (min (l1.length:Int) 8)).length:Int)),(23,zI x3)]) (fun b=>[rdX b.2.2.1 b.2.2.2.2 b.2.2.2.1,zoM w0 K]) (fun cut => ?_) ?_
    ·
     refine cut (zaB (zyG (zyR 1 rfl ?_)))
     obtain ⟨q1,hq1,h⟩:=zbz h
     refine zbd hv1 hq1 underlying103 zfN rfl dc rfl rfl rfl (zcD (m:=kl1+(0:Int).toNat+(x3:Int).toNat) (j:=0) (i:=6) (q:=q1) (cs:=(zr0 q1)) hrd rfl (by omega) zgW rfl dc rfl (Vw.get hv1 hq1) rfl rfl rfl ?_)
     refine za6 zkD rfl dc (fun b1 => ?_)
     refine zyR 1 rfl (za4 (k:=2) (vs:=(zr0 q1)) (l':=(zr0 q1)) zfN rfl rfl rfl rfl rfl (show _≤_ by simp) rfl rfl ?_)
     refine zyN (zaP (zyG (zag zoT rfl dc rfl (show _=3 from rfl) (zan (k:=2) zwq rfl dc rfl rfl rfl (zyN ?_)))))
     refine zyB rfl h (fun h => ?_) (fun h => ?_)
     ·
      refine zbA (zao (zhX dc (zao (zao (zaH ?_)))))
      exact zai (best4,kd4,places4,hd4) ⟨h,hx4⟩ rfl (za7 rfl) (zaa [0,1] kr rfl)
     refine zaq (zaF (zyG (zyR 1 rfl (zag zgu rfl dc rfl (show _=2 from rfl) (zan (k:=2) zfo rfl dc rfl rfl rfl ?_)))))
     obtain ⟨hg2,h⟩:=zb7 h
     refine zaK (v:=.int .i32 (zaV q1.Rune)) (vs:=[.int .i32 q1.Rune]) rfl dc rfl rfl rfl zst (zdn fun w=>zgF q1.Rune w hg2.1 hg2.2) ?_
     refine zdd rfl dc rfl (zcW underlying21 underlying9) ?_
     obtain ⟨hg3,h⟩:=zb7 h
     refine zaU rfl (zeN hg3) (zyR 1 rfl (zyH (zyR 1 rfl (za2 rfl dc rfl (zag zjE rfl dc rfl (show _=1 from rfl) (zdz (i:=0) hrd rfl zqh rfl dc rfl rfl (zyR 1 rfl ?_)))))))
     refine zfP (k:=2) (ek:=(fun n:zBA=>Value.string n)) (ev':=(fun n:Int=>Value.int .i64 n)) (kk:=form3++(Utf8.encode (zaV q1.Rune))) (z0:=0) (zcO underlying9) underlying75 kr rfl dc rfl rfl hrd rfl ?_
     refine zyR 1 rfl (zaE rfl dc rfl rfl (zaE rfl dc rfl rfl (zyR 2 rfl (zyH (zyR 1 rfl (zyN ?_))))))
     refine zyB rfl h (fun h => ?_) (fun h => ?_)
     ·
      refine zap (zyR 1 rfl ?_)
      obtain ⟨hg4,h⟩:=zb7 h
      refine zaU rfl (zbh (r:=x3+1) (IntWalk.i64_in _ hg4)) (zyR 1 rfl ?_)
      refine za0 (cs:=[.string (form3++(Utf8.encode (zaV q1.Rune)))]) (te:=9) (ps:=[(0,.tmp 48)]) rfl dc rfl (fun _=>by kernel_rfl) (fun b2 => ?_)
      refine zyR 2 rfl (zgq ([form3++(Utf8.encode (zaV q1.Rune))]:List zBA) (k:=3) rfl zcM rfl (show 1≤maxLen by decide) ?_)
      refine zmi (k:=3) rfl (zq6 (hd:=(⟨some ⟨b2,0,none⟩,1,1⟩:Hd))) ?_
      refine zaC (zad ?_)
      exact zai (x3+1,form3++(Utf8.encode (zaV q1.Rune)),1,([form3++(Utf8.encode (zaV q1.Rune))]:List zBA),(⟨some ⟨b2,0,none⟩,1,1⟩:Hd)) ⟨h,Rov.own⟩ rfl (za7 rfl) (zaa [3,1] kr rfl)
     refine zyG (zyR 1 rfl (za2 rfl dc rfl (zag zoU rfl dc rfl (show _=2 from rfl) (zdz (i:=0) hrd rfl zu5 rfl dc rfl rfl (zyR 1 rfl ?_)))))
     refine zs0 (i:=7) (kk:=(form3++(Utf8.encode (zaV q1.Rune)))) hLf underlying9 underlying76 kr rfl dc rfl rfl hrd rfl (fun hd6 hx6 => ?_)
     refine zyR 1 rfl (zaE rfl dc rfl rfl (zaE rfl dc rfl rfl (zyR 2 rfl (zyH (zyR 1 rfl (zyN ?_))))))
     refine zyB rfl h (fun h => ?_) (fun h => ?_)
     ·
      refine zap (zyR 1 rfl ?_)
      obtain ⟨hg5,h⟩:=zb7 h
      refine zaU rfl (zbh (r:=x3+1) (IntWalk.i64_in _ hg5)) (zyR 3 rfl ?_)
      obtain ⟨xs1,hq2,h⟩:=zbz h
      refine zwd ?_
      refine zmi (k:=3) rfl (zq8 (hd:=hd6) (xs:=xs1)) ?_
      refine zaC (zad ?_)
      exact zai (x3+1,form3++(Utf8.encode (zaV q1.Rune)),2,xs1,hd6) ⟨h,(Rov.map (hx6 xs1 hq2))⟩ rfl (za7 rfl) (zaa [3,1] kr rfl)
     refine zaq (zad ?_)
     exact zai (best4,form3++(Utf8.encode (zaV q1.Rune)),kd4,places4,hd4) ⟨h,hx4⟩ rfl (za7 rfl) (zaa [0,1] kr rfl)
    rintro ⟨best5,form4,kd5,places5,hd5⟩ ⟨h,hx5⟩
    rw [hj2] at h
    refine zap ?_
    obtain ⟨hg6,h⟩:=zb7 h
    refine zaU rfl (zbh (r:=x3+1) (IntWalk.i64_in _ hg6)) (zyR 1 rfl (zaC ?_))
    subst hag1
    exact zbs (n1,best5,form4,kd5,places5,x3+1,hd5) ⟨h,hx5⟩ (Nat.lt_succ_self _) rfl (za7 rfl) (zaa [0,1] kr rfl)
   refine zbA (zao (zao (zaH ?_)))
   exact zai (best4,kd4,places4,hd4) ⟨h,hx4⟩ rfl (za7 rfl) (zaa [0,1] kr rfl)
 rintro ⟨best1,kd1,places1,hd1⟩ ⟨h,hx1⟩
 rw [hj1] at h
 refine zaP (zyG (zyR 1 rfl (zaU rfl zeU (zyN ?_))))
 refine zyB rfl h (fun h => ?_) (fun h => ?_)
 ·
  refine zyG (zyR 4 rfl (zyN (zaD (zaj ?_))))
  cases h
  exact zsX (rs:=[.tmp 4,.tmp 5]) hd1 hrd (.inl rfl) results51 (.cons (.tmp rfl) (.cons (.tmp rfl) .nil)) rfl (zaa [1,0] kr rfl) (zu8 hx1 (i:=8) rfl)
 refine zaq (zaF ?_)
 obtain ⟨j3,hj3,h⟩:=zbP h
 refine zaZ (β:=(List zBA)×Hd) 0 rfl (fun b=>j3 b.1=some r) (fun b=>[]) (fun b=>[(8,b.2.v)]) (fun b=>[zv0 b.2.v b.1,zoM w0 K]) (fun cut => ?_) ?_
 ·
  refine cut (zaP ?_)
  obtain ⟨hg7,h⟩:=zb7 h
  have hkp:=h
  obtain ⟨rfl,rfl⟩:=hx1.1 hg7
  have h:=hkp
  refine zap (zyR 1 rfl ?_)
  obtain ⟨q2,hq3,h⟩:=zbz h
  refine zbd hwl1 hq3 underlying103 zfN rfl dc rfl rfl rfl (zag zgu rfl dc rfl (show _=(kl1+(0:Int).toNat)*4+2 from rfl) (zct (n:=kl1+(0:Int).toNat) (j:=2) (i:=6) (q:=q2) hrd rfl (by omega) zfo rfl dc rfl (Vw.get hwl1 hq3) rfl rfl ?_))
  obtain ⟨hg8,h⟩:=zb7 h
  refine zaK (v:=.int .i32 (zaV q2.Rune)) (vs:=[.int .i32 q2.Rune]) rfl dc rfl rfl rfl zst (zdn fun w=>zgF q2.Rune w hg8.1 hg8.2) ?_
  obtain ⟨r1,hq4,h⟩:=zbz h
  refine zaK (v:=.string r1) (vs:=[.int .i32 (zaV q2.Rune)]) rfl dc rfl rfl rfl zxm (zhd hq4) ?_
  refine zeV underlying9 rfl dc rfl (fun b3 => ?_)
  refine zyN (zaB (zfF (enc:=zgT) (e:=9) (size:=1) ?_))
  refine zbN (β:=Nat×(List zBA)×Nat×Hd) (fun b=>zaT (fun _ _=>none) (zbw j3 r1) b.1 b.2.1 b.2.2.1=some r) (fun b=>[]) (fun b=>[(8,b.2.2.2.v),(74,zP b3)]) (fun b=>[zv0 b.2.2.2.v b.2.1,obj b3 (.stringIter r1 (zf9 r1 b.2.2.1)),zoM w0 K]) (fun b=>b.1) (zcI,([]:List zBA),0,Hd.nil) (by exact h) rfl (za7 rfl) (zaa [3,2,1] kr rfl) ?_
  rintro ⟨n2,places9,m3,hd10⟩ h
  cases n2 with
  | zero=>exact zez h
  | succ n2 =>
   obtain ⟨ag2,hag2⟩:∃ ag,ag=zaT (fun _ _=>none) (zbw j3 r1) n2:=⟨_,rfl⟩
   have h:zbw j3 r1 ag2 places9 m3=some r:=by rw [hag2]; exact h
   unfold zbw at h
   refine zyG ?_
   refine ze3 (b:=decide (m3<(pcs r1.data.toList).length)) (fun hb6 => ?_) (fun hb6 => ?_)
   ·
    have h:=zla hb6 h
    obtain ⟨p1,hq5,h⟩:=zbz h
    refine zfw (k:=1) (m:=m3) (p:=p1) rfl dc rfl rfl hq5 (zaE rfl dc rfl rfl (zyN (zaP (zcd rfl (zaq (zaF (zaB (zyG (zaE rfl dc rfl rfl (zyR 1 rfl (zaC ?_)))))))))))
    refine zaF (zap (zyR 2 rfl (zdd rfl dc rfl (zcW underlying21 underlying9) ?_)))
    refine za0 (cs:=[.string (Utf8.encode (p1.r:Int))]) (te:=9) (ps:=[(0,.tmp 80)]) rfl dc rfl (fun _=>by kernel_rfl) (fun b4 => ?_)
    obtain ⟨hg9,h⟩:=zb7 h
    refine zbY (k:=0) (k2:=3) (ys:=[Utf8.encode (p1.r:Int)]) underlying38 zxs zcM zkw rfl dc rfl rfl rfl rfl rfl rfl hg9 (fun v2 => ?_)
    refine zcp (k:=0) rfl (fun hd11 he1 => ?_)
    subst he1
    refine zyR 1 rfl (zaC (zad ?_))
    subst hag2
    exact zbs (n2,places9++[Utf8.encode (p1.r:Int)],m3+1,hd11) h (Nat.lt_succ_self _) rfl (za7 rfl) (zaa [0,1,2] kr rfl)
   have h:=zlb hb6 h
   refine zfx (k:=1) (m:=m3) rfl dc rfl rfl (Nat.le_of_not_lt (of_decide_eq_false hb6)) (zaE rfl dc rfl rfl (zyN (zaP (zaY rfl (zbA (zao (zao (zaH ?_))))))))
   exact zai (places9,hd10) h rfl (za7 rfl) (zaa [0,2] kr rfl)
 rintro ⟨places6,hd7⟩ h
 rw [hj3] at h
 refine zyG (zyR 3 rfl (zyN (zaD ?_)))
 cases h
 exact zsX (rs:=[.tmp 4,.tmp 5]) hd7 hrd (.inl rfl) results51 (.cons (.tmp rfl) (.cons (.tmp rfl) .nil)) rfl (zaa [1,0] kr rfl) (zuV (e:=9) (hd:=hd7) (xs:=places6))
def zbD (e1:zab) (c0:Bool) (c1:List zab):Option (Bool×(List zab)) := zbB (fun (j1:(List zab)→Option (Bool×(List zab))) => zat (c0) ( zat (decide ((0:Int)<(c1.length:Int))) ( grd (c1.length+1≤2147483648) <| j1 (c1++[(⟨1,0,ByteArray.empty,ByteArray.empty,0⟩:zab)])
) ( j1 c1
)
) ( j1 c1
)
) (fun (l1:List zab) => grd (l1.length+1≤2147483648) <| some (false,l1++[e1])
)
theorem zdl {e1:zab} {bc0:Nat} {c0:Bool} {bc1:Nat} {c1:List zab} {c1_h0:Hd} {r:(Bool×(List zab))} (h:zbD e1 c0 c1=some r):Fn prog 48 [.agg (zr1 e1).toArray,zP bc0,zP bc1] [cells bc0 [.bool c0] 4,cells bc1 [c1_h0.v] 62,zv2 c1_h0.v c1] (fun v0:Hd=>.tuple #[]) (fun v0=>[cells bc0 [.bool r.1] 4,cells bc1 [v0.v] 62,zv2 v0.v r.2]):=by
 unfold zbD at h
 refine Fn.intro func48 rfl ntmps48 (by simp) ?_
 intro w0 K
 obtain ⟨j1,hj1,h⟩:=zbP h
 refine zaZ (β:=(List zab)×Hd×Nat) 1 rfl (fun b=>j1 b.1=some r) (fun b=>[]) (fun b=>[(1,zP bc0),(2,zP bc1),(3,zP b.2.2)]) (fun b=>[cells bc1 [b.2.1.v] 62,zv2 b.2.1.v b.1,cells bc0 [.bool c0] 4,cells b.2.2 (zr1 e1) 66]) (fun cut => ?_) ?_
 ·
  refine zyG ?_
  refine zea rfl dc rfl (fun b2 => ?_)
  refine zyN (cut (zyG (zan (k:=0) zwq rfl dc rfl rfl rfl (zyR 1 rfl ?_))))
  refine zyS (s:=5) rfl h (fun h => ?_) (fun h => ?_)
  ·
   refine zan (k:=1) zqi rfl dc rfl rfl rfl (zet (k:=2) rfl dc rfl rfl underlying62 (zaU rfl zeU (zyR 1 rfl (zyN ?_))))
   refine zyB rfl h (fun h => ?_) (fun h => ?_)
   ·
    refine zap (zan (k:=1) zqi rfl dc rfl rfl rfl ?_)
    refine zb8 (v:=.agg #[zI 1,zI 0,.string ByteArray.empty,.string ByteArray.empty,zI 0]) (ps:=[(0,.const (zI 1))]) rfl dc rfl (fun _=>by kernel_rfl) ?_
    refine za0 (cs:=[zI 1,zI 0,.string ByteArray.empty,.string ByteArray.empty,zI 0]) (te:=66) (ps:=[(0,.tmp 11)]) rfl dc rfl (fun _=>by kernel_rfl) (fun b3 => ?_)
    obtain ⟨hg1,h⟩:=zb7 h
    refine zbY (k:=2) (k2:=4) (ys:=[(⟨1,0,ByteArray.empty,ByteArray.empty,0⟩:zab)]) underlying62 zxt zbc ze1 rfl dc rfl rfl rfl rfl rfl rfl hg1 (fun v1 => ?_)
    refine zcp (k:=2) rfl (fun hd2 he1 => ?_)
    subst he1
    refine zaQ (k:=1) (l':=[hd2.v]) zwN rfl rfl rfl rfl rfl (fun _ _=>rfl) rfl ?_
    refine zaC ?_
    exact zai (c1++[(⟨1,0,ByteArray.empty,ByteArray.empty,0⟩:zab)],hd2,b2) h rfl (za7 rfl) (zaa [1,2,0,3] kr rfl)
   refine zaq ?_
   exact zai (c1,c1_h0,b2) h rfl (za7 rfl) (zaa [1,2,0,3] kr rfl)
  refine zyR 4 rfl (zyN (zaY rfl (zaq ?_)))
  exact zai (c1,c1_h0,b2) h rfl (za7 rfl) (zaa [1,2,0,3] kr rfl)
 rintro ⟨l1,hd1,b1⟩ h
 rw [hj1] at h
 refine zyG ?_
 refine zaQ (k:=2) (l':=[.bool false]) zrq rfl rfl rfl rfl rfl (fun _ _=>rfl) rfl ?_
 refine zyN (zap (zan (k:=0) zqi rfl dc rfl rfl rfl (zbT (k:=3) (cs:=(zr1 e1)) ziM rfl dc rfl rfl rfl rfl ?_)))
 refine za0 (cs:=(zr1 e1)) (te:=66) (ps:=[(0,.tmp 15)]) rfl dc rfl (fun _=>by kernel_rfl) (fun b4 => ?_)
 obtain ⟨hg2,h⟩:=zb7 h
 refine zbY (k:=1) (k2:=4) (ys:=[e1]) underlying62 zxt zbc ze1 rfl dc rfl rfl rfl rfl rfl rfl hg2 (fun v2 => ?_)
 refine zcp (k:=1) rfl (fun hd3 he2 => ?_)
 subst he2
 refine zaQ (k:=0) (l':=[hd3.v]) zwN rfl rfl rfl rfl rfl (fun _ _=>rfl) rfl ?_
 refine zaC ?_
 cases h
 exact zch (rs:=[]) hd3 (.inr rfl) results48 .nil rfl (zaa [2,0,1] kr rfl)
def zbg (l3:List zal) (r4:(Int×(List zBA))) (j3:Int→Option (List zab)) (ag2:Int→Int→Option (List zab)) (great4:Int) (x3:Int):Option (List zab) := zat (decide ((x3:Int)<((zhi l3 0 r4.1).length:Int))) ( zbB (fun (j4:Int→Option (List zab)) => zak (zd6 (zhi l3 0 r4.1) x3) fun (q2:zal) => grd (I32 q2.Rune) <| zat (great q2.Rune) ( j4 1
) ( j4 great4
)
) (fun (great5:Int) => grd (I64 (x3+1)) <| ag2 great5 (x3+1)
)
) ( j3 great4
)
def zbq (l3:List zal) (j5:Int→zBA→Option (List zab)) (ag3:Int→zBA→Option (List zab)) (n7:Int) (marks4:zBA):Option (List zab) := zat (decide ((n7:Int)<(l3.length:Int))) ( zak (zd6 l3 n7) fun (q3:zal) => zak (zdC q3) fun (r5:Bool) => zat (r5) ( zak (zd6 l3 n7) fun (q4:zal) => grd (marks4.size+(Utf8.encode q4.Rune).size≤9223372036854775807) <| grd (I64 (n7+1)) <| ag3 (n7+1) (marks4++(Utf8.encode q4.Rune))
) ( j5 n7 marks4
)
) ( j5 n7 marks4
)
def zbf (o1:zac) (r4:(Int×(List zBA))) (great1:Int) (j6:(List zab)→Bool→Option (List zab)) (ag4:(List zab)→Bool→Int→Option (List zab)) (out9:List zab) (space8:Bool) (x6:Int):Option (List zab) := zat (decide ((x6:Int)<(r4.2.length:Int))) ( zak (zd6 r4.2 x6) fun (q5:zBA) => zak (zbD (⟨3,((zby q5 o1.place).getD 0),ByteArray.empty,ByteArray.empty,great1⟩:zab) space8 out9) fun (r6:(Bool×(List zab))) => grd (I64 (x6+1)) <| ag4 r6.2 r6.1 (x6+1)
) ( j6 out9 space8
)
def zbp (l3:List zal) (j7:Int→Option (List zab)) (ag5:Int→Option (List zab)) (n13:Int):Option (List zab) := zat (decide ((n13:Int)<(l3.length:Int))) ( zak (zd6 l3 n13) fun (q7:zal) => grd (I32 q7.Rune) <| zat (((zbx q7.Broken q7.Rune):Int)==3) ( grd (I64 (n13+1)) <| ag5 (n13+1)
) ( j7 n13
)
) ( j7 n13
)
def zbo (j8:zBA→Option (List zab)) (ag6:zBA→Option (List zab)) (digits4:zBA):Option (List zab) := zat (decide ((0:Int)<(digits4.size:Int))) ( zak (zlz digits4 0) fun (c1:Int) => zat ((c1:Int)==48) ( grd (0≤(1:Int)∧(1:Int)≤(digits4.size:Int)∧((digits4.size:Int):Int)≤(digits4.size:Int)) <| ag6 (zco digits4 1 (digits4.size:Int))
) ( j8 digits4
)
) ( j8 digits4
)
def zbr (o1:zac) (j1:(List zab)→Option (List zab)) (r1:zBA) (r2:Int) (ag1:(List zab)→Bool→(List zal)→Option (List zab)) (out4:List zab) (space3:Bool) (l3:List zal):Option (List zab) := zat (decide ((0:Int)<(l3.length:Int))) ( zbB (fun (j2:(List zab)→Bool→Int→Option (List zab)) => zak (zd6 l3 0) fun (q1:zal) => grd (I32 q1.Rune) <| zat (((zbx q1.Broken q1.Rune):Int)==1) ( zak (zc7 o1 l3) fun (r4:(Int×(List zBA))) => zbB (fun (j3:Int→Option (List zab)) => grd (0≤(0:Int)∧(0:Int)≤r4.1∧(r4.1:Int)≤(l3.length:Int)) <| zaT (fun _ _=>none) (zbg l3 r4 j3) zcI 0 0
) (fun (great1:Int) => zbB (fun (j5:Int→zBA→Option (List zab)) => zaT (fun _ _=>none) (zbq l3 j5) zcI r4.1 (⟨#[]⟩:zBA)
) (fun (n4:Int) (marks1:zBA) => zbB (fun (j6:(List zab)→Bool→Option (List zab)) => zaT (fun _ _ _=>none) (zbf o1 r4 great1 j6) zcI out4 space3 0
) (fun (out6:List zab) (space5:Bool) => grd (I64 ((out6.length:Int) - 1)) <| zak (zd6 out6 ((out6.length:Int) - 1)) fun (q6:zab) => j2 (out6.set ((out6.length:Int) - 1:Int).toNat (⟨q6.sort,q6.place,q6.digits,marks1,q6.great⟩:zab)) space5 n4
)
)
)
) ( zat (((zbx q1.Broken q1.Rune):Int)==3) ( zbB (fun (j7:Int→Option (List zab)) => zaT (fun _=>none) (zbp l3 j7) zcI 1
) (fun (n10:Int) => zbB (fun (j8:zBA→Option (List zab)) => grd (I64 (q1.At+n10)) <| grd (0≤(q1.At:Int)∧(q1.At:Int)≤(q1.At+n10)∧(q1.At+n10:Int)≤((zco r1 r2 (r1.size:Int)).size:Int)) <| zaT (fun _=>none) (zbo j8) zcI (zco (zco r1 r2 (r1.size:Int)) q1.At (q1.At+n10))
) (fun (digits1:zBA) => zak (zbD (⟨2,0,digits1,ByteArray.empty,0⟩:zab) space3 out4) fun (r7:(Bool×(List zab))) => j2 r7.2 r7.1 n10
)
)
) ( zbB (fun (j9:Bool→Option (List zab)) => zat (((zbx q1.Broken q1.Rune):Int)==5) ( j9 (((zbx q1.Broken q1.Rune):Int)==5)
) ( zat (((zbx q1.Broken q1.Rune):Int)==4) ( j9 (((zbx q1.Broken q1.Rune):Int)==4)
) ( j9 (((zbx q1.Broken q1.Rune):Int)==6)
)
)
) (fun (x7:Bool) => zat (x7) ( j2 out4 true 1
) ( zat (((zbx q1.Broken q1.Rune):Int)==11) ( zak (zlz (zco r1 r2 (r1.size:Int)) q1.At) fun (c2:Int) => grd (I64 c2) <| zak (zbD (⟨4,c2,ByteArray.empty,ByteArray.empty,0⟩:zab) space3 out4) fun (r8:(Bool×(List zab))) => j2 r8.2 r8.1 1
) ( j2 out4 space3 1
)
)
)
)
)
) (fun (out5:List zab) (space4:Bool) (n2:Int) => grd (0≤(n2:Int)∧(n2:Int)≤(l3.length:Int)∧((l3.length:Int):Int)≤(l3.length:Int)) <| ag1 out5 space4 (zhi l3 n2 (l3.length:Int))
)
) ( j1 out4
)
def zbQ (o1:zac) (t1:zBA):Option (List zab) := zbB (fun (j1:(List zab)→Option (List zab)) => zak (zdg t1) fun (r1:zBA) => zak (zcX o1 r1) fun (r2:Int) => grd (0≤(r2:Int)∧(r2:Int)≤(r1.size:Int)∧((r1.size:Int):Int)≤(r1.size:Int)) <| zak (zd7 (zco r1 r2 (r1.size:Int))) fun (r3:(List zal)) => zaT (fun _ _ _=>none) (zbr o1 j1 r1 r2) zcI ([]:List zab) false r3
) (fun (out1:List zab) => some out1
)
theorem zdE {bo1:Nat} {o1:zac} {o1_h0 o1_h1 o1_h2 o1_h3 o1_h4:Hd} {t1:zBA} {r:(List zab)} (h:zbQ o1 t1=some r):FnR prog 25 [zP bo1,.string t1] [cells bo1 [o1_h0.v,.map (some (za5 o1_h1)),.map (some (za5 o1_h2)),.map (some (za5 o1_h3)),o1_h4.v] 79,zv0 o1_h0.v o1.units,zbJ (fun n:zBA=>Value.string n) (fun n:Int=>Value.int .i64 n) (za5 o1_h1) o1.place,zcy (za5 o1_h2) o1.fors,zbJ (fun n:zBA=>Value.string n) (fun n:Bool=>Value.bool n) (za5 o1_h3) o1.skips,zv0 o1_h4.v o1.lines] [] (fun v0:Value=>v0) (fun v0=>[zv2 v0 r]):=by
 unfold zbQ at h
 refine FnR.intro func25 rfl ntmps25 (by simp) ?_
 intro w0 K hrd
 obtain ⟨j1,hj1,h⟩:=zbP h
 refine zaZ (β:=(List zab)×Nat×Hd) 6 rfl (fun b=>j1 b.1=some r) (fun b=>[]) (fun b=>[(6,zP b.2.1)]) (fun b=>[cells b.2.1 [b.2.2.v] 62,zv2 b.2.2.v b.1]) (fun cut => ?_) ?_
 ·
  refine zyG (zyR 1 rfl (zyH (zyR 1 rfl ?_)))
  obtain ⟨r1,hq1,h⟩:=zbz h
  refine zaK (v:=.string r1) (vs:=[.string t1]) rfl dc rfl rfl rfl zwv (zeB hq1) (zyR 1 rfl (zyH (zyR 3 rfl ?_)))
  obtain ⟨r2,hq2,h⟩:=zbz h
  refine zeu (v:=zI r2) (vs:=[zP bo1,.string r1]) hrd rfl dc rfl rfl rfl zy5 (zg4 (bo1:=bo1) (o1:=o1) (o1_h0:=o1_h0) (o1_h1:=o1_h1) (o1_h2:=o1_h2) (o1_h3:=o1_h3) (o1_h4:=o1_h4) hq2) (.ro 0 rfl (.ro 1 rfl (.ro 2 rfl (.ro 3 rfl (.ro 4 rfl (.ro 5 rfl .nil)))))) ?_
  obtain ⟨hg1,h⟩:=zb7 h
  refine zb4 rfl dc rfl rfl rfl (za3 (i:=r2) (j:=(r1.size:Int)) underlying9 (.inr rfl) (.inl ⟨rfl,rfl⟩) hg1) (zyR 1 rfl (zyH ?_))
  refine za6 zxY rfl dc (fun b2 => ?_)
  refine zyH ?_
  refine za6 zx1 rfl dc (fun b3 => ?_)
  refine zaQ (k:=1) (l':=[.bool false]) zrq rfl rfl rfl rfl rfl (fun _ _=>rfl) rfl ?_
  refine zyH (zf7 (x1:=[]) (x2:=[.tmp 7,.tmp 6]) rfl dc rfl rfl (zyR 1 rfl (zyN (cut (zyG (zyR 1 rfl ?_))))))
  obtain ⟨r3,hq3,h⟩:=zbz h
  refine zb6 (vs:=[.string (zco r1 r2 (r1.size:Int))]) rfl dc rfl rfl rfl zy4 (zjO hq3) Splits.nil ?_
  rintro v1
  refine zcp (k:=2) rfl (fun hd2 he1 => ?_)
  subst he1
  refine zyR 1 rfl ?_
  refine zee (k:=2) rfl (fun hw1 => ?_)
  refine zs4 (B:=zeQ zbK 4 hd2.v 0 r3) (As:=[zv5 hd2.v r3]) (zaa [2] kr rfl) (fun _ _ h=>zd5 zgn (sepL.one1.1 h)) hrd ?_
  intro wf1 Kf1 hxf1 hrd
  replace hrd:Rd _ _ [cells bo1 [o1_h0.v,.map (some (za5 o1_h1)),.map (some (za5 o1_h2)),.map (some (za5 o1_h3)),o1_h4.v] 79,zv0 o1_h0.v o1.units,zbJ (fun n:zBA=>Value.string n) (fun n:Int=>Value.int .i64 n) (za5 o1_h1) o1.place,zcy (za5 o1_h2) o1.fors,zbJ (fun n:zBA=>Value.string n) (fun n:Bool=>Value.bool n) (za5 o1_h3) o1.skips,zv0 o1_h4.v o1.lines,zeQ zbK 4 hd2.v 0 r3]:=hrd
  refine zyN (zaB (zfF (enc:=zbk) (e:=66) (size:=5) ?_))
  refine zbN (β:=Nat×(List zab)×Bool×(List zal)×Hd×Value×Nat) (fun b=>zaT (fun _ _ _=>none) (zbr o1 j1 r1 r2) b.1 b.2.1 b.2.2.1 b.2.2.2.1=some r∧Vw hd2.v r3 4 b.2.2.2.2.2.2 b.2.2.2.2.2.1 b.2.2.2.1) (fun b=>[]) (fun b=>[(0,zP bo1),(5,.string (zco r1 r2 (r1.size:Int))),(6,zP b2),(7,zP b3),(8,.func (.func 48) #[] #[zP b3,zP b2]),(9,b.2.2.2.2.2.1)]) (fun b=>[cells b2 [b.2.2.2.2.1.v] 62,zv2 b.2.2.2.2.1.v b.2.1,cells b3 [.bool b.2.2.1] 4]) (fun b=>b.1) (zcI,([]:List zab),false,r3,Hd.nil,hd2.v,0) ⟨h,hw1⟩ rfl (za7 rfl) (zaa [0,3,1] kr rfl) ?_
  rintro ⟨n1,out4,space3,l3,hd5,v4,at3⟩ ⟨h,hw4⟩
  cases n1 with
  | zero=>exact zez h
  | succ n1 =>
   obtain ⟨ag1,hag1⟩:∃ ag,ag=zaT (fun _ _ _=>none) (zbr o1 j1 r1 r2) n1:=⟨_,rfl⟩
   have h:zbr o1 j1 r1 r2 ag1 out4 space3 l3=some r:=by rw [hag1]; exact h
   unfold zbr at h
   refine zaP (zyG (zyR 1 rfl (zck hw4 rfl dc rfl underlying103 (zaU rfl zeU (zyN ?_)))))
   refine zyB rfl h (fun h => ?_) (fun h => ?_)
   ·
    refine zaq (zaF (zaB ?_))
    obtain ⟨j2,hj2,h⟩:=zbP h
    refine zaZ (β:=(List zab)×Bool×Int×Hd) 2 rfl (fun b=>j2 b.1 b.2.1 b.2.2.1=some r) (fun b=>[]) (fun b=>[(0,zP bo1),(5,.string (zco r1 r2 (r1.size:Int))),(6,zP b2),(7,zP b3),(8,.func (.func 48) #[] #[zP b3,zP b2]),(9,v4),(11,zI b.2.2.1)]) (fun b=>[cells b2 [b.2.2.2.v] 62,zv2 b.2.2.2.v b.1,cells b3 [.bool b.2.1] 4]) (fun cut => ?_) ?_
    ·
     refine zyG (zyR 1 rfl ?_)
     obtain ⟨q1,hq4,h⟩:=zbz h
     refine zbd hw4 hq4 underlying103 zfN rfl dc rfl rfl rfl (zcD (m:=at3+(0:Int).toNat) (j:=0) (i:=6) (q:=q1) (cs:=(zr0 q1)) hrd rfl (by omega) zgW rfl dc rfl (Vw.get hw4 hq4) rfl rfl rfl ?_)
     refine za6 zkD rfl dc (fun b4 => ?_)
     refine za4 (k:=3) (vs:=(zr0 q1)) (l':=(zr0 q1)) zfN rfl rfl rfl rfl rfl (show _≤_ by simp) rfl rfl ?_
     refine zyH (zyR 1 rfl (zyN (cut (zyG (zbT (k:=3) (cs:=(zr0 q1)) zgW rfl dc rfl rfl rfl rfl ?_)))))
     obtain ⟨hg2,h⟩:=zb7 h
     refine zaK (v:=zI (zbx q1.Broken q1.Rune)) (vs:=[.agg (zr0 q1).toArray]) rfl dc rfl rfl rfl zqR (zwr q1.At q1.Width q1.Rune q1.Broken hg2.1 hg2.2) (zyN (zaB (zyG (zaU rfl zbi (zyR 1 rfl (zyN ?_))))))
     refine zyB rfl h (fun h => ?_) (fun h => ?_)
     ·
      refine zyG (zyR 1 rfl (zyH (zyR 2 rfl ?_)))
      have hrd:Rd _ _ [cells bo1 [o1_h0.v,.map (some (za5 o1_h1)),.map (some (za5 o1_h2)),.map (some (za5 o1_h3)),o1_h4.v] 79,zv0 o1_h0.v o1.units,zbJ (fun n:zBA=>Value.string n) (fun n:Int=>Value.int .i64 n) (za5 o1_h1) o1.place,zcy (za5 o1_h2) o1.fors,zbJ (fun n:zBA=>Value.string n) (fun n:Bool=>Value.bool n) (za5 o1_h3) o1.skips,zv0 o1_h4.v o1.lines,zeQ zbK 4 hd2.v 0 r3,zeQ zbK 4 hd2.v at3 r3]:=hrd.up0 (i:=6) rfl
      obtain ⟨r4,hq5,h⟩:=zbz h
      refine zue (vs:=[zP bo1,v4]) hrd rfl dc rfl rfl rfl zy3 (zhj (bo1:=bo1) (o1:=o1) (o1_h0:=o1_h0) (o1_h1:=o1_h1) (o1_h2:=o1_h2) (o1_h3:=o1_h3) (o1_h4:=o1_h4) hw4 hq5) (.ro 0 rfl (.ro 1 rfl (.ro 2 rfl (.ro 3 rfl (.ro 4 rfl (.ro 5 rfl (.ro 7 rfl .nil))))))) ?_
      intro hd7 wf2 Kf2 hxf2 hrd
      replace hrd:Rd _ _ [cells bo1 [o1_h0.v,.map (some (za5 o1_h1)),.map (some (za5 o1_h2)),.map (some (za5 o1_h3)),o1_h4.v] 79,zv0 o1_h0.v o1.units,zbJ (fun n:zBA=>Value.string n) (fun n:Int=>Value.int .i64 n) (za5 o1_h1) o1.place,zcy (za5 o1_h2) o1.fors,zbJ (fun n:zBA=>Value.string n) (fun n:Bool=>Value.bool n) (za5 o1_h3) o1.skips,zv0 o1_h4.v o1.lines,zeQ zbK 4 hd2.v 0 r3,zeQ zbK 4 hd2.v at3 r3,zmA zgT 1 hd7 r4.2]:=hrd
      obtain ⟨vv1,k1,L1,hV1,hrd⟩:=hrd.openSl (i:=8) rfl
      replace hrd:Rd _ _ [cells bo1 [o1_h0.v,.map (some (za5 o1_h1)),.map (some (za5 o1_h2)),.map (some (za5 o1_h3)),o1_h4.v] 79,zv0 o1_h0.v o1.units,zbJ (fun n:zBA=>Value.string n) (fun n:Int=>Value.int .i64 n) (za5 o1_h1) o1.place,zcy (za5 o1_h2) o1.fors,zbJ (fun n:zBA=>Value.string n) (fun n:Bool=>Value.bool n) (za5 o1_h3) o1.skips,zv0 o1_h4.v o1.lines,zeQ zbK 4 hd2.v 0 r3,zeQ zbK 4 hd2.v at3 r3,zmA zgT 1 hd7 r4.2,zeQ zgT 1 vv1 k1 L1]:=hrd
      refine zyR 1 rfl (zaE rfl dc rfl rfl (zaE rfl dc rfl rfl (zyR 2 rfl (zyN ?_))))
      obtain ⟨j3,hj3,h⟩:=zbP h
      refine zaZ (β:=Int) 1 rfl (fun b=>j3 b=some r) (fun b=>[]) (fun b=>[(0,zP bo1),(5,.string (zco r1 r2 (r1.size:Int))),(6,zP b2),(7,zP b3),(8,.func (.func 48) #[] #[zP b3,zP b2]),(9,v4),(11,zI r4.1),(12,hd7.v),(13,zI b)]) (fun b=>[cells b2 [hd5.v] 62,zv2 hd5.v out4,cells b3 [.bool space3] 4]) (fun cut => ?_) ?_
      ·
       refine zyG (zyR 1 rfl (zyN (cut (zyG (zyR 2 rfl ?_)))))
       obtain ⟨hg3,h⟩:=zb7 h
       obtain ⟨v5,hv1,hs1⟩:=ziL (lo:=none) (hi:=some (zI r4.1)) hw4 underlying103 zfN (.inl ⟨rfl,rfl⟩) (.inr rfl) hg3
       refine zb4 rfl dc rfl rfl rfl hs1 (zck hv1 rfl dc rfl underlying103 (zyR 1 rfl (zyN (zaB ?_))))
       refine zbN (β:=Nat×Int×Int) (fun b=>zaT (fun _ _=>none) (zbg l3 r4 j3) b.1 b.2.1 b.2.2=some r) (fun b=>[]) (fun b=>[(0,zP bo1),(5,.string (zco r1 r2 (r1.size:Int))),(6,zP b2),(7,zP b3),(8,.func (.func 48) #[] #[zP b3,zP b2]),(9,v4),(11,zI r4.1),(12,hd7.v),(13,zI b.2.1),(48,v5),(49,zI ((zhi l3 0 r4.1).length:Int)),(50,zI b.2.2)]) (fun b=>[cells b2 [hd5.v] 62,zv2 hd5.v out4,cells b3 [.bool space3] 4]) (fun b=>b.1) (zcI,0,0) h rfl (za7 rfl) (zaa [0,1,2] kr rfl) ?_
       rintro ⟨n3,great4,x3⟩ h
       cases n3 with
       | zero=>exact zez h
       | succ n3 =>
        obtain ⟨ag2,hag2⟩:∃ ag,ag=zaT (fun _ _=>none) (zbg l3 r4 j3) n3:=⟨_,rfl⟩
        have h:zbg l3 r4 j3 ag2 great4 x3=some r:=by rw [hag2]; exact h
        unfold zbg at h
        refine zyG (zaU rfl zbE (zyN (zaP ?_)))
        refine zyB rfl h (fun h => ?_) (fun h => ?_)
        ·
         refine zaq (zaF ?_)
         obtain ⟨j4,hj4,h⟩:=zbP h
         refine zaZ (β:=Int) 0 rfl (fun b=>j4 b=some r) (fun b=>[]) (fun b=>[(0,zP bo1),(5,.string (zco r1 r2 (r1.size:Int))),(6,zP b2),(7,zP b3),(8,.func (.func 48) #[] #[zP b3,zP b2]),(9,v4),(11,zI r4.1),(12,hd7.v),(13,zI b),(48,v5),(49,zI ((zhi l3 0 r4.1).length:Int)),(50,zI x3)]) (fun b=>[cells b2 [hd5.v] 62,zv2 hd5.v out4,cells b3 [.bool space3] 4]) (fun cut => ?_) ?_
         ·
          refine cut (zaB (zyG ?_))
          obtain ⟨q2,hq6,h⟩:=zbz h
          refine zbd hv1 hq6 underlying103 zfN rfl dc rfl rfl rfl (zcD (m:=at3+(0:Int).toNat+(x3:Int).toNat) (j:=0) (i:=6) (q:=q2) (cs:=(zr0 q2)) hrd rfl (by omega) zgW rfl dc rfl (Vw.get hv1 hq6) rfl rfl rfl ?_)
          refine za6 zkD rfl dc (fun b5 => ?_)
          refine za4 (k:=3) (vs:=(zr0 q2)) (l':=(zr0 q2)) zfN rfl rfl rfl rfl rfl (show _≤_ by simp) rfl rfl ?_
          refine zyH (zag zgu rfl dc rfl (show _=2 from rfl) (zan (k:=3) zfo rfl dc rfl rfl rfl ?_))
          obtain ⟨hg4,h⟩:=zb7 h
          refine zaK (v:=.bool (great q2.Rune)) (vs:=[.int .i32 q2.Rune]) rfl dc rfl rfl rfl zzd (zdn fun w=>zhw q2.Rune w hg4.1 hg4.2) ?_
          refine zyN ?_
          refine zyB rfl h (fun h => ?_) (fun h => ?_)
          ·
           refine zap (zyR 1 rfl (zaC (zad ?_)))
           exact zai 1 h rfl (za7 rfl) (zaa [0,1,2] kr rfl)
          refine zaq (zad ?_)
          exact zai great4 h rfl (za7 rfl) (zaa [0,1,2] kr rfl)
         rintro great5 h
         rw [hj4] at h
         refine zap ?_
         obtain ⟨hg5,h⟩:=zb7 h
         refine zaU rfl (zbh (r:=x3+1) (IntWalk.i64_in _ hg5)) (zyR 1 rfl (zaC ?_))
         subst hag2
         exact zbs (n3,great5,x3+1) h (Nat.lt_succ_self _) rfl (za7 rfl) (zaa [0,1,2] kr rfl)
        refine zbA (zao (zao (zaH ?_)))
        exact zai great4 h rfl (za7 rfl) (zaa [0,1,2] kr rfl)
      rintro great1 h
      rw [hj3] at h
      obtain ⟨j5,hj5,h⟩:=zbP h
      refine zaZ (β:=Int×zBA) 1 rfl (fun b=>j5 b.1 b.2=some r) (fun b=>[]) (fun b=>[(0,zP bo1),(5,.string (zco r1 r2 (r1.size:Int))),(6,zP b2),(7,zP b3),(8,.func (.func 48) #[] #[zP b3,zP b2]),(9,v4),(11,zI b.1),(12,hd7.v),(13,zI great1),(16,.string b.2)]) (fun b=>[cells b2 [hd5.v] 62,zv2 hd5.v out4,cells b3 [.bool space3] 4]) (fun cut => ?_) ?_
      ·
       refine zyG (zyR 1 rfl (zyN (cut (zaB ?_))))
       refine zbN (β:=Nat×Int×zBA) (fun b=>zaT (fun _ _=>none) (zbq l3 j5) b.1 b.2.1 b.2.2=some r) (fun b=>[]) (fun b=>[(0,zP bo1),(5,.string (zco r1 r2 (r1.size:Int))),(6,zP b2),(7,zP b3),(8,.func (.func 48) #[] #[zP b3,zP b2]),(9,v4),(11,zI b.2.1),(12,hd7.v),(13,zI great1),(16,.string b.2.2)]) (fun b=>[cells b2 [hd5.v] 62,zv2 hd5.v out4,cells b3 [.bool space3] 4]) (fun b=>b.1) (zcI,r4.1,(⟨#[]⟩:zBA)) (by exact h) rfl (za7 rfl) (zaa [0,1,2] kr rfl) ?_
       rintro ⟨n8,n7,marks4⟩ h
       cases n8 with
       | zero=>exact zez h
       | succ n8 =>
        obtain ⟨ag3,hag3⟩:∃ ag,ag=zaT (fun _ _=>none) (zbq l3 j5) n8:=⟨_,rfl⟩
        have h:zbq l3 j5 ag3 n7 marks4=some r:=by rw [hag3]; exact h
        unfold zbq at h
        refine zaP (zyG (zyR 2 rfl (zck hw4 rfl dc rfl underlying103 (zaU rfl zbE (zyR 1 rfl ?_)))))
        refine zyS (s:=62) rfl h (fun h => ?_) (fun h => ?_)
        ·
         refine zyR 2 rfl ?_
         obtain ⟨q3,hq7,h⟩:=zbz h
         refine zbd hw4 hq7 underlying103 zfN rfl dc rfl rfl rfl (zcD (m:=at3+(n7:Int).toNat) (j:=0) (i:=6) (q:=q3) (cs:=(zr0 q3)) hrd rfl (by omega) zgW rfl dc rfl (Vw.get hw4 hq7) rfl rfl rfl ?_)
         obtain ⟨r5,hq8,h⟩:=zbz h
         refine zaK (v:=.bool r5) (vs:=[.agg (zr0 q3).toArray]) rfl dc rfl rfl rfl zxn (zhG (p1:=q3) hq8) (zyR 1 rfl (zyN ?_))
         refine zyB rfl h (fun h => ?_) (fun h => ?_)
         ·
          refine zaq (zaF (zaB (zyG (zyR 3 rfl ?_))))
          obtain ⟨q4,hq9,h⟩:=zbz h
          refine zbd hw4 hq9 underlying103 zfN rfl dc rfl rfl rfl (zag zgu rfl dc rfl (show _=(at3+(n7:Int).toNat)*4+2 from rfl) (zct (n:=at3+(n7:Int).toNat) (j:=2) (i:=6) (q:=q4) hrd rfl (by omega) zfo rfl dc rfl (Vw.get hw4 hq9) rfl rfl (zdd rfl dc rfl (zcW underlying21 underlying9) ?_)))
          obtain ⟨hg6,h⟩:=zb7 h
          refine zaU rfl (zeN hg6) (zyR 1 rfl (zyN (zap (zyR 1 rfl ?_))))
          obtain ⟨hg7,h⟩:=zb7 h
          refine zaU rfl (zbh (r:=n7+1) (IntWalk.i64_in _ hg7)) (zyR 1 rfl (zaC (zad ?_)))
          subst hag3
          exact zbs (n8,n7+1,marks4++(Utf8.encode q4.Rune)) h (Nat.lt_succ_self _) rfl (za7 rfl) (zaa [0,1,2] kr rfl)
         refine zbA (zao (zao (zaH ?_)))
         exact zai (n7,marks4) h rfl (za7 rfl) (zaa [0,1,2] kr rfl)
        refine zyR 6 rfl (zyN (zaY rfl (zbA (zao (zao (zaH ?_))))))
        exact zai (n7,marks4) h rfl (za7 rfl) (zaa [0,1,2] kr rfl)
      rintro ⟨n4,marks1⟩ h
      rw [hj5] at h
      obtain ⟨j6,hj6,h⟩:=zbP h
      refine zaZ (β:=(List zab)×Bool×Hd) 0 rfl (fun b=>j6 b.1 b.2.1=some r) (fun b=>[]) (fun b=>[(0,zP bo1),(5,.string (zco r1 r2 (r1.size:Int))),(6,zP b2),(7,zP b3),(8,.func (.func 48) #[] #[zP b3,zP b2]),(9,v4),(11,zI n4),(16,.string marks1)]) (fun b=>[cells b2 [b.2.2.v] 62,zv2 b.2.2.v b.1,cells b3 [.bool b.2.1] 4]) (fun cut => ?_) ?_
      ·
       refine cut (zyG (zyR 1 rfl (zck hV1 rfl dc rfl underlying38 (zyR 1 rfl (zyN (zaB ?_))))))
       refine zbN (β:=Nat×(List zab)×Bool×Int×Hd) (fun b=>zaT (fun _ _ _=>none) (zbf o1 r4 great1 j6) b.1 b.2.1 b.2.2.1 b.2.2.2.1=some r) (fun b=>[]) (fun b=>[(0,zP bo1),(5,.string (zco r1 r2 (r1.size:Int))),(6,zP b2),(7,zP b3),(8,.func (.func 48) #[] #[zP b3,zP b2]),(9,v4),(11,zI n4),(13,zI great1),(16,.string marks1),(79,hd7.v),(80,zI (r4.2.length:Int)),(81,zI b.2.2.2.1)]) (fun b=>[cells b2 [b.2.2.2.2.v] 62,zv2 b.2.2.2.2.v b.2.1,cells b3 [.bool b.2.2.1] 4]) (fun b=>b.1) (zcI,out4,space3,0,hd5) h rfl (za7 rfl) (zaa [0,1,2] kr rfl) ?_
       rintro ⟨n9,out9,space8,x6,hd11⟩ h
       cases n9 with
       | zero=>exact zez h
       | succ n9 =>
        obtain ⟨ag4,hag4⟩:∃ ag,ag=zaT (fun _ _ _=>none) (zbf o1 r4 great1 j6) n9:=⟨_,rfl⟩
        have h:zbf o1 r4 great1 j6 ag4 out9 space8 x6=some r:=by rw [hag4]; exact h
        unfold zbf at h
        refine zyG (zaU rfl zbE (zyN (zaP ?_)))
        refine zyB rfl h (fun h => ?_) (fun h => ?_)
        ·
         refine zaq (zaF (zaP (zaB (zyG ?_))))
         obtain ⟨q5,hq10,h⟩:=zbz h
         refine zbd hV1 hq10 underlying38 zkq rfl dc rfl rfl rfl (zct (n:=k1+(x6:Int).toNat) (j:=0) (i:=9) (q:=q5) hrd rfl (by omega) zfn rfl dc rfl (Vw.get hV1 hq10) rfl rfl (zyR 1 rfl (zyN (zap (zyR 2 rfl (za2 rfl dc rfl (zag zjE rfl dc rfl (show _=1 from rfl) (zdz (i:=0) hrd rfl zqh rfl dc rfl rfl (zyR 1 rfl ?_)))))))))
         refine zdy (k:=2) (ek:=(fun n:zBA=>Value.string n)) (ev':=(fun n:Int=>Value.int .i64 n)) (kk:=q5) (z0:=0) (zcO underlying9) underlying75 kr rfl dc rfl rfl hrd rfl ?_
         refine zyR 1 rfl ?_
         refine zb8 (v:=.agg #[zI 3,zI ((zby q5 o1.place).getD 0),.string ByteArray.empty,.string ByteArray.empty,zI great1]) (ps:=[(0,.const (zI 3)),(1,.tmp 91),(4,.tmp 92)]) rfl dc rfl (fun _=>by kernel_rfl) ?_
         obtain ⟨r6,hq11,h⟩:=zbz h
         refine zb6 (vs:=[.agg #[zI 3,zI ((zby q5 o1.place).getD 0),.string ByteArray.empty,.string ByteArray.empty,zI great1]]) rfl dc rfl rfl rfl zvx (zdl (e1:=(⟨3,((zby q5 o1.place).getD 0),ByteArray.empty,ByteArray.empty,great1⟩:zab)) (bc0:=b3) (c0:=space8) (bc1:=b2) (c1:=out9) (c1_h0:=hd11) hq11) (zaa [2,0,1] kr rfl) ?_
         rintro hd12
         refine zcw (L':=[cells b2 [hd12.v] 62,zv2 hd12.v r6.2,cells b3 [.bool r6.1] 4]) (zaa [4,5,3] kr rfl) (zaC (zad (zaF (zap ?_))))
         obtain ⟨hg8,h⟩:=zb7 h
         refine zaU rfl (zbh (r:=x6+1) (IntWalk.i64_in _ hg8)) (zyR 1 rfl (zaC ?_))
         subst hag4
         exact zbs (n9,r6.2,r6.1,x6+1,hd12) h (Nat.lt_succ_self _) rfl (za7 rfl) (zaa [0,1,2] kr rfl)
        refine zbA (zao (zao (zaH ?_)))
        exact zai (out9,space8,hd11) h rfl (za7 rfl) (zaa [0,1,2] kr rfl)
      rintro ⟨out6,space5,hd8⟩ h
      rw [hj6] at h
      refine zap (zan (k:=0) zqi rfl dc rfl rfl rfl (zan (k:=0) zqi rfl dc rfl rfl rfl (zet (k:=1) rfl dc rfl rfl underlying62 ?_)))
      obtain ⟨hg9,h⟩:=zb7 h
      refine zaU rfl (zg5 (r:=(out6.length:Int) - 1) (IntWalk.i64_in _ hg9)) (zyR 1 rfl ?_)
      obtain ⟨q6,hq12,h⟩:=zbz h
      refine zbI (k:=1) hq12 underlying62 zii rfl dc rfl rfl rfl rfl (zag zoV rfl dc rfl (show _=(((out6.length:Int) - 1:Int).toNat)*5+3 from rfl) ?_)
      refine zf6 (i:=((out6.length:Int) - 1:Int).toNat) (j:=3) (k:=1) (q:=q6) (q':=(⟨q6.sort,q6.place,q6.digits,marks1,q6.great⟩:zab)) zkq zbc rfl rfl rfl rfl (zcj hq12) rfl dc rfl (fun _ _=>rfl) ?_
      refine zaC (zad (zsV hxf2 ?_))
      exact zai (out6.set ((out6.length:Int) - 1:Int).toNat (⟨q6.sort,q6.place,q6.digits,marks1,q6.great⟩:zab),space5,n4,hd8) h rfl (za7 rfl) (zaa [0,1,2] kr rfl)
     refine zyG (zaU rfl zbi (zyR 1 rfl (zyN ?_)))
     refine zyB rfl h (fun h => ?_) (fun h => ?_)
     ·
      obtain ⟨j7,hj7,h⟩:=zbP h
      refine zaZ (β:=Int) 0 rfl (fun b=>j7 b=some r) (fun b=>[]) (fun b=>[(0,zP bo1),(5,.string (zco r1 r2 (r1.size:Int))),(6,zP b2),(7,zP b3),(8,.func (.func 48) #[] #[zP b3,zP b2]),(9,v4),(10,zP b4),(11,zI b)]) (fun b=>[cells b2 [hd5.v] 62,zv2 hd5.v out4,cells b3 [.bool space3] 4,cells b4 (zr0 q1) 95]) (fun cut => ?_) ?_
      ·
       refine cut (zaB ?_)
       refine zbN (β:=Nat×Int) (fun b=>zaT (fun _=>none) (zbp l3 j7) b.1 b.2=some r) (fun b=>[]) (fun b=>[(0,zP bo1),(5,.string (zco r1 r2 (r1.size:Int))),(6,zP b2),(7,zP b3),(8,.func (.func 48) #[] #[zP b3,zP b2]),(9,v4),(10,zP b4),(11,zI b.2)]) (fun b=>[cells b2 [hd5.v] 62,zv2 hd5.v out4,cells b3 [.bool space3] 4,cells b4 (zr0 q1) 95]) (fun b=>b.1) (zcI,1) h rfl (za7 rfl) (zaa [0,1,2,3] kr rfl) ?_
       rintro ⟨n14,n13⟩ h
       cases n14 with
       | zero=>exact zez h
       | succ n14 =>
        obtain ⟨ag5,hag5⟩:∃ ag,ag=zaT (fun _=>none) (zbp l3 j7) n14:=⟨_,rfl⟩
        have h:zbp l3 j7 ag5 n13=some r:=by rw [hag5]; exact h
        unfold zbp at h
        refine zaP (zyG (zyR 2 rfl (zck hw4 rfl dc rfl underlying103 (zaU rfl zbE (zyR 1 rfl ?_)))))
        refine zyS (s:=109) rfl h (fun h => ?_) (fun h => ?_)
        ·
         refine zyR 2 rfl ?_
         obtain ⟨q7,hq13,h⟩:=zbz h
         refine zbd hw4 hq13 underlying103 zfN rfl dc rfl rfl rfl (zcD (m:=at3+(n13:Int).toNat) (j:=0) (i:=6) (q:=q7) (cs:=(zr0 q7)) hrd rfl (by omega) zgW rfl dc rfl (Vw.get hw4 hq13) rfl rfl rfl ?_)
         obtain ⟨hg10,h⟩:=zb7 h
         refine zaK (v:=zI (zbx q7.Broken q7.Rune)) (vs:=[.agg (zr0 q7).toArray]) rfl dc rfl rfl rfl zqR (zwr q7.At q7.Width q7.Rune q7.Broken hg10.1 hg10.2) (zaU rfl zbi (zyR 1 rfl (zyN ?_)))
         refine zyB rfl h (fun h => ?_) (fun h => ?_)
         ·
          refine zaq (zaF (zaB (zap (zyR 1 rfl ?_))))
          obtain ⟨hg11,h⟩:=zb7 h
          refine zaU rfl (zbh (r:=n13+1) (IntWalk.i64_in _ hg11)) (zyR 1 rfl (zaC (zad ?_)))
          subst hag5
          exact zbs (n14,n13+1) h (Nat.lt_succ_self _) rfl (za7 rfl) (zaa [0,1,2,3] kr rfl)
         refine zbA (zao (zao (zaH ?_)))
         exact zai n13 h rfl (za7 rfl) (zaa [0,1,2,3] kr rfl)
        refine zyR 7 rfl (zyN (zaY rfl (zbA (zao (zao (zaH ?_))))))
        exact zai n13 h rfl (za7 rfl) (zaa [0,1,2,3] kr rfl)
      rintro n10 h
      rw [hj7] at h
      obtain ⟨j8,hj8,h⟩:=zbP h
      refine zaZ (β:=zBA) 1 rfl (fun b=>j8 b=some r) (fun b=>[]) (fun b=>[(0,zP bo1),(5,.string (zco r1 r2 (r1.size:Int))),(6,zP b2),(7,zP b3),(8,.func (.func 48) #[] #[zP b3,zP b2]),(9,v4),(11,zI n10),(19,.string b)]) (fun b=>[cells b2 [hd5.v] 62,zv2 hd5.v out4,cells b3 [.bool space3] 4]) (fun cut => ?_) ?_
      ·
       refine zyG (zyR 1 rfl (zag zdK rfl dc rfl (show _=0 from rfl) (zan (k:=3) zdV rfl dc rfl rfl rfl (zag zdK rfl dc rfl (show _=0 from rfl) (zan (k:=3) zdV rfl dc rfl rfl rfl (zyR 1 rfl ?_))))))
       obtain ⟨hg12,h⟩:=zb7 h
       refine zaU rfl (zbh (r:=q1.At+n10) (IntWalk.i64_in _ hg12)) ?_
       obtain ⟨hg13,h⟩:=zb7 h
       refine zb4 rfl dc rfl rfl rfl (za3 (i:=q1.At) (j:=q1.At+n10) underlying9 (.inr rfl) (.inr rfl) hg13) (zyR 1 rfl (zyN (cut (zaB ?_))))
       refine zbN (β:=Nat×zBA) (fun b=>zaT (fun _=>none) (zbo j8) b.1 b.2=some r) (fun b=>[]) (fun b=>[(0,zP bo1),(5,.string (zco r1 r2 (r1.size:Int))),(6,zP b2),(7,zP b3),(8,.func (.func 48) #[] #[zP b3,zP b2]),(9,v4),(11,zI n10),(19,.string b.2)]) (fun b=>[cells b2 [hd5.v] 62,zv2 hd5.v out4,cells b3 [.bool space3] 4]) (fun b=>b.1) (zcI,zco (zco r1 r2 (r1.size:Int)) q1.At (q1.At+n10)) h rfl (za7 rfl) (zaa [0,1,2] kr rfl) ?_
       rintro ⟨n15,digits4⟩ h
       cases n15 with
       | zero=>exact zez h
       | succ n15 =>
        obtain ⟨ag6,hag6⟩:∃ ag,ag=zaT (fun _=>none) (zbo j8) n15:=⟨_,rfl⟩
        have h:zbo j8 ag6 digits4=some r:=by rw [hag6]; exact h
        unfold zbo at h
        refine zaP (zyG (zyR 1 rfl (zcN rfl dc rfl underlying9 (zaU rfl zeU (zyR 1 rfl ?_)))))
        refine zyS (s:=130) rfl h (fun h => ?_) (fun h => ?_)
        ·
         refine zyR 1 rfl ?_
         obtain ⟨c1,hq14,h⟩:=zbz h
         refine zfm rfl dc rfl rfl (zfd underlying9 hq14) (zaU rfl zbi (zyR 1 rfl (zyN ?_)))
         refine zyB rfl h (fun h => ?_) (fun h => ?_)
         ·
          refine zaq (zaF (zaB (zap (zyR 1 rfl ?_))))
          obtain ⟨hg14,h⟩:=zb7 h
          refine zb4 rfl dc rfl rfl rfl (za3 (i:=1) (j:=(digits4.size:Int)) underlying9 (.inr rfl) (.inl ⟨rfl,rfl⟩) hg14) (zyR 1 rfl (zaC (zad ?_)))
          subst hag6
          exact zbs (n15,zco digits4 1 (digits4.size:Int)) h (Nat.lt_succ_self _) rfl (za7 rfl) (zaa [0,1,2] kr rfl)
         refine zbA (zao (zao (zaH ?_)))
         exact zai digits4 h rfl (za7 rfl) (zaa [0,1,2] kr rfl)
        refine zyR 4 rfl (zyN (zaY rfl (zbA (zao (zao (zaH ?_))))))
        exact zai digits4 h rfl (za7 rfl) (zaa [0,1,2] kr rfl)
      rintro digits1 h
      rw [hj8] at h
      refine zap (zyR 2 rfl ?_)
      refine zb8 (v:=.agg #[zI 2,zI 0,.string digits1,.string ByteArray.empty,zI 0]) (ps:=[(0,.const (zI 2)),(2,.tmp 138)]) rfl dc rfl (fun _=>by kernel_rfl) ?_
      obtain ⟨r7,hq15,h⟩:=zbz h
      refine zb6 (vs:=[.agg #[zI 2,zI 0,.string digits1,.string ByteArray.empty,zI 0]]) rfl dc rfl rfl rfl zvx (zdl (e1:=(⟨2,0,digits1,ByteArray.empty,0⟩:zab)) (bc0:=b3) (c0:=space3) (bc1:=b2) (c1:=out4) (c1_h0:=hd5) hq15) (zaa [2,0,1] kr rfl) ?_
      rintro hd13
      refine zcw (L':=[cells b2 [hd13.v] 62,zv2 hd13.v r7.2,cells b3 [.bool r7.1] 4]) (zaa [4,5,3] kr rfl) (zaC (zad ?_))
      exact zai (r7.2,r7.1,n10,hd13) h rfl (za7 rfl) (zaa [0,1,2] kr rfl)
     obtain ⟨j9,hj9,h⟩:=zbP h
     refine zaZ (β:=Bool) 0 rfl (fun b=>j9 b=some r) (fun b=>[]) (fun b=>[(0,zP bo1),(5,.string (zco r1 r2 (r1.size:Int))),(6,zP b2),(7,zP b3),(8,.func (.func 48) #[] #[zP b3,zP b2]),(9,v4),(10,zP b4),(11,zI 1),(37,zI (zbx q1.Broken q1.Rune)),(141,.bool b)]) (fun b=>[cells b2 [hd5.v] 62,zv2 hd5.v out4,cells b3 [.bool space3] 4,cells b4 (zr0 q1) 95]) (fun cut => ?_) ?_
     ·
      refine cut (zyG (zaU rfl zbi (zyR 1 rfl (zyN ?_))))
      refine zyB rfl h (fun h => ?_) (fun h => ?_)
      ·
       refine zaq ?_
       exact zai (((zbx q1.Broken q1.Rune):Int)==5) h rfl (za7 rfl) (zaa [0,1,2,3] kr rfl)
      refine zyG (zaU rfl zbi (zyR 1 rfl (zyN ?_)))
      refine zyB rfl h (fun h => ?_) (fun h => ?_)
      ·
       refine zaq ?_
       exact zai (((zbx q1.Broken q1.Rune):Int)==4) h rfl (za7 rfl) (zaa [0,1,2,3] kr rfl)
      refine zap (zaU rfl zbi (zyR 1 rfl (zaC ?_)))
      exact zai (((zbx q1.Broken q1.Rune):Int)==6) h rfl (za7 rfl) (zaa [0,1,2,3] kr rfl)
     rintro x7 h
     rw [hj9] at h
     refine zyB rfl h (fun h => ?_) (fun h => ?_)
     ·
      refine zap ?_
      refine zaQ (k:=2) (l':=[.bool true]) zrq rfl rfl rfl rfl rfl (fun _ _=>rfl) rfl ?_
      refine zaC (zad ?_)
      exact zai (out4,true,1,hd5) h rfl (za7 rfl) (zaa [0,1,2] kr rfl)
     refine zyG (zaU rfl zbi (zyR 1 rfl (zyN ?_)))
     refine zyB rfl h (fun h => ?_) (fun h => ?_)
     ·
      refine zap (zyR 2 rfl (zag zdK rfl dc rfl (show _=0 from rfl) (zan (k:=3) zdV rfl dc rfl rfl rfl ?_)))
      obtain ⟨c2,hq16,h⟩:=zbz h
      refine zfm rfl dc rfl rfl (zfd underlying9 hq16) ?_
      obtain ⟨hg15,h⟩:=zb7 h
      refine zdd rfl dc rfl (zpR (r:=c2) underlying5 underlying3 (IntWalk.i64_in _ hg15)) ?_
      refine zb8 (v:=.agg #[zI 4,zI c2,.string ByteArray.empty,.string ByteArray.empty,zI 0]) (ps:=[(0,.const (zI 4)),(1,.tmp 152)]) rfl dc rfl (fun _=>by kernel_rfl) ?_
      obtain ⟨r8,hq17,h⟩:=zbz h
      refine zb6 (vs:=[.agg #[zI 4,zI c2,.string ByteArray.empty,.string ByteArray.empty,zI 0]]) rfl dc rfl rfl rfl zvx (zdl (e1:=(⟨4,c2,ByteArray.empty,ByteArray.empty,0⟩:zab)) (bc0:=b3) (c0:=space3) (bc1:=b2) (c1:=out4) (c1_h0:=hd5) hq17) (zaa [2,0,1] kr rfl) ?_
      rintro hd14
      refine zcw (L':=[cells b2 [hd14.v] 62,zv2 hd14.v r8.2,cells b3 [.bool r8.1] 4,cells b4 (zr0 q1) 95]) (zaa [5,6,4,3] kr rfl) (zaC (zad ?_))
      exact zai (r8.2,r8.1,1,hd14) h rfl (za7 rfl) (zaa [0,1,2] kr rfl)
     refine zaq (zad ?_)
     exact zai (out4,space3,1,hd5) h rfl (za7 rfl) (zaa [0,1,2] kr rfl)
    rintro ⟨out5,space4,n2,hd6⟩ h
    rw [hj2] at h
    refine zap (zyR 2 rfl ?_)
    obtain ⟨hg16,h⟩:=zb7 h
    obtain ⟨v6,hv2,hs2⟩:=ziL (lo:=some (zI n2)) (hi:=none) hw4 underlying103 zfN (.inr rfl) (.inl ⟨rfl,rfl⟩) hg16
    refine zb4 rfl dc rfl rfl rfl hs2 (zyR 1 rfl (zaC (zad ?_)))
    subst hag1
    exact zbs (n1,out5,space4,zhi l3 n2 (l3.length:Int),hd6,v6,at3+(n2:Int).toNat) ⟨h,hv2⟩ (Nat.lt_succ_self _) rfl (za7 rfl) (zaa [0,1,2] kr rfl)
   refine zbA (zao (zao (zaH (zsV hxf1 ?_))))
   exact zai (out4,b2,hd5) h rfl (za7 rfl) (zaa [0,1] kr rfl)
 rintro ⟨out1,b1,hd1⟩ h
 rw [hj1] at h
 refine zyG (zan (k:=0) zqi rfl dc rfl rfl rfl (zyR 1 rfl (zyN (zaD ?_))))
 cases h
 exact zch (rs:=[.tmp 4]) hd1.v (.inl rfl) results25 (.cons (.tmp rfl) .nil) rfl (zaa [1] kr rfl)
abbrev Tk:=Int×zBA
def tkT (t:Tok):Tk:=(if t.broken then -1 else (t.r:Int),⟨t.bs.toArray⟩)
def kT (x:Tk):Int:=if x.1<0 then 11 else kind x.1
def zeb (x:Tk):Bool:=zaN x.1
def zhv (x:Tk):Bool:=mrk x.1
def zhc (x:Tk):Bool:=decide (48≤x.1∧x.1≤57)
def zjy (x:Tk):Bool:=zeb x||zhv x
def zhl (l:List Tk):zBA:=J (·.2) l
abbrev El:=zab
structure zhN where
 p:zBA→Option Int
 f:zBA→Option (List zBA)
 s:zBA→Bool
def zkG (l:List Tk):List Tk:=(l.dropWhile fun x=>!zeb x).dropWhile zjy
def zgH (l:List Tk):List Tk:=(l.dropWhile fun x=>!zeb x).takeWhile zjy
def zhs (o:zhN) (l:List Tk):Nat :=
 if (zkG l).any (fun x=>zeb x||zhc x)&&o.s (zfu (zhl (zgH l))) then (l.takeWhile fun x=>!zeb x).length+(zgH l).length else 0
def zpn (o:zhN) (a:zBA×Nat×Option (Nat×List zBA)) (x:Tk):zBA×Nat×Option (Nat×List zBA) :=
 let f:=a.1++Utf8.encode (zaV x.1)
 (f,a.2.1+1,if (o.p f).isSome then some (a.2.1+1,[f]) else match o.f f with | some xs=>some (a.2.1+1,xs) | none=>a.2.2)
def zkk (l:List Tk):List Tk:=(l.take 8).takeWhile fun x=>!decide (x.1<0)
def zkl (o:zhN) (l:List Tk):Option (Nat×List zBA):=((zkk l).foldl (zpn o) (ByteArray.empty,0,none)).2.2
def zhr (r:Int):List zBA:=(zcq (zfu (Utf8.encode (zaV r)))).map Utf8.encode
def zdj (o:zhN) (x:Tk) (l:List Tk):Nat×List zBA:=(zkl o (x::l)).getD (1,zhr x.1)
def elU (o:zhN) (g:Int) (u:zBA):El:=⟨3,(o.p u).getD 0,ByteArray.empty,ByteArray.empty,g⟩
def zox (m:zBA):List El→List El
 | []=>[]
 | [e]=>[⟨e.sort,e.place,e.digits,m,e.great⟩]
 | e::e'::es=>e::zox m (e'::es)
def zi1 (l:List Tk):Int:=if l.any (fun x=>great x.1) then 1 else 0
def zgh (l:List Tk):zBA:=J (fun x=>Utf8.encode x.1) l
def zrr:List UInt8→List UInt8:=List.dropWhile (· == 48)
def zws (l:List Tk):zBA:=⟨(zrr (zhl l).data.toList).toArray⟩
def zfp (o:zhN) (x:Tk) (l:List Tk):Nat×Option (List El) :=
 if kT x=1 then
  let m:=zdj o x l
  let ms:=((x::l).drop m.1).takeWhile zhv
  (m.1+ms.length,some (zox (zgh ms) (m.2.map (elU o (zi1 ((x::l).take m.1))))))
 else if kT x=3 then (1+(l.takeWhile zhc).length,some [⟨2,0,zws (x::l.takeWhile zhc),ByteArray.empty,0⟩])
 else if kT x=5∨kT x=4∨kT x=6 then (1,none)
 else if kT x=11 then (1,some [⟨4,zge x.2,ByteArray.empty,ByteArray.empty,0⟩])
 else (1,some [])
def zeF (o:zhN):Nat→List Tk→List (Option (List El))
 | 0,_=>[]
 | _+1,[]=>[]
 | n+1,x::l=>(zfp o x l).2::zeF o n ((x::l).drop (zfp o x l).1)
def zwt:El:=⟨1,0,ByteArray.empty,ByteArray.empty,0⟩
def asm:List (Option (List El))→List El→Bool→List El
 | [],out,_=>out
 | none::cs,out,_=>asm cs out true
 | some []::cs,out,sp=>asm cs out sp
 | some (e::es)::cs,out,sp=>asm cs (out++(if sp&&!out.isEmpty then [zwt] else [])++e::es) false
def zic (o:zhN) (l:List Tk):List El:=asm (zeF o l.length (l.drop (zhs o l))) [] false
def zig (t:zBA):List Tok:=zdU (zcc t).data.toList
def zh5 (t:zBA):List Tk:=(zig t).map tkT
def zem (o:zac):zhN:=⟨fun u=>zby u o.place,fun u=>zby u o.fors,fun f=>(zby f o.skips).getD false⟩
def pT (i:Nat) (t:Tok):zal:=⟨(i:Int),(t.bs.length:Int),(t.r:Int),t.broken⟩
def pL:Nat→List Tok→List zal
 | _,[]=>[]
 | i,t::ts=>pT i t::pL (i+t.bs.length) ts
theorem zpv:∀ (ts:List Tok) (i:Nat),(place i ts).map pcG=pL i ts
 | [],_=>rfl
 | t::ts,i=>by
  show pcG ⟨i,t.bs.length,t.r⟩::(place (i+t.bs.length) ts).map pcG=_
  rw [zpv ts]; rfl
theorem zkT (l:List UInt8):(pcs l).map pcG=pL 0 (zdU l):=by
 show (zd0 0 l).map pcG=_
 rw [zny,zpv]
theorem zgD:∀ (ts:List Tok) (i:Nat),(pL i ts).length=ts.length
 | [],_=>rfl
 | t::ts,i=>by rw [pL,List.length_cons,List.length_cons,zgD ts]
theorem ztY (ts:List Tok) (n:Nat):(zbZ (ts.take n)).length+(zbZ (ts.drop n)).length=(zbZ ts).length:=by
 rw [← List.length_append,← zbv,List.take_append_drop]
theorem zrK:∀ (n:Nat) (ts:List Tok) (i:Nat),(pL i ts).drop n=pL (i+(zbZ (ts.take n)).length) (ts.drop n)
 | 0,ts,i=>by simp [zbZ]
 | n+1,[],i=>by simp [pL,zbZ]
 | n+1,t::ts,i=>by
  rw [pL,List.drop_succ_cons,zrK n ts,List.take_succ_cons,zcn,List.length_append,List.drop_succ_cons,Nat.add_assoc]
theorem ziR:∀ (ts:List Tok) (i k:Nat) (t:Tok),ts[k]?=some t→(pL i ts)[k]?=some (pT (i+(zbZ (ts.take k)).length) t)
 | [],_,_,_,h=>by simp at h
 | t'::ts,i,0,t,h=>by simp at h; subst h; simp [pL,zbZ]
 | t'::ts,i,k+1,t,h=>by
  rw [pL,List.getElem?_cons_succ,ziR ts _ k t (by simpa using h),List.take_succ_cons,zcn,List.length_append,Nat.add_assoc]
theorem zeO {t:Tok} (h:zey t):I32 (t.r:Int):=by
 rcases h with h | h
 ·obtain ⟨h,_⟩:=h
  exact ⟨by omega,by omega⟩
 ·unfold Tok.broken at h
  simp at h
  exact ⟨by omega,by omega⟩
theorem zj3 (t:Tok):zbx t.broken (t.r:Int)=kT (tkT t):=by
 have h1:∀ r:Int,kT (r,(⟨t.bs.toArray⟩:zBA))=if r<0 then 11 else kind r:=fun r=>rfl
 unfold tkT
 cases hb:t.broken with
 | true=>rw [if_pos rfl,h1,if_pos (by omega)]; rfl
 | false =>
  rw [if_neg (by simp),h1]
  have h2:¬ ((t.r:Int)<0):=by omega
  have h3:zbx false (t.r:Int)=kind (t.r:Int):=if_neg (by simp)
  rw [if_neg h2,h3]
theorem zgG (x:Tk):((kT x:Int)==1)=zeb x:=by
 unfold kT zeb
 split
 ·rename_i h
  have:zaN x.1=false:=by
   cases hL:zaN x.1 with
   | false=>rfl
   | true=>have:=zce _ hL; omega
  rw [this]; rfl
 ·exact zxc x.1
theorem zkX (x:Tk):((kT x:Int)==2)=zhv x:=by
 unfold kT zhv
 split
 ·have:mrk x.1=false:=by unfold mrk; exact decide_eq_false (by omega)
  rw [this]; rfl
 ·exact zxb x.1
theorem zym (r:Int):((kind r:Int)==3)=decide (48≤r∧r≤57):=by
 by_cases h:48≤r∧r≤57
 ·have hl:zaN r=false:=by
   cases hL:zaN r with
   | false=>rfl
   | true =>
    unfold zaN great ziK at hL
    simp only [Bool.or_eq_true,decide_eq_true_eq] at hL
    unfold zj5 zjY at hL
    omega
  have:kind r=3:=by
   unfold kind znM
   rw [if_neg (by omega),hl]
   simp only [Bool.false_eq_true,if_false]
   rw [if_neg (by omega),if_pos h]
  rw [this,decide_eq_true h]; rfl
 ·rw [decide_eq_false h]
  have:kind r≠3:=by
   unfold kind znM
   intro hh
   repeat' split at hh
   all_goals first | omega | cases hh
  exact beq_eq_false_iff_ne.2 this
theorem zgj (x:Tk):((kT x:Int)==3)=zhc x:=by
 unfold kT zhc
 split
 ·have:decide (48≤x.1∧x.1≤57)=false:=decide_eq_false (by omega)
  rw [this]; rfl
 ·exact zym x.1
theorem zva (o:zac) (s:zBA) (ek:Int→Int→Int→Option Int) (x:zal) (ag:Int→Int→Bool→Option Int) (f t:Int) (op:Bool) (h32:I32 x.Rune) :
  zbe o s ek x ag f t op=zat (decide ((f:Int)<0)) (zat (((zbx x.Broken x.Rune):Int)==1) (grd (I64 (x.At+x.Width))<|ag x.At (x.At+x.Width) op) (ag f t op))
   (zat (op&&((((zbx x.Broken x.Rune):Int)==1)||(((zbx x.Broken x.Rune):Int)==2))) (grd (I64 (x.At+x.Width))<|ag f (x.At+x.Width) op)
    (zat ((((zbx x.Broken x.Rune):Int)==1)||(((zbx x.Broken x.Rune):Int)==3)) (grd (0≤(f:Int)∧(f:Int)≤t∧(t:Int)≤(s.size:Int))<|zak (zcF (zco s f t)) fun (r2:zBA)=>zat (((zby r2 o.skips).getD false)) (ek t f t) (ek 0 f t)) (ag f t false))):=by
 unfold zbe
 rw [zr9 h32]
 generalize (((zbx x.Broken x.Rune):Int)==1)=b1
 generalize (((zbx x.Broken x.Rune):Int)==2)=b2
 generalize (((zbx x.Broken x.Rune):Int)==3)=b3
 generalize decide ((f:Int)<0)=b0
 cases b0 <;> cases b1 <;> cases b2 <;> cases b3 <;> cases op <;> rfl
theorem zjR (a b:zBA):(a++b).data.toList=a.data.toList++b.data.toList:=by simp
theorem zie {a b:zBA} (h:a.data.toList=b.data.toList):a=b:=ByteArray.ext (Array.toList_inj.1 h)
theorem zjh:∀ ts:List Tok,(zhl (ts.map tkT)).data.toList=zbZ ts
 | []=>rfl
 | t::ts=>by
  rw [List.map_cons,zcn,← zjh ts]
  show (J (·.2) (tkT t::ts.map tkT)).data.toList=_
  rw [zdm,zjR]; rfl
theorem ziu (s:zBA) (a b:Nat):(zco s (a:Int) (b:Int)).data.toList=(s.data.toList.drop a).take (b - a):=by
 unfold zco
 simp [ByteArray.data_extract]
theorem zo3 {s:zBA} {A W Z:List Tok} (h:s.data.toList=zbZ (A++(W++Z))) {a b:Nat} (ha:a=(zbZ A).length) (hb:b=a+(zbZ W).length):zco s (a:Int) (b:Int)=zhl (W.map tkT):=by
 apply zie
 rw [ziu,zjh,h,zbv,zbv,ha,List.drop_left,hb,ha,Nat.add_sub_cancel_left,List.take_left]
theorem zcE (s:zBA):s.size=s.data.toList.length:=by rw [Array.length_toList]; rfl
theorem zk9 (s:zBA) (a b:Int):(zco s a b).size≤s.size:=by
 unfold zco
 rw [ByteArray.size_extract]
 omega
theorem zrp {α:Type} (p:α→Bool):∀ l:List α,l.take (l.takeWhile p).length=l.takeWhile p
 | []=>rfl
 | x::l=>by
  rw [List.takeWhile_cons]
  cases p x with
  | true=>simp only [if_true,List.length_cons,List.take_succ_cons]; rw [zrp p l]
  | false=>rfl
section
variable {o:zac} {s:zBA} {ek:Int→Int→Int→Option Int} {dn:Int→Int→Bool→Option Int} {Z:Option Int}
abbrev zpD (x:Tk):Bool:=zeb x||zhc x
def zxy (o:zac) (s:zBA) (a b:Nat):Int:=if (zem o).s (zfu (zco s (a:Int) (b:Int))) then (b:Int) else 0
theorem ph3 (hz:∀ a b c,dn a b c=some 0) (he:∀ v a b,ek v a b=some v) (hs:s.size≤65536) {a b:Nat} (hab:a≤b) (hbs:b≤s.size):∀ (ts:List Tok) (i:Nat),(∀ t∈ts,zey t) →
  zcH dn (zbe o s ek) (pL i ts) (a:Int) (b:Int) false=if (ts.map tkT).any zpD then some (zxy o s a b) else some 0
 | [],i,_=>hz _ _ _
 | t::ts,i,hok=>by
  have ih:=ph3 hz he hs hab hbs ts (i+t.bs.length) (fun x hx=>hok x (List.mem_cons_of_mem _ hx))
  rw [pL,zcr,zva o s ek (pT i t) _ _ _ _ (zeO (hok t (List.mem_cons_self ..)))]
  show zat (decide ((a:Int)<0)) _ _=_
  have hk:zbx (pT i t).Broken (pT i t).Rune=kT (tkT t):=zj3 t
  rw [hk,zgG,zkX,zgj,List.map_cons,List.any_cons]
  refine zaG (decide_eq_false (by omega)) (zaG (by simp) ?_)
  cases hb:(zeb (tkT t)||zhc (tkT t)) with
  | false =>
   refine zaG rfl (ih.trans ?_)
   show _=if (zpD (tkT t)||_) then _ else _
   rw [show zpD (tkT t)=false from hb,Bool.false_or]
  | true =>
   refine zaL rfl (zcm (by omega) ?_)
   have:(zpD (tkT t)||(ts.map tkT).any zpD)=true:=by rw [show zpD (tkT t)=true from hb]; rfl
   rw [this,if_pos rfl]
   refine zaS (zpH _ (by have:=zk9 s (a:Int) (b:Int); omega)) ?_
   unfold zxy
   show zat ((zem o).s (zfu (zco s (a:Int) (b:Int)))) _ _=_
   cases hq:(zem o).s (zfu (zco s (a:Int) (b:Int))) with
   | true=>exact zaL rfl (by rw [he,if_pos rfl])
   | false=>exact zaG rfl (by rw [he]; rfl)
theorem ph2 (hz:∀ a b c,dn a b c=some 0) (he:∀ v a b,ek v a b=some v) (hs:s.size≤65536) {a:Nat}:∀ (ts:List Tok) (i:Nat),(∀ t∈ts,zey t)→a≤i→i+(zbZ ts).length=s.size →
  zcH dn (zbe o s ek) (pL i ts) (a:Int) (i:Int) true =
   if ((ts.map tkT).dropWhile zjy).any zpD then some (zxy o s a (i+(zbZ (ts.takeWhile fun t=>zjy (tkT t))).length)) else some 0
 | [],i,_,_,_=>hz _ _ _
 | t::ts,i,hok,hai,hsz=>by
  have hok':∀ x∈ts,zey x:=fun x hx=>hok x (List.mem_cons_of_mem _ hx)
  rw [zcn,List.length_append] at hsz
  have ih:=ph2 hz he hs (a:=a) ts (i+t.bs.length) hok' (by omega) (by omega)
  rw [pL,zcr,zva o s ek (pT i t) _ _ _ _ (zeO (hok t (List.mem_cons_self ..)))]
  show zat (decide ((a:Int)<0)) _ _=_
  have hk:zbx (pT i t).Broken (pT i t).Rune=kT (tkT t):=zj3 t
  rw [hk,zgG,zkX,zgj,List.map_cons,List.takeWhile_cons,List.dropWhile_cons]
  refine zaG (decide_eq_false (by omega)) ?_
  cases hb:zjy (tkT t) with
  | true =>
   refine zaL (by rw [show (zeb (tkT t)||zhv (tkT t))=true from hb]; rfl) (zcm ⟨?_,?_⟩ ?_)
   ·show (-9223372036854775808:Int)≤(i:Int)+(t.bs.length:Int); omega
   ·show (i:Int)+(t.bs.length:Int)≤(9223372036854775807:Int); omega
   ·simp only [if_true]
    rw [zcn,List.length_append,← Nat.add_assoc]
    have e:(pT i t).At+(pT i t).Width=((i+t.bs.length:Nat):Int):=by show (i:Int)+(t.bs.length:Int)=_; push_cast; rfl
    rw [e]
    exact ih
  | false =>
   refine zaG (by rw [show (zeb (tkT t)||zhv (tkT t))=false from hb]; rfl) ?_
   simp only [Bool.false_eq_true,if_false]
   rw [show zbZ []=([]:List UInt8) from rfl,List.length_nil,Nat.add_zero,List.any_cons]
   have hl:zeb (tkT t)=false:=by
    have:(zeb (tkT t)||zhv (tkT t))=false:=hb
    revert this; cases zeb (tkT t) <;> simp
   cases hd:zhc (tkT t) with
   | true =>
    refine zaL (by rw [hl]; rfl) (zcm (by omega) ?_)
    have:(zpD (tkT t)||(ts.map tkT).any zpD)=true:=by rw [show zpD (tkT t)=true by unfold zpD; rw [hd,Bool.or_true]]; rfl
    rw [this,if_pos rfl]
    refine zaS (zpH _ (by have:=zk9 s (a:Int) (i:Int); omega)) ?_
    unfold zxy
    show zat ((zem o).s (zfu (zco s (a:Int) (i:Int)))) _ _=_
    cases hq:(zem o).s (zfu (zco s (a:Int) (i:Int))) with
    | true=>exact zaL rfl (by rw [he,if_pos rfl])
    | false=>exact zaG rfl (by rw [he]; rfl)
   | false =>
    refine zaG (by rw [hl]; rfl) ?_
    rw [show zpD (tkT t)=false by unfold zpD; rw [hd,hl]; rfl,Bool.false_or]
    exact ph3 hz he hs hai (by omega) ts _ hok'
def zsC (o:zhN) (l:List Tk):Bool:=(zkG l).any (fun x=>zeb x||zhc x)&&o.s (zfu (zhl (zgH l)))
def zxN (l:List Tk):Nat:=(l.takeWhile fun x=>!zeb x).length+(zgH l).length
theorem ztC (o:zhN) (l:List Tk):zhs o l=if zsC o l then zxN l else 0:=rfl
theorem ph1 (hz:∀ a b c,dn a b c=some 0) (he:∀ v a b,ek v a b=some v) (hs:s.size≤65536):∀ (ts A:List Tok),(∀ t∈ts,zey t)→s.data.toList=zbZ (A++ts) →
  zcH dn (zbe o s ek) (pL (zbZ A).length ts) (-1) 0 true=some (if zsC (zem o) (ts.map tkT) then (((zbZ A).length+(zbZ (ts.take (zxN (ts.map tkT)))).length:Nat):Int) else 0)
 | [],A,_,_=>by
  rw [pL,zjt,hz]; rfl
 | t::ts,A,hok,hsz=>by
  have hok':∀ x∈ts,zey x:=fun x hx=>hok x (List.mem_cons_of_mem _ hx)
  have hlen:(zbZ A).length+(t.bs.length+(zbZ ts).length)=s.size:=by rw [zcE,hsz,zbv,zcn,List.length_append,List.length_append]
  rw [pL,zcr,zva o s ek (pT _ t) _ _ _ _ (zeO (hok t (List.mem_cons_self ..)))]
  have hk:∀ i,zbx (pT i t).Broken (pT i t).Rune=kT (tkT t):=fun _=>zj3 t
  rw [hk,zgG,zkX,zgj]
  refine zaL (by decide) ?_
  cases hl:zeb (tkT t) with
  | true =>
   refine zaL rfl (zcm ⟨?_,?_⟩ ?_)
   ·show (-9223372036854775808:Int)≤((zbZ A).length:Int)+(t.bs.length:Int); omega
   ·show ((zbZ A).length:Int)+(t.bs.length:Int)≤(9223372036854775807:Int); omega
   ·have e:(pT (zbZ A).length t).At+(pT (zbZ A).length t).Width=(((zbZ A).length+t.bs.length:Nat):Int):=by show ((zbZ A).length:Int)+(t.bs.length:Int)=_; push_cast; rfl
    rw [e]
    refine (ph2 (o:=o) (ek:=ek) hz he hs (a:=(zbZ A).length) ts ((zbZ A).length+t.bs.length) hok' (by omega) (by omega)).trans ?_
    have hd:((t::ts).map tkT).dropWhile (fun x=>!zeb x)=tkT t::ts.map tkT:=by rw [List.map_cons,List.dropWhile_cons,hl]; rfl
    have ht:((t::ts).map tkT).takeWhile (fun x=>!zeb x)=[]:=by rw [List.map_cons,List.takeWhile_cons,hl]; rfl
    have hm:zjy (tkT t)=true:=by unfold zjy; rw [hl]; rfl
    have e1:zkG ((t::ts).map tkT)=(ts.map tkT).dropWhile zjy:=by unfold zkG; rw [hd,List.dropWhile_cons,hm]; rfl
    have e2:zgH ((t::ts).map tkT)=((t::ts).takeWhile fun t=>zjy (tkT t)).map tkT:=by
     unfold zgH; rw [hd,← List.map_cons,List.takeWhile_map]; rfl
    have e3:(t::ts).takeWhile (fun t=>zjy (tkT t))=t::ts.takeWhile fun t=>zjy (tkT t):=by rw [List.takeWhile_cons,hm]; rfl
    unfold zsC zxN
    rw [e1,e2,ht]
    have hB:∀ W:List Tok,W=ts.takeWhile (fun t=>zjy (tkT t))→zco s (((zbZ A).length:Nat):Int) ((((zbZ A).length+t.bs.length)+(zbZ W).length:Nat):Int)=zhl (((t::ts).takeWhile fun t=>zjy (tkT t)).map tkT):=by
     intro W hW
     rw [e3,← hW]
     refine zo3 (A:=A) (W:=t::W) (Z:=ts.dropWhile fun t=>zjy (tkT t)) ?_ rfl (by rw [zcn,List.length_append]; omega)
     rw [hsz,List.cons_append,hW,List.takeWhile_append_dropWhile]
    cases hany:((ts.map tkT).dropWhile zjy).any zpD with
    | false=>rfl
    | true =>
     rw [if_pos rfl,Bool.true_and]
     unfold zxy
     rw [hB _ rfl]
     cases hq:(zem o).s (zfu (zhl (((t::ts).takeWhile fun t=>zjy (tkT t)).map tkT))) with
     | false=>rfl
     | true =>
      rw [if_pos rfl,if_pos rfl,List.length_nil,Nat.zero_add,List.length_map]
      rw [e3,List.length_cons,List.take_succ_cons,zcn,List.length_append,zrp,Nat.add_assoc]
  | false =>
   refine zaG rfl ?_
   have e:(zbZ A).length+t.bs.length=(zbZ (A++[t])).length:=by rw [zbv,List.length_append]; simp [zbZ]
   rw [e]
   refine (ph1 hz he hs ts (A++[t]) hok' (by rw [hsz,List.append_assoc]; rfl)).trans ?_
   have e1:zkG ((t::ts).map tkT)=zkG (ts.map tkT):=by unfold zkG; rw [List.map_cons,List.dropWhile_cons,hl]; rfl
   have e2:zgH ((t::ts).map tkT)=zgH (ts.map tkT):=by unfold zgH; rw [List.map_cons,List.dropWhile_cons,hl]; rfl
   have e3:(((t::ts).map tkT).takeWhile fun x=>!zeb x).length=((ts.map tkT).takeWhile fun x=>!zeb x).length+1:=by rw [List.map_cons,List.takeWhile_cons,hl]; rfl
   unfold zsC zxN
   rw [e1,e2,e3,show ((ts.map tkT).takeWhile fun x=>!zeb x).length+1+(zgH (ts.map tkT)).length=(((ts.map tkT).takeWhile fun x=>!zeb x).length+(zgH (ts.map tkT)).length)+1 by omega,List.take_succ_cons,zcn,List.length_append,← e,Nat.add_assoc]
end
theorem ztA (o:zac) (s:zBA) (hs:s.size≤65536):zcX o s=some ((zbZ ((zdU s.data.toList).take (zhs (zem o) ((zdU s.data.toList).map tkT)))).length:Int):=by
 unfold zcX
 refine zcf (zaS (a:=s) rfl (zaS (zkQ s (by omega)) (zcf (zcf ?_))))
 rw [zkT]
 refine (ph1 (o:=o) (s:=s) (fun _ _ _=>rfl) (fun _ _ _=>rfl) hs (zdU s.data.toList) [] (zef _) (by rw [List.nil_append,zfZ])).trans ?_
 rw [ztC]
 cases zsC (zem o) ((zdU s.data.toList).map tkT) with
 | true=>simp [zbZ]
 | false=>simp [zbZ]
theorem zzr:∀ n:Fin 256,zxQ .u8 ((n.val:Nat):Int) 63=((n.val % 64:Nat):Int):=by decide +kernel
theorem zyf:∀ n:Fin 64,orI .u8 ((n.val:Nat):Int) 128=((n.val+128:Nat):Int):=by decide +kernel
theorem zye:∀ n:Fin 32,orI .u8 192 ((n.val:Nat):Int)=((n.val+192:Nat):Int):=by decide +kernel
theorem zyd:∀ n:Fin 16,orI .u8 224 ((n.val:Nat):Int)=((n.val+224:Nat):Int):=by decide +kernel
theorem zyc:∀ n:Fin 8,orI .u8 240 ((n.val:Nat):Int)=((n.val+240:Nat):Int):=by decide +kernel
theorem znl (n:Nat):IntKind.u8.wrap (n:Int)=((n % 256:Nat):Int):=by
 simp [IntKind.wrap,IntKind.bits,IntKind.signed]
theorem zqd (n:Nat):zb9 (n:Int)=some ((n % 64+128:Nat):Int):=by
 unfold zb9
 rw [znl]
 have h1:=zzr ⟨n % 256,by omega⟩
 simp only at h1
 rw [h1]
 have h2:=zyf ⟨n % 256 % 64,by omega⟩
 simp only at h2
 rw [h2,show n % 256 % 64=n % 64 by omega]
theorem zx4 (n:Nat):zh6 .i32 (n:Int) 6=((n / 64:Nat):Int):=by
 show Int.fdiv (n:Int) 64=_
 rw [Int.fdiv_eq_ediv_of_nonneg _ (by decide)]; omega
theorem zwV (n:Nat):zh6 .i32 (n:Int) 12=((n / 4096:Nat):Int):=by
 show Int.fdiv (n:Int) 4096=_
 rw [Int.fdiv_eq_ediv_of_nonneg _ (by decide)]; omega
theorem zx5 (n:Nat):zh6 .i32 (n:Int) 18=((n / 262144:Nat):Int):=by
 show Int.fdiv (n:Int) 262144=_
 rw [Int.fdiv_eq_ediv_of_nonneg _ (by decide)]; omega
theorem zzy (n:Nat) (hv:n<55296∨(57343<n∧n≤1114111)):(zat (decide (((n:Int):Int)<128)) (grd (∀ x∈([IntKind.u8.wrap (n:Int)]:List Int),U8 x)<|some (zcU ([IntKind.u8.wrap (n:Int)]:List Int)))
  (zat (decide (((n:Int):Int)<2048)) (zak (zb9 (n:Int)) fun (r4:Int)=>grd (∀ x∈([orI .u8 192 (IntKind.u8.wrap (zh6 .i32 (n:Int) 6)),r4]:List Int),U8 x)<|some (zcU ([orI .u8 192 (IntKind.u8.wrap (zh6 .i32 (n:Int) 6)),r4]:List Int)))
  (zat (decide (((n:Int):Int)<65536)) (zak (zb9 (zh6 .i32 (n:Int) 6)) fun (r5:Int)=>zak (zb9 (n:Int)) fun (r6:Int)=>grd (∀ x∈([orI .u8 224 (IntKind.u8.wrap (zh6 .i32 (n:Int) 12)),r5,r6]:List Int),U8 x)<|some (zcU ([orI .u8 224 (IntKind.u8.wrap (zh6 .i32 (n:Int) 12)),r5,r6]:List Int)))
  (zak (zb9 (zh6 .i32 (n:Int) 12)) fun (r7:Int)=>zak (zb9 (zh6 .i32 (n:Int) 6)) fun (r8:Int)=>zak (zb9 (n:Int)) fun (r9:Int)=>grd (∀ x∈([orI .u8 240 (IntKind.u8.wrap (zh6 .i32 (n:Int) 18)),r7,r8,r9]:List Int),U8 x)<|some (zcU ([orI .u8 240 (IntKind.u8.wrap (zh6 .i32 (n:Int) 18)),r7,r8,r9]:List Int))))))=some (Utf8.encode (n:Int)):=by
 have hw:encodeRune (n:Int)=(encodeRuneZ (n:Int)).map fun x=>x.toNat.toUInt8:=rfl
 rcases zjJ n hv with ⟨h,e⟩ | ⟨h,h',e⟩ | ⟨h,h',e⟩ | ⟨h,h',e⟩
 ·refine zaL (decide_eq_true (by omega)) ?_
  rw [znl]
  refine zcm (by intro x hx; simp only [List.mem_singleton] at hx; subst hx; exact ⟨by omega,by omega⟩) (congrArg some (zhV ?_))
  rw [zcY,hw,e,show n % 256=n by omega]
 ·refine zaG (decide_eq_false (by omega)) (zaL (decide_eq_true (by omega)) (zaS (zqd n) ?_))
  have h1:=zye ⟨n / 64,by omega⟩
  simp only at h1
  rw [zx4,znl,show n / 64 % 256=n / 64 by omega,h1]
  refine zcm (by intro x hx; simp only [List.mem_cons,List.not_mem_nil,or_false] at hx; rcases hx with rfl | rfl <;> exact ⟨by omega,by omega⟩) (congrArg some (zhV ?_))
  rw [zcY,hw,e,show ((n / 64+192:Nat):Int)=192+(n:Int) / 64 by omega,show ((n % 64+128:Nat):Int)=128+(n:Int) % 64 by omega]
 ·refine zaG (decide_eq_false (by omega)) (zaG (decide_eq_false (by omega)) (zaL (decide_eq_true (by omega)) ?_))
  have h1:=zyd ⟨n / 4096,by omega⟩
  simp only at h1
  rw [zx4,zwV,znl,show n / 4096 % 256=n / 4096 by omega,h1]
  refine zaS (zqd _) (zaS (zqd _) ?_)
  refine zcm (by intro x hx; simp only [List.mem_cons,List.not_mem_nil,or_false] at hx; rcases hx with rfl | rfl | rfl <;> exact ⟨by omega,by omega⟩) (congrArg some (zhV ?_))
  rw [zcY,hw,e,show ((n / 4096+224:Nat):Int)=224+(n:Int) / 4096 by omega,show ((n / 64 % 64+128:Nat):Int)=128+(n:Int) / 64 % 64 by omega,show ((n % 64+128:Nat):Int)=128+(n:Int) % 64 by omega]
 ·refine zaG (decide_eq_false (by omega)) (zaG (decide_eq_false (by omega)) (zaG (decide_eq_false (by omega)) ?_))
  have h1:=zyc ⟨n / 262144,by omega⟩
  simp only at h1
  rw [zx4,zwV,zx5,znl,show n / 262144 % 256=n / 262144 by omega,h1]
  refine zaS (zqd _) (zaS (zqd _) (zaS (zqd _) ?_))
  refine zcm (by intro x hx; simp only [List.mem_cons,List.not_mem_nil,or_false] at hx; rcases hx with rfl | rfl | rfl | rfl <;> exact ⟨by omega,by omega⟩) (congrArg some (zhV ?_))
  rw [zcY,hw,e,show ((n / 262144+240:Nat):Int)=240+(n:Int) / 262144 by omega,show ((n / 4096 % 64+128:Nat):Int)=128+(n:Int) / 4096 % 64 by omega,show ((n / 64 % 64+128:Nat):Int)=128+(n:Int) / 64 % 64 by omega,show ((n % 64+128:Nat):Int)=128+(n:Int) % 64 by omega]
theorem zsp {r:Int} (h:¬ vr r):Utf8.encode r=Utf8.encode 65533:=by
 apply ByteArray.ext; apply Array.toList_inj.1
 rw [zcY,zcY]
 unfold encodeRune
 congr 1
 unfold vr at h
 unfold encodeRuneZ
 (repeat' split) <;> first | rfl | (exfalso; omega)
theorem zvw (r:Int):zeI r=some (Utf8.encode r):=by
 unfold zeI
 refine zcf ?_
 by_cases hv:vr r
 ·refine zaS (zrB r hv) ?_
  have hpos:0<(Utf8.encode r).size:=by rw [zf1]; exact (zfy r).1
  refine zaG (by rw [beq_eq_false_iff_ne]; omega) ?_
  obtain ⟨n,rfl⟩:∃ n:Nat,r=n:=⟨r.toNat,by unfold vr at hv; omega⟩
  exact zzy n (by unfold vr at hv; omega)
 ·have hne:r≠65533:=by intro e; subst e; exact hv (by unfold vr; omega)
  have hl:Utf8.encode r=(⟨#[239,191,189]⟩:zBA):=by rw [zsp hv]; decide
  refine zaS (a:=0) ?_ (zaL rfl ?_)
  ·unfold zdZ
   exact zcf (zaL (bne_iff_ne.2 hne) (zaL (decide_eq_true hl) rfl))
  ·rw [zsp hv]; exact zzy 65533 (by omega)
theorem zqM (r:Int):zeo r=some (zfu (Utf8.encode r)):=zaS (zvw r) (zaS (zpH _ (by have:=zc5 r; omega)) rfl)
section
variable {R X A:Type} {xs:List X}
theorem zw7 {F:(A→Nat→Option R)→A→Nat→Option R} {bot:A→Nat→Option R} {f:A→X→A} {J:A→Option R} (Inv:Nat→A→Prop)
  (hs:∀ ag k x a,xs[k]?=some x→Inv k a→F ag a k=ag (f a x) (k+1)) (hI:∀ k x a,xs[k]?=some x→Inv k a→Inv (k+1) (f a x))
  (he:∀ ag a,Inv xs.length a→F ag a xs.length=J a) {n:Nat} (hn:xs.length<n) {a:A} (h0:Inv 0 a):zaT bot F n a 0=J (xs.foldl f a):=by
 have key:∀ (n k:Nat) (a:A),k≤xs.length→xs.length - k<n→Inv k a→zaT bot F n a k=J ((xs.drop k).foldl f a):=by
  intro n
  induction n with
  | zero=>intro k a _ h; omega
  | succ n ih =>
   intro k a hk hn hi
   rw [zfI]
   by_cases h:k<xs.length
   ·have hx:xs[k]?=some xs[k]:=List.getElem?_eq_getElem h
    rw [hs _ k _ a hx hi,List.drop_eq_getElem_cons h,List.foldl_cons]
    exact ih (k+1) _ (by omega) (by omega) (hI k _ a hx hi)
   ·have:k=xs.length:=by omega
    subst this
    rw [he _ a hi,List.drop_length]; rfl
 have:=key n 0 a (Nat.zero_le _) (by omega) h0
 simpa using this
end
theorem zl3 {α β:Type} (g:α→β):∀ (xs:List α) (a:List β),xs.foldl (fun a x=>a++[g x]) a=a++xs.map g
 | [],a=>by simp
 | x::xs,a=>by rw [List.foldl_cons,zl3 g xs]; simp
theorem zoF:∀ (n:Nat) (ts:List Tok) (i:Nat),(pL i ts).take n=pL i (ts.take n)
 | 0,ts,i=>rfl
 | n+1,[],i=>rfl
 | n+1,t::ts,i=>by rw [pL,List.take_succ_cons,List.take_succ_cons,pL,zoF n ts]
theorem zn2 {α:Type} (l:List α) (n:Nat):zhi l 0 (n:Int)=l.take n:=by unfold zhi; simp
theorem ztp {α:Type} (l:List α) (n:Nat):l.take (min l.length n)=l.take n:=by
 rcases Nat.le_total l.length n with h | h
 ·rw [Nat.min_eq_left h,List.take_length,List.take_of_length_le h]
 ·rw [Nat.min_eq_right h]
def okB (x:Tk):Bool:=!decide (x.1<0)
theorem zvg (t:Tok):okB (tkT t)=!t.broken:=by
 unfold okB tkT
 cases t.broken with
 | true=>rfl
 | false =>
  have:¬ (((t.r:Int),(⟨t.bs.toArray⟩:zBA)).1<0):=by show ¬ ((t.r:Int)<0); omega
  rw [if_neg (by simp),decide_eq_false this]
def zxR (b:Int) (k:Nat) (p:List zBA):Option (Nat×List zBA)→Prop
 | none=>b=0∧k=0∧p=[]
 | some (m,xs)=>b=(m:Int)∧0<m∧p=xs
theorem zvi (o:zac) (l1:List zal) (j1:Int→Nat→List zBA→Option (Int×List zBA)) (i:Nat) (TT:List Tok) (h8:TT.length≤8) (hc:zhi l1 0 (min (l1.length:Int) 8)=pL i TT) (hok:∀ t∈TT,zey t) :
  ∀ (n:Nat) (B A:List Tok) (b:Int) (k:Nat) (p:List zBA) (f:zBA) (r:Option (Nat×List zBA)),TT=A++B→B.length<n→zxR b k p r→f.size≤4*A.length →
   ∃ b' k' p',zxR b' k' p' (((B.map tkT).takeWhile okB).foldl (zpn (zem o)) (f,A.length,r)).2.2∧zaT (fun _ _ _ _ _=>none) (zbM o l1 j1) n b f k p (A.length:Int)=j1 b' k' p':=by
 intro n
 induction n with
 | zero=>intro B A b k p f r _ h; omega
 | succ n ih =>
  intro B A b k p f r hT hn hr hf
  rw [zfI]
  generalize hag:zaT (fun _ _ _ _ _=>none) (zbM o l1 j1) n=ag
  unfold zbM
  rw [hc]
  have hlen:(pL i TT).length=A.length+B.length:=by rw [zgD,hT,List.length_append]
  cases B with
  | nil =>
   refine ⟨b,k,p,hr,zaG (decide_eq_false (by rw [hlen]; simp)) rfl⟩
  | cons t B =>
   have hget:TT[A.length]?=some t:=by rw [hT]; simp
   have hA:A.length<8:=by rw [hT,List.length_append,List.length_cons] at h8; omega
   have htok:=hok t (by rw [hT]; simp)
   have hT':TT=(A++[t])++B:=by rw [hT,List.append_assoc]; rfl
   have hl':(A++[t]).length=A.length+1:=by simp
   have hcast:(A.length:Int)+1=((A++[t]).length:Int):=by rw [hl']; push_cast; rfl
   rw [List.map_cons,List.takeWhile_cons,zvg]
   cases hb:t.broken with
   | true =>
    refine ⟨b,k,p,hr,zaL (decide_eq_true (by rw [hlen]; simp; omega)) (zcf (zaS (zdJ (ziR _ _ _ _ hget)) (zaL hb rfl)))⟩
   | false =>
    simp only [Bool.not_false,if_true,List.foldl_cons]
    have e4:=zc5 (zaV (t.r:Int))
    have hx:(tkT t).1=(t.r:Int):=by unfold tkT; rw [hb]; rfl
    have hst:zpn (zem o) (f,A.length,r) (tkT t)=(f++Utf8.encode (zaV (t.r:Int)),A.length+1,if (zby (f++Utf8.encode (zaV (t.r:Int))) o.place).isSome then some (A.length+1,[f++Utf8.encode (zaV (t.r:Int))]) else match zby (f++Utf8.encode (zaV (t.r:Int))) o.fors with | some xs=>some (A.length+1,xs) | none=>r):=by
     unfold zpn; rw [hx]; rfl
    rw [hst]
    have hf':(f++Utf8.encode (zaV (t.r:Int))).size≤4*(A++[t]).length:=by rw [ByteArray.size_append,hl']; omega
    have hn':B.length<n:=by rw [List.length_cons] at hn; omega
    have fin:∀ (b':Int) (k':Nat) (p':List zBA) (r':Option (Nat×List zBA)),zxR b' k' p' r'→∃ b'' k'' p'',zxR b'' k'' p'' (((B.map tkT).takeWhile okB).foldl (zpn (zem o)) (f++Utf8.encode (zaV (t.r:Int)),A.length+1,r')).2.2 ∧
      (grd (I64 ((A.length:Int)+1))<|ag b' (f++Utf8.encode (zaV (t.r:Int))) k' p' ((A.length:Int)+1))=j1 b'' k'' p'':=by
     intro b' k' p' r' hr'
     obtain ⟨b'',k'',p'',h1,h2⟩:=ih B (A++[t]) b' k' p' _ r' hT' hn' hr' hf'
     rw [hl'] at h1
     rw [← hcast,hag] at h2
     exact ⟨b'',k'',p'',h1,zcm ⟨by omega,by omega⟩ h2⟩
    have h64:I64 ((A.length:Int)+1):=⟨by omega,by omega⟩
    cases hp:(zby (f++Utf8.encode (zaV (t.r:Int))) o.place).isSome with
    | true =>
     obtain ⟨b'',k'',p'',h1,h2⟩:=fin ((A.length:Int)+1) 1 [f++Utf8.encode (zaV (t.r:Int))] (some (A.length+1,[f++Utf8.encode (zaV (t.r:Int))])) ⟨by push_cast; rfl,by omega,rfl⟩
     refine ⟨b'',k'',p'',h1,zaL (decide_eq_true (by rw [hlen]; simp; omega)) (zcf (zaS (zdJ (ziR _ _ _ _ hget)) (zaG hb (zcm (zeO htok) (zcm (by show f.size+(Utf8.encode (zaV (t.r:Int))).size≤_; omega) (zaL hp (zcm h64 h2)))))))⟩
    | false =>
     simp only [Bool.false_eq_true,if_false]
     cases hq:zby (f++Utf8.encode (zaV (t.r:Int))) o.fors with
     | some xs =>
      obtain ⟨b'',k'',p'',h1,h2⟩:=fin ((A.length:Int)+1) 2 xs (some (A.length+1,xs)) ⟨by push_cast; rfl,by omega,rfl⟩
      refine ⟨b'',k'',p'',h1,zaL (decide_eq_true (by rw [hlen]; simp; omega)) (zcf (zaS (zdJ (ziR _ _ _ _ hget)) (zaG hb (zcm (zeO htok) (zcm (by show f.size+(Utf8.encode (zaV (t.r:Int))).size≤_; omega) (zaG hp (zaL (by show (zby (f++Utf8.encode (zaV (t.r:Int))) o.fors).isSome=true; rw [hq]; rfl) (zcm h64 (zaS hq h2)))))))))⟩
     | none =>
      obtain ⟨b'',k'',p'',h1,h2⟩:=fin b k p r hr
      refine ⟨b'',k'',p'',h1,zaL (decide_eq_true (by rw [hlen]; simp; omega)) (zcf (zaS (zdJ (ziR _ _ _ _ hget)) (zaG hb (zcm (zeO htok) (zcm (by show f.size+(Utf8.encode (zaV (t.r:Int))).size≤_; omega) (zaG hp (zaG (by show (zby (f++Utf8.encode (zaV (t.r:Int))) o.fors).isSome=false; rw [hq]; rfl) h2)))))))⟩
theorem J_w (f:Itm×List Itm→zBA):∀ {l:List (Itm×List Itm)},(∀ c∈l,(f c).size≤4*(zl2 c).length)→(J f l).size≤4*(l.flatMap zl2).length
 | [],_=>Nat.zero_le _
 | c::l,h=>by
  have:=J_w f (l:=l) fun d hd=>h d (List.mem_cons_of_mem _ hd)
  have h1:=h c (List.mem_cons_self ..)
  rw [zdm,ByteArray.size_append,List.flatMap_cons,List.length_append]; omega
theorem zxA (s:zBA):((zj7 s).flatMap zl2).length≤3*s.size:=by
 have h1:=ztF (apL (zgk s))
 have h2:=zsQ (zgk s)
 have h3:=zdW s
 have h4:(zgk s).length=(pcs s.data.toList).length:=by unfold zgk; rw [List.length_map]
 show (zut (apL (zgk s))).length≤_
 omega
theorem zmC (c:Itm×List Itm):(zl2 c).length=1+c.2.length:=by
 unfold zl2; rw [List.length_cons,ziW]; omega
theorem zfY (s:zBA) (hs:s.size≤65536):(zfu s).size≤12*s.size∧(zcc s).size≤12*s.size∧(zxG s).size≤12*s.size∧(ztm s).size≤12*s.size:=by
 obtain ⟨hl,hc⟩:=zix hs
 have hw:=zxA s
 refine ⟨?_,?_,?_,?_⟩
 ·have:=J_w zg0 (l:=zj7 s) (fun c hcm=>by have:=zqO (hc c hcm).1; have:=zmC c; show (znT c.1).Text.size≤_; omega)
  unfold zfu; omega
 ·have:=J_w zgP (l:=zj7 s) (fun c hcm=>by
   obtain ⟨h1,h2,_,h4⟩:=hc c hcm
   have:=zs7 (fun x:Itm=>x.Text) 4 (l:=zl2 c) (fun x hx=>by
    unfold zl2 at hx
    rcases List.mem_cons.1 hx with rfl | hx
    ·exact ziT h1
    ·have hx':x∈c.2:=by
      unfold loI hiI at hx
      rw [List.mem_append,List.mem_filter,List.mem_filter] at hx
      rcases hx with hx | hx <;> exact hx.1
     exact ziT (h2 x hx').2)
   unfold zgP; omega)
  unfold zcc; omega
 ·have:=J_w (fun c:Itm×List Itm=>c.1.Text) (l:=zj7 s) (fun c hcm=>by have:=ziT (hc c hcm).1; have:=zmC c; show c.1.Text.size≤_; omega)
  unfold zxG; omega
 ·have:=J_w tgC (l:=zj7 s) (fun c hcm=>by
   obtain ⟨h1,h2,_,h4⟩:=hc c hcm
   have hh:=zoL c.2
   have h5:=ziW c.2
   have h6:=zmC c
   rw [List.length_append] at h5
   unfold tgC
   split
   ·have:=zpl c.1.Rune ((loI c.2).map (·.Rune)) ((hiI c.2).map (·.Rune)) (by simp; omega) (by simp; omega)
    simp only [List.length_map] at this; omega
   ·have:=ziT h1; omega)
  unfold ztm; omega
theorem zoD (r:zBA) (hr:r.size≤1000) (J:List zBA→Option (Int×List zBA)):zaT (fun _ _=>none) (zbw J r) zcI [] 0=J ((zcq r).map Utf8.encode):=by
 have hl:=zdW r
 have:=zw7 (xs:=pcs r.data.toList) (F:=zbw J r) (bot:=fun _ _=>none) (f:=fun a (p:Pc)=>a++[Utf8.encode (p.r:Int)]) (J:=J) (fun k a=>a.length=k) (fun ag k x a hx hi=>by
   have hk:=(List.getElem?_eq_some_iff.1 hx).1
   unfold zbw
   exact zaL (decide_eq_true hk) (zaS hx (zcm (by omega) rfl))) (fun k x a _ hi=>by simp [hi]) (fun ag a _=>by unfold zbw; exact zaG (decide_eq_false (by omega)) rfl) (n:=zcI) (zfk (by omega)) (a:=[]) rfl
 refine this.trans ?_
 have e:(pcs r.data.toList).map (fun p=>Utf8.encode (p.r:Int))=(zcq r).map Utf8.encode:=by
  unfold zcq
  rw [List.map_map]
  exact List.map_congr_left fun p _=>by rw [Function.comp_apply]
 rw [zl3,List.nil_append,e]
theorem zvk (o:zac) (i:Nat) (t:Tok) (ts:List Tok) (hb:t.broken=false) (hok:∀ x∈t::ts,zey x) (hl:(t::ts).length≤1000000000) :
  zc7 o (pL i (t::ts))=some (((zdj (zem o) (tkT t) (ts.map tkT)).1:Int),(zdj (zem o) (tkT t) (ts.map tkT)).2):=by
 unfold zc7
 have hmin:min ((pL i (t::ts)).length:Int) 8=((min (pL i (t::ts)).length 8:Nat):Int):=by omega
 have hcut:zhi (pL i (t::ts)) 0 (min ((pL i (t::ts)).length:Int) 8)=pL i ((t::ts).take 8):=by rw [hmin,zn2,ztp,zoF]
 refine zcf (zcm ⟨Int.le_refl _,by omega,by omega⟩ ?_)
 have hok8:∀ x∈(t::ts).take 8,zey x:=fun x hx=>hok x (List.mem_of_mem_take hx)
 have hlt8:((t::ts).take 8).length≤8:=List.length_take_le _ _
 obtain ⟨b',k',p',h1,h2⟩:=zvi o (pL i (t::ts)) _ i ((t::ts).take 8) hlt8 hcut hok8 zcI ((t::ts).take 8) [] 0 0 [] ⟨#[]⟩ none rfl (by unfold zcI; omega) ⟨rfl,rfl,rfl⟩ (by decide)
 refine h2.trans ?_
 have hbest:(((((t::ts).take 8).map tkT).takeWhile okB).foldl (zpn (zem o)) ((⟨#[]⟩:zBA),([]:List Tok).length,none)).2.2=zkl (zem o) (tkT t::ts.map tkT):=by
  unfold zkl zkk
  rw [List.map_take]; rfl
 rw [hbest] at h1
 unfold zdj
 cases hB:zkl (zem o) (tkT t::ts.map tkT) with
 | some mx =>
  rw [hB] at h1
  obtain ⟨rfl,h0,rfl⟩:=h1
  exact zaL (decide_eq_true (by omega)) rfl
 | none =>
  rw [hB] at h1
  obtain ⟨rfl,rfl,rfl⟩:=h1
  refine zaG (by decide) (zcf (zcm rfl (zaS (a:=pT i t) rfl (zcm (zeO (hok t (List.mem_cons_self ..))) ?_))))
  refine zaS (zqM (zaV (t.r:Int))) ?_
  have hx:(tkT t).1=(t.r:Int):=by unfold tkT; rw [hb]; rfl
  rw [zoD _ (by have h2:=zc5 (zaV (t.r:Int)); have h3:=(zfY (Utf8.encode (zaV (t.r:Int))) (by omega)).1; omega),hx,Option.getD_none]
  unfold zhr
  generalize (zcq (zfu (Utf8.encode (zaV (t.r:Int))))).map Utf8.encode=X
  rfl
theorem zrI {r:Int} (h:zaN r=true):∃ b,zaN b=true∧zby b tabS=none∧zhr r=(zcq (zej (zaV b))).map Utf8.encode:=by
 have hL:zaN (zaV r)=true:=by
  have h1:=zce r h
  have key:((List.range 1120).all fun n=>!zaN (n:Int)||zaN (zaV (n:Int)))=true:=by decide +kernel
  have:=List.all_eq_true.1 key r.toNat (List.mem_range.2 (by omega))
  rw [show ((r.toNat:Nat):Int)=r by omega,h] at this
  simpa using this
 obtain ⟨b,ms,hp,hb,hn,hm,_⟩:=zel hL
 refine ⟨b,hb,hn,?_⟩
 unfold zhr
 have e:Utf8.encode (zaV r)=zeg [zaV r]:=by rw [zgV,zdm,znh,ByteArray.append_empty]
 rw [e,zsg (by intro x hx; rw [List.mem_singleton.1 hx]; exact zeJ hL),List.flatMap_cons,List.flatMap_nil,List.append_nil,hp,List.map_cons,zld (by exact hb)]
 have h1:(ms.map mkI).takeWhile isM=ms.map mkI:=zri (fun x hx=>by obtain ⟨y,hy,rfl⟩:=List.mem_map.1 hx; exact hm y hy)
 have h2:(ms.map mkI).dropWhile isM=[]:=zsv (fun x hx=>by obtain ⟨y,hy,rfl⟩:=List.mem_map.1 hx; exact hm y hy)
 rw [h1,h2,zuE,zdm,znh,ByteArray.append_empty,zk5 (by exact hb)]
 rfl
theorem zrH {r:Int} (h:zaN r=true):zhr r≠[]∧(zhr r).length≤4:=by
 obtain ⟨b,hb,hn,e⟩:=zrI h
 rw [e]
 have h1:=(zqN hb).2.1
 have h2:=ziq (zaV b)
 have h3:=zdW (zej (zaV b))
 refine ⟨by simpa using h1,?_⟩
 rw [List.length_map]
 unfold zcq
 rw [List.length_map]; omega
def zhg (o:zhN):Prop:=∀ u xs,o.f u=some xs→xs≠[]∧xs.length≤4
theorem zn7 (o:zhN) (ho:zhg o):∀ (l:List Tk) (a:zBA×Nat×Option (Nat×List zBA)),(∀ m xs,a.2.2=some (m,xs)→1≤m∧m≤a.2.1∧xs≠[]∧xs.length≤4) →
  (l.foldl (zpn o) a).2.1=a.2.1+l.length∧∀ m xs,(l.foldl (zpn o) a).2.2=some (m,xs)→1≤m∧m≤a.2.1+l.length∧xs≠[]∧xs.length≤4
 | [],a,h=>⟨rfl,h⟩
 | x::l,a,h=>by
  rw [List.foldl_cons,List.length_cons]
  have hs:(zpn o a x).2.1=a.2.1+1:=rfl
  obtain ⟨h1,h2⟩:=zn7 o ho l (zpn o a x) (by
   intro m xs hm
   rw [hs]
   unfold zpn at hm
   simp only at hm
   split at hm
   ·injection hm with hm; injection hm with e1 e2; subst e1; subst e2; exact ⟨by omega,by omega,by simp,by simp⟩
   ·split at hm
    ·rename_i ys hy
     injection hm with hm; injection hm with e1 e2; subst e1; subst e2
     have:=ho _ _ hy
     exact ⟨by omega,by omega,this.1,this.2⟩
    ·have:=h m xs hm
     exact ⟨this.1,by omega,this.2.2⟩)
  rw [hs] at h1 h2
  exact ⟨by omega,fun m xs hm=>by have:=h2 m xs hm; exact ⟨this.1,by omega,this.2.2⟩⟩
theorem zks (o:zhN) (ho:zhg o) (x:Tk) (l:List Tk) (hx:zaN x.1=true):1≤(zdj o x l).1∧(zdj o x l).1≤(x::l).length∧(zdj o x l).2≠[]∧(zdj o x l).2.length≤4:=by
 unfold zdj
 cases hb:zkl o (x::l) with
 | none =>
  have:=zrH hx
  rw [Option.getD_none]
  generalize zhr x.1=X at this
  exact ⟨Nat.le_refl 1,by rw [List.length_cons]; omega,this.1,this.2⟩
 | some mx =>
  obtain ⟨m,xs⟩:=mx
  unfold zkl at hb
  have:=(zn7 o ho (zkk (x::l)) (ByteArray.empty,0,none) (by intro m xs h; cases h)).2 m xs hb
  have hl:(zkk (x::l)).length≤(x::l).length:=by
   unfold zkk
   exact Nat.le_trans (List.takeWhile_sublist _).length_le (List.take_sublist _ _).length_le
  have h0:=this.2.1
  rw [Option.getD_some]
  have e0:((ByteArray.empty,0,none):zBA×Nat×Option (Nat×List zBA)).2.1=0:=rfl
  rw [e0] at h0
  exact ⟨this.1,by omega,this.2.2.1,this.2.2.2⟩
theorem zpq (m:zBA):∀ l:List El,(zox m l).length=l.length
 | []=>rfl
 | [e]=>rfl
 | e::e'::es=>by rw [zox,List.length_cons,zpq m (e'::es)]; rfl
theorem znt (m:zBA):∀ (l:List El) (e:El),zox m (l++[e])=l++[⟨e.sort,e.place,e.digits,m,e.great⟩]
 | [],e=>rfl
 | [a],e=>rfl
 | a::b::l,e=>by
  have:=znt m (b::l) e
  simp only [List.cons_append] at this ⊢
  rw [zox,this]
theorem zua {New:List El} (h:New≠[]) (cs:List (Option (List El))) (out:List El) (sp:Bool):asm (some New::cs) out sp=asm cs (out++(if sp&&!out.isEmpty then [zwt] else [])++New) false:=by
 cases New with
 | nil=>exact absurd rfl h
 | cons e es=>rfl
def zom (sp:Bool) (out:List El):List El:=if sp&&!out.isEmpty then [zwt] else []
theorem zi6 (sp:Bool) (out:List El):(zom sp out).length≤1:=by unfold zom; split <;> simp
theorem zu9 (e:El) (sp:Bool) (out:List El) (h:out.length≤2000000000):zbD e sp out=some (false,out++zom sp out++[e]):=by
 unfold zbD
 refine zcf ?_
 have hfin:∀ l:List El,l.length≤2000000001→(grd (l.length+1≤2147483648)<|some (false,l++[e]))=some (false,l++[e]):=fun l hl=>zcm (by omega) rfl
 cases sp with
 | false =>
  refine zaG rfl ((hfin out (by omega)).trans ?_)
  unfold zom
  simp
 | true =>
  refine zaL rfl ?_
  cases out with
  | nil=>exact zaG rfl (hfin [] (by simp))
  | cons a out =>
   refine zaL (decide_eq_true (by rw [List.length_cons]; omega)) (zcm (by omega) ((hfin _ (by rw [List.length_append]; simp only [List.length_cons,List.length_nil] at h ⊢; omega)).trans ?_))
   rfl
theorem zqH (l3:List zal) (r4:Int×List zBA) (J:Int→Option (List El)) (TT:List Tok) (i:Nat) (hc:zhi l3 0 r4.1=pL i TT) (hok:∀ t∈TT,zey t) (hb:TT.length≤1000000000) (hn:∀ t∈TT,great (tkT t).1=great (t.r:Int)) :
  zaT (fun _ _=>none) (zbg l3 r4 J) zcI 0 0=J (zi1 (TT.map tkT)):=by
 have hm:∀ (k:Nat) (x:zal),(pL i TT)[k]?=some x→I32 x.Rune∧k<TT.length:=fun k x hx=>by
  have hk:=(List.getElem?_eq_some_iff.1 hx).1
  rw [zgD] at hk
  have:=ziR TT i k TT[k] (List.getElem?_eq_getElem hk)
  rw [this] at hx
  injection hx with hx
  subst hx
  exact ⟨zeO (hok _ (List.getElem_mem _)),hk⟩
 have:=ztM (xs:=pL i TT) (F:=zbg l3 r4 J) (bot:=fun _ _=>none) (f:=fun (g:Int) (p:zal)=>if great p.Rune then 1 else g) (J:=J) (fun _ _=>True) (fun ag k x a hx hi=>by
   obtain ⟨h1,h2⟩:=hm k x hx
   unfold zbg
   rw [hc]
   refine zaL (zmE hx) (zcf (zaS (zh9 hx) (zcm h1 ?_)))
   cases hg:great x.Rune with
   | true=>exact zaL rfl (zcm (zgi (by omega)) rfl)
   | false=>exact zaG rfl (zcm (zgi (by omega)) rfl)) (fun _ _ _ _ _=>trivial) (fun ag a _=>by unfold zbg; rw [hc]; exact zaG zmF rfl) (n:=zcI) (by rw [zgD]; exact zfk (by omega)) (a:=0) trivial
 refine this.trans (congrArg J ?_)
 clear this hm
 have key:∀ (TT:List Tok) (i:Nat) (g:Int),(∀ t∈TT,great (tkT t).1=great (t.r:Int))→(pL i TT).foldl (fun (g:Int) (p:zal)=>if great p.Rune then 1 else g) g=if (TT.map tkT).any (fun x=>great x.1) then 1 else g:=by
  intro TT
  induction TT with
  | nil=>intro i g _; rfl
  | cons t TT ih =>
   intro i g h
   rw [pL,List.foldl_cons,ih _ _ (fun x hx=>h x (List.mem_cons_of_mem _ hx)),List.map_cons,List.any_cons,h t (List.mem_cons_self ..)]
   show (if _ then (1:Int) else if great (t.r:Int) then 1 else g)=_
   cases great (t.r:Int) <;> cases (TT.map tkT).any (fun x=>great x.1) <;> rfl
 exact key TT i 0 hn
theorem zto {t:Tok} (h:zhv (tkT t)=true):(tkT t).1=(t.r:Int)∧t.broken=false:=by
 unfold zhv tkT at h
 unfold tkT
 cases hb:t.broken with
 | true=>rw [hb,if_pos rfl] at h; exact absurd h (show ¬ mrk (-1)=true by decide)
 | false=>exact ⟨rfl,rfl⟩
theorem zoK (i:Nat) (TT:List Tok) (J:Int→zBA→Option (List El)) (hok:∀ t∈TT,zey t) (hl:TT.length≤1000000000):∀ (n:Nat) (B A:List Tok) (m:zBA),TT=A++B→B.length<n→m.size≤4*A.length →
  zaT (fun _ _=>none) (zbq (pL i TT) J) n (A.length:Int) m=J ((A.length:Int)+(((B.map tkT).takeWhile zhv).length:Nat)) (m++zgh ((B.map tkT).takeWhile zhv)):=by
 intro n
 induction n with
 | zero=>intro B A m _ h; omega
 | succ n ih =>
  intro B A m hT hn hm
  rw [zfI]
  generalize hag:zaT (fun _ _=>none) (zbq (pL i TT) J) n=ag
  unfold zbq
  have hlen:(pL i TT).length=A.length+B.length:=by rw [zgD,hT,List.length_append]
  cases B with
  | nil =>
   refine zaG (decide_eq_false (by rw [hlen]; simp)) ?_
   show J _ m=J _ (m++ByteArray.empty)
   rw [ByteArray.append_empty]; simp
  | cons t B =>
   have hget:TT[A.length]?=some t:=by rw [hT]; simp
   have htok:=hok t (by rw [hT]; simp)
   have hA:A.length≤1000000000:=by rw [hT,List.length_append] at hl; omega
   refine zaL (decide_eq_true (by rw [hlen]; simp; omega)) (zaS (zdJ (ziR _ _ _ _ hget)) (zaS (a:=zhv (tkT t)) ?_ ?_))
   ·unfold zdC
    refine zcm (zeO htok) ?_
    show some ((zbx t.broken (t.r:Int):Int)==2)=_
    rw [zj3,zkX]
   ·rw [List.map_cons,List.takeWhile_cons]
    cases hk:zhv (tkT t) with
    | false =>
     refine zaG rfl ?_
     show J _ m=J _ (m++ByteArray.empty)
     rw [ByteArray.append_empty]; simp
    | true =>
     have e4:=zc5 (t.r:Int)
     refine zaL rfl (zaS (zdJ (ziR _ _ _ _ hget)) (zcm (by show m.size+(Utf8.encode (t.r:Int)).size≤_; omega) (zcm ⟨by omega,by omega⟩ ?_)))
     have:=ih B (A++[t]) (m++Utf8.encode (t.r:Int)) (by rw [hT,List.append_assoc]; rfl) (by rw [List.length_cons] at hn; omega) (by rw [ByteArray.size_append,List.length_append]; simp; omega)
     rw [hag] at this
     have hcast:(A.length:Int)+1=((A++[t]).length:Int):=by simp
     rw [hcast]
     refine this.trans ?_
     simp only [if_true]
     unfold zgh
     rw [zdm,(zto hk).1,ByteArray.append_assoc,List.length_cons,← hcast]
     congr 1
     push_cast; omega
theorem zrE (o:zac) (r4:Int×List zBA) (g:Int) (J:List El→Bool→Option (List El)) (hl:r4.2.length≤4) (out:List El) (sp:Bool) (ho:out.length≤1999999000) :
  zaT (fun _ _ _=>none) (zbf o r4 g J) zcI out sp 0=if r4.2=[] then J out sp else J (out++zom sp out++r4.2.map (elU (zem o) g)) false:=by
 have:=zyl (xs:=r4.2) (F:=zbf o r4 g J) (bot:=fun _ _ _=>none) (f:=fun (a:List El×Bool) u=>(a.1++zom a.2 a.1++[elU (zem o) g u],false)) (J:=J) (fun k a=>a.1.length≤1999999000+2*k) (fun ag k x a hx hi=>by
   have hk:=zj0 hx
   unfold zbf
   exact zaL (zmE hx) (zaS (zh9 hx) (zaS (zu9 _ a.2 a.1 (by omega)) (zcm (zgi (by omega)) rfl)))) (fun k x a _ hi=>by
    have:=zi6 a.2 a.1
    simp only [List.length_append,List.length_cons,List.length_nil]; omega) (fun ag a _=>by unfold zbf; exact zaG zmF rfl) (n:=zcI) (zfk (by omega)) (a:=(out,sp)) (by simpa using ho)
 refine this.trans ?_
 have g0:∀ l:List El,zom false l=[]:=fun _=>rfl
 have key:∀ (us:List zBA) (l:List El),us.foldl (fun (a:List El×Bool) u=>(a.1++zom a.2 a.1++[elU (zem o) g u],false)) (l,false)=(l++us.map (elU (zem o) g),false):=by
  intro us
  induction us with
  | nil=>intro l; simp
  | cons u us ih=>intro l; rw [List.foldl_cons]; simp only [g0,List.append_nil]; rw [ih]; simp
 cases hr:r4.2 with
 | nil=>rw [if_pos rfl]; rfl
 | cons u us =>
  rw [if_neg (by simp),List.foldl_cons,key]
  simp
theorem zpk {t:Tok} (h:0≤(tkT t).1):(tkT t).1=(t.r:Int)∧t.broken=false:=by
 unfold tkT at h ⊢
 cases hb:t.broken with
 | true=>rw [hb,if_pos rfl] at h; exact absurd h (by omega)
 | false=>exact ⟨rfl,rfl⟩
theorem znX {t:Tok} (hok:zey t) (h:zhc (tkT t)=true):t.bs.length=1:=by
 have h:=of_decide_eq_true h
 obtain ⟨h1,h2⟩:=zpk (t:=t) (by omega)
 rcases hok with hv | hb
 ·obtain ⟨_,hbs⟩:=hv
  rw [h1] at h
  rw [hbs,← zf1]
  have key:((List.range 58).all fun n=>decide ((Utf8.encode (n:Int)).size=1))=true:=by decide +kernel
  exact of_decide_eq_true (List.all_eq_true.1 key t.r (List.mem_range.2 (by omega)))
 ·rw [hb] at h2; cases h2
theorem zo0 (i:Nat) (TT:List Tok) (J:Int→Option (List El)) (hok:∀ t∈TT,zey t) (hl:TT.length≤1000000000):∀ (n:Nat) (B A:List Tok),TT=A++B→B.length<n →
  zaT (fun _=>none) (zbp (pL i TT) J) n (A.length:Int)=J ((A.length:Int)+(((B.map tkT).takeWhile zhc).length:Nat)):=by
 intro n
 induction n with
 | zero=>intro B A _ h; omega
 | succ n ih =>
  intro B A hT hn
  rw [zfI]
  generalize hag:zaT (fun _=>none) (zbp (pL i TT) J) n=ag
  unfold zbp
  have hlen:(pL i TT).length=A.length+B.length:=by rw [zgD,hT,List.length_append]
  cases B with
  | nil =>
   refine zaG (decide_eq_false (by rw [hlen]; simp)) ?_
   show J _=J _
   congr 1
  | cons t B =>
   have hget:TT[A.length]?=some t:=by rw [hT]; simp
   have htok:=hok t (by rw [hT]; simp)
   have hA:A.length≤1000000000:=by rw [hT,List.length_append] at hl; omega
   refine zaL (decide_eq_true (by rw [hlen]; simp; omega)) (zaS (zdJ (ziR _ _ _ _ hget)) (zcm (zeO htok) ?_))
   have hk:∀ i,zbx (pT i t).Broken (pT i t).Rune=kT (tkT t):=fun _=>zj3 t
   rw [hk,zgj,List.map_cons,List.takeWhile_cons]
   cases hd:zhc (tkT t) with
   | false =>
    refine zaG rfl ?_
    congr 1
   | true =>
    refine zaL rfl (zcm ⟨by omega,by omega⟩ ?_)
    have:=ih B (A++[t]) (by rw [hT,List.append_assoc]; rfl) (by rw [List.length_cons] at hn; omega)
    rw [hag] at this
    have hcast:(A.length:Int)+1=((A++[t]).length:Int):=by simp
    rw [hcast]
    refine this.trans ?_
    simp only [if_true]
    rw [List.length_cons,← hcast]
    congr 1
    push_cast; omega
theorem zqe (J:zBA→Option (List El)):∀ (n:Nat) (d:zBA),d.size<n→d.size≤1000000000→zaT (fun _=>none) (zbo J) n d=J ⟨(zrr d.data.toList).toArray⟩:=by
 intro n
 induction n with
 | zero=>intro d h; omega
 | succ n ih =>
  intro d hn hb
  rw [zfI]
  generalize hag:zaT (fun _=>none) (zbo J) n=ag
  unfold zbo
  cases hd:d.data.toList with
  | nil =>
   have h0:d.size=0:=by rw [zcE,hd]; rfl
   refine zaG (decide_eq_false (by omega)) ?_
   have:d=⟨([]:List UInt8).toArray⟩:=zie (by rw [hd])
   rw [this]; rfl
  | cons c l =>
   have h0:d.size=l.length+1:=by rw [zcE,hd]; rfl
   have hg:zlz d 0=some (c.toNat:Int):=by
    unfold zlz
    rw [if_pos (Int.le_refl 0)]
    have:d.data[(0:Int).toNat]?=some c:=by
     rw [← Array.getElem?_toList,hd]; rfl
    rw [this]; rfl
   refine zaL (decide_eq_true (by omega)) (zaS hg ?_)
   unfold zrr
   rw [List.dropWhile_cons]
   have hc:(((c.toNat:Int):Int)==48)=(c==48):=by
    rw [Bool.eq_iff_iff,beq_iff_eq,beq_iff_eq]
    constructor
    ·intro h; exact UInt8.toNat_inj.1 (by show c.toNat=48; omega)
    ·intro h; subst h; rfl
   rw [hc]
   cases hz:(c==48) with
   | false =>
    refine zaG rfl ?_
    simp only [Bool.false_eq_true,if_false]
    rw [← hd]
   | true =>
    refine zaL rfl (zcm ⟨by omega,by omega,by omega⟩ ?_)
    have hcut:(zco d 1 (d.size:Int)).data.toList=l:=by
     have:=ziu d 1 d.size
     rw [hd,List.drop_succ_cons,List.drop_zero,h0,Nat.add_sub_cancel,List.take_length] at this
     rw [h0]; exact this
    have hs:(zco d 1 (d.size:Int)).size=l.length:=by rw [zcE,hcut]
    have:=ih (zco d 1 (d.size:Int)) (by omega) (by omega)
    rw [hag] at this
    rw [this,hcut]
    rfl
theorem zgX (x:Tk):(kT x=1↔zeb x=true)∧(kT x=3↔zhc x=true):=by
 constructor
 ·rw [← zgG,beq_iff_eq]
 ·rw [← zgj,beq_iff_eq]
theorem zrV {t:Tok} (h:zeb (tkT t)=true):(tkT t).1=(t.r:Int)∧t.broken=false∧zaN (t.r:Int)=true:=by
 have h':zaN (tkT t).1=true:=h
 have:=zce _ h'
 obtain ⟨h1,h2⟩:=zpk (t:=t) (by omega)
 rw [h1] at h'
 exact ⟨h1,h2,h'⟩
theorem ztT (t:Tok):great (tkT t).1=great (t.r:Int):=by
 unfold tkT
 cases hb:t.broken with
 | true =>
  rw [if_pos rfl]
  have:t.r=65533:=by unfold Tok.broken at hb; simp at hb; exact hb.1
  rw [this]; show great (-1)=great ((65533:Nat):Int); decide
 | false=>rfl
theorem zvT {S:zBA} {A ts:List Tok} {t:Tok} (hok:zey t) (h:S.data.toList=zbZ (A++t::ts)):zlz S ((zbZ A).length:Int)=some (zge (tkT t).2):=by
 have hne:=zvW hok
 cases hb:t.bs with
 | nil=>exact absurd hb hne
 | cons c l =>
  unfold zlz
  rw [if_pos (by omega),Int.toNat_natCast]
  have h1:S.data.toList[(zbZ A).length]?=some c:=by
   rw [h,zbv,zcn,hb]; simp
  have h2:S.data[(zbZ A).length]?=some c:=by rw [← Array.getElem?_toList]; exact h1
  rw [h2]
  unfold zge tkT
  rw [hb]; rfl
theorem zsy {α:Type} (l:List α) (c:Nat):zhi l (c:Int) (l.length:Int)=l.drop c:=by
 unfold zhi
 rw [Int.toNat_natCast,Int.toNat_natCast,List.take_of_length_le (by rw [List.length_drop]; exact Nat.le_refl _)]
theorem zrY {x:Tk} (h:zeb x=true):kT x=1:=(zgX x).1.2 h
set_option maxHeartbeats 1000000 in
theorem zvK (o:zac) (ho:zhg (zem o)) (r1:zBA) (r2:Int) (S:zBA) (hS:zco r1 r2 (r1.size:Int)=S) (hSb:S.size≤1000000000) (J:List El→Option (List El)) :
  ∀ (n:Nat) (ts A:List Tok) (out:List El) (sp:Bool) (m:Nat),S.data.toList=zbZ (A++ts)→(∀ t∈ts,zey t)→ts.length<n→ts.length≤m→out.length+6*ts.length≤1999999000 →
   zaT (fun _ _ _=>none) (zbr o J r1 r2) n out sp (pL (zbZ A).length ts)=J (asm (zeF (zem o) m (ts.map tkT)) out sp):=by
 intro n
 induction n with
 | zero=>intro ts A out sp m _ _ h; omega
 | succ n ih =>
  intro ts A out sp m hd hok hn hm hb
  rw [zfI]
  generalize hag:zaT (fun _ _ _=>none) (zbr o J r1 r2) n=ag
  unfold zbr
  rw [hS]
  cases ts with
  | nil =>
   refine zaG (decide_eq_false (by rw [zgD]; simp)) ?_
   cases m <;> rfl
  | cons t ts =>
   obtain ⟨m,rfl⟩:∃ k,m=k+1:=⟨m - 1,by rw [List.length_cons] at hm; omega⟩
   have ht:=hok t (List.mem_cons_self ..)
   have hlenS:(zbZ A).length+(t.bs.length+(zbZ ts).length)=S.size:=by rw [zcE,hd,zbv,zcn,List.length_append,List.length_append]
   have hl1:(t::ts).length≤1000000000:=by omega
   have fin:∀ (c:Nat) (New:Option (List El)) (out':List El) (sp':Bool),1≤c→c≤(t::ts).length→zfp (zem o) (tkT t) (ts.map tkT)=(c,New)→(∀ cs,asm (New::cs) out sp=asm cs out' sp')→out'.length≤out.length+5 →
     (grd (0≤(c:Int)∧(c:Int)≤((pL (zbZ A).length (t::ts)).length:Int)∧(((pL (zbZ A).length (t::ts)).length:Int):Int)≤((pL (zbZ A).length (t::ts)).length:Int))<|ag out' sp' (zhi (pL (zbZ A).length (t::ts)) (c:Int) ((pL (zbZ A).length (t::ts)).length:Int))) =
      J (asm (zeF (zem o) (m+1) ((t::ts).map tkT)) out sp):=by
    intro c New out' sp' h1 h2 h3 h4 h5
    refine zcm ⟨by omega,by rw [zgD]; omega,Int.le_refl _⟩ ?_
    rw [zsy,zrK]
    have hA:(zbZ A).length+(zbZ ((t::ts).take c)).length=(zbZ (A++(t::ts).take c)).length:=by rw [zbv,List.length_append]
    have hdl:((t::ts).drop c).length+c=(t::ts).length:=by rw [List.length_drop]; omega
    have:=ih ((t::ts).drop c) (A++(t::ts).take c) out' sp' m (by rw [hd,List.append_assoc,List.take_append_drop]) (fun x hx=>hok x (List.mem_of_mem_drop hx)) (by omega) (by omega) (by omega)
    rw [hag] at this
    rw [hA,this,List.map_cons]
    show _=J (asm ((zfp (zem o) (tkT t) (ts.map tkT)).2::zeF (zem o) m ((tkT t::ts.map tkT).drop (zfp (zem o) (tkT t) (ts.map tkT)).1)) out sp)
    rw [h3,h4,← List.map_cons,List.map_drop]
   have hk:∀ i,zbx (pT i t).Broken (pT i t).Rune=kT (tkT t):=fun _=>zj3 t
   refine zaL (decide_eq_true (by rw [zgD,List.length_cons]; omega)) (zcf (zaS (a:=pT (zbZ A).length t) rfl (zcm (zeO ht) ?_)))
   rw [hk,zgG,zgj]
   cases hl:zeb (tkT t) with
   | true =>
    obtain ⟨hx1,hx2,hx3⟩:=zrV hl
    have hm4:=zks (zem o) ho (tkT t) (ts.map tkT) hl
    have hch:zfp (zem o) (tkT t) (ts.map tkT)=((zdj (zem o) (tkT t) (ts.map tkT)).1+(((tkT t::ts.map tkT).drop (zdj (zem o) (tkT t) (ts.map tkT)).1).takeWhile zhv).length,some (zox (zgh (((tkT t::ts.map tkT).drop (zdj (zem o) (tkT t) (ts.map tkT)).1).takeWhile zhv)) ((zdj (zem o) (tkT t) (ts.map tkT)).2.map (elU (zem o) (zi1 ((tkT t::ts.map tkT).take (zdj (zem o) (tkT t) (ts.map tkT)).1)))))):=by
     unfold zfp; rw [if_pos (zrY hl)]
    refine zaL rfl (zaS (zvk o (zbZ A).length t ts hx2 hok hl1) ?_)
    generalize hM:zdj (zem o) (tkT t) (ts.map tkT)=M at hm4 hch ⊢
    rw [← List.map_cons,← List.map_drop,← List.map_take] at hch
    have hmn:M.1≤(t::ts).length:=by have:=hm4.2.1; rw [List.length_cons,List.length_map] at this; exact this
    refine zcf (zcm ⟨Int.le_refl _,by show (0:Int)≤(M.1:Int); omega,by rw [zgD]; show (M.1:Int)≤_; omega⟩ ?_)
    refine (zqH _ (((M.1:Nat):Int),M.2) _ ((t::ts).take M.1) (zbZ A).length (by show zhi _ 0 (M.1:Int)=_; rw [zn2,zoF]) (fun x hx=>hok x (List.mem_of_mem_take hx)) (by rw [List.length_take]; omega) (fun x _=>ztT x)).trans ?_
    refine zcf ?_
    have hml:=fun Jm=>zoK (zbZ A).length (t::ts) Jm hok hl1 zcI ((t::ts).drop M.1) ((t::ts).take M.1) ⟨#[]⟩ (List.take_append_drop _ _).symm (by rw [List.length_drop]; unfold zcI; omega) (by show 0≤_; omega)
    have hMl:((t::ts).take M.1).length=M.1:=by rw [List.length_take]; omega
    simp only [hMl] at hml
    refine (hml _).trans ?_
    rw [show (⟨#[]⟩:zBA)=ByteArray.empty from rfl,ByteArray.empty_append]
    refine zcf ?_
    refine (zrE o (((M.1:Nat):Int),M.2) _ _ hm4.2.2.2 out sp (by omega)).trans ?_
    rw [if_neg hm4.2.2.1]
    generalize hms:(((t::ts).drop M.1).map tkT).takeWhile zhv=ms at hch ⊢
    generalize hgr:zi1 (((t::ts).take M.1).map tkT)=gr at hch ⊢
    obtain ⟨us,u,hus⟩:∃ us u,M.2=us++[u]:=⟨M.2.dropLast,M.2.getLast hm4.2.2.1,(List.dropLast_concat_getLast hm4.2.2.1).symm⟩
    have hmap:M.2.map (elU (zem o) gr)=us.map (elU (zem o) gr)++[elU (zem o) gr u]:=by rw [hus]; simp
    have hset:zox (zgh ms) (M.2.map (elU (zem o) gr))=us.map (elU (zem o) gr)++[⟨3,((zem o).p u).getD 0,ByteArray.empty,zgh ms,gr⟩]:=by rw [hmap,znt]; rfl
    have hul:us.length≤3:=by have:=hm4.2.2.2; rw [hus,List.length_append,List.length_cons,List.length_nil] at this; omega
    have hgl:=zi6 sp out
    generalize hP:out++zom sp out++us.map (elU (zem o) gr)=P at *
    have hPl:P.length≤out.length+4:=by rw [← hP]; simp only [List.length_append,List.length_map]; omega
    have hall:out++zom sp out++M.2.map (elU (zem o) gr)=P++[elU (zem o) gr u]:=by rw [hmap,← List.append_assoc,hP]
    rw [hall]
    have hlast:((P++[elU (zem o) gr u]).length:Int) - 1=(P.length:Int):=by rw [List.length_append,List.length_cons,List.length_nil]; push_cast; omega
    rw [hlast]
    refine zcm ⟨by omega,by omega⟩ (zaS (zdJ (show (P++[elU (zem o) gr u])[P.length]?=some (elU (zem o) gr u) by simp)) ?_)
    have hstt:(P++[elU (zem o) gr u]).set ((P.length:Int)).toNat (⟨(elU (zem o) gr u).sort,(elU (zem o) gr u).place,(elU (zem o) gr u).digits,zgh ms,(elU (zem o) gr u).great⟩:El)=P++[⟨3,((zem o).p u).getD 0,ByteArray.empty,zgh ms,gr⟩]:=by
     rw [Int.toNat_natCast,List.set_append_right _ _ (Nat.le_refl _),Nat.sub_self]; rfl
    have hmsl:ms.length+M.1≤(t::ts).length:=by
     rw [← hms]
     have:=(List.takeWhile_sublist zhv (l:=((t::ts).drop M.1).map tkT)).length_le
     rw [List.length_map,List.length_drop] at this; omega
    have:=fin (M.1+ms.length) (some (zox (zgh ms) (M.2.map (elU (zem o) gr)))) (P++[⟨3,((zem o).p u).getD 0,ByteArray.empty,zgh ms,gr⟩]) false (by omega) (by omega) hch (fun cs=>by
     rw [zua (by rw [hset]; simp),hset,← List.append_assoc]
     show asm cs (out++zom sp out++us.map (elU (zem o) gr)++_) false=_
     rw [hP]) (by rw [List.length_append,List.length_cons,List.length_nil]; omega)
    rw [hstt]
    have hcast:((M.1:Nat):Int)+((ms.length:Nat):Int)=((M.1+ms.length:Nat):Int):=by push_cast; rfl
    rw [hcast]
    exact this
   | false =>
    refine zaG rfl ?_
    have hk1:¬ kT (tkT t)=1:=fun h=>by have:=(zgX (tkT t)).1.1 h; rw [hl] at this; cases this
    have hk3i:=(zgX (tkT t)).2
    cases hdg:zhc (tkT t) with
    | true =>
     have hk3:kT (tkT t)=3:=hk3i.2 hdg
     have hch:zfp (zem o) (tkT t) (ts.map tkT)=(1+((ts.map tkT).takeWhile zhc).length,some [⟨2,0,zws (tkT t::(ts.map tkT).takeWhile zhc),ByteArray.empty,0⟩]):=by
      unfold zfp; rw [if_neg hk1,if_pos hk3]
     refine zaL rfl (zcf ?_)
     have hdl:=fun Jd=>zo0 (zbZ A).length (t::ts) Jd hok hl1 zcI ts [t] rfl (by rw [List.length_cons] at hl1; unfold zcI; omega)
     have e1:(([t]:List Tok).length:Int)=1:=rfl
     simp only [e1] at hdl
     refine (hdl _).trans ?_
     have hW1:(ts.map tkT).takeWhile zhc=(ts.takeWhile fun x=>zhc (tkT x)).map tkT:=by rw [List.takeWhile_map]; rfl
     rw [hW1,List.length_map] at hch ⊢
     generalize hW:(ts.takeWhile fun x=>zhc (tkT x))=W at hch ⊢
     have hWl:W.length≤ts.length:=by rw [← hW]; exact (List.takeWhile_sublist _).length_le
     have hWd:∀ x∈t::W,x.bs.length=1:=by
      intro x hx
      rcases List.mem_cons.1 hx with rfl | hx
      ·exact znX ht hdg
      ·have hx2:x∈ts:=by rw [← hW] at hx; exact (List.takeWhile_sublist _).subset hx
       have hx3:zhc (tkT x)=true:=by
        rw [← hW] at hx
        exact List.all_eq_true.1 (List.all_takeWhile (p:=fun x=>zhc (tkT x)) (l:=ts)) x hx
       exact znX (hok x (List.mem_cons_of_mem _ hx2)) hx3
     have hfl:∀ l:List Tok,(∀ x∈l,x.bs.length=1)→(zbZ l).length=l.length:=by
      intro l
      induction l with
      | nil=>intro _; rfl
      | cons x l ihl=>intro h; rw [zcn,List.length_append,List.length_cons,h x (List.mem_cons_self ..),ihl (fun y hy=>h y (List.mem_cons_of_mem _ hy))]; omega
     have hfw:(zbZ (t::W)).length=1+W.length:=by rw [hfl _ hWd,List.length_cons]; omega
     have hspl:t::ts=(t::W)++ts.dropWhile fun x=>zhc (tkT x):=by rw [List.cons_append,← hW,List.takeWhile_append_dropWhile]
     have hcut:zco S ((zbZ A).length:Int) (((zbZ A).length+(1+W.length):Nat):Int)=zhl ((t::W).map tkT) :=
      zo3 (A:=A) (W:=t::W) (Z:=ts.dropWhile fun x=>zhc (tkT x)) (by rw [hd,hspl]) rfl (by rw [hfw])
     have hle:(zbZ A).length+(1+W.length)≤S.size:=by
      rw [zcE,hd,hspl,zbv,zbv,List.length_append,List.length_append,hfw]; omega
     have hq:(pT (zbZ A).length t).At+(1+((W.length:Nat):Int))=(((zbZ A).length+(1+W.length):Nat):Int):=by
      show ((zbZ A).length:Int)+(1+((W.length:Nat):Int))=_
      push_cast; omega
     refine zcf ?_
     rw [hq]
     refine zcm ⟨by omega,by omega⟩ (zcm ⟨by show (0:Int)≤((zbZ A).length:Int); omega,by show ((zbZ A).length:Int)≤_; omega,by omega⟩ ?_)
     have hcut':zco S (pT (zbZ A).length t).At (((zbZ A).length+(1+W.length):Nat):Int)=zhl ((t::W).map tkT):=hcut
     rw [hcut']
     have hcs:(zhl ((t::W).map tkT)).size=1+W.length:=by rw [zcE,zjh,hfw]
     refine (zqe _ zcI (zhl ((t::W).map tkT)) (by unfold zcI; omega) (by omega)).trans ?_
     refine zaS (zu9 _ sp out (by omega)) ?_
     have hgl:=zi6 sp out
     have:=fin (1+W.length) (some [⟨2,0,zws (tkT t::W.map tkT),ByteArray.empty,0⟩]) (out++zom sp out++[⟨2,0,zws (tkT t::W.map tkT),ByteArray.empty,0⟩]) false (by omega) (by rw [List.length_cons]; omega) hch (fun cs=>rfl) (by simp only [List.length_append,List.length_cons,List.length_nil]; omega)
     have hcast:(1:Int)+((W.length:Nat):Int)=((1+W.length:Nat):Int):=by push_cast; rfl
     rw [hcast]
     exact this
    | false =>
     have hk3:¬ kT (tkT t)=3:=fun h=>by have:=hk3i.1 h; rw [hdg] at this; cases this
     refine zaG rfl ?_
     have hx7:∀ K:Bool→Option (List El),zbB (fun (j9:Bool→Option (List El))=>zat (((kT (tkT t)):Int)==5) (j9 (((kT (tkT t)):Int)==5)) (zat (((kT (tkT t)):Int)==4) (j9 (((kT (tkT t)):Int)==4)) (j9 (((kT (tkT t)):Int)==6)))) K=K (decide (kT (tkT t)=5∨kT (tkT t)=4∨kT (tkT t)=6)):=by
      intro K
      unfold zbB
      by_cases h5:kT (tkT t)=5
      ·rw [h5]; rfl
      ·by_cases h4:kT (tkT t)=4
       ·rw [h4]; rfl
       ·rw [beq_eq_false_iff_ne.2 h5,beq_eq_false_iff_ne.2 h4]
        by_cases h6:kT (tkT t)=6
        ·rw [h6]; rfl
        ·rw [beq_eq_false_iff_ne.2 h6,decide_eq_false (by simp [h5,h4,h6])]; rfl
     refine (hx7 _).trans ?_
     by_cases hsp:kT (tkT t)=5∨kT (tkT t)=4∨kT (tkT t)=6
     ·rw [decide_eq_true hsp]
      refine zaL rfl ?_
      exact fin 1 none out true (Nat.le_refl 1) (by rw [List.length_cons]; omega) (by unfold zfp; rw [if_neg hk1,if_neg hk3,if_pos hsp]) (fun cs=>rfl) (by omega)
     ·rw [decide_eq_false hsp]
      refine zaG rfl ?_
      by_cases hbr:kT (tkT t)=11
      ·rw [beq_iff_eq.2 hbr]
       have hby:0≤zge (tkT t).2∧zge (tkT t).2≤255:=by unfold zge; have:=((tkT t).2.data.toList.headD 0).toNat_lt; omega
       refine zaL rfl (zaS (zvT ht hd) (zcm ⟨by omega,by omega⟩ (zaS (zu9 _ sp out (by omega)) ?_)))
       have hgl:=zi6 sp out
       exact fin 1 (some [⟨4,zge (tkT t).2,ByteArray.empty,ByteArray.empty,0⟩]) (out++zom sp out++[⟨4,zge (tkT t).2,ByteArray.empty,ByteArray.empty,0⟩]) false (Nat.le_refl 1) (by rw [List.length_cons]; omega)
        (by unfold zfp; rw [if_neg hk1,if_neg hk3,if_neg hsp,if_pos hbr]) (fun cs=>rfl) (by simp only [List.length_append,List.length_cons,List.length_nil]; omega)
      ·rw [beq_eq_false_iff_ne.2 hbr]
       refine zaG rfl ?_
       exact fin 1 (some []) out sp (Nat.le_refl 1) (by rw [List.length_cons]; omega) (by unfold zfp; rw [if_neg hk1,if_neg hk3,if_neg hsp,if_neg hbr]) (fun cs=>rfl) (by omega)
theorem zsA (s:zBA) (hs:s.size≤1000000000):zd7 s=some (pL 0 (zdU s.data.toList)):=by
 unfold zd7
 refine zaS (a:=s) rfl (zaS (a:=pL 0 (zdU s.data.toList)) ?_ rfl)
 unfold zdx
 refine zaS (a:=pL 0 (zdU s.data.toList)) ?_ rfl
 unfold zbj
 refine zcf (zaS (zkQ s (by omega)) (zcf ?_))
 rw [zkT]
 have hlen:(pL 0 (zdU s.data.toList)).length≤s.size:=by
  rw [zgD]
  have:=zdW s
  have e:(pcs s.data.toList).length=(zdU s.data.toList).length:=by rw [← zgD (zdU s.data.toList) 0,← zkT,List.length_map]
  omega
 have key:∀ (l acc:List zal),acc.length+l.length≤1000000000→zcH (fun s5=>(some s5:Option (List zal))) zaO l acc=some (acc++l):=by
  intro l
  induction l with
  | nil=>intro acc _; rw [zjt,List.append_nil]
  | cons x l ih =>
   intro acc h
   rw [List.length_cons] at h
   rw [zcr]
   unfold zaO
   refine zcm (by omega) ?_
   have:=ih (acc++[x]) (by simp; omega)
   unfold zaO at this
   rw [this,List.append_assoc]; rfl
 have:=key (pL 0 (zdU s.data.toList)) [] (by simp; omega)
 rw [List.nil_append] at this
 exact this
theorem zpu (o:zhN) (l:List Tk):zhs o l≤l.length:=by
 unfold zhs
 split
 ·unfold zgH
  have h1:=congrArg List.length (List.takeWhile_append_dropWhile (p:=fun x=>!zeb x) (l:=l))
  have h2:=congrArg List.length (List.takeWhile_append_dropWhile (p:=zjy) (l:=l.dropWhile fun x=>!zeb x))
  rw [List.length_append] at h1 h2
  omega
 ·omega
theorem ziE (s:zBA):(zdU s.data.toList).length≤s.size:=by
 have h3:=zdW s
 have e:(pcs s.data.toList).length=(zdU s.data.toList).length:=by rw [← zgD (zdU s.data.toList) 0,← zkT,List.length_map]
 omega
theorem zqU {s:zBA} {X Y:List UInt8} (h:s.data.toList=X++Y):(zco s (X.length:Int) (s.size:Int)).data.toList=Y:=by
 rw [ziu,h,List.drop_left,zcE,h,List.length_append,Nat.add_sub_cancel_left,List.take_length]
def Few (t:zBA):Prop:=t.size≤65536∧(zcc t).size≤65536
theorem zzx {t:zBA} (h:t.size≤5000):Few t:=⟨by omega,by have:=(zfY t (by omega)).2.1; omega⟩
theorem zl8 (o:zac) (ho:zhg (zem o)) (t:zBA) (ht:Few t):zbQ o t=some (zic (zem o) (zh5 t)):=by
 obtain ⟨h0,h1⟩:=ht
 unfold zbQ
 refine zcf (zaS (zhW t h0) (zaS (ztA o (zcc t) (by omega)) ?_))
 have hple:=zpu (zem o) ((zdU (zcc t).data.toList).map tkT)
 generalize hp:zhs (zem o) ((zdU (zcc t).data.toList).map tkT)=p at hple ⊢
 have hcut:=ztY (zdU (zcc t).data.toList) p
 rw [zfZ,← zcE] at hcut
 refine zcm ⟨by omega,by omega,Int.le_refl _⟩ ?_
 have hS:(zco (zcc t) ((zbZ ((zdU (zcc t).data.toList).take p)).length:Int) ((zcc t).size:Int)).data.toList=zbZ ((zdU (zcc t).data.toList).drop p):=by
  exact zqU (by rw [← zbv,List.take_append_drop,zfZ])
 have hg:zdU (zbZ ((zdU (zcc t).data.toList).drop p))=(zdU (zcc t).data.toList).drop p:=zi3 (a:=(zdU (zcc t).data.toList).take p) (by rw [List.take_append_drop]; exact znP _)
 generalize hSS:zco (zcc t) ((zbZ ((zdU (zcc t).data.toList).take p)).length:Int) ((zcc t).size:Int)=SS at hS ⊢
 have hSl:SS.size≤65536:=by rw [zcE,hS]; omega
 refine zaS (zsA SS (by omega)) ?_
 rw [hS,hg]
 have htl:=ziE (zcc t)
 have:=zvK o ho (zcc t) ((zbZ ((zdU (zcc t).data.toList).take p)).length:Int) SS hSS (by omega) some zcI ((zdU (zcc t).data.toList).drop p) [] [] false (((zdU (zcc t).data.toList).map tkT).length) (by rw [List.nil_append,hS]) (fun x hx=>zef _ x (List.mem_of_mem_drop hx)) (by rw [List.length_drop]; unfold zcI; omega) (by rw [List.length_drop,List.length_map]; omega) (by rw [List.length_drop]; simp only [List.length_nil]; omega)
 refine this.trans ?_
 unfold zic zh5 zig
 rw [hp,List.map_drop]
def zcT (s1:zBA) (prefix1:zBA):Option Bool := zat (decide (((prefix1.size:Int):Int)≤(s1.size:Int))) ( grd (0≤(0:Int)∧(0:Int)≤(prefix1.size:Int)∧((prefix1.size:Int):Int)≤(s1.size:Int)) <| some (decide (zco s1 0 (prefix1.size:Int)=prefix1))
) ( some false
)
theorem zfc {s1:zBA} {prefix1:zBA} {r:Bool} (h:zcT s1 prefix1=some r):FnP prog 104 [.string s1,.string prefix1] (.bool r):=by
 unfold zcT at h
 refine FnP.intro func104 rfl ntmps104 (by simp) ?_
 intro w0 K
 refine zyG (zyR 1 rfl (zyH (zyR 1 rfl (zcN rfl dc rfl underlying9 (zyR 1 rfl (zcN rfl dc rfl underlying9 (zaU rfl zbF (zyR 1 rfl ?_))))))))
 refine zyS (s:=10) rfl h (fun h => ?_) (fun h => ?_)
 ·
  refine zyR 2 rfl (zcN rfl dc rfl underlying9 ?_)
  obtain ⟨hg1,h⟩:=zb7 h
  refine zb4 rfl dc rfl rfl rfl (za3 (i:=0) (j:=(prefix1.size:Int)) underlying9 (.inl ⟨rfl,rfl⟩) (.inr rfl) hg1) (zyR 1 rfl (zaU rfl zed (zyR 2 rfl (zyN (zaD ?_)))))
  cases h
  exact za1 4 results104
 refine zyR 8 rfl (zyN (zaD ?_))
 cases h
 exact za1 4 results104
def zeP (s1:zBA) (prefix1:zBA):Option Bool := zak (zcT s1 prefix1) fun (r1:Bool) => some r1
theorem zhZ {s1:zBA} {prefix1:zBA} {r:Bool} (h:zeP s1 prefix1=some r):FnP prog 98 [.string s1,.string prefix1] (.bool r):=by
 unfold zeP at h
 refine FnP.intro func98 rfl ntmps98 (by simp) ?_
 intro w0 K
 refine zyG (zyR 1 rfl (zyH (zyR 2 rfl ?_)))
 obtain ⟨r1,hq1,h⟩:=zbz h
 refine zaK (v:=.bool r1) (vs:=[.string s1,.string prefix1]) rfl dc rfl rfl rfl zxq (zfc hq1) (zyR 1 rfl (zyN (zaD ?_)))
 cases h
 exact za1 4 results98
def zdR (c0:zBA) (ag1:Nat→Option (List zal)) (m3:Nat):Option (List zal) := zat (decide (m3<(pcs c0.data.toList).length)) ( zak ((pcs c0.data.toList)[m3]?) fun (p1:Pc) => zbB (fun (j1:Int→Bool→Option (List zal)) => zat (((p1.r:Int):Int)==65533) ( grd (0≤((p1.i:Int):Int)∧((p1.i:Int):Int)≤(c0.size:Int)∧((c0.size:Int):Int)≤(c0.size:Int)) <| zak (zeP (zco c0 (p1.i:Int) (c0.size:Int)) (⟨#[239,191,189]⟩:zBA)) fun (r1:Bool) => zat (!r1) ( j1 1 true
) ( j1 ((Utf8.encode (p1.r:Int)).size:Int) false
)
) ( j1 ((Utf8.encode (p1.r:Int)).size:Int) false
)
) (fun (p2:Int) (p3:Bool) => zo5 (⟨(p1.i:Int),p2,(p1.r:Int),p3⟩:zal) <| ag1 (m3+1)
)
) ( some []
)
def zfK (c0:zBA):Option (List zal) := zaT (fun _=>none) (zdR c0) zcI 0
theorem zjc {b_c0:Nat} {c0:zBA} {xs:(List zal)} (h:zfK c0=some xs):Itr prog 97 [zP b_c0] (fun q:zal=>[.agg (zr0 q).toArray]) xs [(b_c0,.cells #[.string c0] 9 (0,0))]:=by
 unfold zfK at h
 refine Itr.intro func97 rfl ntmps97 (by simp) ?_
 intro l w0 K I X hRo hy
 obtain ⟨r0,hx0⟩:∃ r,xs=[]++r:=⟨xs,rfl⟩
 have hr0:xs=r0:=hx0
 rw [hr0] at h
 refine zyG (zjk (i:=0) hRo zfn rfl dc rfl rfl rfl ?_)
 refine zeV underlying9 rfl dc rfl (fun b1 => ?_)
 refine zyN (zaB ?_)
 refine zbN (β:=Nat×Nat×(List zal)×(List zal)) (fun b=>zaT (fun _=>none) (zdR c0) b.1 b.2.1=some b.2.2.2∧xs=b.2.2.1++b.2.2.2) (fun b=>[]) (fun b=>[(0,.func (.yield l) #[] #[]),(1,zP b_c0),(7,zP b1)]) (fun b=>[I b.2.2.1,obj b1 (.stringIter c0 (zf9 c0 b.2.1))]) (fun b=>b.1) (zcI,0,([]:List zal),r0) ⟨h,hx0⟩ rfl (za7 rfl) (zaa [0,1] kr rfl) ?_
 rintro ⟨n1,m3,acc3,rr3⟩ ⟨h,hx3⟩
 cases n1 with
 | zero=>exact zez h
 | succ n1 =>
  obtain ⟨ag1,hag1⟩:∃ ag,ag=zaT (fun _=>none) (zdR c0) n1:=⟨_,rfl⟩
  have h:zdR c0 ag1 m3=some rr3:=by rw [hag1]; exact h
  unfold zdR at h
  refine zyG ?_
  refine ze3 (b:=decide (m3<(pcs c0.data.toList).length)) (fun hb1 => ?_) (fun hb1 => ?_)
  ·
   have h:=zla hb1 h
   obtain ⟨p1,hq1,h⟩:=zbz h
   refine zfw (k:=1) (m:=m3) (p:=p1) rfl dc rfl rfl hq1 (zaE rfl dc rfl rfl (zyN (zaP (zcd rfl (zaq (zaF (zaB ?_)))))))
   obtain ⟨j1,hj1,h⟩:=zbP h
   refine zaZ (β:=Int×Bool×Nat) 2 rfl (fun b=>j1 b.1 b.2.1=some rr3) (fun b=>[]) (fun b=>[(0,.func (.yield l) #[] #[]),(1,zP b_c0),(5,zP b.2.2),(7,zP b1)]) (fun b=>[I acc3,cells b.2.2 [zI (p1.i:Int),zI b.1,.int .i32 (p1.r:Int),.bool b.2.1] 95,obj b1 (.stringIter c0 (zf9 c0 (m3+1)))]) (fun cut => ?_) ?_
   ·
    refine zyG (zaE rfl dc rfl rfl (zaE rfl dc rfl rfl (zyR 2 rfl (zyH (zyR 2 rfl (zdd rfl dc rfl (zcW underlying21 underlying9) (zcN rfl dc rfl underlying9 ?_)))))))
    refine zyR 1 rfl ?_
    refine zb8 (v:=.agg #[zI (p1.i:Int),zI ((Utf8.encode (p1.r:Int)).size:Int),.int .i32 (p1.r:Int),.bool false]) (ps:=[(0,.tmp 12),(1,.tmp 15),(2,.tmp 16)]) rfl dc rfl (fun _=>by kernel_rfl) ?_
    refine za6 zkD rfl dc (fun b3 => ?_)
    refine za4 (k:=2) (vs:=[zI (p1.i:Int),zI ((Utf8.encode (p1.r:Int)).size:Int),.int .i32 (p1.r:Int),.bool false]) (l':=[zI (p1.i:Int),zI ((Utf8.encode (p1.r:Int)).size:Int),.int .i32 (p1.r:Int),.bool false]) zfN rfl rfl rfl rfl rfl (show _≤_ by simp) rfl rfl (zyN (cut (zyG (zyR 1 rfl (zaU rfl zbi (zyR 1 rfl ?_))))))
    refine zyS (s:=20) rfl h (fun h => ?_) (fun h => ?_)
    ·
     refine zjk (i:=0) hRo zfn rfl dc rfl rfl rfl (zyR 1 rfl ?_)
     obtain ⟨hg1,h⟩:=zb7 h
     refine zb4 rfl dc rfl rfl rfl (za3 (i:=(p1.i:Int)) (j:=(c0.size:Int)) underlying9 (.inr rfl) (.inl ⟨rfl,rfl⟩) hg1) ?_
     obtain ⟨r1,hq2,h⟩:=zbz h
     refine zaK (v:=.bool r1) (vs:=[.string (zco c0 (p1.i:Int) (c0.size:Int)),.string (⟨#[239,191,189]⟩:zBA)]) rfl dc rfl rfl rfl zyt (zhZ hq2) (zg6 rfl dc rfl ze4 (zyR 1 rfl (zyN ?_)))
     refine zyB rfl h (fun h => ?_) (fun h => ?_)
     ·
      refine zap (zag zg1 rfl dc rfl (show _=1 from rfl) ?_)
      refine zaQ (k:=2) (l':=[zI (p1.i:Int),zI 1,.int .i32 (p1.r:Int),.bool false]) zik rfl rfl rfl rfl rfl (fun _ _=>rfl) rfl ?_
      refine zag zoT rfl dc rfl (show _=3 from rfl) ?_
      refine zaQ (k:=2) (l':=[zI (p1.i:Int),zI 1,.int .i32 (p1.r:Int),.bool true]) zrq rfl rfl rfl rfl rfl (fun _ _=>rfl) rfl ?_
      refine zaC ?_
      exact zai (1,true,b3) h rfl (za7 rfl) (zaa [0,2,1] kr rfl)
     refine zaq ?_
     exact zai (((Utf8.encode (p1.r:Int)).size:Int),false,b3) h rfl (za7 rfl) (zaa [0,2,1] kr rfl)
    refine zyR 6 rfl (zyN (zaY rfl (zaq ?_)))
    exact zai (((Utf8.encode (p1.r:Int)).size:Int),false,b3) h rfl (za7 rfl) (zaa [0,2,1] kr rfl)
   rintro ⟨p2,p3,b2⟩ h
   rw [hj1] at h
   refine zyG (zyR 1 rfl (zbT (k:=1) (cs:=[zI (p1.i:Int),zI p2,.int .i32 (p1.r:Int),.bool p3]) zgW rfl dc rfl rfl rfl rfl ?_))
   obtain ⟨rr4,hr1,h⟩:=zqV h
   have hx4:xs=acc3++(⟨(p1.i:Int),p2,(p1.r:Int),p3⟩:zal)::rr4:=by rw [hx3,hr1]
   refine zhY hy rfl dc rfl hx4 rfl (k:=0) rfl ?_ ?_
   ·
    have hx5:xs=(acc3++[(⟨(p1.i:Int),p2,(p1.r:Int),p3⟩:zal)])++rr4:=by rw [hx4]; simp
    refine zg6 rfl dc rfl ze4 (zyN (zaY rfl (zaq (zad ?_))))
    subst hag1
    exact zbs (n1,m3+1,acc3++[(⟨(p1.i:Int),p2,(p1.r:Int),p3⟩:zal)],rr4) ⟨h,hx5⟩ (Nat.lt_succ_self _) rfl (za7 rfl) (zaa [0,2] kr rfl)
   refine zg6 rfl dc rfl ze4 (zyN (zcd rfl (zaD (zam (zaj (zam ?_))))))
   exact zjT (ds:=[]) acc3 (⟨(p1.i:Int),p2,(p1.r:Int),p3⟩:zal) rr4 hx4 (.inl rfl) Splits.nil results97 (zaa [0] kr rfl)
  have h:=zlb hb1 h
  refine zfx (k:=1) (m:=m3) rfl dc rfl rfl (Nat.le_of_not_lt (of_decide_eq_false hb1)) (zaE rfl dc rfl rfl (zyN (zaP (zaY rfl (zbA (zao (zao (zaH ?_))))))))
  cases h
  exact zlj (ds:=[]) (.inr rfl) Splits.nil results97 (congrArg I (hx3.trans (List.append_nil _))) (zaa [0] kr rfl)
def zgx (s1:zBA):Option zBA := some s1
theorem zlc {s1:zBA} {r:zBA} (h:zgx s1=some r):Fn prog 89 [.string s1] [] (fun v0:Nat=>.func (.func 97) #[] #[zP v0]) (fun v0=>[cells v0 [.string r] 9]):=by
 unfold zgx at h
 refine Fn.intro func89 rfl ntmps89 (by simp) ?_
 intro w0 K
 refine zyG ?_
 refine zea rfl dc rfl (fun b1 => ?_)
 refine zyR 1 rfl (zyH (zf7 (x1:=[]) (x2:=[.tmp 1]) rfl dc rfl rfl (zyR 1 rfl (zyN (zaD ?_)))))
 cases h
 exact zch (rs:=[.tmp 2]) b1 (.inl rfl) results89 (.cons (.tmp rfl) .nil) rfl (zaa [0] kr rfl)
def zeS (r1:Int) (x1:Bool) (x2:zBA):Option zBA := zat ((r1:Int)==223) ( some (⟨#[83,83]⟩:zBA)
) ( grd (I32 r1) <| some (Utf8.encode (zrh r1))
)
theorem zh3 {r1:Int} {x1:Bool} {x2:zBA} {r:zBA} (h:zeS r1 x1 x2=some r):FnP prog 69 [.int .i32 r1,.bool x1,.string x2] (.string r):=by
 unfold zeS at h
 refine FnP.intro func69 rfl ntmps69 (by simp) ?_
 intro w0 K
 refine zyG (zyR 1 rfl (zyN (zaP (zyG (zyR 1 rfl (zaU rfl zbi (zyN ?_)))))))
 refine zyB rfl h (fun h => ?_) (fun h => ?_)
 ·
  refine zyG (zyR 1 rfl (zyN (zaD (zaj ?_))))
  cases h
  exact za1 6 results69
 refine zaq (zaF (zyG (zyR 1 rfl ?_)))
 obtain ⟨hg1,h⟩:=zb7 h
 refine zaK (v:=.int .i32 (zrh r1)) (vs:=[.int .i32 r1]) rfl dc rfl rfl rfl zyL (zdn fun w=>zrg r1 w hg1.1 hg1.2) ?_
 refine zdd rfl dc rfl (zcW underlying21 underlying9) (zyR 1 rfl (zyN (zaD ?_)))
 cases h
 exact za1 6 results69
def zcA (s1:zBA) (x1:zal) (ag1:zBA→Bool→Option zBA) (b10:zBA) (led3:Bool):Option zBA := zbB (fun (j2:zBA→Option zBA) => grd (I64 (x1.At+x1.Width)) <| grd (I32 x1.Rune) <| zat (((zbx x1.Broken x1.Rune):Int)==1) ( grd (0≤(x1.At+x1.Width:Int)∧(x1.At+x1.Width:Int)≤(s1.size:Int)∧((s1.size:Int):Int)≤(s1.size:Int)) <| zak (zeS x1.Rune led3 (zco s1 (x1.At+x1.Width) (s1.size:Int))) fun (r2:zBA) => grd (b10.size+r2.size≤140737488355328) <| j2 (b10++r2)
) ( grd (0≤(x1.At:Int)∧(x1.At:Int)≤(x1.At+x1.Width)∧(x1.At+x1.Width:Int)≤(s1.size:Int)) <| grd (b10.size+(zco s1 x1.At (x1.At+x1.Width)).size≤140737488355328) <| j2 (b10++(zco s1 x1.At (x1.At+x1.Width)))
)
) (fun (b12:zBA) => zat (((zbx x1.Broken x1.Rune):Int) != 2) ( ag1 b12 (((zbx x1.Broken x1.Rune):Int)==1)
) ( ag1 b12 led3
)
)
def zdQ (s1:zBA):Option zBA := zbB (fun (j1:zBA→Option zBA) => zak (zgx s1) fun (r1:zBA) => zak (zfK r1) fun (its1:(List zal)) => zbB (fun (dn1:zBA→Bool→Option zBA) => zcH dn1 (zcA s1) its1 (⟨#[]⟩:zBA) false
) (fun (b10:zBA) (led3:Bool) => j1 b10
)
) (fun (b2:zBA) => some b2
)
theorem zgw {s1:zBA} {r:zBA} (h:zdQ s1=some r):FnP prog 68 [.string s1,.func (.func 69) #[] #[]] (.string r):=by
 unfold zdQ at h
 refine FnP.intro func68 rfl ntmps68 (by simp) ?_
 intro w0 K
 refine zgr ?_
 obtain ⟨j1,hj1,h⟩:=zbP h
 refine zaZ (β:=zBA×Nat×(List Nat)) 3 rfl (fun b=>j1 b.1=some r) (fun b=>ze8 b.2.2) (fun b=>[(5,zP b.2.1)]) (fun b=>[zt5 b.2.1 b.1,zfG ((b.2.2:List Nat).map zfr)]) (fun cut => ?_) ?_
 ·
  refine zyG ?_
  refine zea rfl dc rfl (fun b3 => ?_)
  refine zea rfl dc rfl (fun b4 => ?_)
  refine zyR 1 rfl (zyH ?_)
  refine za6 zxW rfl dc (fun b5 => ?_)
  refine zmi (k:=3) rfl zq9 ?_
  refine zyH ?_
  refine za6 zx1 rfl dc (fun b6 => ?_)
  refine zaQ (k:=4) (l':=[.bool false]) zrq rfl rfl rfl rfl rfl (fun _ _=>rfl) rfl ?_
  refine zyN (cut (zyG (zan (k:=1) zfn rfl dc rfl rfl rfl ?_)))
  obtain ⟨r1,hq1,h⟩:=zbz h
  refine zb6 (vs:=[.string s1]) rfl dc rfl rfl rfl zyw (zlc hq1) Splits.nil ?_
  rintro b7
  refine zyN (zaB ?_)
  obtain ⟨its1,hq2,h⟩:=zbz h
  obtain ⟨dn1,hdn1,h⟩:=zbP h
  refine zhb (α:=zal) (β:=zBA×Bool) (γ:=Unit) (δ:=Nat) (ps:=[12]) Ro.nil rfl zyu (zjc hq2) (fun pre b=>∀ post,its1=pre++post→zcH dn1 (zcA s1) post b.1 b.2=some r) (fun pre b=>[cells b3 [.string s1] 9,cells b4 [.func (.func 69) #[] #[]] 121,zt5 b5 b.1,cells b6 [.bool b.2] 4]) (fun c pre g=>False) (fun c pre g=>[]) (fun pre x b j=>[(2,zP b3),(3,zP b4),(4,.string (⟨#[]⟩:zBA)),(5,zP b5),(6,zP b6),(11,.func (.func 97) #[] #[zP b7]),(7,zP j)]) (fun pre x b j=>[cells b3 [.string s1] 9,cells b4 [.func (.func 69) #[] #[]] 121,zt5 b5 b.1,cells b6 [.bool b.2] 4,cells j (zr0 x) 95]) ((⟨#[]⟩:zBA),false) (fun post e=>by rw [List.nil_append] at e; subst e; exact h) (zaa [1,2,3,4] kr rfl) ⟨.inl ⟨5,rfl⟩,trivial⟩ (fun _=>rfl) dc ?_ ?_ ?_ ?_
  ·
   rintro lp rc pre x1 post ⟨b10,led3⟩ w1 K1 hxs1 hext hro hinv
   refine zap ?_
   refine za6 zkD rfl dc (fun b11 => ?_)
   refine za4 (k:=4) (vs:=(zr0 x1)) (l':=(zr0 x1)) zfN rfl rfl rfl rfl rfl (show _≤_ by simp) rfl rfl ?_
   refine zaC ?_
   exact fun a w ha hw=>⟨b11,(za7 rfl) _ _ _ ha,hw.weaken (zaa [0,1,2,3,4] kr rfl)⟩
  ·
   rintro lp rc pre x1 post1 ⟨b10,led3⟩ jb1 w1 K1 hxs1 hext hro hinv
   have h:=hinv (x1::post1) hxs1
   obtain ⟨ag1,hag1⟩:∃ ag,ag=zcH dn1 (zcA s1) post1:=⟨_,rfl⟩
   have h:zcA s1 x1 ag1 b10 led3=some r:=by have h2:=h; rw [zcr,← hag1] at h2; exact h2
   unfold zcA at h
   refine zaB ?_
   obtain ⟨j2,hj2,h⟩:=zbP h
   refine zaZ (β:=zBA) 2 rfl (fun b=>j2 b=some r) (fun b=>[]) (fun b=>[(2,zP b3),(3,zP b4),(4,.string (⟨#[]⟩:zBA)),(5,zP b5),(6,zP b6),(9,zI (zbx x1.Broken x1.Rune)),(11,.func (.func 97) #[] #[zP b7])]) (fun b=>[cells b3 [.string s1] 9,cells b4 [.func (.func 69) #[] #[]] 121,zt5 b5 b,cells b6 [.bool led3] 4]) (fun cut => ?_) ?_
   ·
    refine zyG (zag zdK rfl dc rfl (show _=0 from rfl) (zan (k:=4) zdV rfl dc rfl rfl rfl (zag zg1 rfl dc rfl (show _=1 from rfl) (zan (k:=4) zdV rfl dc rfl rfl rfl ?_))))
    obtain ⟨hg1,h⟩:=zb7 h
    refine zaU rfl (zbh (r:=x1.At+x1.Width) (IntWalk.i64_in _ hg1)) (zyR 1 rfl (zyH (zbT (k:=4) (cs:=(zr0 x1)) zgW rfl dc rfl rfl rfl rfl ?_)))
    obtain ⟨hg2,h⟩:=zb7 h
    refine zaK (v:=zI (zbx x1.Broken x1.Rune)) (vs:=[.agg (zr0 x1).toArray]) rfl dc rfl rfl rfl zqR (zwr x1.At x1.Width x1.Rune x1.Broken hg2.1 hg2.2) (zyR 1 rfl (zyN (cut (zyG (zyR 1 rfl (zaU rfl zbi (zyN ?_)))))))
    refine zyB rfl h (fun h => ?_) (fun h => ?_)
    ·
     obtain ⟨hg3,h⟩:=zb7 h
     obtain ⟨r2,hq3,h⟩:=zbz h
     obtain ⟨hg4,h⟩:=zb7 h
     refine zdo 7 [(0,22,.func (.func 69) #[] #[]),(1,23,.pointer (some ⟨jb1,2,none⟩)),(2,24,.int .i32 x1.Rune),(3,25,.bool led3),(4,26,.string s1),(5,27,zI (x1.At+x1.Width)),(6,28,.string (zco s1 (x1.At+x1.Width) (s1.size:Int)))] mixed kr kr dc (by rfl) kr kr (zae ?_ (zae ?_ (zae ?_ (zae ?_ (zae ?_ (zyP 1 5 rfl (zae ?_ DrawPre.nil))))))) ?_
     · exact fun D n d c u i=>zan (k:=1) zw0 rfl dc (zba (by rfl) rfl) rfl rfl (zaJ 0 u i)
     · exact fun D n d c u i=>zag zgu rfl dc (zba (by rfl) rfl) (show _=2 from rfl) (zaJ 1 u i)
     · exact fun D n d c u i=>zan (k:=4) zfo rfl dc (zaX 1 u d) rfl rfl (zaJ 2 u i)
     · exact fun D n d c u i=>zan (k:=3) zwq rfl dc (zba (by rfl) rfl) rfl rfl (zaJ 3 u i)
     · exact fun D n d c u i=>zan (k:=0) zfn rfl dc (zba (by rfl) rfl) rfl rfl (zaJ 4 u i)
     · exact fun D n d c u i=>zb4 rfl dc (zaX 4 u d) (evO.some (zaX 5 u d)) zpN (za3 (i:=x1.At+x1.Width) (j:=(s1.size:Int)) underlying9 (.inr rfl) (.inl ⟨rfl,rfl⟩) hg3) (zaJ 6 u i)
     refine zaK (v:=.string r2) (vs:=[.int .i32 x1.Rune,.bool led3,.string (zco s1 (x1.At+x1.Width) (s1.size:Int))]) rfl dc rfl rfl rfl zyM (zh3 hq3) (zb6 (vs:=[zP b5,.string r2]) rfl dc rfl rfl rfl zxp (zrc b5 b10 r2 hg4) (zaa [2] kr rfl) ?_)
     rintro u1
     refine zaC ?_
     exact zai (b10++r2) h rfl (za7 rfl) (zaa [0,1,5,3] kr rfl)
    refine zap (zan (k:=0) zfn rfl dc rfl rfl rfl (zag zdK rfl dc rfl (show _=0 from rfl) (zan (k:=4) zdV rfl dc rfl rfl rfl (zyR 1 rfl ?_))))
    obtain ⟨hg5,h⟩:=zb7 h
    refine zb4 rfl dc rfl rfl rfl (za3 (i:=x1.At) (j:=x1.At+x1.Width) underlying9 (.inr rfl) (.inr rfl) hg5) ?_
    obtain ⟨hg6,h⟩:=zb7 h
    refine zb6 (vs:=[zP b5,.string (zco s1 x1.At (x1.At+x1.Width))]) rfl dc rfl rfl rfl zxp (zrc b5 b10 (zco s1 x1.At (x1.At+x1.Width)) hg6) (zaa [2] kr rfl) ?_
    rintro u2
    refine zaC ?_
    exact zai (b10++(zco s1 x1.At (x1.At+x1.Width))) h rfl (za7 rfl) (zaa [0,1,5,3] kr rfl)
   rintro b12 h
   rw [hj2] at h
   refine zyG (zyR 1 rfl (zaU rfl zeH (zyN ?_)))
   refine zyB rfl h (fun h => ?_) (fun h => ?_)
   ·
    refine zap (zyR 1 rfl (zaU rfl zbi ?_))
    refine zaQ (k:=3) (l':=[.bool (((zbx x1.Broken x1.Rune):Int)==1)]) zrq rfl rfl rfl rfl rfl (fun _ _=>rfl) rfl ?_
    refine zaC (zad ?_)
    exact zcK (b12,((zbx x1.Broken x1.Rune):Int)==1) (fun post2 e2=>by have e9:=zca hxs1 e2; subst e9; subst hag1; exact h) (zaa [0,1,2,3] kr rfl)
   refine zaq (zad ?_)
   exact zcK (b12,led3) (fun post2 e2=>by have e9:=zca hxs1 e2; subst e9; subst hag1; exact h) (zaa [0,1,2,3] kr rfl)
  ·
   rintro dm1 ⟨b10,led3⟩ hinv
   have h:dn1 b10 led3=some r:=hinv [] (List.append_nil _).symm
   rw [hdn1] at h
   show TX _ _ _ _ _ _ _ [zfG ((([]:List Nat):List Nat).map zfr),emp,emp,emp,emp,cells b7 [.string r1] 9,cells b3 [.string s1] 9,cells b4 [.func (.func 69) #[] #[]] 121,zt5 b5 b10,cells b6 [.bool led3] 4,zfr dm1]
   refine zes (k:=10) (j:=0) rfl rfl dc ?_
   refine zad ?_
   exact zai (b10,b5,dm1::([]:List Nat)) h rfl (za7 rfl) (zaa [8,0] kr rfl)
  rintro dm1 c pre x1 post g hxs hX
  exact (show False from hX).elim
 rintro ⟨b2,b1,ds1⟩ h
 rw [hj1] at h
 refine zyG (zb6 (vs:=[zP b1]) rfl dc rfl rfl rfl zzc (zvV b1 b2) (zaa [0] kr rfl) ?_)
 rintro _
 refine zyR 1 rfl (zyN (zaD ?_))
 cases h
 exact zfL (rs:=[.tmp 4]) ds1 () (.inl rfl) (zcS (k:=1) rfl) results68 (.cons (.tmp rfl) .nil) rfl Splits.nil
def zfv (s1:zBA):Option zBA := zak (zdQ s1) fun (r1:zBA) => some r1
theorem zjd {s1:zBA} {r:zBA} (h:zfv s1=some r):FnP prog 40 [.string s1] (.string r):=by
 unfold zfv at h
 refine FnP.intro func40 rfl ntmps40 (by simp) ?_
 intro w0 K
 refine zyG (zyR 1 rfl (zyH (zyR 1 rfl ?_)))
 obtain ⟨r1,hq1,h⟩:=zbz h
 refine zaK (v:=.string r1) (vs:=[.string s1,.func (.func 69) #[] #[]]) rfl dc rfl rfl rfl zyT (zgw hq1) (zyR 1 rfl (zyN (zaD ?_)))
 cases h
 exact za1 2 results40
def zdN (a1:zab) (b1:zab):Option Int := grd (I64 (a1.sort - b1.sort)) <| grd (I64 (a1.place - b1.place)) <| grd (I64 ((a1.digits.size:Int) - (b1.digits.size:Int))) <| zak (zfh ([a1.sort - b1.sort,a1.place - b1.place,(a1.digits.size:Int) - (b1.digits.size:Int),Lib.compareBytes a1.digits.data.toList b1.digits.data.toList]:List Int)) fun (r1:Int) => some r1
theorem zki {a1:zab} {b1:zab} {r:Int} (h:zdN a1 b1=some r):FnP prog 26 [.agg (zr1 a1).toArray,.agg (zr1 b1).toArray] (zI r):=by
 unfold zdN at h
 refine FnP.intro func26 rfl ntmps26 (by simp) ?_
 intro w0 K
 refine zyG ?_
 refine zea rfl dc rfl (fun b2 => ?_)
 refine zea rfl dc rfl (fun b3 => ?_)
 refine zyR 1 rfl (zyN (zaP ?_))
 obtain ⟨hg1,h⟩:=zb7 h
 obtain ⟨hg2,h⟩:=zb7 h
 obtain ⟨hg3,h⟩:=zb7 h
 obtain ⟨r1,hq1,h⟩:=zbz h
 refine zdo 22 [(0,5,zP b2),(1,6,zI a1.sort),(2,7,zP b3),(3,8,zI b1.sort),(4,9,zI (a1.sort - b1.sort)),(5,10,.pointer (some ⟨b2,1,none⟩)),(6,11,zI a1.place),(7,12,.pointer (some ⟨b3,1,none⟩)),(8,13,zI b1.place),(9,14,zI (a1.place - b1.place)),(10,15,.pointer (some ⟨b2,2,none⟩)),(11,16,.string a1.digits),(12,17,zI (a1.digits.size:Int)),(13,18,.pointer (some ⟨b3,2,none⟩)),(14,19,.string b1.digits),(15,20,zI (b1.digits.size:Int)),(16,21,zI ((a1.digits.size:Int) - (b1.digits.size:Int))),(17,22,.pointer (some ⟨b2,2,none⟩)),(18,23,.string a1.digits),(19,24,.pointer (some ⟨b3,2,none⟩)),(20,25,.string b1.digits),(21,26,zI (Lib.compareBytes a1.digits.data.toList b1.digits.data.toList))] mixed kr kr dc (by rfl) kr kr (zae ?_ (zae ?_ (zae ?_ (zae ?_ (zae ?_ (zae ?_ (zae ?_ (zae ?_ (zae ?_ (zae ?_ (zae ?_ (zae ?_ (zae ?_ (zae ?_ (zae ?_ (zae ?_ (zae ?_ (zae ?_ (zae ?_ (zae ?_ (zae ?_ (zae ?_ DrawPre.nil)))))))))))))))))))))) ?_
 · exact fun D n d c u i=>zag zoX rfl dc (zba (by rfl) rfl) (show _=0 from rfl) (zaJ 0 u i)
 · exact fun D n d c u i=>zan (k:=0) zdV rfl dc (zaX 0 u d) rfl rfl (zaJ 1 u i)
 · exact fun D n d c u i=>zag zoX rfl dc (zba (by rfl) rfl) (show _=0 from rfl) (zaJ 2 u i)
 · exact fun D n d c u i=>zan (k:=1) zdV rfl dc (zaX 2 u d) rfl rfl (zaJ 3 u i)
 · exact fun D n d c u i=>zhK rfl dc (zaX 1 u d) (zaX 3 u d) (zg5 (r:=a1.sort - b1.sort) (IntWalk.i64_in _ hg1)) (zaJ 4 u i)
 · exact fun D n d c u i=>zag zoW rfl dc (zba (by rfl) rfl) (show _=1 from rfl) (zaJ 5 u i)
 · exact fun D n d c u i=>zan (k:=0) zdV rfl dc (zaX 5 u d) rfl rfl (zaJ 6 u i)
 · exact fun D n d c u i=>zag zoW rfl dc (zba (by rfl) rfl) (show _=1 from rfl) (zaJ 7 u i)
 · exact fun D n d c u i=>zan (k:=1) zdV rfl dc (zaX 7 u d) rfl rfl (zaJ 8 u i)
 · exact fun D n d c u i=>zhK rfl dc (zaX 6 u d) (zaX 8 u d) (zg5 (r:=a1.place - b1.place) (IntWalk.i64_in _ hg2)) (zaJ 9 u i)
 · exact fun D n d c u i=>zag zmS rfl dc (zba (by rfl) rfl) (show _=2 from rfl) (zaJ 10 u i)
 · exact fun D n d c u i=>zan (k:=0) zfn rfl dc (zaX 10 u d) rfl rfl (zaJ 11 u i)
 · exact fun D n d c u i=>zcN rfl dc (zaX 11 u d) underlying9 (zaJ 12 u i)
 · exact fun D n d c u i=>zag zmS rfl dc (zba (by rfl) rfl) (show _=2 from rfl) (zaJ 13 u i)
 · exact fun D n d c u i=>zan (k:=1) zfn rfl dc (zaX 13 u d) rfl rfl (zaJ 14 u i)
 · exact fun D n d c u i=>zcN rfl dc (zaX 14 u d) underlying9 (zaJ 15 u i)
 · exact fun D n d c u i=>zhK rfl dc (zaX 12 u d) (zaX 15 u d) (zg5 (r:=(a1.digits.size:Int) - (b1.digits.size:Int)) (IntWalk.i64_in _ hg3)) (zaJ 16 u i)
 · exact fun D n d c u i=>zag zmS rfl dc (zba (by rfl) rfl) (show _=2 from rfl) (zaJ 17 u i)
 · exact fun D n d c u i=>zan (k:=0) zfn rfl dc (zaX 17 u d) rfl rfl (zaJ 18 u i)
 · exact fun D n d c u i=>zag zmS rfl dc (zba (by rfl) rfl) (show _=2 from rfl) (zaJ 19 u i)
 · exact fun D n d c u i=>zan (k:=1) zfn rfl dc (zaX 19 u d) rfl rfl (zaJ 20 u i)
 · exact fun D n d c u i=>zaK (v:=zI (Lib.compareBytes a1.digits.data.toList b1.digits.data.toList)) (vs:=[.string a1.digits,.string b1.digits]) rfl dc rfl (evL.cons (zaX 18 u d) (evL.cons (zaX 20 u d) evL.nil)) rfl zvC (zry a1.digits b1.digits) (zaJ 21 u i)
 refine za0 (cs:=[zI (a1.sort - b1.sort),zI (a1.place - b1.place),zI ((a1.digits.size:Int) - (b1.digits.size:Int)),zI (Lib.compareBytes a1.digits.data.toList b1.digits.data.toList)]) (te:=3) (ps:=[(0,.tmp 9),(1,.tmp 14),(2,.tmp 21),(3,.tmp 26)]) rfl dc rfl (fun _=>by kernel_rfl) (fun b4 => ?_)
 refine zgq ([a1.sort - b1.sort,a1.place - b1.place,(a1.digits.size:Int) - (b1.digits.size:Int),Lib.compareBytes a1.digits.data.toList b1.digits.data.toList]:List Int) (k:=2) rfl zc9 rfl (show 4≤maxLen by decide) ?_
 refine zee (k:=2) rfl (fun hw1 => ?_)
 refine zeu (v:=zI r1) (vs:=[.slice (some ⟨b4,0,none⟩) 4 4]) (Rd.nil:Rd _ _ []) rfl dc rfl rfl rfl zy2 (zlE hw1 hq1) (.own (As:=[vec (zkd (.i64)) 3 1 (.slice (some ⟨b4,0,none⟩) 4 4) ([a1.sort - b1.sort,a1.place - b1.place,(a1.digits.size:Int) - (b1.digits.size:Int),Lib.compareBytes a1.digits.data.toList b1.digits.data.toList]:List Int)]) (zaa [2] kr rfl) (fun _ _ h=>zd5 zc9 (sepL.one1.1 h)) .nil) ?_
 refine zyR 1 rfl (zyN (zaD ?_))
 cases h
 exact za1 4 results26
def zc2 (p1:zab) (q1:zab):Option Int := some (Lib.compareBytes p1.marks.data.toList q1.marks.data.toList)
theorem zgd {p1:zab} {q1:zab} {r:Int} (h:zc2 p1 q1=some r):FnP prog 27 [.agg (zr1 p1).toArray,.agg (zr1 q1).toArray] (zI r):=by
 unfold zc2 at h
 refine FnP.intro func27 rfl ntmps27 (by simp) ?_
 intro w0 K
 refine zyG ?_
 refine zea rfl dc rfl (fun b1 => ?_)
 refine zea rfl dc rfl (fun b2 => ?_)
 refine zyR 1 rfl (zyH (zag zoV rfl dc rfl (show _=3 from rfl) (zan (k:=0) zfn rfl dc rfl rfl rfl (zag zoV rfl dc rfl (show _=3 from rfl) (zan (k:=1) zfn rfl dc rfl rfl rfl (zaK (v:=zI (Lib.compareBytes p1.marks.data.toList q1.marks.data.toList)) (vs:=[.string p1.marks,.string q1.marks]) rfl dc rfl rfl rfl zvC (zry p1.marks q1.marks) (zyR 1 rfl (zyN (zaD ?_)))))))))
 cases h
 exact za1 4 results27
def zc1 (p1:zab) (q1:zab):Option Int := grd (I64 (p1.great - q1.great)) <| some (p1.great - q1.great)
theorem zgc {p1:zab} {q1:zab} {r:Int} (h:zc1 p1 q1=some r):FnP prog 29 [.agg (zr1 p1).toArray,.agg (zr1 q1).toArray] (zI r):=by
 unfold zc1 at h
 refine FnP.intro func29 rfl ntmps29 (by simp) ?_
 intro w0 K
 refine zyG ?_
 refine zea rfl dc rfl (fun b1 => ?_)
 refine zea rfl dc rfl (fun b2 => ?_)
 refine zyR 1 rfl (zyH (zag zsk rfl dc rfl (show _=4 from rfl) (zan (k:=0) zdV rfl dc rfl rfl rfl (zag zsk rfl dc rfl (show _=4 from rfl) (zan (k:=1) zdV rfl dc rfl rfl rfl ?_)))))
 obtain ⟨hg1,h⟩:=zb7 h
 refine zaU rfl (zg5 (r:=p1.great - q1.great) (IntWalk.i64_in _ hg1)) (zyR 1 rfl (zyN (zaD ?_)))
 cases h
 exact za1 4 results29
def zdB (n1:Int):Option Int := zak (zec n1 0) fun (r1:Int) => some r1
theorem zf3 {n1:Int} {r:Int} (h:zdB n1=some r):FnP prog 31 [zI n1] (zI r):=by
 unfold zdB at h
 refine FnP.intro func31 rfl ntmps31 (by simp) ?_
 intro w0 K
 refine zyG (zyR 1 rfl (zyH (zyR 1 rfl ?_)))
 obtain ⟨r1,hq1,h⟩:=zbz h
 refine zaK (v:=zI r1) (vs:=[zI n1,zI 0]) rfl dc rfl rfl rfl zy1 (ziw hq1) (zyR 1 rfl (zyN (zaD ?_)))
 cases h
 exact za1 2 results31
def zav (s1x1:List zab) (s2x1:List zab) (j1:Option Int) (ag1:Int→Option Int) (x3:Int):Option Int := zat (decide ((x3:Int)<(s1x1.length:Int))) ( zak (zd6 s1x1 x3) fun (q1:zab) => zat (decide (((s2x1.length:Int):Int)≤x3)) ( some 1
) ( zak (zd6 s2x1 x3) fun (q2:zab) => zak (zdN q1 q2) fun (r1:Int) => zat ((r1:Int) != 0) ( some r1
) ( grd (I64 (x3+1)) <| ag1 (x3+1)
)
)
) ( j1
)
def zaw (s1x1:List zab) (s2x1:List zab):Option Int := zbB (fun (j1:Option Int) => zaT (fun _=>none) (zav s1x1 s2x1 j1) zcI 0
) ( zat (decide (((s1x1.length:Int):Int)<(s2x1.length:Int))) ( some (-1)
) ( some 0
)
)
theorem zbt {vvs1x1 vs1x1:Value} {Ls1x1:List zab} {ks1x1:Nat} {s1x1:List zab} (hws1x1:Vw vvs1x1 Ls1x1 5 ks1x1 vs1x1 s1x1) {vvs2x1 vs2x1:Value} {Ls2x1:List zab} {ks2x1:Nat} {s2x1:List zab} (hws2x1:Vw vvs2x1 Ls2x1 5 ks2x1 vs2x1 s2x1) {r:Int} (h:zaw s1x1 s2x1=some r):FnR prog 30 [vs1x1,vs2x1,.func (.func 26) #[] #[]] [zeQ zbk 5 vvs1x1 ks1x1 Ls1x1,zeQ zbk 5 vvs2x1 ks2x1 Ls2x1] [] (fun _:Unit=>(zI r)) (fun _=>[]):=by
 unfold zaw at h
 refine FnR.intro func30 rfl ntmps30 (by simp) ?_
 intro w0 K hrd
 obtain ⟨j1,hj1,h⟩:=zbP h
 refine zaZ (β:=Unit) 1 rfl (fun b=>j1=some r) (fun b=>[]) (fun b=>[(0,vs1x1),(1,vs2x1)]) (fun b=>[]) (fun cut => ?_) ?_
 ·
  refine zyG (zyR 1 rfl (zyN (cut (zyG (zyR 1 rfl (zck hws1x1 rfl dc rfl underlying62 (zyR 1 rfl (zyN (zaB ?_)))))))))
  refine zbN (β:=Nat×Int) (fun b=>zaT (fun _=>none) (zav s1x1 s2x1 j1) b.1 b.2=some r) (fun b=>[]) (fun b=>[(0,vs1x1),(1,vs2x1),(2,.func (.func 26) #[] #[]),(11,vs1x1),(12,zI (s1x1.length:Int)),(13,zI b.2)]) (fun b=>[]) (fun b=>b.1) (zcI,0) h rfl (za7 rfl) Splits.nil ?_
  rintro ⟨n1,x3⟩ h
  cases n1 with
  | zero=>exact zez h
  | succ n1 =>
   obtain ⟨ag1,hag1⟩:∃ ag,ag=zaT (fun _=>none) (zav s1x1 s2x1 j1) n1:=⟨_,rfl⟩
   have h:zav s1x1 s2x1 j1 ag1 x3=some r:=by rw [hag1]; exact h
   unfold zav at h
   refine zyG (zaU rfl zbE (zyN (zaP ?_)))
   refine zyB rfl h (fun h => ?_) (fun h => ?_)
   ·
    refine zaq (zaF (zaP (zaB (zyG (zyR 1 rfl ?_)))))
    obtain ⟨q1,hq1,h⟩:=zbz h
    refine zbd hws1x1 hq1 underlying62 zii rfl dc rfl rfl rfl (zcD (m:=ks1x1+(x3:Int).toNat) (j:=0) (i:=0) (q:=q1) (cs:=(zr1 q1)) hrd rfl (by omega) ziM rfl dc rfl (Vw.get hws1x1 hq1) rfl rfl rfl ?_)
    refine za6 zon rfl dc (fun b1 => ?_)
    refine zyR 1 rfl (za4 (k:=0) (vs:=(zr1 q1)) (l':=(zr1 q1)) zii rfl rfl rfl rfl rfl (show _≤_ by simp) rfl rfl ?_)
    refine zyN (zaP (zyG (zyR 2 rfl (zck hws2x1 rfl dc rfl underlying62 (zaU rfl zbF (zyN ?_))))))
    refine zyB rfl h (fun h => ?_) (fun h => ?_)
    ·
     refine zyG (zyR 1 rfl (zyN (zaD (zaj (zam (zaj (zaj (zam (zaj ?_)))))))))
     cases h
     exact za1 6 results30
    refine zaq (zaF (zyG (zyR 2 rfl ?_)))
    obtain ⟨q2,hq2,h⟩:=zbz h
    refine zbd hws2x1 hq2 underlying62 zii rfl dc rfl rfl rfl (zcD (m:=ks2x1+(x3:Int).toNat) (j:=0) (i:=1) (q:=q2) (cs:=(zr1 q2)) hrd rfl (by omega) ziM rfl dc rfl (Vw.get hws2x1 hq2) rfl rfl rfl ?_)
    refine za6 zon rfl dc (fun b2 => ?_)
    refine za4 (k:=1) (vs:=(zr1 q2)) (l':=(zr1 q2)) zii rfl rfl rfl rfl rfl (show _≤_ by simp) rfl rfl ?_
    refine zyH (zyR 1 rfl (zbT (k:=0) (cs:=(zr1 q1)) ziM rfl dc rfl rfl rfl rfl (zbT (k:=1) (cs:=(zr1 q2)) ziM rfl dc rfl rfl rfl rfl ?_)))
    obtain ⟨r1,hq3,h⟩:=zbz h
    refine zaK (v:=zI r1) (vs:=[.agg (zr1 q1).toArray,.agg (zr1 q2).toArray]) rfl dc rfl rfl rfl zzg (zki (a1:=q1) (b1:=q2) hq3) (zyR 1 rfl (zyH (zyR 1 rfl (zaU rfl zeH (zyN ?_)))))
    refine zyB rfl h (fun h => ?_) (fun h => ?_)
    ·
     refine zyG (zyR 2 rfl (zyN (zaD (zam (zaj (zaj (zam (zaj ?_))))))))
     cases h
     exact za1 6 results30
    refine zaq (zad (zaF (zap ?_)))
    obtain ⟨hg1,h⟩:=zb7 h
    refine zaU rfl (zbh (r:=x3+1) (IntWalk.i64_in _ hg1)) (zyR 1 rfl (zaC ?_))
    subst hag1
    exact zbs (n1,x3+1) h (Nat.lt_succ_self _) rfl (za7 rfl) Splits.nil
   refine zbA (zao (zao (zaH ?_)))
   exact zai () h rfl (za7 rfl) Splits.nil
 rintro _ h
 rw [hj1] at h
 refine zaP (zyG (zyR 1 rfl (zck hws1x1 rfl dc rfl underlying62 (zyR 1 rfl (zck hws2x1 rfl dc rfl underlying62 (zaU rfl zbE (zyN ?_)))))))
 refine zyB rfl h (fun h => ?_) (fun h => ?_)
 ·
  refine zyG (zyR 1 rfl (zyN (zaD (zaj ?_))))
  cases h
  exact za1 6 results30
 refine zaq (zaF (zyG (zyR 1 rfl (zyN (zaD ?_)))))
 cases h
 exact za1 6 results30
def zas (s1x1:List zab) (s2x1:List zab) (j1:Option Int) (ag1:Int→Option Int) (x3:Int):Option Int := zat (decide ((x3:Int)<(s1x1.length:Int))) ( zak (zd6 s1x1 x3) fun (q1:zab) => zat (decide (((s2x1.length:Int):Int)≤x3)) ( some 1
) ( zak (zd6 s2x1 x3) fun (q2:zab) => zak (zc2 q1 q2) fun (r1:Int) => zat ((r1:Int) != 0) ( some r1
) ( grd (I64 (x3+1)) <| ag1 (x3+1)
)
)
) ( j1
)
def zaA (s1x1:List zab) (s2x1:List zab):Option Int := zbB (fun (j1:Option Int) => zaT (fun _=>none) (zas s1x1 s2x1 j1) zcI 0
) ( zat (decide (((s1x1.length:Int):Int)<(s2x1.length:Int))) ( some (-1)
) ( some 0
)
)
theorem zbm {vvs1x1 vs1x1:Value} {Ls1x1:List zab} {ks1x1:Nat} {s1x1:List zab} (hws1x1:Vw vvs1x1 Ls1x1 5 ks1x1 vs1x1 s1x1) {vvs2x1 vs2x1:Value} {Ls2x1:List zab} {ks2x1:Nat} {s2x1:List zab} (hws2x1:Vw vvs2x1 Ls2x1 5 ks2x1 vs2x1 s2x1) {r:Int} (h:zaA s1x1 s2x1=some r):FnR prog 30 [vs1x1,vs2x1,.func (.func 27) #[] #[]] [zeQ zbk 5 vvs1x1 ks1x1 Ls1x1,zeQ zbk 5 vvs2x1 ks2x1 Ls2x1] [] (fun _:Unit=>(zI r)) (fun _=>[]):=by
 unfold zaA at h
 refine FnR.intro func30 rfl ntmps30 (by simp) ?_
 intro w0 K hrd
 obtain ⟨j1,hj1,h⟩:=zbP h
 refine zaZ (β:=Unit) 1 rfl (fun b=>j1=some r) (fun b=>[]) (fun b=>[(0,vs1x1),(1,vs2x1)]) (fun b=>[]) (fun cut => ?_) ?_
 ·
  refine zyG (zyR 1 rfl (zyN (cut (zyG (zyR 1 rfl (zck hws1x1 rfl dc rfl underlying62 (zyR 1 rfl (zyN (zaB ?_)))))))))
  refine zbN (β:=Nat×Int) (fun b=>zaT (fun _=>none) (zas s1x1 s2x1 j1) b.1 b.2=some r) (fun b=>[]) (fun b=>[(0,vs1x1),(1,vs2x1),(2,.func (.func 27) #[] #[]),(11,vs1x1),(12,zI (s1x1.length:Int)),(13,zI b.2)]) (fun b=>[]) (fun b=>b.1) (zcI,0) h rfl (za7 rfl) Splits.nil ?_
  rintro ⟨n1,x3⟩ h
  cases n1 with
  | zero=>exact zez h
  | succ n1 =>
   obtain ⟨ag1,hag1⟩:∃ ag,ag=zaT (fun _=>none) (zas s1x1 s2x1 j1) n1:=⟨_,rfl⟩
   have h:zas s1x1 s2x1 j1 ag1 x3=some r:=by rw [hag1]; exact h
   unfold zas at h
   refine zyG (zaU rfl zbE (zyN (zaP ?_)))
   refine zyB rfl h (fun h => ?_) (fun h => ?_)
   ·
    refine zaq (zaF (zaP (zaB (zyG (zyR 1 rfl ?_)))))
    obtain ⟨q1,hq1,h⟩:=zbz h
    refine zbd hws1x1 hq1 underlying62 zii rfl dc rfl rfl rfl (zcD (m:=ks1x1+(x3:Int).toNat) (j:=0) (i:=0) (q:=q1) (cs:=(zr1 q1)) hrd rfl (by omega) ziM rfl dc rfl (Vw.get hws1x1 hq1) rfl rfl rfl ?_)
    refine za6 zon rfl dc (fun b1 => ?_)
    refine zyR 1 rfl (za4 (k:=0) (vs:=(zr1 q1)) (l':=(zr1 q1)) zii rfl rfl rfl rfl rfl (show _≤_ by simp) rfl rfl ?_)
    refine zyN (zaP (zyG (zyR 2 rfl (zck hws2x1 rfl dc rfl underlying62 (zaU rfl zbF (zyN ?_))))))
    refine zyB rfl h (fun h => ?_) (fun h => ?_)
    ·
     refine zyG (zyR 1 rfl (zyN (zaD (zaj (zam (zaj (zaj (zam (zaj ?_)))))))))
     cases h
     exact za1 6 results30
    refine zaq (zaF (zyG (zyR 2 rfl ?_)))
    obtain ⟨q2,hq2,h⟩:=zbz h
    refine zbd hws2x1 hq2 underlying62 zii rfl dc rfl rfl rfl (zcD (m:=ks2x1+(x3:Int).toNat) (j:=0) (i:=1) (q:=q2) (cs:=(zr1 q2)) hrd rfl (by omega) ziM rfl dc rfl (Vw.get hws2x1 hq2) rfl rfl rfl ?_)
    refine za6 zon rfl dc (fun b2 => ?_)
    refine za4 (k:=1) (vs:=(zr1 q2)) (l':=(zr1 q2)) zii rfl rfl rfl rfl rfl (show _≤_ by simp) rfl rfl ?_
    refine zyH (zyR 1 rfl (zbT (k:=0) (cs:=(zr1 q1)) ziM rfl dc rfl rfl rfl rfl (zbT (k:=1) (cs:=(zr1 q2)) ziM rfl dc rfl rfl rfl rfl ?_)))
    obtain ⟨r1,hq3,h⟩:=zbz h
    refine zaK (v:=zI r1) (vs:=[.agg (zr1 q1).toArray,.agg (zr1 q2).toArray]) rfl dc rfl rfl rfl zzf (zgd (p1:=q1) (q1:=q2) hq3) (zyR 1 rfl (zyH (zyR 1 rfl (zaU rfl zeH (zyN ?_)))))
    refine zyB rfl h (fun h => ?_) (fun h => ?_)
    ·
     refine zyG (zyR 2 rfl (zyN (zaD (zam (zaj (zaj (zam (zaj ?_))))))))
     cases h
     exact za1 6 results30
    refine zaq (zad (zaF (zap ?_)))
    obtain ⟨hg1,h⟩:=zb7 h
    refine zaU rfl (zbh (r:=x3+1) (IntWalk.i64_in _ hg1)) (zyR 1 rfl (zaC ?_))
    subst hag1
    exact zbs (n1,x3+1) h (Nat.lt_succ_self _) rfl (za7 rfl) Splits.nil
   refine zbA (zao (zao (zaH ?_)))
   exact zai () h rfl (za7 rfl) Splits.nil
 rintro _ h
 rw [hj1] at h
 refine zaP (zyG (zyR 1 rfl (zck hws1x1 rfl dc rfl underlying62 (zyR 1 rfl (zck hws2x1 rfl dc rfl underlying62 (zaU rfl zbE (zyN ?_)))))))
 refine zyB rfl h (fun h => ?_) (fun h => ?_)
 ·
  refine zyG (zyR 1 rfl (zyN (zaD (zaj ?_))))
  cases h
  exact za1 6 results30
 refine zaq (zaF (zyG (zyR 1 rfl (zyN (zaD ?_)))))
 cases h
 exact za1 6 results30
def zar (s1x1:List zab) (s2x1:List zab) (j1:Option Int) (ag1:Int→Option Int) (x3:Int):Option Int := zat (decide ((x3:Int)<(s1x1.length:Int))) ( zak (zd6 s1x1 x3) fun (q1:zab) => zat (decide (((s2x1.length:Int):Int)≤x3)) ( some 1
) ( zak (zd6 s2x1 x3) fun (q2:zab) => zak (zc1 q1 q2) fun (r1:Int) => zat ((r1:Int) != 0) ( some r1
) ( grd (I64 (x3+1)) <| ag1 (x3+1)
)
)
) ( j1
)
def zaz (s1x1:List zab) (s2x1:List zab):Option Int := zbB (fun (j1:Option Int) => zaT (fun _=>none) (zar s1x1 s2x1 j1) zcI 0
) ( zat (decide (((s1x1.length:Int):Int)<(s2x1.length:Int))) ( some (-1)
) ( some 0
)
)
theorem zbl {vvs1x1 vs1x1:Value} {Ls1x1:List zab} {ks1x1:Nat} {s1x1:List zab} (hws1x1:Vw vvs1x1 Ls1x1 5 ks1x1 vs1x1 s1x1) {vvs2x1 vs2x1:Value} {Ls2x1:List zab} {ks2x1:Nat} {s2x1:List zab} (hws2x1:Vw vvs2x1 Ls2x1 5 ks2x1 vs2x1 s2x1) {r:Int} (h:zaz s1x1 s2x1=some r):FnR prog 30 [vs1x1,vs2x1,.func (.func 29) #[] #[]] [zeQ zbk 5 vvs1x1 ks1x1 Ls1x1,zeQ zbk 5 vvs2x1 ks2x1 Ls2x1] [] (fun _:Unit=>(zI r)) (fun _=>[]):=by
 unfold zaz at h
 refine FnR.intro func30 rfl ntmps30 (by simp) ?_
 intro w0 K hrd
 obtain ⟨j1,hj1,h⟩:=zbP h
 refine zaZ (β:=Unit) 1 rfl (fun b=>j1=some r) (fun b=>[]) (fun b=>[(0,vs1x1),(1,vs2x1)]) (fun b=>[]) (fun cut => ?_) ?_
 ·
  refine zyG (zyR 1 rfl (zyN (cut (zyG (zyR 1 rfl (zck hws1x1 rfl dc rfl underlying62 (zyR 1 rfl (zyN (zaB ?_)))))))))
  refine zbN (β:=Nat×Int) (fun b=>zaT (fun _=>none) (zar s1x1 s2x1 j1) b.1 b.2=some r) (fun b=>[]) (fun b=>[(0,vs1x1),(1,vs2x1),(2,.func (.func 29) #[] #[]),(11,vs1x1),(12,zI (s1x1.length:Int)),(13,zI b.2)]) (fun b=>[]) (fun b=>b.1) (zcI,0) h rfl (za7 rfl) Splits.nil ?_
  rintro ⟨n1,x3⟩ h
  cases n1 with
  | zero=>exact zez h
  | succ n1 =>
   obtain ⟨ag1,hag1⟩:∃ ag,ag=zaT (fun _=>none) (zar s1x1 s2x1 j1) n1:=⟨_,rfl⟩
   have h:zar s1x1 s2x1 j1 ag1 x3=some r:=by rw [hag1]; exact h
   unfold zar at h
   refine zyG (zaU rfl zbE (zyN (zaP ?_)))
   refine zyB rfl h (fun h => ?_) (fun h => ?_)
   ·
    refine zaq (zaF (zaP (zaB (zyG (zyR 1 rfl ?_)))))
    obtain ⟨q1,hq1,h⟩:=zbz h
    refine zbd hws1x1 hq1 underlying62 zii rfl dc rfl rfl rfl (zcD (m:=ks1x1+(x3:Int).toNat) (j:=0) (i:=0) (q:=q1) (cs:=(zr1 q1)) hrd rfl (by omega) ziM rfl dc rfl (Vw.get hws1x1 hq1) rfl rfl rfl ?_)
    refine za6 zon rfl dc (fun b1 => ?_)
    refine zyR 1 rfl (za4 (k:=0) (vs:=(zr1 q1)) (l':=(zr1 q1)) zii rfl rfl rfl rfl rfl (show _≤_ by simp) rfl rfl ?_)
    refine zyN (zaP (zyG (zyR 2 rfl (zck hws2x1 rfl dc rfl underlying62 (zaU rfl zbF (zyN ?_))))))
    refine zyB rfl h (fun h => ?_) (fun h => ?_)
    ·
     refine zyG (zyR 1 rfl (zyN (zaD (zaj (zam (zaj (zaj (zam (zaj ?_)))))))))
     cases h
     exact za1 6 results30
    refine zaq (zaF (zyG (zyR 2 rfl ?_)))
    obtain ⟨q2,hq2,h⟩:=zbz h
    refine zbd hws2x1 hq2 underlying62 zii rfl dc rfl rfl rfl (zcD (m:=ks2x1+(x3:Int).toNat) (j:=0) (i:=1) (q:=q2) (cs:=(zr1 q2)) hrd rfl (by omega) ziM rfl dc rfl (Vw.get hws2x1 hq2) rfl rfl rfl ?_)
    refine za6 zon rfl dc (fun b2 => ?_)
    refine za4 (k:=1) (vs:=(zr1 q2)) (l':=(zr1 q2)) zii rfl rfl rfl rfl rfl (show _≤_ by simp) rfl rfl ?_
    refine zyH (zyR 1 rfl (zbT (k:=0) (cs:=(zr1 q1)) ziM rfl dc rfl rfl rfl rfl (zbT (k:=1) (cs:=(zr1 q2)) ziM rfl dc rfl rfl rfl rfl ?_)))
    obtain ⟨r1,hq3,h⟩:=zbz h
    refine zaK (v:=zI r1) (vs:=[.agg (zr1 q1).toArray,.agg (zr1 q2).toArray]) rfl dc rfl rfl rfl zze (zgc (p1:=q1) (q1:=q2) hq3) (zyR 1 rfl (zyH (zyR 1 rfl (zaU rfl zeH (zyN ?_)))))
    refine zyB rfl h (fun h => ?_) (fun h => ?_)
    ·
     refine zyG (zyR 2 rfl (zyN (zaD (zam (zaj (zaj (zam (zaj ?_))))))))
     cases h
     exact za1 6 results30
    refine zaq (zad (zaF (zap ?_)))
    obtain ⟨hg1,h⟩:=zb7 h
    refine zaU rfl (zbh (r:=x3+1) (IntWalk.i64_in _ hg1)) (zyR 1 rfl (zaC ?_))
    subst hag1
    exact zbs (n1,x3+1) h (Nat.lt_succ_self _) rfl (za7 rfl) Splits.nil
   refine zbA (zao (zao (zaH ?_)))
   exact zai () h rfl (za7 rfl) Splits.nil
 rintro _ h
 rw [hj1] at h
 refine zaP (zyG (zyR 1 rfl (zck hws1x1 rfl dc rfl underlying62 (zyR 1 rfl (zck hws2x1 rfl dc rfl underlying62 (zaU rfl zbE (zyN ?_)))))))
 refine zyB rfl h (fun h => ?_) (fun h => ?_)
 ·
  refine zyG (zyR 1 rfl (zyN (zaD (zaj ?_))))
  cases h
  exact za1 6 results30
 refine zaq (zaF (zyG (zyR 1 rfl (zyN (zaD ?_)))))
 cases h
 exact za1 6 results30
def zbn (o1:zac) (a1:zBA) (b1:zBA):Option (Int×Int) := zat (decide (a1=b1)) ( some (0,0)
) ( zbB (fun (j1:Option (Int×Int)) => zak (zbQ o1 a1) fun (r1:(List zab)) => zak (zbQ o1 b1) fun (r2:(List zab)) => zak (zaw r1 r2) fun (r3:Int) => zat ((r3:Int) != 0) ( zak (zdB r3) fun (r4:Int) => some (r4,1)
) ( zak (zaA r1 r2) fun (r5:Int) => zat ((r5:Int) != 0) ( zak (zdB r5) fun (r6:Int) => some (r6,2)
) ( zak (zaz r1 r2) fun (r7:Int) => zat ((r7:Int) != 0) ( zak (zdB r7) fun (r8:Int) => some (r8,3)
) ( j1
)
)
)
) ( some (Lib.compareBytes a1.data.toList b1.data.toList,4)
)
)
theorem zdP {bo1:Nat} {o1:zac} {o1_h0 o1_h1 o1_h2 o1_h3 o1_h4:Hd} {a1:zBA} {b1:zBA} {r:(Int×Int)} (h:zbn o1 a1 b1=some r):FnR prog 11 [zP bo1,.string a1,.string b1] [cells bo1 [o1_h0.v,.map (some (za5 o1_h1)),.map (some (za5 o1_h2)),.map (some (za5 o1_h3)),o1_h4.v] 79,zv0 o1_h0.v o1.units,zbJ (fun n:zBA=>Value.string n) (fun n:Int=>Value.int .i64 n) (za5 o1_h1) o1.place,zcy (za5 o1_h2) o1.fors,zbJ (fun n:zBA=>Value.string n) (fun n:Bool=>Value.bool n) (za5 o1_h3) o1.skips,zv0 o1_h4.v o1.lines] [] (fun _:Unit=>(.tuple #[zI r.1,zI r.2])) (fun _=>[]):=by
 unfold zbn at h
 refine FnR.intro func11 rfl ntmps11 (by simp) ?_
 intro w0 K hrd
 refine zyG (zyR 2 rfl (zyN (zaP (zyG (zyR 1 rfl (zaU rfl (zid underlying23) (zyR 3 rfl ?_)))))))
 refine zaU rfl zed (zyR 1 rfl (zyN ?_))
 refine zyB rfl h (fun h => ?_) (fun h => ?_)
 ·
  refine zyG (zyR 2 rfl (zyN (zaD (zaj ?_))))
  cases h
  exact zch (rs:=[.tmp 6,.tmp 7]) () (.inl rfl) results11 (.cons (.tmp rfl) (.cons (.tmp rfl) .nil)) rfl Splits.nil
 refine zaq (zaF ?_)
 obtain ⟨j1,hj1,h⟩:=zbP h
 refine zaZ (β:=Unit) 2 rfl (fun b=>j1=some r) (fun b=>[]) (fun b=>[(1,.string a1),(2,.string b1)]) (fun b=>[]) (fun cut => ?_) ?_
 ·
  refine zyG (zyR 2 rfl ?_)
  obtain ⟨r1,hq1,h⟩:=zbz h
  refine zkC (vs:=[zP bo1,.string a1]) hrd rfl dc rfl rfl rfl zvD (zdE (bo1:=bo1) (o1:=o1) (o1_h0:=o1_h0) (o1_h1:=o1_h1) (o1_h2:=o1_h2) (o1_h3:=o1_h3) (o1_h4:=o1_h4) hq1) Splits.nil (.ro 0 rfl (.ro 1 rfl (.ro 2 rfl (.ro 3 rfl (.ro 4 rfl (.ro 5 rfl .nil)))))) ?_
  rintro v1
  refine zcp (k:=0) rfl (fun hd1 he1 => ?_)
  subst he1
  refine zyR 2 rfl ?_
  obtain ⟨r2,hq2,h⟩:=zbz h
  refine zkC (vs:=[zP bo1,.string b1]) hrd rfl dc rfl rfl rfl zvD (zdE (bo1:=bo1) (o1:=o1) (o1_h0:=o1_h0) (o1_h1:=o1_h1) (o1_h2:=o1_h2) (o1_h3:=o1_h3) (o1_h4:=o1_h4) hq2) Splits.nil (.ro 0 rfl (.ro 1 rfl (.ro 2 rfl (.ro 3 rfl (.ro 4 rfl (.ro 5 rfl .nil)))))) ?_
  rintro v2
  refine zcp (k:=1) rfl (fun hd2 he2 => ?_)
  subst he2
  refine zyR 2 rfl (zyH ?_)
  refine zb8 (v:=.agg #[.func (.func 26) #[] #[],.func (.func 27) #[] #[],.func (.func 29) #[] #[]]) (ps:=[(0,.func 26),(1,.func 27),(2,.func 29)]) rfl dc rfl (fun _=>by kernel_rfl) ?_
  refine za6 zxX rfl dc (fun b2 => ?_)
  refine za4 (k:=2) (vs:=[.func (.func 26) #[] #[],.func (.func 27) #[] #[],.func (.func 29) #[] #[]]) (l':=[.func (.func 26) #[] #[],.func (.func 27) #[] #[],.func (.func 29) #[] #[]]) zx3 rfl rfl rfl rfl rfl (show _≤_ by simp) rfl rfl ?_
  refine zyN (cut (zyG (zbT (k:=2) (cs:=[.func (.func 26) #[] #[],.func (.func 27) #[] #[],.func (.func 29) #[] #[]]) zx7 rfl dc rfl rfl rfl rfl (zyR 1 rfl (zyN (zaB (zp0 4 (ziz (zyG ?_)))))))))
  refine zaU rfl (zf5 (show Value.bool (decide ((0:Int)<3))=Value.bool true from congrArg Value.bool dc) zbE) (zyN (zaP (zcd rfl (zaq (zaF (zaP (zaB (zyG (zyR 1 rfl ?_)))))))))
  refine zfm (v:=.func (.func 26) #[] #[]) rfl dc rfl rfl (fun _=>by kernel_rfl) ?_
  refine zyR 2 rfl (zyH (zyR 3 rfl ?_))
  refine zee (k:=0) rfl (fun hw1 => ?_)
  refine zee (k:=1) rfl (fun hw2 => ?_)
  obtain ⟨r3,hq3,h⟩:=zbz h
  refine zeu (v:=zI r3) (vs:=[hd1.v,hd2.v,.func (.func 26) #[] #[]]) hrd rfl dc rfl rfl rfl zvB (zbt hw1 hw2 hq3) (.own (As:=[zv2 hd1.v r1]) (zaa [0] kr rfl) (fun _ _ h=>zd5 zbc (sepL.one1.1 h)) (.own (As:=[zv2 hd2.v r2]) (zaa [1] kr rfl) (fun _ _ h=>zd5 zbc (sepL.one1.1 h)) .nil)) ?_
  refine zyR 1 rfl (zyH (zyR 1 rfl (zaU rfl zeH (zyN ?_))))
  refine zyB rfl h (fun h => ?_) (fun h => ?_)
  ·
   refine zyG (zyR 1 rfl ?_)
   obtain ⟨r4,hq4,h⟩:=zbz h
   refine zaK (v:=zI r4) (vs:=[zI r3]) rfl dc rfl rfl rfl zvA (zf3 hq4) (zyR 1 rfl (zaU rfl (zbh (r:=1) dc) (zyR 2 rfl (zyN (zaD (zam (zaj (zaj (zam (zaj ?_))))))))))
   cases h
   exact zch (rs:=[.tmp 6,.tmp 7]) () (.inl rfl) results11 (.cons (.tmp rfl) (.cons (.tmp rfl) .nil)) rfl Splits.nil
  refine zaq (zad (zaF (zap (zaU rfl (zbh (r:=1) dc) (zyR 1 rfl (zaC (zji (ziz (zyG (zaU rfl (zf5 (show Value.bool (decide ((1:Int)<3))=Value.bool true from congrArg Value.bool dc) zbE) (zyN ?_)))))))))))
  refine zaP (zcd rfl (zaq (zaF (zaP (zaB (zyG (zyR 1 rfl ?_)))))))
  refine zfm (v:=.func (.func 27) #[] #[]) rfl dc rfl rfl (fun _=>by kernel_rfl) ?_
  refine zyR 2 rfl (zyH (zyR 3 rfl ?_))
  refine zee (k:=0) rfl (fun hw3 => ?_)
  refine zee (k:=1) rfl (fun hw4 => ?_)
  obtain ⟨r5,hq5,h⟩:=zbz h
  refine zeu (v:=zI r5) (vs:=[hd1.v,hd2.v,.func (.func 27) #[] #[]]) hrd rfl dc rfl rfl rfl zvB (zbm hw3 hw4 hq5) (.own (As:=[zv2 hd1.v r1]) (zaa [0] kr rfl) (fun _ _ h=>zd5 zbc (sepL.one1.1 h)) (.own (As:=[zv2 hd2.v r2]) (zaa [1] kr rfl) (fun _ _ h=>zd5 zbc (sepL.one1.1 h)) .nil)) ?_
  refine zyR 1 rfl (zyH (zyR 1 rfl (zaU rfl zeH (zyN ?_))))
  refine zyB rfl h (fun h => ?_) (fun h => ?_)
  ·
   refine zyG (zyR 1 rfl ?_)
   obtain ⟨r6,hq6,h⟩:=zbz h
   refine zaK (v:=zI r6) (vs:=[zI r5]) rfl dc rfl rfl rfl zvA (zf3 hq6) (zyR 1 rfl (zaU rfl (zbh (r:=2) dc) (zyR 2 rfl (zyN (zaD (zam (zaj (zaj (zam (zaj ?_))))))))))
   cases h
   exact zch (rs:=[.tmp 6,.tmp 7]) () (.inl rfl) results11 (.cons (.tmp rfl) (.cons (.tmp rfl) .nil)) rfl Splits.nil
  refine zaq (zad (zaF (zap (zaU rfl (zbh (r:=2) dc) (zyR 1 rfl (zaC (zji (ziz (zyG (zaU rfl (zf5 (show Value.bool (decide ((2:Int)<3))=Value.bool true from congrArg Value.bool dc) zbE) (zyN ?_)))))))))))
  refine zaP (zcd rfl (zaq (zaF (zaP (zaB (zyG (zyR 1 rfl ?_)))))))
  refine zfm (v:=.func (.func 29) #[] #[]) rfl dc rfl rfl (fun _=>by kernel_rfl) ?_
  refine zyR 2 rfl (zyH (zyR 3 rfl ?_))
  refine zee (k:=0) rfl (fun hw5 => ?_)
  refine zee (k:=1) rfl (fun hw6 => ?_)
  obtain ⟨r7,hq7,h⟩:=zbz h
  refine zeu (v:=zI r7) (vs:=[hd1.v,hd2.v,.func (.func 29) #[] #[]]) hrd rfl dc rfl rfl rfl zvB (zbl hw5 hw6 hq7) (.own (As:=[zv2 hd1.v r1]) (zaa [0] kr rfl) (fun _ _ h=>zd5 zbc (sepL.one1.1 h)) (.own (As:=[zv2 hd2.v r2]) (zaa [1] kr rfl) (fun _ _ h=>zd5 zbc (sepL.one1.1 h)) .nil)) ?_
  refine zyR 1 rfl (zyH (zyR 1 rfl (zaU rfl zeH (zyN ?_))))
  refine zyB rfl h (fun h => ?_) (fun h => ?_)
  ·
   refine zyG (zyR 1 rfl ?_)
   obtain ⟨r8,hq8,h⟩:=zbz h
   refine zaK (v:=zI r8) (vs:=[zI r7]) rfl dc rfl rfl rfl zvA (zf3 hq8) (zyR 1 rfl (zaU rfl (zbh (r:=3) dc) (zyR 2 rfl (zyN (zaD (zam (zaj (zaj (zam (zaj ?_))))))))))
   cases h
   exact zch (rs:=[.tmp 6,.tmp 7]) () (.inl rfl) results11 (.cons (.tmp rfl) (.cons (.tmp rfl) .nil)) rfl Splits.nil
  refine zaq (zad (zaF (zap (zaU rfl (zbh (r:=3) dc) (zyR 1 rfl (zaC (zji (ziz (zyG (zaU rfl (zf5 (show Value.bool (decide ((3:Int)<3))=Value.bool false from congrArg Value.bool dc) zbE) (zyN ?_)))))))))))
  refine zaP (zaY rfl (zbA (zao (zao (zaH ?_)))))
  exact zai () h rfl (za7 rfl) Splits.nil
 rintro _ h
 rw [hj1] at h
 refine zyG (zyR 2 rfl (zaK (v:=zI (Lib.compareBytes a1.data.toList b1.data.toList)) (vs:=[.string a1,.string b1]) rfl dc rfl rfl rfl zvC (zry a1 b1) (zyR 2 rfl (zyN (zaD ?_)))))
 cases h
 exact zch (rs:=[.tmp 6,.tmp 7]) () (.inl rfl) results11 (.cons (.tmp rfl) (.cons (.tmp rfl) .nil)) rfl Splits.nil
def zcJ (o1:zac) (j1:Option zBA) (r1:(List zab)) (ag1:Option zBA):Option zBA := zat (decide ((0:Int)<(r1.length:Int))) ( zak (zd6 r1 0) fun (q1:zab) => zat ((q1.sort:Int)==3) ( zak (zd6 o1.units q1.place) fun (q2:zBA) => zak (zc4 q2) fun (r2:zBA) => zak (zfv r2) fun (r3:zBA) => some r3
) ( zat ((q1.sort:Int)==2) ( some (⟨#[48,45,57]⟩:zBA)
) ( j1
)
)
) ( j1
)
def zd4 (o1:zac) (s1:zBA):Option zBA := zbB (fun (j1:Option zBA) => zak (zbQ o1 s1) fun (r1:(List zab)) => zaT none (zcJ o1 j1 r1) zcI
) ( some (⟨#[63]⟩:zBA)
)
theorem zgL {bo1:Nat} {o1:zac} {o1_h0 o1_h1 o1_h2 o1_h3 o1_h4:Hd} {s1:zBA} {r:zBA} (h:zd4 o1 s1=some r):FnR prog 16 [zP bo1,.string s1] [cells bo1 [o1_h0.v,.map (some (za5 o1_h1)),.map (some (za5 o1_h2)),.map (some (za5 o1_h3)),o1_h4.v] 79,zv0 o1_h0.v o1.units,zbJ (fun n:zBA=>Value.string n) (fun n:Int=>Value.int .i64 n) (za5 o1_h1) o1.place,zcy (za5 o1_h2) o1.fors,zbJ (fun n:zBA=>Value.string n) (fun n:Bool=>Value.bool n) (za5 o1_h3) o1.skips,zv0 o1_h4.v o1.lines] [] (fun _:Unit=>(.string r)) (fun _=>[]):=by
 unfold zd4 at h
 refine FnR.intro func16 rfl ntmps16 (by simp) ?_
 intro w0 K hrd
 obtain ⟨j1,hj1,h⟩:=zbP h
 refine zaZ (β:=Unit) 1 rfl (fun b=>j1=some r) (fun b=>[]) (fun b=>[]) (fun b=>[]) (fun cut => ?_) ?_
 ·
  refine zyG (zyR 1 rfl (zyN (cut (zyG (zyR 1 rfl (zaU rfl (zlG underlying23) (zyN (zcd rfl (zaP ?_)))))))))
  refine zap (zyR 2 rfl ?_)
  obtain ⟨r1,hq1,h⟩:=zbz h
  refine zkC (vs:=[zP bo1,.string s1]) hrd rfl dc rfl rfl rfl zvD (zdE (bo1:=bo1) (o1:=o1) (o1_h0:=o1_h0) (o1_h1:=o1_h1) (o1_h2:=o1_h2) (o1_h3:=o1_h3) (o1_h4:=o1_h4) hq1) Splits.nil (.ro 0 rfl (.ro 1 rfl (.ro 2 rfl (.ro 3 rfl (.ro 4 rfl (.ro 5 rfl .nil)))))) ?_
  rintro v1
  refine zcp (k:=0) rfl (fun hd1 he1 => ?_)
  subst he1
  refine zet (k:=0) rfl dc rfl rfl underlying62 (zyR 1 rfl (zyN (zaB ?_)))
  refine zbN (β:=Nat) (fun b=>zaT none (zcJ o1 j1 r1) b=some r) (fun b=>[]) (fun b=>[(0,zP bo1),(11,hd1.v),(12,zI (r1.length:Int)),(13,zI 0)]) (fun b=>[zv2 hd1.v r1]) (fun b=>b) zcI h rfl (za7 rfl) (zaa [0] kr rfl) ?_
  rintro n1 h
  cases n1 with
  | zero=>exact zez h
  | succ n1 =>
   obtain ⟨ag1,hag1⟩:∃ ag,ag=zaT none (zcJ o1 j1 r1) n1:=⟨_,rfl⟩
   have h:zcJ o1 j1 r1 ag1=some r:=by rw [hag1]; exact h
   unfold zcJ at h
   refine zyG (zaU rfl zbE (zyN (zaP ?_)))
   refine zyB rfl h (fun h => ?_) (fun h => ?_)
   ·
    refine zaq (zaF (zaP (zaB (zyG ?_))))
    obtain ⟨q1,hq2,h⟩:=zbz h
    refine zbI (k:=0) hq2 underlying62 zii rfl dc rfl rfl rfl rfl (zf8 (i:=(0:Int).toNat) (j:=0) (k:=0) (q:=q1) (cs:=(zr1 q1)) ziM zbc rfl dc rfl rfl (zcj hq2) rfl rfl rfl ?_)
    refine za6 zon rfl dc (fun b1 => ?_)
    refine za4 (k:=1) (vs:=(zr1 q1)) (l':=(zr1 q1)) zii rfl rfl rfl rfl rfl (show _≤_ by simp) rfl rfl ?_
    refine zyN (zaP (zyG (zag zoX rfl dc rfl (show _=0 from rfl) (zan (k:=1) zdV rfl dc rfl rfl rfl (zyN (zaB (zyG (zaU rfl zbi (zyR 1 rfl ?_)))))))))
    refine zyN ?_
    refine zyB rfl h (fun h => ?_) (fun h => ?_)
    ·
     refine zaP ?_
     obtain ⟨q2,hq3,h⟩:=zbz h
     obtain ⟨r2,hq4,h⟩:=zbz h
     obtain ⟨r3,hq5,h⟩:=zbz h
     refine zdo 6 [(0,21,zP bo1),(1,22,zP bo1),(2,23,zP bo1),(3,24,o1_h0.v),(4,25,.pointer (some ⟨b1,1,none⟩)),(5,26,zI q1.place)] mixed kr kr dc (by rfl) kr kr (zyP 1 0 rfl (zae ?_ (zae ?_ (zae ?_ (zae ?_ (zae ?_ DrawPre.nil)))))) ?_
     · exact fun D n d c u i=>za2 rfl dc (zaX 0 u d) (zaJ 1 u i)
     · exact fun D n d c u i=>zag zjF rfl dc (zaX 1 u d) (show _=0 from rfl) (zaJ 2 u i)
     · exact fun D n d c u i=>zdz (i:=0) hrd rfl zoz rfl dc (zaX 2 u d) rfl (zaJ 3 u i)
     · exact fun D n d c u i=>zag zoW rfl dc (zba (by rfl) rfl) (show _=1 from rfl) (zaJ 4 u i)
     · exact fun D n d c u i=>zan (k:=1) zdV rfl dc (zaX 4 u d) rfl rfl (zaJ 5 u i)
     refine zbd (hrd.vw (i:=1) rfl) hq3 underlying38 zkq rfl dc rfl rfl rfl (zog (n:=0+(q1.place:Int).toNat) (j:=0) (i:=1) (q:=q2) hrd rfl zfn zcM rfl dc rfl (Vw.get (hrd.vw (i:=1) rfl) hq3) rfl dc rfl (zaK (v:=.string r2) (vs:=[.string q2]) rfl dc rfl rfl rfl zvJ (zfJ hq4) (zaK (v:=.string r3) (vs:=[.string r2]) rfl dc rfl rfl rfl zy7 (zjd hq5) (zyR 1 rfl (zyN (zaD (zam (zaj (zam (zaj (zaj (zam ?_))))))))))))
     refine zaj ?_
     cases h
     exact za1 4 results16
    refine zyG (zaU rfl zbi (zyR 1 rfl (zyN ?_)))
    refine zyB rfl h (fun h => ?_) (fun h => ?_)
    ·
     refine zyG (zyR 1 rfl (zyN (zaD (zam (zaj (zam (zaj (zaj (zam (zaj ?_))))))))))
     cases h
     exact za1 4 results16
    refine zaq (zad (zaF (zbA (zhX dc (zao (zao (zaH ?_)))))))
    exact zai () h rfl (zhM) Splits.nil
   refine zbA (zao (zao (zaH ?_)))
   exact zai () h rfl (zhM) Splits.nil
 rintro _ h
 rw [hj1] at h
 refine zyG (zyR 1 rfl (zyN (zaD ?_)))
 cases h
 exact za1 4 results16
abbrev cb:=Lib.compareBytes
theorem zfi (a b:UInt8) (x y:List UInt8):cb (a::x) (b::y)=if a.toNat<b.toNat then -1 else if b.toNat<a.toNat then 1 else cb x y:=by
 show (if a<b then (-1:Int) else if b<a then 1 else cb x y)=_
 simp only [UInt8.lt_iff_toNat_lt]
theorem zzm (b:UInt8) (y:List UInt8):cb [] (b::y)=-1:=rfl
theorem zzn (b:UInt8) (y:List UInt8):cb (b::y) []=1:=rfl
theorem zgy:∀ x:List UInt8,cb x x=0
 | []=>rfl
 | a::x=>by rw [zfi,if_neg (Nat.lt_irrefl _),if_neg (Nat.lt_irrefl _),zgy x]
theorem zm5:∀ {x y:List UInt8},cb x y=0→x=y
 | [],[],_=>rfl
 | [],_::_,h=>by cases h
 | _::_,[],h=>by cases h
 | a::x,b::y,h=>by
  rw [zfi] at h
  split at h
  ·cases h
  ·split at h
   ·cases h
   ·have:a=b:=UInt8.toNat_inj.1 (by omega)
    rw [this,zm5 h]
theorem zuF:∀ x y:List UInt8,cb x y=-1∨cb x y=0∨cb x y=1
 | [],[]=>.inr (.inl rfl)
 | [],_::_=>.inl rfl
 | _::_,[]=>.inr (.inr rfl)
 | a::x,b::y=>by
  rw [zfi]
  split
  ·exact .inl rfl
  ·split
   ·exact .inr (.inr rfl)
   ·exact zuF x y
def zlo:Int→List (List UInt8)→List (List UInt8)→Int×Int
 | i,x::xs,y::ys=>if cb x y=0 then zlo (i+1) xs ys else (cb x y,i)
 | _,_,_=>(0,0)
theorem zn4:∀ (l:List (List UInt8)) (i:Int),zlo i l l=(0,0)
 | [],i=>rfl
 | x::xs,i=>by rw [zlo,if_pos (zgy x),zn4 xs]
theorem zm6:∀ (a:List UInt8) (x y:List UInt8),cb (a++x) (a++y)=cb x y
 | [],x,y=>rfl
 | c::a,x,y=>by rw [List.cons_append,List.cons_append,zfi,if_neg (Nat.lt_irrefl _),if_neg (Nat.lt_irrefl _),zm6 a]
def be:Nat→Nat→List UInt8
 | 0,_=>[]
 | k+1,m=>UInt8.ofNat (m / 256 ^ k)::be k (m % 256 ^ k)
theorem zpY:∀ (k m n:Nat) (r s:List UInt8),m<256 ^ k→n<256 ^ k→cb (be k m++r) (be k n++s)=if m<n then -1 else if n<m then 1 else cb r s
 | 0,m,n,r,s,hm,hn=>by
  have:m=0:=by simpa using hm
  have:n=0:=by simpa using hn
  subst m; subst n; rfl
 | k+1,m,n,r,s,hm,hn=>by
  rw [be,be,List.cons_append,List.cons_append,zfi,zpY k _ _ r s (Nat.mod_lt _ (Nat.pow_pos (by omega))) (Nat.mod_lt _ (Nat.pow_pos (by omega)))]
  have e1:=Nat.div_add_mod m (256 ^ k)
  have e2:=Nat.div_add_mod n (256 ^ k)
  have l1:m / 256 ^ k<256:=Nat.div_lt_of_lt_mul (by rw [Nat.pow_succ] at hm; exact hm)
  have l2:n / 256 ^ k<256:=Nat.div_lt_of_lt_mul (by rw [Nat.pow_succ] at hn; exact hn)
  have m1:=Nat.mod_lt m (Nat.pow_pos (n:=k) (show 0<256 by omega))
  have m2:=Nat.mod_lt n (Nat.pow_pos (n:=k) (show 0<256 by omega))
  generalize 256 ^ k=P at *
  generalize m / P=a at *
  generalize n / P=b at *
  have hu:∀ x:Nat,x<256→(UInt8.ofNat x).toNat=x:=fun x hx=>by
   simp only [UInt8.toNat_ofNat']
   omega
  rw [hu a l1,hu b l2]
  by_cases c1:a<b
  ·rw [if_pos c1,if_pos]
   have:P*(a+1)≤P*b:=Nat.mul_le_mul_left P c1
   rw [Nat.mul_add] at this
   omega
  ·rw [if_neg c1]
   by_cases c2:b<a
   ·have:P*(b+1)≤P*a:=Nat.mul_le_mul_left P c2
    rw [Nat.mul_add] at this
    rw [if_pos c2,if_neg (by omega),if_pos (by omega)]
   ·have:a=b:=by omega
    subst this
    rw [if_neg c2]
    by_cases c3:m % P<n % P
    ·rw [if_pos c3,if_pos (by omega)]
    ·rw [if_neg c3]
     by_cases c4:n % P<m % P
     ·rw [if_pos c4,if_neg (by omega),if_pos (by omega)]
     ·rw [if_neg c4,if_neg (by omega),if_neg (by omega)]
def sg (n:Int):Int:=if n<0 then -1 else if 0<n then 1 else 0
theorem zwY (x y:List UInt8):sg (cb x y)=cb x y:=by rcases zuF x y with h | h | h <;> rw [h] <;> rfl
theorem sg_zero {n:Int}:sg n=0↔n=0:=by
 unfold sg
 by_cases h:n<0
 ·rw [if_pos h]; omega
 ·rw [if_neg h]
  by_cases h2:0<n
  ·rw [if_pos h2]; omega
  ·rw [if_neg h2]; omega
def zw3 (a b:Int):Int:=if a=0 then b else a
def zgm (a b:El):Int:=zw3 (a.sort - b.sort) (zw3 (a.place - b.place) (zw3 ((a.digits.size:Int) - (b.digits.size:Int)) (cb a.digits.data.toList b.digits.data.toList)))
def zht (a b:El):Int:=cb a.marks.data.toList b.marks.data.toList
def zi2 (a b:El):Int:=a.great - b.great
def zh0 (c:El→El→Int):List El→List El→Int
 | [],[]=>0
 | [],_::_=>-1
 | _::_,[]=>1
 | x::xs,y::ys=>if c x y=0 then zh0 c xs ys else c x y
theorem zmI {c:El→El→Int}:∀ {x y:List El},zh0 c x y=0→x.length=y.length
 | [],[],_=>rfl
 | [],_::_,h=>by cases h
 | _::_,[],h=>by cases h
 | x::xs,y::ys,h=>by
  rw [zh0] at h
  split at h
  ·rw [List.length_cons,List.length_cons,zmI h]
  ·rename_i h1; exact absurd h h1
structure zfq (e:El):Prop where
 so:e.sort=1∨e.sort=2∨e.sort=3∨e.sort=4
 pl:0≤e.place∧e.place<65536
 di:e.digits.size≤300000
 nd:e.sort≠2→e.digits=ByteArray.empty
 ma:∀ c∈e.marks.data.toList,c≠0
 ml:e.marks.size≤300000
 gr:e.great=0∨e.great=1
def c1 (e:El):List UInt8:=be 1 e.sort.toNat++be 2 e.place.toNat++(if e.sort=2 then be 4 e.digits.size++e.digits.data.toList else [])
def k1 (x:List El):List UInt8:=x.flatMap c1++[0]
def k2 (x:List El):List UInt8:=x.flatMap fun e=>e.marks.data.toList++[0]
def k3 (x:List El):List UInt8:=x.map fun e=>UInt8.ofNat e.great.toNat
theorem zpU:∀ {x y r s:List UInt8},x.length=y.length→cb (x++r) (y++s)=if cb x y=0 then cb r s else cb x y
 | [],[],r,s,_=>by rw [zgy,if_pos rfl]; rfl
 | a::x,b::y,r,s,h=>by
  rw [List.cons_append,List.cons_append,zfi,zfi,zpU (by simpa using h)]
  by_cases h1:a.toNat<b.toNat
  ·simp only [if_pos h1]; rfl
  ·simp only [if_neg h1]
   by_cases h2:b.toNat<a.toNat
   ·simp only [if_pos h2]; rfl
   ·simp only [if_neg h2]
theorem zxE {a b:El} (ha:zfq a) (hb:zfq b) (r s:List UInt8):cb (c1 a++r) (c1 b++s)=if zgm a b=0 then cb r s else sg (zgm a b):=by
 have s1:=ha.so; have s2:=hb.so; have p1:=ha.pl; have p2:=hb.pl; have d1:=ha.di; have d2:=hb.di
 unfold c1 zgm zw3
 rw [List.append_assoc,List.append_assoc,List.append_assoc,List.append_assoc,zpY 1 _ _ _ _ (by omega) (by omega),zpY 2 _ _ _ _ (by omega) (by omega)]
 by_cases h1:a.sort - b.sort=0
 ·have e1:a.sort=b.sort:=by omega
  rw [if_pos h1,e1,if_neg (Nat.lt_irrefl _),if_neg (Nat.lt_irrefl _)]
  by_cases h2:a.place - b.place=0
  ·have e2:a.place=b.place:=by omega
   rw [if_pos h2,e2,if_neg (Nat.lt_irrefl _),if_neg (Nat.lt_irrefl _)]
   by_cases h3:b.sort=2
   ·rw [if_pos h3,if_pos h3,List.append_assoc,List.append_assoc,zpY 4 _ _ _ _ (by omega) (by omega)]
    by_cases h4:(a.digits.size:Int) - (b.digits.size:Int)=0
    ·rw [if_pos h4,if_neg (by omega),if_neg (by omega),zpU (by rw [← zcE,← zcE]; omega),zwY]
    ·rw [if_neg h4,if_neg h4]
     unfold sg
     by_cases h5:a.digits.size<b.digits.size
     ·rw [if_pos h5,if_pos (by omega)]
     ·rw [if_neg h5,if_pos (by omega),if_neg (by omega),if_pos (by omega)]
   ·rw [if_neg h3,if_neg h3,ha.nd (by omega),hb.nd h3]
    rfl
  ·rw [if_neg h2,if_neg h2]
   unfold sg
   by_cases h5:a.place.toNat<b.place.toNat
   ·rw [if_pos h5,if_pos (by omega)]
   ·rw [if_neg h5,if_pos (by omega),if_neg (by omega),if_pos (by omega)]
 ·rw [if_neg h1,if_neg h1]
  unfold sg
  by_cases h5:a.sort.toNat<b.sort.toNat
  ·rw [if_pos h5,if_pos (by omega)]
  ·rw [if_neg h5,if_pos (by omega),if_neg (by omega),if_pos (by omega)]
theorem zsJ {e:El} (h:zfq e):∃ c l,c1 e=c::l∧0<c.toNat:=by
 have:=h.so
 refine ⟨UInt8.ofNat (e.sort.toNat / 256 ^ 0),_,rfl,?_⟩
 rw [Nat.pow_zero,Nat.div_one,UInt8.toNat_ofNat']
 omega
theorem zuA:∀ {x y:List El} (r s:List UInt8),(∀ e∈x,zfq e)→(∀ e∈y,zfq e)→cb (k1 x++r) (k1 y++s)=if zh0 zgm x y=0 then cb r s else sg (zh0 zgm x y)
 | [],[],r,s,_,_=>zm6 [0] r s
 | [],b::y,r,s,_,hb=>by
  obtain ⟨c,l,e,hc⟩:=zsJ (hb b (List.mem_cons_self ..))
  unfold k1
  rw [List.flatMap_cons,e,List.flatMap_nil]
  show cb (0::([]++r)) (c::_)=_
  rw [zfi,if_pos (by show (0:UInt8).toNat<_; exact hc)]; rfl
 | a::x,[],r,s,ha,_=>by
  obtain ⟨c,l,e,hc⟩:=zsJ (ha a (List.mem_cons_self ..))
  unfold k1
  rw [List.flatMap_cons,e,List.flatMap_nil]
  show cb (c::_) (0::([]++s))=_
  rw [zfi,if_neg (by show ¬ _<(0:UInt8).toNat; exact Nat.not_lt_zero _),if_pos (by show (0:UInt8).toNat<_; exact hc)]; rfl
 | a::x,b::y,r,s,ha,hb=>by
  have e1:∀ (e:El) (l:List El) (r:List UInt8),k1 (e::l)++r=c1 e++(k1 l++r):=fun e l r=>by unfold k1; rw [List.flatMap_cons]; simp
  rw [e1,e1,zxE (ha a (List.mem_cons_self ..)) (hb b (List.mem_cons_self ..)),zuA r s (fun e h=>ha e (List.mem_cons_of_mem _ h)) (fun e h=>hb e (List.mem_cons_of_mem _ h)),zh0]
  by_cases h:zgm a b=0
  ·simp only [if_pos h]
  ·simp only [if_neg h]
theorem zpx:∀ {x y r s:List UInt8},(∀ c∈x,c≠0)→(∀ c∈y,c≠0)→cb (x++0::r) (y++0::s)=if cb x y=0 then cb r s else cb x y
 | [],[],r,s,_,_=>by rw [zgy,if_pos rfl]; exact zm6 [0] r s
 | [],b::y,r,s,_,hb=>by
  have:b.toNat≠0:=fun h=>hb b (List.mem_cons_self ..) (UInt8.toNat_inj.1 h)
  show cb (0::r) (b::(y++0::s))=_
  rw [zfi,if_pos (by show (0:UInt8).toNat<_; show 0<_; omega),zzm]; rfl
 | a::x,[],r,s,ha,_=>by
  have:a.toNat≠0:=fun h=>ha a (List.mem_cons_self ..) (UInt8.toNat_inj.1 h)
  show cb (a::(x++0::r)) (0::s)=_
  rw [zfi,if_neg (by show ¬ _<(0:UInt8).toNat; exact Nat.not_lt_zero _),if_pos (by show (0:UInt8).toNat<_; show 0<_; omega),zzn]; rfl
 | a::x,b::y,r,s,ha,hb=>by
  rw [List.cons_append,List.cons_append,zfi,zfi,zpx (fun c h=>ha c (List.mem_cons_of_mem _ h)) (fun c h=>hb c (List.mem_cons_of_mem _ h))]
  by_cases h1:a.toNat<b.toNat
  ·simp only [if_pos h1]; rfl
  ·simp only [if_neg h1]
   by_cases h2:b.toNat<a.toNat
   ·simp only [if_pos h2]; rfl
   ·simp only [if_neg h2]
theorem zuz:∀ {x y:List El} (r s:List UInt8),(∀ e∈x,zfq e)→(∀ e∈y,zfq e)→x.length=y.length→cb (k2 x++r) (k2 y++s)=if zh0 zht x y=0 then cb r s else sg (zh0 zht x y)
 | [],[],r,s,_,_,_=>rfl
 | a::x,b::y,r,s,ha,hb,h=>by
  have e1:∀ (e:El) (l:List El) (r:List UInt8),k2 (e::l)++r=e.marks.data.toList++0::(k2 l++r):=fun e l r=>by unfold k2; rw [List.flatMap_cons]; simp
  rw [e1,e1,zpx (ha a (List.mem_cons_self ..)).ma (hb b (List.mem_cons_self ..)).ma,zuz r s (fun e h=>ha e (List.mem_cons_of_mem _ h)) (fun e h=>hb e (List.mem_cons_of_mem _ h)) (by simpa using h),zh0]
  show (if zht a b=0 then _ else zht a b)=_
  by_cases h:zht a b=0
  ·simp only [if_pos h]
  ·simp only [if_neg h]; exact (zwY _ _).symm
theorem zuy:∀ {x y:List El} (r s:List UInt8),(∀ e∈x,zfq e)→(∀ e∈y,zfq e)→x.length=y.length→cb (k3 x++r) (k3 y++s)=if zh0 zi2 x y=0 then cb r s else sg (zh0 zi2 x y)
 | [],[],r,s,_,_,_=>rfl
 | a::x,b::y,r,s,ha,hb,h=>by
  have g1:=(ha a (List.mem_cons_self ..)).gr
  have g2:=(hb b (List.mem_cons_self ..)).gr
  have ih:=zuy r s (fun e h=>ha e (List.mem_cons_of_mem _ h)) (fun e h=>hb e (List.mem_cons_of_mem _ h)) (x:=x) (y:=y) (by simpa using h)
  show cb (UInt8.ofNat a.great.toNat::(k3 x++r)) (UInt8.ofNat b.great.toNat::(k3 y++s))=_
  rw [zfi,ih,zh0]
  unfold zi2
  rcases g1 with g1 | g1 <;> rcases g2 with g2 | g2 <;> rw [g1,g2] <;> rfl
theorem zzM (l:List Int) (hl:l.length≤1000):zfh l=some ((l.find? fun x=>!decide (x=0)).getD 0):=by
 unfold zfh
 refine zcf ?_
 have:=zzL (xs:=l) (F:=zdh l (some 0)) (bot:=fun _=>none) (g:=fun x=>if x=0 then none else some (some x)) (J:=some 0) (fun ag k x hx=>by
  have hk:=zj0 hx
  unfold zdh
  refine zaL (zmE hx) (zaS (zh9 hx) ?_)
  by_cases h:x=0
  ·rw [if_pos h]; exact zaG (by rw [h]; rfl) (zcm (zgi (by omega)) rfl)
  ·rw [if_neg h]; exact zaL (bne_iff_ne.2 h) rfl) (fun ag=>by unfold zdh; exact zaG zmF rfl) (n:=zcI) (zfk (by omega))
 refine this.trans ?_
 clear this hl
 induction l with
 | nil=>rfl
 | cons a l ih =>
  rw [List.findSome?_cons,List.find?_cons]
  by_cases h:a=0
  ·rw [if_pos h,h]; exact ih
  ·rw [if_neg h,decide_eq_false h]; rfl
theorem zvs (a b:El) (ha:zfq a) (hb:zfq b):zdN a b=some (zgm a b):=by
 have s1:=ha.so; have s2:=hb.so; have p1:=ha.pl; have p2:=hb.pl; have d1:=ha.di; have d2:=hb.di
 unfold zdN
 refine zcm ⟨by omega,by omega⟩ (zcm ⟨by omega,by omega⟩ (zcm ⟨by omega,by omega⟩ (zaS (zzM _ (show 4≤1000 by omega)) ?_)))
 congr 1
 unfold zgm zw3
 simp only [List.find?_cons,List.find?_nil]
 by_cases h1:a.sort - b.sort=0
 ·simp only [h1,decide_true,Bool.not_true,if_true]
  by_cases h2:a.place - b.place=0
  ·simp only [h2,decide_true,Bool.not_true,if_true]
   by_cases h3:(a.digits.size:Int) - (b.digits.size:Int)=0
   ·simp only [h3,decide_true,Bool.not_true,if_true]
    by_cases h4:Lib.compareBytes a.digits.data.toList b.digits.data.toList=0
    ·simp only [h4,decide_true,Bool.not_true]; rfl
    ·simp only [h4,decide_false,Bool.not_false]; rfl
   ·simp only [h3,decide_false,Bool.not_false,if_false]; rfl
  ·simp only [h2,decide_false,Bool.not_false,if_false]; rfl
 ·simp only [h1,decide_false,Bool.not_false,if_false]; rfl
theorem zo6 {F:(Int→Option Int)→Int→Option Int} {cv:El→El→Option Int} {c:El→El→Int} (x y:List El) (hl:x.length≤1000000000)
  (hF:∀ ag k,F ag k=zat (decide ((k:Int)<(x.length:Int))) (zak (zd6 x k) fun (q1:El)=>zat (decide (((y.length:Int):Int)≤k)) (some 1) (zak (zd6 y k) fun (q2:El)=>zak (cv q1 q2) fun (r1:Int)=>zat ((r1:Int) != 0) (some r1) (grd (I64 (k+1))<|ag (k+1)))) (zat (decide (((x.length:Int):Int)<(y.length:Int))) (some (-1)) (some 0)))
  (hc:∀ a∈x,∀ b∈y,cv a b=some (c a b)):zaT (fun _=>none) F zcI 0=some (zh0 c x y):=by
 have key:∀ (n k:Nat),k≤x.length→k≤y.length→x.length - k<n→zaT (fun _=>none) F n (k:Int)=some (zh0 c (x.drop k) (y.drop k)):=by
  intro n
  induction n with
  | zero=>intro k _ _ h; omega
  | succ n ih =>
   intro k hk1 hk2 hn
   rw [zfI,hF]
   by_cases h:k<x.length
   ·have hx:x[k]?=some x[k]:=List.getElem?_eq_getElem h
    refine zaL (decide_eq_true (by omega)) (zaS (zh9 hx) ?_)
    rw [List.drop_eq_getElem_cons h]
    by_cases h2:k<y.length
    ·have hy:y[k]?=some y[k]:=List.getElem?_eq_getElem h2
     refine zaG (decide_eq_false (by omega)) (zaS (zh9 hy) (zaS (hc _ (List.getElem_mem _) _ (List.getElem_mem _)) ?_))
     rw [List.drop_eq_getElem_cons h2,zh0]
     by_cases h0:c x[k] y[k]=0
     ·rw [if_pos h0]
      refine zaG (by rw [h0]; rfl) (zcm ⟨by omega,by omega⟩ ?_)
      have:=ih (k+1) (by omega) (by omega) (by omega)
      push_cast at this
      exact this
     ·rw [if_neg h0]; exact zaL (bne_iff_ne.2 h0) rfl
    ·refine zaL (decide_eq_true (by omega)) ?_
     rw [List.drop_eq_nil_of_le (show y.length≤k by omega)]; rfl
   ·refine zaG (decide_eq_false (by omega)) ?_
    rw [List.drop_eq_nil_of_le (show x.length≤k by omega)]
    by_cases h2:k<y.length
    ·rw [List.drop_eq_getElem_cons h2]
     exact zaL (decide_eq_true (by omega)) rfl
    ·rw [List.drop_eq_nil_of_le (show y.length≤k by omega)]
     exact zaG (decide_eq_false (by omega)) rfl
 have:=key zcI 0 (Nat.zero_le _) (Nat.zero_le _) (by unfold zcI; omega)
 simpa using this
theorem zru (n:Int):zdB n=some (sg n):=by
 unfold zdB
 refine zaS (a:=sg n) ?_ rfl
 unfold zec
 refine zaS (a:=false) (by unfold zd9; simp) (zaS (a:=false) (by decide) (zaG rfl (zaG rfl ?_)))
 unfold sg
 by_cases h:n<0
 ·rw [if_pos h]; exact zaL (decide_eq_true h) rfl
 ·rw [if_neg h]
  refine zaG (decide_eq_false h) ?_
  by_cases h2:0<n
  ·rw [if_pos h2]; exact zaL (decide_eq_true h2) rfl
  ·rw [if_neg h2]; exact zaG (decide_eq_false h2) rfl
end Go.Proofs.YtifpjbgnikjglaaDoor
