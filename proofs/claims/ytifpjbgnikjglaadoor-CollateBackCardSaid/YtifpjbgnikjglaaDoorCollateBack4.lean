/-
  Texts laid together: LcA, LcB, LcC, LcS, LcE, Ka, Kb, Qm, Kc, Kd, Ke, LcU, LcF, Kg, Kh. Nothing is assumed.
-/
import Derived.Test.YtifpjbgnikjglaaDoorCollateBack3
import Derived.Test.YtifpjbgnikjglaaDoorCollateBack2
set_option maxRecDepth 100000
set_option maxHeartbeats 4000000
namespace Go.Proofs.YtifpjbgnikjglaaDoor
open Go.RowKit Go.Lib
open Tryd
set_option linter.unusedVariables false
set_option linter.unusedSimpArgs false
def zdF (p1:zam):Option Bool := grd (I32 p1.Rune) <| some (((zbr p1.Broken p1.Rune):Int)==1)
theorem zgM {p1:zam} {r:Bool} (h:zdF p1=some r):FnP prog 85 [.agg (zr0 p1).toArray] (.bool r):=by
 unfold zdF at h
 refine FnP.intro func85 rfl ntmps85 (by simp) ?_
 intro w0 K
 refine zyG ?_
 refine zeb rfl dc rfl (fun b1 => ?_)
 refine zyR 1 rfl (zyH (zbW (k:=0) (cs:=(zr0 p1)) zgZ rfl dc rfl rfl rfl rfl ?_))
 obtain ⟨hg1,h⟩:=zcg h
 refine zaQ (v:=zI (zbr p1.Broken p1.Rune)) (vs:=[.agg (zr0 p1).toArray]) rfl dc rfl rfl rfl zqW (zwo p1.At p1.Width p1.Rune p1.Broken hg1.1 hg1.2) (zaW rfl zbn (zyR 1 rfl (zyN (zaD ?_))))
 cases h
 exact zba 2 results85
def zdS (p1:zam):Option Bool := grd (I32 p1.Rune) <| some (((zbr p1.Broken p1.Rune):Int)==2)
theorem zhI {p1:zam} {r:Bool} (h:zdS p1=some r):FnP prog 52 [.agg (zr0 p1).toArray] (.bool r):=by
 unfold zdS at h
 refine FnP.intro func52 rfl ntmps52 (by simp) ?_
 intro w0 K
 refine zyG ?_
 refine zeb rfl dc rfl (fun b1 => ?_)
 refine zyR 1 rfl (zyH (zbW (k:=0) (cs:=(zr0 p1)) zgZ rfl dc rfl rfl rfl rfl ?_))
 obtain ⟨hg1,h⟩:=zcg h
 refine zaQ (v:=zI (zbr p1.Broken p1.Rune)) (vs:=[.agg (zr0 p1).toArray]) rfl dc rfl rfl rfl zqW (zwo p1.At p1.Width p1.Rune p1.Broken hg1.1 hg1.2) (zaW rfl zbn (zyR 1 rfl (zyN (zaD ?_))))
 cases h
 exact zba 2 results52
def zcX (line1:zBA) (at1:Int) (j1:(List zau)→Option (List zau)) (ag1:(List zau)→Bool→Int→Option (List zau)) (l4:List zau) (open3:Bool) (x3:Int):Option (List zau) := zat (decide ((x3:Int)<(line1.size:Int))) ( zbF (fun (j2:(List zau)→Bool→Option (List zau)) => zak (zlH line1 x3) fun (c1:Int) => zat ((c1:Int)==32) ( j2 l4 false
) ( zat (open3) ( grd (I64 ((l4.length:Int) - 1)) <| zak (zd7 l4 ((l4.length:Int) - 1)) fun (q1:zau) => grd (I64 (x3+1)) <| grd (0≤(x3:Int)∧(x3:Int)≤(x3+1)∧(x3+1:Int)≤(line1.size:Int)) <| grd (q1.text.size+(zcz line1 x3 (x3+1)).size≤9223372036854775807) <| j2 (l4.set ((l4.length:Int) - 1:Int).toNat (⟨q1.at_,q1.text++(zcz line1 x3 (x3+1))⟩:zau)) open3
) ( grd (I64 (at1+x3)) <| grd (I64 (x3+1)) <| grd (0≤(x3:Int)∧(x3:Int)≤(x3+1)∧(x3+1:Int)≤(line1.size:Int)) <| grd (l4.length+1≤2147483648) <| j2 (l4++[(⟨at1+x3,zcz line1 x3 (x3+1)⟩:zau)]) true
)
)
) (fun (l5:List zau) (open4:Bool) => grd (I64 (x3+1)) <| ag1 l5 open4 (x3+1)
)
) ( j1 l4
)
def zeC (line1:zBA) (at1:Int):Option (List zau) := zbF (fun (j1:(List zau)→Option (List zau)) => zaU (fun _ _ _=>none) (zcX line1 at1 j1) zcG ([]:List zau) false 0
) (fun (l1:List zau) => some l1
)
theorem zko {line1:zBA} {at1:Int} {r:(List zau)} (h:zeC line1 at1=some r):Fn prog 37 [.string line1,zI at1] [] (fun v0:Value=>v0) (fun v0=>[zv4 v0 r]):=by
 unfold zeC at h
 refine Fn.intro func37 rfl ntmps37 (by simp) ?_
 intro w0 K
 obtain ⟨j1,hj1,h⟩:=zbT h
 refine za2 (β:=(List zau)×Value) 3 rfl (fun b=>j1 b.1=some r) (fun b=>[]) (fun b=>[(5,b.2)]) (fun b=>[zv4 b.2 b.1]) (fun cut => ?_) ?_
 ·
  refine zyG (zyR 1 rfl (zyH (zyR 1 rfl (zyH (zyR 1 rfl (zaE ?_))))))
  refine zaG (cut (zyG (zyR 1 rfl (zcU rfl dc rfl underlying9 (zyR 1 rfl (zyN (zaA (ze2 (enc:=zc3) (e:=116) (size:=2) ?_))))))))
  refine zbS (β:=Nat×(List zau)×Bool×Int×Value) (fun b=>zaU (fun _ _ _=>none) (zcX line1 at1 j1) b.1 b.2.1 b.2.2.1 b.2.2.2.1=some r) (fun b=>[]) (fun b=>[(0,.string line1),(1,zI at1),(5,b.2.2.2.2),(6,.bool b.2.2.1),(9,zI (line1.size:Int)),(10,zI b.2.2.2.1)]) (fun b=>[zv4 b.2.2.2.2 b.2.1]) (fun b=>b.1) (zcG,([]:List zau),false,0,(.slice none 0 0)) h rfl (za9 rfl) (zaa [0] kr rfl) ?_
  rintro ⟨n1,l4,open3,x3,v4⟩ h
  cases n1 with
  | zero=>exact zez h
  | succ n1 =>
   obtain ⟨ag1,hag1⟩:∃ ag,ag=zaU (fun _ _ _=>none) (zcX line1 at1 j1) n1:=⟨_,rfl⟩
   have h:zcX line1 at1 j1 ag1 l4 open3 x3=some r:=by rw [hag1]; exact h
   unfold zcX at h
   refine zyG (zaW rfl zbE (zyN (zaM ?_)))
   refine zyB rfl h (fun h => ?_) (fun h => ?_)
   ·
    refine zaq (zaG ?_)
    obtain ⟨j2,hj2,h⟩:=zbT h
    refine za2 (β:=(List zau)×Bool×Value) 0 rfl (fun b=>j2 b.1 b.2.1=some r) (fun b=>[]) (fun b=>[(0,.string line1),(1,zI at1),(5,b.2.2),(6,.bool b.2.1),(9,zI (line1.size:Int)),(10,zI x3)]) (fun b=>[zv4 b.2.2 b.1]) (fun cut => ?_) ?_
    ·
     refine cut (zaA (zyG (zyR 2 rfl (zyN (zaA (zyG (zyR 2 rfl ?_)))))))
     obtain ⟨c1,hq1,h⟩:=zbx h
     refine zfF rfl dc rfl rfl (zfj underlying9 hq1) (zaW rfl zbn (zyR 1 rfl (zyN ?_)))
     refine zyB rfl h (fun h => ?_) (fun h => ?_)
     ·
      refine zao (zyR 1 rfl (zaE (zae (zae ?_))))
      exact zaj (l4,false,v4) h rfl (za9 rfl) (zaa [0] kr rfl)
     refine zyG (zyR 2 rfl (zyN ?_))
     refine zyB rfl h (fun h => ?_) (fun h => ?_)
     ·
      obtain ⟨hg1,h⟩:=zcg h
      obtain ⟨q1,hq2,h⟩:=zbx h
      obtain ⟨hg2,h⟩:=zcg h
      obtain ⟨hg3,h⟩:=zcg h
      obtain ⟨hg4,h⟩:=zcg h
      refine zdh 12 [(0,32,v4),(1,33,v4),(2,34,zI (l4.length:Int)),(3,35,zI ((l4.length:Int) - 1)),(4,36,.pointer (some ⟨zh6 v4,((l4.length:Int) - 1:Int).toNat*2,none⟩)),(5,37,.pointer (some ⟨zh6 v4,(((l4.length:Int) - 1:Int).toNat)*2+1,none⟩)),(6,38,.string q1.text),(7,39,.string line1),(8,40,zI x3),(9,41,zI x3),(10,42,zI (x3+1)),(11,43,.string (zcz line1 x3 (x3+1)))] mixed kr kr dc (by rfl) kr kr (zyP 2 0 rfl (zad ?_ (zad ?_ (zad ?_ (zad ?_ (zad ?_ (zyP 3 7 rfl (zad ?_ (zad ?_ DrawPre.nil))))))))) ?_
      · exact fun D n d c u i=>zdB (k:=0) rfl dc (zaT 1 u d) rfl underlying86 (zaK 2 u i)
      · exact fun D n d c u i=>zhj rfl dc (zaT 2 u d) rfl (zgE (r:=(l4.length:Int) - 1) (IntWalk.i64_in _ hg1)) (zaK 3 u i)
      · exact fun D n d c u i=>zbo (k:=0) hq2 underlying86 zgo rfl dc (zaT 0 u d) (zaT 3 u d) rfl rfl (zaK 4 u i)
      · exact fun D n d c u i=>zag zhW rfl dc (zaT 4 u d) (show _=(((l4.length:Int) - 1:Int).toNat)*2+1 from rfl) (zaK 5 u i)
      · exact fun D n d c u i=>zcv (i:=((l4.length:Int) - 1:Int).toNat) (j:=1) (k:=0) (q:=q1) ze4 zdJ rfl dc (zaT 5 u d) rfl (zcj hq2) rfl dc rfl (zaK 6 u i)
      · exact fun D n d c u i=>zhj rfl dc (zaT 9 u d) rfl (zbi (r:=x3+1) (IntWalk.i64_in _ hg2)) (zaK 10 u i)
      · exact fun D n d c u i=>zce rfl dc (zaT 7 u d) (evO.some (zaT 8 u d)) (evO.some (zaT 10 u d)) (za7 (i:=x3) (j:=x3+1) underlying9 (.inr rfl) (.inr rfl) hg3) (zaK 11 u i)
      refine zaW rfl (zfq hg4) (zbo (k:=0) hq2 underlying86 zgo rfl dc rfl rfl rfl rfl (zag zhW rfl dc rfl (show _=(((l4.length:Int) - 1:Int).toNat)*2+1 from rfl) ?_))
      refine zgi (i:=((l4.length:Int) - 1:Int).toNat) (j:=1) (k:=0) (q:=q1) (q':=(⟨q1.at_,q1.text++(zcz line1 x3 (x3+1))⟩:zau)) ziS zdJ rfl rfl rfl rfl (zcj hq2) rfl dc rfl (fun _ _=>rfl) ?_
      refine zaE (zae (zae ?_))
      exact zaj (l4.set ((l4.length:Int) - 1:Int).toNat (⟨q1.at_,q1.text++(zcz line1 x3 (x3+1))⟩:zau),open3,v4) h rfl (za9 rfl) (zaa [0] kr rfl)
     refine zyG (zyR 3 rfl ?_)
     obtain ⟨hg5,h⟩:=zcg h
     refine zaW rfl (zbi (r:=at1+x3) (IntWalk.i64_in _ hg5)) (zyR 3 rfl ?_)
     obtain ⟨hg6,h⟩:=zcg h
     refine zaW rfl (zbi (r:=x3+1) (IntWalk.i64_in _ hg6)) ?_
     obtain ⟨hg7,h⟩:=zcg h
     refine zce rfl dc rfl rfl rfl (za7 (i:=x3) (j:=x3+1) underlying9 (.inr rfl) (.inr rfl) hg7) ?_
     refine zck (v:=.agg #[zI (at1+x3),.string (zcz line1 x3 (x3+1))]) (ps:=[(0,.tmp 16),(1,.tmp 21)]) rfl dc rfl (fun _=>by kernel_rfl) ?_
     refine zaX (cs:=[zI (at1+x3),.string (zcz line1 x3 (x3+1))]) (te:=116) (ps:=[(0,.tmp 22)]) rfl dc rfl (fun _=>by kernel_rfl) (fun b1 => ?_)
     obtain ⟨hg8,h⟩:=zcg h
     refine zbP (k:=0) (k2:=1) (ys:=[(⟨at1+x3,zcz line1 x3 (x3+1)⟩:zau)]) underlying86 zxs zdJ zhE rfl dc rfl rfl rfl rfl rfl rfl hg8 (fun v6 => ?_)
     refine zyR 1 rfl (zyN (zao (zyR 1 rfl (zaE (zae (zae ?_))))))
     exact zaj (l4++[(⟨at1+x3,zcz line1 x3 (x3+1)⟩:zau)],true,v6) h rfl (za9 rfl) (zaa [0] kr rfl)
    rintro ⟨l5,open4,v5⟩ h
    rw [hj2] at h
    refine zao ?_
    obtain ⟨hg9,h⟩:=zcg h
    refine zaW rfl (zbi (r:=x3+1) (IntWalk.i64_in _ hg9)) (zyR 1 rfl (zaE ?_))
    subst hag1
    exact zbv (n1,l5,open4,x3+1,v5) h (Nat.lt_succ_self _) rfl (za9 rfl) (zaa [0] kr rfl)
   refine zbG (zap (zap (zaI ?_)))
   exact zaj (l4,v4) h rfl (za9 rfl) (zaa [0] kr rfl)
 rintro ⟨l1,v1⟩ h
 rw [hj1] at h
 refine zyG (zyR 2 rfl (zyN (zaD ?_)))
 cases h
 exact zcu (rs:=[.tmp 4]) v1 (.inl rfl) results37 (.cons (.tmp rfl) .nil) rfl (zaa [0] kr rfl)
def zeE (l1:List zau) (end1:Int):Option Int := zbF (fun (j1:Int→Int→Option Int) => zak (zd7 l1 0) fun (q1:zau) => zat (decide (q1.text=(⟨#[112,117,116]⟩:zBA))) ( zbF (fun (j2:Option Int) => zat (decide ((2:Int)<(l1.length:Int))) ( zak (zd7 l1 2) fun (q2:zau) => zat (!decide (q2.text=(⟨#[97,102,116,101,114]⟩:zBA))) ( zak (zd7 l1 2) fun (q3:zau) => some q3.at_
) ( j2
)
) ( j2
)
) ( j1 4 4
)
) ( zat (decide (q1.text=(⟨#[97,115]⟩:zBA))) ( j1 3 6
) ( zat (decide (q1.text=(⟨#[115,107,105,112]⟩:zBA))) ( j1 2 2
) ( zak (zd7 l1 0) fun (q4:zau) => some q4.at_
)
)
)
) (fun (least1:Int) (most1:Int) => zat (decide (((l1.length:Int):Int)<least1)) ( some end1
) ( zat (decide ((most1:Int)<(l1.length:Int))) ( zak (zd7 l1 most1) fun (q5:zau) => some q5.at_
) ( some (-1)
)
)
)
theorem zkr {vvl1 vl1:Value} {Ll1:List zau} {kl1:Nat} {l1:List zau} (hwl1:Vw vvl1 Ll1 2 kl1 vl1 l1) {end1:Int} {r:Int} (h:zeE l1 end1=some r):FnR prog 63 [vl1,zI end1] [ze5 zc3 2 vvl1 kl1 Ll1] [] (fun _:Unit=>(zI r)) (fun _=>[]):=by
 unfold zeE at h
 refine FnR.intro func63 rfl ntmps63 (by simp) ?_
 intro w0 K hrd
 obtain ⟨j1,hj1,h⟩:=zbT h
 refine za2 (β:=Int×Int) 2 rfl (fun b=>j1 b.1 b.2=some r) (fun b=>[]) (fun b=>[(0,vl1),(1,zI end1),(5,zI b.1),(6,zI b.2)]) (fun b=>[]) (fun cut => ?_) ?_
 ·
  refine zyG (zyR 1 rfl (zyH (zyR 2 rfl (zyN (cut (zyG ?_))))))
  refine zyR 1 rfl ?_
  obtain ⟨q1,hq1,h⟩:=zbx h
  refine zbc hwl1 hq1 underlying86 zgo rfl dc rfl rfl rfl (zag zhW rfl dc rfl (show _=(kl1+(0:Int).toNat)*2+1 from rfl) (zcD (n:=kl1+(0:Int).toNat) (j:=1) (i:=0) (q:=q1) hrd rfl (by omega) ze4 rfl dc rfl (Vw.get hwl1 hq1) rfl rfl (zyN (zaA (zyG (zaW rfl zeL (zyR 1 rfl (zyN ?_))))))))
  refine zyB rfl h (fun h => ?_) (fun h => ?_)
  ·
   obtain ⟨j2,hj2,h⟩:=zbT h
   refine za2 (β:=Unit) 0 rfl (fun b=>j2=some r) (fun b=>[]) (fun b=>[(0,vl1),(1,zI end1)]) (fun b=>[]) (fun cut => ?_) ?_
   ·
    refine cut (zyG (zyR 1 rfl (zcs hwl1 rfl dc rfl underlying86 (zaW rfl zeR (zyR 1 rfl ?_)))))
    refine zyS (s:=20) rfl h (fun h => ?_) (fun h => ?_)
    ·
     refine zyR 1 rfl ?_
     obtain ⟨q2,hq2,h⟩:=zbx h
     refine zbc hwl1 hq2 underlying86 zgo rfl dc rfl rfl rfl (zag zhW rfl dc rfl (show _=(kl1+(2:Int).toNat)*2+1 from rfl) (zcD (n:=kl1+(2:Int).toNat) (j:=1) (i:=0) (q:=q2) hrd rfl (by omega) ze4 rfl dc rfl (Vw.get hwl1 hq2) rfl rfl (zaW rfl zjx (zyR 1 rfl (zyN ?_)))))
     refine zyB rfl h (fun h => ?_) (fun h => ?_)
     ·
      refine zyG (zyR 1 rfl ?_)
      obtain ⟨q3,hq3,h⟩:=zbx h
      refine zbc hwl1 hq3 underlying86 zgo rfl dc rfl rfl rfl (zag zgr rfl dc rfl (show _=(kl1+(2:Int).toNat)*2 from rfl) (zcD (n:=kl1+(2:Int).toNat) (j:=0) (i:=0) (q:=q3) hrd rfl (by omega) zd8 rfl dc rfl (Vw.get hwl1 hq3) rfl rfl (zyR 1 rfl (zyN (zaD (zai (zal (zai ?_))))))))
      cases h
      exact zba 4 results63
     refine zaq ?_
     exact zaj () h rfl (za9 rfl) Splits.nil
    refine zyR 6 rfl (zyN (za3 rfl (zaq ?_)))
    exact zaj () h rfl (za9 rfl) Splits.nil
   rintro _ h
   rw [hj2] at h
   refine zao (zyR 2 rfl (zaE (zae ?_)))
   exact zaj (4,4) h rfl (za9 rfl) Splits.nil
  refine zyG (zaW rfl zeL (zyR 1 rfl (zyN ?_)))
  refine zyB rfl h (fun h => ?_) (fun h => ?_)
  ·
   refine zao (zyR 2 rfl (zaE (zae ?_)))
   exact zaj (3,6) h rfl (za9 rfl) Splits.nil
  refine zyG (zaW rfl zeL (zyR 1 rfl (zyN ?_)))
  refine zyB rfl h (fun h => ?_) (fun h => ?_)
  ·
   refine zaq (zae ?_)
   exact zaj (2,2) h rfl (za9 rfl) Splits.nil
  refine zyG (zyR 1 rfl ?_)
  obtain ⟨q4,hq4,h⟩:=zbx h
  refine zbc hwl1 hq4 underlying86 zgo rfl dc rfl rfl rfl (zag zgr rfl dc rfl (show _=(kl1+(0:Int).toNat)*2 from rfl) (zcD (n:=kl1+(0:Int).toNat) (j:=0) (i:=0) (q:=q4) hrd rfl (by omega) zd8 rfl dc rfl (Vw.get hwl1 hq4) rfl rfl (zyR 1 rfl (zyN (zaD (zal (zai ?_)))))))
  cases h
  exact zba 4 results63
 rintro ⟨least1,most1⟩ h
 rw [hj1] at h
 refine zaM (zaA (zyG (zyR 1 rfl (zcs hwl1 rfl dc rfl underlying86 (zyR 1 rfl (zaW rfl zbE (zyR 1 rfl (zyN ?_))))))))
 refine zyB rfl h (fun h => ?_) (fun h => ?_)
 ·
  refine zyG (zyR 2 rfl (zyN (zaD (zal (zai ?_)))))
  cases h
  exact zba 4 results63
 refine zyG (zyR 1 rfl (zcs hwl1 rfl dc rfl underlying86 (zyR 1 rfl (zaW rfl zeR (zyR 1 rfl (zyN ?_))))))
 refine zyB rfl h (fun h => ?_) (fun h => ?_)
 ·
  refine zyG (zyR 2 rfl ?_)
  obtain ⟨q5,hq5,h⟩:=zbx h
  refine zbc hwl1 hq5 underlying86 zgo rfl dc rfl rfl rfl (zag zgr rfl dc rfl (show _=(kl1+(most1:Int).toNat)*2 from rfl) (zcD (n:=kl1+(most1:Int).toNat) (j:=0) (i:=0) (q:=q5) hrd rfl (by omega) zd8 rfl dc rfl (Vw.get hwl1 hq5) rfl rfl (zyR 1 rfl (zyN (zaD (zal (zai ?_)))))))
  cases h
  exact zba 4 results63
 refine zaq (zae (zaG (zyG (zyR 1 rfl (zyN (zaD ?_))))))
 cases h
 exact zba 4 results63
def zcL (r1:zBA) (x1:zam) (ag1:zBA→Option zBA) (b8:zBA):Option zBA := zak (zdF x1) fun (r3:Bool) => zat (r3) ( grd (I32 x1.Rune) <| grd (b8.size+(Utf8.encode (zbb x1.Rune)).size≤140737488355328) <| ag1 (b8++(Utf8.encode (zbb x1.Rune)))
) ( grd (I64 (x1.At+x1.Width)) <| grd (0≤(x1.At:Int)∧(x1.At:Int)≤(x1.At+x1.Width)∧(x1.At+x1.Width:Int)≤(r1.size:Int)) <| grd (b8.size+(zcz r1 x1.At (x1.At+x1.Width)).size≤140737488355328) <| ag1 (b8++(zcz r1 x1.At (x1.At+x1.Width)))
)
def zeD (s1:zBA):Option zBA := zbF (fun (j1:zBA→Option zBA) => zak (zfa s1) fun (r1:zBA) => zak (zdQ r1) fun (r2:zBA) => zak (zcK r2) fun (its1:(List zam)) => zbF (fun (dn1:zBA→Option zBA) => zb4 dn1 (zcL r1) its1 ByteArray.empty
) (fun (b8:zBA) => j1 b8
)
) (fun (b2:zBA) => some b2
)
theorem zkq {s1:zBA} {r:zBA} (h:zeD s1=some r):FnP prog 84 [.string s1] (.string r):=by
 unfold zeD at h
 refine FnP.intro func84 rfl ntmps84 (by simp) ?_
 intro w0 K
 refine zfV ?_
 obtain ⟨j1,hj1,h⟩:=zbT h
 refine za2 (β:=zBA×Nat×Value×(List Nat)) 3 rfl (fun b=>j1 b.1=some r) (fun b=>zdp b.2.2.2) (fun b=>[(3,zP b.2.1)]) (fun b=>[cells b.2.1 [b.2.2.1] 43,byt 5 b.2.2.1 b.1,zej ((b.2.2.2:List Nat).map zdW)]) (fun cut => ?_) ?_
 ·
  refine zyG ?_
  refine zeb rfl dc rfl (fun b3 => ?_)
  refine zyR 1 rfl (zyH (zan (k:=1) ze4 rfl dc rfl rfl rfl ?_))
  obtain ⟨r1,hq1,h⟩:=zbx h
  refine zaQ (v:=.string r1) (vs:=[.string s1]) rfl dc rfl rfl rfl zzr (zjm hq1) ?_
  refine zaP (k:=1) (l':=[.string r1]) ziS rfl rfl rfl rfl rfl (fun _ _=>rfl) rfl ?_
  refine zyH ?_
  refine za4 zxT rfl dc (fun b4 => ?_)
  refine zyN (cut (zyG (zan (k:=1) ze4 rfl dc rfl rfl rfl ?_)))
  obtain ⟨r2,hq2,h⟩:=zbx h
  refine zb3 (vs:=[.string r1]) rfl dc rfl rfl rfl zst (zev hq2) Splits.nil ?_
  rintro b5
  refine zyN (zaA ?_)
  obtain ⟨its1,hq3,h⟩:=zbx h
  refine zjC (e:=5) ?_
  obtain ⟨dn1,hdn1,h⟩:=zbT h
  refine zhc (α:=zam) (β:=zBA×Value) (γ:=Unit) (δ:=Nat) (ps:=[9]) Ro.nil rfl zss (zdH hq3) (fun pre b=>∀ post,its1=pre++post→zb4 dn1 (zcL r1) post b.1=some r) (fun pre b=>[cells b3 [.string r1] 9,cells b4 [b.2] 43,byt 5 b.2 b.1]) (fun c pre g=>False) (fun c pre g=>[]) (fun pre x b j=>[(1,zP b3),(2,.string (⟨#[]⟩:zBA)),(3,zP b4),(8,.func (.func 71) #[] #[zP b5]),(4,zP j)]) (fun pre x b j=>[cells b3 [.string r1] 9,cells b4 [b.2] 43,byt 5 b.2 b.1,cells j (zr0 x) 95]) (ByteArray.empty,(.slice none 0 0)) (fun post e=>by rw [List.nil_append] at e; subst e; exact h) (zaa [1,2,4] kr rfl) ⟨.inl ⟨3,rfl⟩,trivial⟩ (fun _=>rfl) dc ?_ ?_ ?_ ?_
  ·
   rintro lp rc pre x1 post ⟨b8,v4⟩ w1 K1 hxs1 hext hro hinv
   refine zao ?_
   refine za4 zkL rfl dc (fun b9 => ?_)
   refine za6 (k:=3) (vs:=(zr0 x1)) (l':=(zr0 x1)) zfR rfl rfl rfl rfl rfl (show _≤_ by simp) rfl rfl ?_
   refine zaE ?_
   exact fun a w ha hw=>⟨b9,(za9 rfl) _ _ _ ha,hw.weaken (zaa [0,1,2,3] kr rfl)⟩
  ·
   rintro lp rc pre x1 post1 ⟨b8,v4⟩ jb1 w1 K1 hxs1 hext hro hinv
   have h:=hinv (x1::post1) hxs1
   obtain ⟨ag1,hag1⟩:∃ ag,ag=zb4 dn1 (zcL r1) post1:=⟨_,rfl⟩
   have h:zcL r1 x1 ag1 b8=some r:=by have h2:=h; rw [zbQ,← hag1] at h2; exact h2
   unfold zcL at h
   refine zaA (zyG (zbW (k:=3) (cs:=(zr0 x1)) zgZ rfl dc rfl rfl rfl rfl ?_))
   obtain ⟨r3,hq4,h⟩:=zbx h
   refine zaQ (v:=.bool r3) (vs:=[.agg (zr0 x1).toArray]) rfl dc rfl rfl rfl zxf (zgM (p1:=x1) hq4) (zyN ?_)
   refine zyB rfl h (fun h => ?_) (fun h => ?_)
   ·
    obtain ⟨hg1,h⟩:=zcg h
    obtain ⟨hg2,h⟩:=zcg h
    refine zdh 5 [(0,12,v4),(1,13,.pointer (some ⟨jb1,2,none⟩)),(2,14,.int .i32 x1.Rune),(3,15,.int .i32 (zbb x1.Rune)),(4,16,.string (Utf8.encode (zbb x1.Rune)))] mixed kr kr dc (by rfl) kr kr (zad ?_ (zad ?_ (zad ?_ (zad ?_ (zad ?_ DrawPre.nil))))) ?_
    · exact fun D n d c u i=>zan (k:=1) zu7 rfl dc (za8 (by rfl) rfl) rfl rfl (zaK 0 u i)
    · exact fun D n d c u i=>zag zgA rfl dc (za8 (by rfl) rfl) (show _=2 from rfl) (zaK 1 u i)
    · exact fun D n d c u i=>zan (k:=3) zft rfl dc (zaT 1 u d) rfl rfl (zaK 2 u i)
    · exact fun D n d c u i=>zaQ (v:=.int .i32 (zbb x1.Rune)) (vs:=[.int .i32 x1.Rune]) rfl dc rfl (evL.cons (zaT 2 u d) evL.nil) rfl ztT (zdV fun w=>zhu x1.Rune w hg1.1 hg1.2) (zaK 3 u i)
    · exact fun D n d c u i=>zdC rfl dc (zaT 3 u d) (zda underlying21 underlying9) (zaK 4 u i)
    refine zfM (k:=2) underlying43 underlying9 zuD rfl dc rfl rfl rfl hg2 (fun v5 => ?_)
    refine zaP (k:=1) (l':=[v5]) zwQ rfl rfl rfl rfl rfl (fun _ h=>zrS h (k:=2) rfl) rfl ?_
    refine zaE (zae ?_)
    exact zcC (b8++(Utf8.encode (zbb x1.Rune)),v5) (fun post2 e2=>by have e9:=zb7 hxs1 e2; subst e9; subst hag1; exact h) (zaa [0,1,2] kr rfl)
   obtain ⟨hg3,h⟩:=zcg h
   obtain ⟨hg4,h⟩:=zcg h
   obtain ⟨hg5,h⟩:=zcg h
   refine zdh 10 [(0,18,v4),(1,19,.string r1),(2,20,zP jb1),(3,21,zI x1.At),(4,22,zP jb1),(5,23,zI x1.At),(6,24,.pointer (some ⟨jb1,1,none⟩)),(7,25,zI x1.Width),(8,26,zI (x1.At+x1.Width)),(9,27,.string (zcz r1 x1.At (x1.At+x1.Width)))] mixed kr kr dc (by rfl) kr kr (zad ?_ (zad ?_ (zad ?_ (zad ?_ (zad ?_ (zad ?_ (zad ?_ (zad ?_ (zad ?_ (zad ?_ DrawPre.nil)))))))))) ?_
   · exact fun D n d c u i=>zan (k:=1) zu7 rfl dc (za8 (by rfl) rfl) rfl rfl (zaK 0 u i)
   · exact fun D n d c u i=>zan (k:=0) ze4 rfl dc (za8 (by rfl) rfl) rfl rfl (zaK 1 u i)
   · exact fun D n d c u i=>zag zdY rfl dc (za8 (by rfl) rfl) (show _=0 from rfl) (zaK 2 u i)
   · exact fun D n d c u i=>zan (k:=3) zd8 rfl dc (zaT 2 u d) rfl rfl (zaK 3 u i)
   · exact fun D n d c u i=>zag zdY rfl dc (za8 (by rfl) rfl) (show _=0 from rfl) (zaK 4 u i)
   · exact fun D n d c u i=>zan (k:=3) zd8 rfl dc (zaT 4 u d) rfl rfl (zaK 5 u i)
   · exact fun D n d c u i=>zag zg3 rfl dc (za8 (by rfl) rfl) (show _=1 from rfl) (zaK 6 u i)
   · exact fun D n d c u i=>zan (k:=3) zd8 rfl dc (zaT 6 u d) rfl rfl (zaK 7 u i)
   · exact fun D n d c u i=>zhj rfl dc (zaT 5 u d) (zaT 7 u d) (zbi (r:=x1.At+x1.Width) (IntWalk.i64_in _ hg3)) (zaK 8 u i)
   · exact fun D n d c u i=>zce rfl dc (zaT 1 u d) (evO.some (zaT 3 u d)) (evO.some (zaT 8 u d)) (za7 (i:=x1.At) (j:=x1.At+x1.Width) underlying9 (.inr rfl) (.inr rfl) hg4) (zaK 9 u i)
   refine zfM (k:=2) underlying43 underlying9 zuD rfl dc rfl rfl rfl hg5 (fun v6 => ?_)
   refine zaP (k:=1) (l':=[v6]) zwQ rfl rfl rfl rfl rfl (fun _ h=>zrS h (k:=2) rfl) rfl ?_
   refine zaE (zae ?_)
   exact zcC (b8++(zcz r1 x1.At (x1.At+x1.Width)),v6) (fun post2 e2=>by have e9:=zb7 hxs1 e2; subst e9; subst hag1; exact h) (zaa [0,1,2] kr rfl)
  ·
   rintro dm1 ⟨b8,v4⟩ hinv
   have h:dn1 b8=some r:=hinv [] (List.append_nil _).symm
   rw [hdn1] at h
   show TX _ _ _ _ _ _ _ [zej ((([]:List Nat):List Nat).map zdW),emp,emp,cells b5 [.string r2] 9,emp,cells b3 [.string r1] 9,cells b4 [v4] 43,byt 5 v4 b8,zdW dm1]
   refine zdU (k:=8) (j:=0) rfl rfl dc ?_
   refine zae ?_
   exact zaj (b8,b4,v4,dm1::([]:List Nat)) h rfl (za9 rfl) (zaa [6,7,0] kr rfl)
  rintro dm1 c pre x1 post g hxs hX
  exact (show False from hX).elim
 rintro ⟨b2,b1,v1,ds1⟩ h
 rw [hj1] at h
 refine zyG (zan (k:=0) zu7 rfl dc rfl rfl rfl (zfL (k:=1) rfl dc rfl rfl underlying43 underlying5 underlying9 (zyR 1 rfl (zyN (zaD ?_)))))
 cases h
 exact zdj (rs:=[.tmp 2]) ds1 () (.inl rfl) (zbf (k:=2) rfl) results84 (.cons (.tmp rfl) .nil) rfl Splits.nil
def zcY (ek1:Int→Option zBA) (x1:zam) (ag1:Int→Option zBA) (n3:Int):Option zBA := grd (I64 (n3+1)) <| zat (decide ((8:Int)<(n3+1))) ( ek1 (n3+1)
) ( zak (zdF x1) fun (r3:Bool) => zat (!r3) ( zat (((n3+1):Int)==1) ( ek1 (n3+1)
) ( zak (zdS x1) fun (r4:Bool) => zat (!r4) ( ek1 (n3+1)
) ( ag1 (n3+1)
)
)
) ( ag1 (n3+1)
)
)
def zd0 (s1:zBA):Option zBA := zbF (fun (j1:zBA→Option zBA) => zak (zeD s1) fun (r1:zBA) => zak (zdQ r1) fun (r2:zBA) => zak (zcK r2) fun (its1:(List zam)) => zbF (fun (ek1:Int→Option zBA) => zbF (fun (dn1:Int→Option zBA) => zb4 dn1 (zcY ek1) its1 0
) (fun (n3:Int) => j1 r1
)
) (fun (n4:Int) => some (⟨#[]⟩:zBA)
)
) (fun (s2:zBA) => some s2
)
theorem zkp {s1:zBA} {r:zBA} (h:zd0 s1=some r):FnP prog 64 [.string s1] (.string r):=by
 unfold zd0 at h
 refine FnP.intro func64 rfl ntmps64 (by simp) ?_
 intro w0 K
 refine zfV ?_
 obtain ⟨j1,hj1,h⟩:=zbT h
 refine za2 (β:=zBA×Nat×(List Nat)) 3 rfl (fun b=>j1 b.1=some r) (fun b=>zdp b.2.2) (fun b=>[(0,.string b.1),(2,zP b.2.1)]) (fun b=>[cells b.2.1 [.string ByteArray.empty] 9,zej ((b.2.2:List Nat).map zdW)]) (fun cut => ?_) ?_
 ·
  refine zyG ?_
  refine za4 zzm rfl dc (fun b2 => ?_)
  refine zyH (zyR 1 rfl ?_)
  obtain ⟨r1,hq1,h⟩:=zbx h
  refine zaQ (v:=.string r1) (vs:=[.string s1]) rfl dc rfl rfl rfl zys (zkq hq1) (zyR 1 rfl (zyH ?_))
  refine za4 zwD rfl dc (fun b3 => ?_)
  refine zaP (k:=2) (l':=[zI 0]) zir rfl rfl rfl rfl rfl (fun _ _=>rfl) rfl ?_
  refine zyN (cut (zyG (zyR 1 rfl ?_)))
  obtain ⟨r2,hq2,h⟩:=zbx h
  refine zb3 (vs:=[.string r1]) rfl dc rfl rfl rfl zst (zev hq2) Splits.nil ?_
  rintro b4
  refine zyN (zaA ?_)
  obtain ⟨its1,hq3,h⟩:=zbx h
  obtain ⟨ek1,hek1,h⟩:=zbT h
  obtain ⟨dn1,hdn1,h⟩:=zbT h
  refine zhc (α:=zam) (β:=Int) (γ:=Int) (δ:=Nat) (ps:=[9]) Ro.nil rfl zss (zdH hq3) (fun pre b=>∀ post,its1=pre++post→zb4 dn1 (zcY ek1) post b=some r) (fun pre b=>[cells b2 [.string ByteArray.empty] 9,cells b3 [zI b] 3]) (fun c pre g=>(fun g=>c=.ret∧ek1 g=some r) g) (fun c pre g=>(fun g=>[cells b2 [.string (⟨#[]⟩:zBA)] 9,cells b3 [zI g] 3]) g) (fun pre x b j=>[(0,.string r1),(2,zP b2),(3,zP b3),(8,.func (.func 71) #[] #[zP b4]),(4,zP j)]) (fun pre x b j=>[cells b2 [.string ByteArray.empty] 9,cells b3 [zI b] 3,cells j (zr0 x) 95]) 0 (fun post e=>by rw [List.nil_append] at e; subst e; exact h) (zaa [1,2] kr rfl) ⟨.inl ⟨3,rfl⟩,trivial⟩ (fun _=>rfl) dc ?_ ?_ ?_ ?_
  ·
   rintro lp rc pre x1 post n3 w1 K1 hxs1 hext hro hinv
   refine zao ?_
   refine za4 zkL rfl dc (fun b5 => ?_)
   refine za6 (k:=2) (vs:=(zr0 x1)) (l':=(zr0 x1)) zfR rfl rfl rfl rfl rfl (show _≤_ by simp) rfl rfl ?_
   refine zaE ?_
   exact fun a w ha hw=>⟨b5,(za9 rfl) _ _ _ ha,hw.weaken (zaa [0,1,2] kr rfl)⟩
  ·
   rintro lp rc pre x1 post1 n3 jb1 w1 K1 hxs1 hext hro hinv
   have h:=hinv (x1::post1) hxs1
   obtain ⟨ag1,hag1⟩:∃ ag,ag=zb4 dn1 (zcY ek1) post1:=⟨_,rfl⟩
   have h:zcY ek1 x1 ag1 n3=some r:=by have h2:=h; rw [zbQ,← hag1] at h2; exact h2
   unfold zcY at h
   refine zaA (zyG (zan (k:=1) zd8 rfl dc rfl rfl rfl ?_))
   obtain ⟨hg1,h⟩:=zcg h
   refine zaW rfl (zbi (r:=n3+1) (IntWalk.i64_in _ hg1)) ?_
   refine zaP (k:=1) (l':=[zI (n3+1)]) zir rfl rfl rfl rfl rfl (fun _ _=>rfl) rfl ?_
   refine zyH (zan (k:=1) zd8 rfl dc rfl rfl rfl (zaW rfl zeR (zyR 1 rfl ?_)))
   refine zyS (s:=14) rfl h (fun h => ?_) (fun h => ?_)
   ·
    refine zyR 13 rfl (zaE ?_)
    refine zaG (zcf rfl (zyG ?_))
    refine zaP (k:=0) (l':=[.string (⟨#[]⟩:zBA)]) ziS rfl rfl rfl rfl rfl (fun _ _=>rfl) rfl ?_
    refine zyN (zaD (zal ?_))
    exact zb2 (n3+1) (show _∧_ from ⟨rfl,h⟩) (zaa [0,1] kr rfl)
   refine zbW (k:=2) (cs:=(zr0 x1)) zgZ rfl dc rfl rfl rfl rfl ?_
   obtain ⟨r3,hq4,h⟩:=zbx h
   refine zaQ (v:=.bool r3) (vs:=[.agg (zr0 x1).toArray]) rfl dc rfl rfl rfl zxf (zgM (p1:=x1) hq4) (zgG rfl dc rfl zeS (zyR 1 rfl ?_))
   refine zyS (s:=18) rfl h (fun h => ?_) (fun h => ?_)
   ·
    refine zan (k:=1) zd8 rfl dc rfl rfl rfl (zaW rfl zbn (zyR 1 rfl ?_))
    refine zyS (s:=21) rfl h (fun h => ?_) (fun h => ?_)
    ·
     refine zyR 6 rfl (zyN (zcf rfl (zyG ?_)))
     refine zaP (k:=0) (l':=[.string (⟨#[]⟩:zBA)]) ziS rfl rfl rfl rfl rfl (fun _ _=>rfl) rfl ?_
     refine zyN (zaD (zal ?_))
     exact zb2 (n3+1) (show _∧_ from ⟨rfl,h⟩) (zaa [0,1] kr rfl)
    refine zbW (k:=2) (cs:=(zr0 x1)) zgZ rfl dc rfl rfl rfl rfl ?_
    obtain ⟨r4,hq5,h⟩:=zbx h
    refine zaQ (v:=.bool r4) (vs:=[.agg (zr0 x1).toArray]) rfl dc rfl rfl rfl zxj (zhI (p1:=x1) hq5) (zgG rfl dc rfl zeS (zyR 3 rfl (zyN ?_)))
    refine zyB rfl h (fun h => ?_) (fun h => ?_)
    ·
     refine zyG ?_
     refine zaP (k:=0) (l':=[.string (⟨#[]⟩:zBA)]) ziS rfl rfl rfl rfl rfl (fun _ _=>rfl) rfl ?_
     refine zyN (zaD (zal ?_))
     exact zb2 (n3+1) (show _∧_ from ⟨rfl,h⟩) (zaa [0,1] kr rfl)
    refine zaq (zae ?_)
    exact zcC (n3+1) (fun post2 e2=>by have e9:=zb7 hxs1 e2; subst e9; subst hag1; exact h) (zaa [0,1] kr rfl)
   refine zyR 9 rfl (zyN (za3 rfl (zaq (zae ?_))))
   exact zcC (n3+1) (fun post2 e2=>by have e9:=zb7 hxs1 e2; subst e9; subst hag1; exact h) (zaa [0,1] kr rfl)
  ·
   rintro dm1 n3 hinv
   have h:dn1 n3=some r:=hinv [] (List.append_nil _).symm
   rw [hdn1] at h
   show TX _ _ _ _ _ _ _ [zej ((([]:List Nat):List Nat).map zdW),emp,emp,cells b4 [.string r2] 9,cells b2 [.string ByteArray.empty] 9,cells b3 [zI n3] 3,zdW dm1]
   refine zdU (k:=6) (j:=0) rfl rfl dc ?_
   refine zae ?_
   exact zaj (r1,b2,dm1::([]:List Nat)) h rfl (za9 rfl) (zaa [4,0] kr rfl)
  rintro dm1 c pre x1 post g hxs hX
  obtain ⟨rfl,h⟩:=(show _∧_ from hX)
  generalize g=n4 at *
  rw [hek1] at h
  show TC _ _ _ _ _ _ _ _ _ [zej ((([]:List Nat):List Nat).map zdW),emp,emp,cells b4 [.string r2] 9,cells b2 [.string (⟨#[]⟩:zBA)] 9,cells b3 [zI n4] 3,zdW dm1]
  refine ziO (k:=6) (j:=0) rfl rfl dc ?_
  refine zaD (zal (zai ?_))
  cases h
  exact zdj (rs:=[.cell 2 9]) (dm1::([]:List Nat)) () (.inl rfl) (zbf (k:=0) rfl) results64 (.cons (.cell ze4 (k:=4) rfl rfl) .nil) rfl Splits.nil
 rintro ⟨s2,b1,ds1⟩ h
 rw [hj1] at h
 refine zyG (zyR 1 rfl ?_)
 refine zaP (k:=0) (l':=[.string s2]) ziS rfl rfl rfl rfl rfl (fun _ _=>rfl) rfl ?_
 refine zyN (zaD ?_)
 cases h
 exact zdj (rs:=[.cell 2 9]) ds1 () (.inl rfl) (zbf (k:=1) rfl) results64 (.cons (.cell ze4 (k:=0) rfl rfl) .nil) rfl Splits.nil
def zbO (o1:zab) (ag1:(List (zBA×Int))→Int→Option zab) (m3:List (zBA×Int)) (x3:Int):Option zab := zat (decide ((x3:Int)<(o1.units.length:Int))) ( zak (zd7 o1.units x3) fun (q1:zBA) => grd (I64 (x3+1)) <| ag1 (zgw q1 x3 m3) (x3+1)
) ( some (⟨o1.units,m3,o1.fors,o1.skips,o1.lines⟩:zab)
)
def zcH (o1:zab):Option zab := zaU (fun _ _=>none) (zbO o1) zcG o1.place 0
theorem zfn {bo1:Nat} {o1:zab} {o1_h0 o1_h1 o1_h2 o1_h3 o1_h4:Hd} {r:zab} (h:zcH o1=some r):Fn prog 61 [zP bo1] [cells bo1 [o1_h0.v,.map (some (zaw o1_h1)),.map (some (zaw o1_h2)),.map (some (zaw o1_h3)),o1_h4.v] 79,zv0 o1_h0.v o1.units,za5 (fun n:zBA=>Value.string n) (fun n:Int=>Value.int .i64 n) (zaw o1_h1) o1.place,zbe (zaw o1_h2) o1.fors,za5 (fun n:zBA=>Value.string n) (fun n:Bool=>Value.bool n) (zaw o1_h3) o1.skips,zv0 o1_h4.v o1.lines] (fun b:Hd×Hd×Hd×Hd×Hd=>.tuple #[]) (fun b=>[cells bo1 [b.1.v,.map (some (zaw b.2.1)),.map (some (zaw b.2.2.1)),.map (some (zaw b.2.2.2.1)),b.2.2.2.2.v] 79,zv0 b.1.v r.units,za5 (fun n:zBA=>Value.string n) (fun n:Int=>Value.int .i64 n) (zaw b.2.1) r.place,zbe (zaw b.2.2.1) r.fors,za5 (fun n:zBA=>Value.string n) (fun n:Bool=>Value.bool n) (zaw b.2.2.2.1) r.skips,zv0 b.2.2.2.2.v r.lines]):=by
 unfold zcH at h
 refine Fn.intro func61 rfl ntmps61 (by simp) ?_
 intro w0 K
 refine zyG (zyR 1 rfl (za1 rfl dc rfl (zag ziF rfl dc rfl (show _=0 from rfl) (zan (k:=0) zgY rfl dc rfl rfl rfl (zdB (k:=1) rfl dc rfl rfl underlying38 (zyR 1 rfl (zyN (zaA ?_))))))))
 refine zbS (β:=Nat×(List (zBA×Int))×Int) (fun b=>zaU (fun _ _=>none) (zbO o1) b.1 b.2.1 b.2.2=some r) (fun b=>[]) (fun b=>[(0,zP bo1),(7,o1_h0.v),(8,zI (o1.units.length:Int)),(9,zI b.2.2)]) (fun b=>[cells bo1 [o1_h0.v,.map (some (zaw o1_h1)),.map (some (zaw o1_h2)),.map (some (zaw o1_h3)),o1_h4.v] 79,zv0 o1_h0.v o1.units,za5 (fun n:zBA=>Value.string n) (fun n:Int=>Value.int .i64 n) (zaw o1_h1) b.2.1,zbe (zaw o1_h2) o1.fors,za5 (fun n:zBA=>Value.string n) (fun n:Bool=>Value.bool n) (zaw o1_h3) o1.skips,zv0 o1_h4.v o1.lines]) (fun b=>b.1) (zcG,o1.place,0) h rfl (za9 rfl) (zaa [0,1,2,3,4,5] kr rfl) ?_
 rintro ⟨n1,m3,x3⟩ h
 cases n1 with
 | zero=>exact zez h
 | succ n1 =>
  obtain ⟨ag1,hag1⟩:∃ ag,ag=zaU (fun _ _=>none) (zbO o1) n1:=⟨_,rfl⟩
  have h:zbO o1 ag1 m3 x3=some r:=by rw [hag1]; exact h
  unfold zbO at h
  refine zyG (zaW rfl zbE (zyN (zaM ?_)))
  refine zyB rfl h (fun h => ?_) (fun h => ?_)
  ·
   refine zaq (zaG (zaM (zaA (zyG (zyR 1 rfl ?_)))))
   obtain ⟨q1,hq1,h⟩:=zbx h
   refine zbo (k:=1) hq1 underlying38 ziS rfl dc rfl rfl rfl rfl (zcv (i:=(x3:Int).toNat) (j:=0) (k:=1) (q:=q1) ze4 zcq rfl dc rfl rfl (zcj hq1) rfl dc rfl (zyR 2 rfl (zyN (zao (zyR 1 rfl (za1 rfl dc rfl (zag zjO rfl dc rfl (show _=1 from rfl) (zan (k:=0) zqk rfl dc rfl rfl rfl (zyR 2 rfl ?_)))))))))
   refine zfK (k:=2) (ek:=(fun n:zBA=>Value.string n)) (ev':=(fun n:Int=>Value.int .i64 n)) (kk:=q1) (vv:=x3) (zcV underlying9) underlying75 rfl rfl rfl rfl rfl ?_
   refine zaE (zae (zaG (zao ?_)))
   obtain ⟨hg1,h⟩:=zcg h
   refine zaW rfl (zbi (r:=x3+1) (IntWalk.i64_in _ hg1)) (zyR 1 rfl (zaE ?_))
   subst hag1
   exact zbv (n1,zgw q1 x3 m3,x3+1) h (Nat.lt_succ_self _) rfl (za9 rfl) (zaa [0,1,2,3,4,5] kr rfl)
  refine zbG (zap (zap (zaI ?_)))
  cases h
  exact zcu (rs:=[]) (o1_h0,o1_h1,o1_h2,o1_h3,o1_h4) (.inr rfl) results61 .nil rfl (zaa [0,1,2,3,4,5] kr rfl)
def zdL (o1:zab) (u1:zBA):Option Bool := zat ((zbK u1 o1.place).isSome) ( some true
) ( some ((zbK u1 o1.fors).isSome)
)
theorem ziG {bo1:Nat} {o1:zab} {o1_h0 o1_h1 o1_h2 o1_h3 o1_h4:Hd} {u1:zBA} {r:Bool} (h:zdL o1 u1=some r):FnR prog 66 [zP bo1,.string u1] [cells bo1 [o1_h0.v,.map (some (zaw o1_h1)),.map (some (zaw o1_h2)),.map (some (zaw o1_h3)),o1_h4.v] 79,zv0 o1_h0.v o1.units,za5 (fun n:zBA=>Value.string n) (fun n:Int=>Value.int .i64 n) (zaw o1_h1) o1.place,zbe (zaw o1_h2) o1.fors,za5 (fun n:zBA=>Value.string n) (fun n:Bool=>Value.bool n) (zaw o1_h3) o1.skips,zv0 o1_h4.v o1.lines] [] (fun _:Unit=>(.bool r)) (fun _=>[]):=by
 unfold zdL at h
 refine FnR.intro func66 rfl ntmps66 (by simp) ?_
 intro w0 K hrd
 refine zyG (zyR 1 rfl (zyH (zyR 1 rfl (za1 rfl dc rfl (zag zjO rfl dc rfl (show _=1 from rfl) (zc2 (i:=0) hrd rfl zqk rfl dc rfl rfl (zyR 1 rfl ?_)))))))
 refine zfU (k:=2) (ek:=(fun n:zBA=>Value.string n)) (ev':=(fun n:Int=>Value.int .i64 n)) (kk:=u1) (z0:=0) (zcV underlying9) underlying75 kr rfl dc rfl rfl hrd rfl ?_
 refine zyR 1 rfl (zaH rfl dc rfl rfl (zaH rfl dc rfl rfl (zyR 2 rfl (zyH (zyR 1 rfl (za1 rfl dc rfl (zag zoV rfl dc rfl (show _=2 from rfl) (zc2 (i:=0) hrd rfl zu6 rfl dc rfl rfl (zyR 1 rfl ?_)))))))))
 refine zpb (i:=3) (kk:=u1) underlying9 underlying76 kr rfl dc rfl rfl hrd rfl (fun hd1 hx1 => ?_)
 refine zyR 1 rfl (zaH rfl dc rfl rfl (zaH rfl dc rfl rfl (zyR 2 rfl (zyH (zyR 2 rfl ?_)))))
 refine zyS (s:=28) rfl h (fun h => ?_) (fun h => ?_)
 ·
  refine zyR 3 rfl (zyN (zaD ?_))
  cases h
  exact zba 4 results66
 refine zyR 3 rfl (zyN (zaD ?_))
 cases h
 exact zba 4 results66
def zem (j1:(List zBA)→Option zab) (ag1:(List zBA)→Int→Option zab) (o4:List zBA) (r3:Int):Option zab := zat (decide ((r3:Int)<1120)) ( zbF (fun (j2:(List zBA)→Option zab) => grd (I32 r3) <| zat (ziW r3) ( zak (zhC r3) fun (r4:(List Int)) => zat (((r4.length:Int):Int)==1) ( zak (zeB r3) fun (r5:zBA) => zat (decide (r5=Utf8.encode r3)) ( grd (o4.length+1≤2147483648) <| j2 (o4++[Utf8.encode r3])
) ( j2 o4
)
) ( j2 o4
)
) ( j2 o4
)
) (fun (o5:List zBA) => grd (I32 (r3+1)) <| ag1 o5 (r3+1)
)
) ( j1 o4
)
def zd2  : Option zab := zbF (fun (j1:(List zBA)→Option zab) => zaU (fun _ _=>none) (zem j1) zcG ([]:List zBA) 97
) (fun (o1:List zBA) => zak (zcH (⟨o1,([]:List (zBA×Int)),([]:List (zBA×List zBA)),([]:List (zBA×Bool)),([]:List zBA)⟩:zab)) fun (r6:zab) => some r6
)
theorem zkt  {r:zab} (h:zd2=some r):Fn prog 35 [] [] (fun b:Nat×Hd×Hd×Hd×Hd×Hd=>zP b.1) (fun b=>[cells b.1 [b.2.1.v,.map (some (zaw b.2.2.1)),.map (some (zaw b.2.2.2.1)),.map (some (zaw b.2.2.2.2.1)),b.2.2.2.2.2.v] 79,zv0 b.2.1.v r.units,za5 (fun n:zBA=>Value.string n) (fun n:Int=>Value.int .i64 n) (zaw b.2.2.1) r.place,zbe (zaw b.2.2.2.1) r.fors,za5 (fun n:zBA=>Value.string n) (fun n:Bool=>Value.bool n) (zaw b.2.2.2.2.1) r.skips,zv0 b.2.2.2.2.2.v r.lines]):=by
 unfold zd2 at h
 refine Fn.intro func35 rfl ntmps35 (by simp) ?_
 intro w0 K
 obtain ⟨j1,hj1,h⟩:=zbT h
 refine za2 (β:=(List zBA)×Nat×Hd×Nat×Nat×Nat) 2 rfl (fun b=>j1 b.1=some r) (fun b=>[]) (fun b=>[(1,zP b.2.1)]) (fun b=>[cells b.2.1 [b.2.2.1.v,.map (some b.2.2.2.1),.map (some b.2.2.2.2.1),.map (some b.2.2.2.2.2),.slice none 0 0] 79,zv0 b.2.2.1.v b.1,za5 (fun n:zBA=>Value.string n) (fun n:Int=>Value.int .i64 n) b.2.2.2.1 ([]:List (zBA×Int)),zbe b.2.2.2.2.1 ([]:List (zBA×List zBA)),za5 (fun n:zBA=>Value.string n) (fun n:Bool=>Value.bool n) b.2.2.2.2.2 ([]:List (zBA×Bool))]) (fun cut => ?_) ?_
 ·
  refine zyG (zyR 1 rfl (zyH ?_))
  refine zgS (fun n:zBA=>Value.string n) (fun n:Int=>Value.int .i64 n) rfl dc (fun b5 => ?_)
  refine zgS (fun s:zBA=>Value.string s) fsV rfl dc (fun b6 => ?_)
  refine zj5 (As:=[za5 (fun s:zBA=>Value.string s) fsV b6 []]) (zaa [1] kr rfl) (zoj (b:=b6)) (fun _ _ => ?_)
  refine zgS (fun n:zBA=>Value.string n) (fun n:Bool=>Value.bool n) rfl dc (fun b7 => ?_)
  refine zck (v:=.agg #[.slice none 0 0,.map (some b5),.map (some b6),.map (some b7),.slice none 0 0]) (ps:=[(1,.tmp 3),(2,.tmp 4),(3,.tmp 5)]) rfl dc rfl (fun _=>by kernel_rfl) ?_
  refine zeb rfl dc rfl (fun b8 => ?_)
  refine zyR 1 rfl (zyN (cut (zyG (zyR 1 rfl (zyN (zaA (ze2 (enc:=zgU) (e:=9) (size:=1) ?_)))))))
  refine zbS (β:=Nat×(List zBA)×Int×Hd) (fun b=>zaU (fun _ _=>none) (zem j1) b.1 b.2.1 b.2.2.1=some r) (fun b=>[]) (fun b=>[(1,zP b8),(2,.int .i32 b.2.2.1)]) (fun b=>[cells b8 [b.2.2.2.v,.map (some b5),.map (some b6),.map (some b7),.slice none 0 0] 79,zv0 b.2.2.2.v b.2.1,za5 (fun n:zBA=>Value.string n) (fun n:Int=>Value.int .i64 n) b5 ([]:List (zBA×Int)),zbe b6 ([]:List (zBA×List zBA)),za5 (fun n:zBA=>Value.string n) (fun n:Bool=>Value.bool n) b7 ([]:List (zBA×Bool))]) (fun b=>b.1) (zcG,([]:List zBA),97,Hd.nil) h rfl (za9 rfl) (zaa [4,5,0,2,3] kr rfl) ?_
  rintro ⟨n1,o4,r3,hd4⟩ h
  cases n1 with
  | zero=>exact zez h
  | succ n1 =>
   obtain ⟨ag1,hag1⟩:∃ ag,ag=zaU (fun _ _=>none) (zem j1) n1:=⟨_,rfl⟩
   have h:zem j1 ag1 o4 r3=some r:=by rw [hag1]; exact h
   unfold zem at h
   refine zaM (zyG (zyR 1 rfl (zaW rfl zbE (zyN ?_))))
   refine zyB rfl h (fun h => ?_) (fun h => ?_)
   ·
    refine zaq (zaG ?_)
    obtain ⟨j2,hj2,h⟩:=zbT h
    refine za2 (β:=(List zBA)×Hd) 0 rfl (fun b=>j2 b.1=some r) (fun b=>[]) (fun b=>[(1,zP b8),(2,.int .i32 r3)]) (fun b=>[cells b8 [b.2.v,.map (some b5),.map (some b6),.map (some b7),.slice none 0 0] 79,zv0 b.2.v b.1,za5 (fun n:zBA=>Value.string n) (fun n:Int=>Value.int .i64 n) b5 ([]:List (zBA×Int)),zbe b6 ([]:List (zBA×List zBA)),za5 (fun n:zBA=>Value.string n) (fun n:Bool=>Value.bool n) b7 ([]:List (zBA×Bool))]) (fun cut => ?_) ?_
    ·
     refine cut (zaA (zyG (zyR 1 rfl ?_)))
     obtain ⟨hg1,h⟩:=zcg h
     refine zaQ (v:=.bool (ziW r3)) (vs:=[.int .i32 r3]) rfl dc rfl rfl rfl zyU (zdV fun w=>ziV r3 w hg1.1 hg1.2) ?_
     refine zyR 1 rfl ?_
     refine zyS (s:=14) rfl h (fun h => ?_) (fun h => ?_)
     ·
      refine zyR 1 rfl ?_
      obtain ⟨r4,hq1,h⟩:=zbx h
      refine zb3 (vs:=[.int .i32 r3]) rfl dc rfl rfl rfl zyT (zmR hq1) Splits.nil ?_
      rintro v1
      refine zcr (k:=5) rfl (fun hd6 he1 => ?_)
      subst he1
      refine zdB (k:=5) rfl dc rfl rfl underlying30 (zaW rfl zbn (zyR 2 rfl ?_))
      refine zyS (s:=20) rfl h (fun h => ?_) (fun h => ?_)
      ·
       refine zyR 1 rfl ?_
       obtain ⟨r5,hq2,h⟩:=zbx h
       refine zaQ (v:=.string r5) (vs:=[.int .i32 r3]) rfl dc rfl rfl rfl zxi (zhf hq2) (zyR 1 rfl (zdC rfl dc rfl (zda underlying21 underlying9) (zaW rfl zeL (zyR 1 rfl (zyN ?_)))))
       refine zyB rfl h (fun h => ?_) (fun h => ?_)
       ·
        refine zao (zyR 2 rfl (za1 rfl dc rfl (zag ziF rfl dc rfl (show _=0 from rfl) (zan (k:=0) zgY rfl dc rfl rfl rfl (zyR 1 rfl (zdC rfl dc rfl (zda underlying21 underlying9) ?_))))))
        refine zaX (cs:=[.string (Utf8.encode r3)]) (te:=9) (ps:=[(0,.tmp 33)]) rfl dc rfl (fun _=>by kernel_rfl) (fun b9 => ?_)
        obtain ⟨hg2,h⟩:=zcg h
        refine zbP (k:=1) (k2:=6) (ys:=[Utf8.encode r3]) underlying38 zvL zcq zhX rfl dc rfl rfl rfl rfl rfl rfl hg2 (fun v2 => ?_)
        refine zcr (k:=1) rfl (fun hd7 he2 => ?_)
        subst he2
        refine za1 rfl dc rfl (zag ziF rfl dc rfl (show _=0 from rfl) ?_)
        refine zaP (k:=0) (l':=[hd7.v,.map (some b5),.map (some b6),.map (some b7),.slice none 0 0]) zqf rfl rfl rfl rfl rfl (fun _ _=>rfl) rfl ?_
        refine zaE (zae ?_)
        exact zaj (o4++[Utf8.encode r3],hd7) h rfl (za9 rfl) (zaa [0,1,2,3,4] kr rfl)
       refine zaq (zae ?_)
       exact zaj (o4,hd4) h rfl (za9 rfl) (zaa [0,1,2,3,4] kr rfl)
      refine zyR 6 rfl (zyN (za3 rfl (zaq (zae ?_))))
      exact zaj (o4,hd4) h rfl (za9 rfl) (zaa [0,1,2,3,4] kr rfl)
     refine zyR 12 rfl (zyN ?_)
     refine za3 rfl (zaq (zae ?_))
     exact zaj (o4,hd4) h rfl (za9 rfl) (zaa [0,1,2,3,4] kr rfl)
    rintro ⟨o5,hd5⟩ h
    rw [hj2] at h
    refine zao (zyR 1 rfl ?_)
    obtain ⟨hg3,h⟩:=zcg h
    refine zaW rfl (zbi (r:=r3+1) (IntWalk.i32_in _ hg3)) (zyR 1 rfl (zaE ?_))
    subst hag1
    exact zbv (n1,o5,r3+1,hd5) h (Nat.lt_succ_self _) rfl (za9 rfl) (zaa [0,1,2,3,4] kr rfl)
   refine zbG (zap (zap (zaI ?_)))
   exact zaj (o4,b8,hd4,b5,b6,b7) h rfl (za9 rfl) (zaa [0,1,2,3,4] kr rfl)
 rintro ⟨o1,b1,hd1,b2,b3,b4⟩ h
 rw [hj1] at h
 refine zyG (zyR 1 rfl (zgR (enc:=zgU) (e:=9) (size:=1) ?_))
 obtain ⟨r6,hq3,h⟩:=zbx h
 refine zb3 (vs:=[zP b1]) rfl dc rfl rfl rfl zxh (zfn (bo1:=b1) (o1:=(⟨o1,([]:List (zBA×Int)),([]:List (zBA×List zBA)),([]:List (zBA×Bool)),([]:List zBA)⟩:zab)) (o1_h0:=hd1) (o1_h1:=(⟨some ⟨b2,0,none⟩,0,0⟩:Hd)) (o1_h2:=(⟨some ⟨b3,0,none⟩,0,0⟩:Hd)) (o1_h3:=(⟨some ⟨b4,0,none⟩,0,0⟩:Hd)) (o1_h4:=Hd.nil) hq3) (zaa [0,1,2,3,4,5] kr rfl) ?_
 rintro ⟨hd8,hd9,hd10,hd11,hd12⟩
 refine zcI (L':=[cells b1 [hd8.v,.map (some (zaw hd9)),.map (some (zaw hd10)),.map (some (zaw hd11)),hd12.v] 79,zv0 hd8.v r6.units,za5 (fun n:zBA=>Value.string n) (fun n:Int=>Value.int .i64 n) (zaw hd9) r6.place,zbe (zaw hd10) r6.fors,za5 (fun n:zBA=>Value.string n) (fun n:Bool=>Value.bool n) (zaw hd11) r6.skips,zv0 hd12.v r6.lines]) (zaa [6,7,8,9,10,11] kr rfl) ?_
 refine zyH (zyR 2 rfl (zyN (zaD ?_)))
 cases h
 exact zcu (rs:=[.tmp 0]) (b1,hd8,hd9,hd10,hd11,hd12) (.inl rfl) results35 (.cons (.tmp rfl) .nil) rfl (zaa [0,1,2,3,4,5] kr rfl)
def zc7 (j2:Option (List zBA)) (ag1:zBA→Option (List zBA)) (x3:zBA):Option (List zBA) := zat (decide ((0:Int)<(x3.size:Int))) ( grd (False) <| grd (0≤(0:Int)∧(0:Int)≤0∧(0:Int)≤(x3.size:Int)) <| zm3 (zcz x3 0 0) <| grd (0≤(0:Int)∧(0:Int)≤(x3.size:Int)∧((x3.size:Int):Int)≤(x3.size:Int)) <| ag1 (zcz x3 0 (x3.size:Int))
) ( j2
)
def zb6 (c0:zBA) (c2:Int) (j3:zBA→Option (List zBA)) (ag2:zBA→Option (List zBA)) (x7:zBA):Option (List zBA) := grd (c0=⟨#[10]⟩) <| zat (decide (((Lib.indexByte x7.data.toList 10):Int)<0)) ( j3 x7
) ( grd (I64 ((Lib.indexByte x7.data.toList 10)+c2)) <| grd (0≤(0:Int)∧(0:Int)≤((Lib.indexByte x7.data.toList 10)+c2)∧((Lib.indexByte x7.data.toList 10)+c2:Int)≤(x7.size:Int)) <| zm3 (zcz x7 0 ((Lib.indexByte x7.data.toList 10)+c2)) <| grd (I64 ((Lib.indexByte x7.data.toList 10)+(c0.size:Int))) <| grd (0≤((Lib.indexByte x7.data.toList 10)+(c0.size:Int):Int)∧((Lib.indexByte x7.data.toList 10)+(c0.size:Int):Int)≤(x7.size:Int)∧((x7.size:Int):Int)≤(x7.size:Int)) <| ag2 (zcz x7 ((Lib.indexByte x7.data.toList 10)+(c0.size:Int)) (x7.size:Int))
)
def zdX (c0:zBA) (c1:zBA) (c2:Int):Option (List zBA) := zbF (fun (j1:Option (List zBA)) => zat (((c0.size:Int):Int)==0) ( zbF (fun (j2:Option (List zBA)) => zaU (fun _=>none) (zc7 j2) zcG c1
) ( some []
)
) ( j1
)
) ( zbF (fun (j3:zBA→Option (List zBA)) => zaU (fun _=>none) (zb6 c0 c2 j3) zcG c1
) (fun (x4:zBA) => zm3 x4 <| some []
)
)
theorem zhk {b_c0:Nat} {c0:zBA} {b_c1:Nat} {c1:zBA} {b_c2:Nat} {c2:Int} {xs:(List zBA)} (h:zdX c0 c1 c2=some xs):ItrM prog 81 [zP b_c0,zP b_c1,zP b_c2] (fun q:zBA=>[.string q]) xs [cells b_c0 [.string c0] 9,cells b_c1 [.string c1] 9,cells b_c2 [zI c2] 3]:=by
 unfold zdX at h
 refine ItrM.intro func81 rfl ntmps81 (by simp) ?_
 intro l w0 K I X  hy
 obtain ⟨r0,hx0⟩:∃ r,xs=[]++r:=⟨xs,rfl⟩
 have hr0:xs=r0:=hx0
 rw [hr0] at h
 obtain ⟨j1,hj1,h⟩:=zbT h
 refine za2 (β:=Unit) 0 rfl (fun b=>j1=some r0) (fun b=>[]) (fun b=>[(0,.func (.yield l) #[] #[]),(1,zP b_c0),(2,zP b_c1),(3,zP b_c2)]) (fun b=>[I ([]:List zBA),cells b_c0 [.string c0] 9,cells b_c1 [.string c1] 9,cells b_c2 [zI c2] 3]) (fun cut => ?_) ?_
 ·
  refine cut (zyG (zan (k:=1) ze4 rfl dc rfl rfl rfl (zcU rfl dc rfl underlying9 (zaW rfl zbn (zyN ?_)))))
  refine zyB rfl h (fun h => ?_) (fun h => ?_)
  ·
   obtain ⟨j2,hj2,h⟩:=zbT h
   refine za2 (β:=(List zBA)×(List zBA)) 0 rfl (fun b=>j2=some b.2∧xs=b.1++b.2) (fun b=>[]) (fun b=>[]) (fun b=>[I b.1]) (fun cut => ?_) ?_
   ·
    refine cut (zaA ?_)
    refine zbS (β:=Nat×zBA×(List zBA)×(List zBA)) (fun b=>zaU (fun _=>none) (zc7 j2) b.1 b.2.1=some b.2.2.2∧xs=b.2.2.1++b.2.2.2) (fun b=>[]) (fun b=>[(0,.func (.yield l) #[] #[]),(2,zP b_c1)]) (fun b=>[I b.2.2.1,cells b_c1 [.string b.2.1] 9]) (fun b=>b.1) (zcG,c1,([]:List zBA),r0) ⟨h,hx0⟩ rfl (za9 rfl) (zaa [0,2] kr rfl) ?_
    rintro ⟨n1,x3,acc4,rr4⟩ ⟨h,hx4⟩
    cases n1 with
    | zero=>exact zez h
    | succ n1 =>
     obtain ⟨ag1,hag1⟩:∃ ag,ag=zaU (fun _=>none) (zc7 j2) n1:=⟨_,rfl⟩
     have h:zc7 j2 ag1 x3=some rr4:=by rw [hag1]; exact h
     unfold zc7 at h
     refine zaM (zyG (zan (k:=1) ze4 rfl dc rfl rfl rfl (zcU rfl dc rfl underlying9 (zaW rfl zeR (zyN ?_)))))
     refine zyB rfl h (fun h => ?_) (fun h => ?_)
     ·
      refine zaq (zaG (zaA (zyG (zan (k:=1) ze4 rfl dc rfl rfl rfl ?_))))
      obtain ⟨hg1,h⟩:=zcg h
      refine zaQ (v:=.tuple #[.int .i32 0,zI 0]) (vs:=[.string x3]) rfl dc rfl rfl rfl zyu (hg1).elim (zyR 1 rfl (zaH rfl dc rfl rfl (zaH rfl dc rfl rfl (zyR 2 rfl (zyN (zaM (zyG (zyR 1 rfl (zan (k:=1) ze4 rfl dc rfl rfl rfl (zyR 1 rfl ?_))))))))))
      obtain ⟨hg2,h⟩:=zcg h
      refine zce rfl dc rfl rfl rfl (za7 (i:=0) (j:=0) underlying9 (.inl ⟨rfl,rfl⟩) (.inr rfl) hg2) ?_
      obtain ⟨rr5,hr1,h⟩:=zo5 h
      have hx5:xs=acc4++(zcz x3 0 0)::rr5:=by rw [hx4,hr1]
      refine zg8 hy rfl dc rfl hx5 rfl (k:=0) rfl ?_ ?_
      ·
       have hx6:xs=(acc4++[zcz x3 0 0])++rr5:=by rw [hx5]; simp
       refine zgG rfl dc rfl zeS (zyN (za3 rfl (zaq (zaG (zao (zan (k:=1) ze4 rfl dc rfl rfl rfl (zyR 1 rfl ?_)))))))
       obtain ⟨hg3,h⟩:=zcg h
       refine zce rfl dc rfl rfl rfl (za7 (i:=0) (j:=(x3.size:Int)) underlying9 (.inr rfl) (.inl ⟨rfl,rfl⟩) hg3) ?_
       refine zaP (k:=1) (l':=[.string (zcz x3 0 (x3.size:Int))]) ziS rfl rfl rfl rfl rfl (fun _ _=>rfl) rfl ?_
       refine zaE (zae ?_)
       subst hag1
       exact zbv (n1,zcz x3 0 (x3.size:Int),acc4++[zcz x3 0 0],rr5) ⟨h,hx6⟩ (Nat.lt_succ_self _) rfl (za9 rfl) (zaa [0,1] kr rfl)
      refine zgG rfl dc rfl zeS (zyN (zcf rfl (zaD (zai (zal (zai (zal (zai (zai ?_)))))))))
      exact ziL (ds:=[]) acc4 (zcz x3 0 0) rr5 hx5 (.inl rfl) Splits.nil results81 (zaa [0] kr rfl)
     refine zbG (zap (zap (zaI ?_)))
     exact zaj (acc4,rr4) ⟨h,hx4⟩ rfl (znf) (zaa [0] kr rfl)
   rintro ⟨acc1,rr1⟩ ⟨h,hx1⟩
   rw [hj2] at h
   refine zaD (zai ?_)
   cases h
   exact zj2 (ds:=[]) (.inl rfl) Splits.nil results81 (congrArg I (hx1.trans (List.append_nil _))) (zaa [0] kr rfl)
  refine zaq ?_
  exact zaj () h rfl (za9 rfl) (zaa [0,1,2,3] kr rfl)
 rintro _ h
 rw [hj1] at h
 obtain ⟨j3,hj3,h⟩:=zbT h
 refine za2 (β:=zBA×(List zBA)×(List zBA)) 0 rfl (fun b=>j3 b.1=some b.2.2∧xs=b.2.1++b.2.2) (fun b=>[]) (fun b=>[(0,.func (.yield l) #[] #[]),(2,zP b_c1)]) (fun b=>[I b.2.1,cells b_c1 [.string b.1] 9]) (fun cut => ?_) ?_
 ·
  refine cut (zaA ?_)
  refine zbS (β:=Nat×zBA×(List zBA)×(List zBA)) (fun b=>zaU (fun _=>none) (zb6 c0 c2 j3) b.1 b.2.1=some b.2.2.2∧xs=b.2.2.1++b.2.2.2) (fun b=>[]) (fun b=>[(0,.func (.yield l) #[] #[]),(1,zP b_c0),(2,zP b_c1),(3,zP b_c2)]) (fun b=>[I b.2.2.1,cells b_c0 [.string c0] 9,cells b_c1 [.string b.2.1] 9,cells b_c2 [zI c2] 3]) (fun b=>b.1) (zcG,c1,([]:List zBA),r0) ⟨h,hx0⟩ rfl (za9 rfl) (zaa [0,1,2,3] kr rfl) ?_
  rintro ⟨n2,x7,acc8,rr9⟩ ⟨h,hx10⟩
  cases n2 with
  | zero=>exact zez h
  | succ n2 =>
   obtain ⟨ag2,hag2⟩:∃ ag,ag=zaU (fun _=>none) (zb6 c0 c2 j3) n2:=⟨_,rfl⟩
   have h:zb6 c0 c2 j3 ag2 x7=some rr9:=by rw [hag2]; exact h
   unfold zb6 at h
   refine zaA (zyG (zan (k:=2) ze4 rfl dc rfl rfl rfl (zan (k:=1) ze4 rfl dc rfl rfl rfl ?_)))
   obtain ⟨hg4,h⟩:=zcg h
   refine zaQ (v:=zI (Lib.indexByte x7.data.toList 10)) (vs:=[.string x7,.string c0]) rfl dc rfl rfl rfl zyt (zvp x7 hg4) (zyR 1 rfl (zyN (zaM (zyG (zyR 1 rfl (zaW rfl zbE (zyN ?_)))))))
   refine zyB rfl h (fun h => ?_) (fun h => ?_)
   ·
    refine zbG (zap (zh3 dc (zap (zaI ?_))))
    exact zaj (x7,acc8,rr9) ⟨h,hx10⟩ rfl (za9 rfl) (zaa [0,2] kr rfl)
   refine zaq (zaG (zyG (zan (k:=2) ze4 rfl dc rfl rfl rfl (zyR 1 rfl (zan (k:=3) zd8 rfl dc rfl rfl rfl ?_)))))
   obtain ⟨hg5,h⟩:=zcg h
   refine zaW rfl (zbi (r:=(Lib.indexByte x7.data.toList 10)+c2) (IntWalk.i64_in _ hg5)) ?_
   obtain ⟨hg6,h⟩:=zcg h
   refine zce rfl dc rfl rfl rfl (za7 (i:=0) (j:=(Lib.indexByte x7.data.toList 10)+c2) underlying9 (.inl ⟨rfl,rfl⟩) (.inr rfl) hg6) (zyR 1 rfl (zyN (zaM (zyG (zyR 2 rfl ?_)))))
   obtain ⟨rr10,hr2,h⟩:=zo5 h
   have hx11:xs=acc8++(zcz x7 0 ((Lib.indexByte x7.data.toList 10)+c2))::rr10:=by rw [hx10,hr2]
   refine zg8 hy rfl dc rfl hx11 rfl (k:=0) rfl ?_ ?_
   ·
    have hx12:xs=(acc8++[zcz x7 0 ((Lib.indexByte x7.data.toList 10)+c2)])++rr10:=by rw [hx11]; simp
    refine zgG rfl dc rfl zeS (zyN (za3 rfl (zaq (zaG (zao (zan (k:=2) ze4 rfl dc rfl rfl rfl (zyR 1 rfl (zan (k:=1) ze4 rfl dc rfl rfl rfl (zcU rfl dc rfl underlying9 ?_)))))))))
    obtain ⟨hg7,h⟩:=zcg h
    refine zaW rfl (zbi (r:=(Lib.indexByte x7.data.toList 10)+(c0.size:Int)) (IntWalk.i64_in _ hg7)) ?_
    obtain ⟨hg8,h⟩:=zcg h
    refine zce rfl dc rfl rfl rfl (za7 (i:=(Lib.indexByte x7.data.toList 10)+(c0.size:Int)) (j:=(x7.size:Int)) underlying9 (.inr rfl) (.inl ⟨rfl,rfl⟩) hg8) ?_
    refine zaP (k:=2) (l':=[.string (zcz x7 ((Lib.indexByte x7.data.toList 10)+(c0.size:Int)) (x7.size:Int))]) ziS rfl rfl rfl rfl rfl (fun _ _=>rfl) rfl ?_
    refine zaE (zae ?_)
    subst hag2
    exact zbv (n2,zcz x7 ((Lib.indexByte x7.data.toList 10)+(c0.size:Int)) (x7.size:Int),acc8++[zcz x7 0 ((Lib.indexByte x7.data.toList 10)+c2)],rr10) ⟨h,hx12⟩ (Nat.lt_succ_self _) rfl (za9 rfl) (zaa [0,1,2,3] kr rfl)
   refine zgG rfl dc rfl zeS (zyN (zcf rfl (zaD (zai (zal (zai (zal (zai ?_))))))))
   exact ziL (ds:=[]) acc8 (zcz x7 0 ((Lib.indexByte x7.data.toList 10)+c2)) rr10 hx11 (.inl rfl) Splits.nil results81 (zaa [0] kr rfl)
 rintro ⟨x4,acc5,rr6⟩ ⟨h,hx7⟩
 rw [hj3] at h
 refine zao (zyR 1 rfl (zan (k:=1) ze4 rfl dc rfl rfl rfl ?_))
 obtain ⟨rr11,hr3,h⟩:=zo5 h
 have hx13:xs=acc5++x4::rr11:=by rw [hx7,hr3]
 refine zg8 hy rfl dc rfl hx13 rfl (k:=0) rfl ?_ ?_
 ·
  have hx14:xs=(acc5++[x4])++rr11:=by rw [hx13]; simp
  refine zaE ?_
  cases h
  exact zj2 (ds:=[]) (.inr rfl) Splits.nil results81 (congrArg I (hx14.trans (List.append_nil _))) (zaa [0] kr rfl)
 refine zaE ?_
 exact ziL (ds:=[]) acc5 x4 rr11 hx13 (.inr rfl) Splits.nil results81 (zaa [0] kr rfl)
def zfe (s1:zBA) (sep1:zBA) (sepSave1:Int):Option (zBA×zBA×Int) := some (sep1,s1,sepSave1)
theorem zis {s1:zBA} {sep1:zBA} {sepSave1:Int} {r:(zBA×zBA×Int)} (h:zfe s1 sep1 sepSave1=some r):Fn prog 62 [.string s1,.string sep1,zI sepSave1] [] (fun b:Nat×Nat×Nat=>.func (.func 81) #[] #[zP b.1,zP b.2.1,zP b.2.2]) (fun b=>[cells b.1 [.string r.1] 9,cells b.2.1 [.string r.2.1] 9,cells b.2.2 [zI r.2.2] 3]):=by
 unfold zfe at h
 refine Fn.intro func62 rfl ntmps62 (by simp) ?_
 intro w0 K
 refine zyG ?_
 refine zeb rfl dc rfl (fun b1 => ?_)
 refine zeb rfl dc rfl (fun b2 => ?_)
 refine zeb rfl dc rfl (fun b3 => ?_)
 refine zyR 1 rfl (zyH (zfB (x1:=[]) (x2:=[.tmp 4,.tmp 3,.tmp 5]) rfl dc rfl rfl (zyR 1 rfl (zyN (zaD ?_)))))
 cases h
 exact zcu (rs:=[.tmp 6]) (b2,b1,b3) (.inl rfl) results62 (.cons (.tmp rfl) .nil) rfl (zaa [1,0,2] kr rfl)
def zff (s1:zBA) (sep1:zBA):Option (zBA×zBA×Int) := zak (zfe s1 sep1 0) fun (r1:(zBA×zBA×Int)) => some (r1.1,r1.2.1,r1.2.2)
theorem zit {s1:zBA} {sep1:zBA} {r:(zBA×zBA×Int)} (h:zff s1 sep1=some r):Fn prog 36 [.string s1,.string sep1] [] (fun b:Nat×Nat×Nat=>.func (.func 81) #[] #[zP b.1,zP b.2.1,zP b.2.2]) (fun b=>[cells b.1 [.string r.1] 9,cells b.2.1 [.string r.2.1] 9,cells b.2.2 [zI r.2.2] 3]):=by
 unfold zff at h
 refine Fn.intro func36 rfl ntmps36 (by simp) ?_
 intro w0 K
 refine zyG (zyR 1 rfl (zyH (zyR 2 rfl ?_)))
 obtain ⟨r1,hq1,h⟩:=zbx h
 refine zb3 (vs:=[.string s1,.string sep1,zI 0]) rfl dc rfl rfl rfl zyM (zis hq1) Splits.nil ?_
 rintro ⟨b1,b2,b3⟩
 refine zyR 1 rfl (zyN (zaD ?_))
 cases h
 exact zcu (rs:=[.tmp 4]) (b1,b2,b3) (.inl rfl) results36 (.cons (.tmp rfl) .nil) rfl (zaa [0,1,2] kr rfl)
def zaO (x1:zam) (ag1:(List zam)→Option (List zam)) (s5:List zam):Option (List zam) := grd (s5.length+1≤2147483648) <| ag1 (s5++[x1])
def zbq (xseq10:zBA):Option (List zam) := zbF (fun (j1:(List zam)→Option (List zam)) => zak (zcK xseq10) fun (its1:(List zam)) => zbF (fun (dn1:(List zam)→Option (List zam)) => zb4 dn1 (zaO) its1 ([]:List zam)
) (fun (s5:List zam) => j1 s5
)
) (fun (s2:List zam) => some s2
)
theorem zd5 {bseq10:Nat} {xseq10:zBA} {r:(List zam)} (h:zbq xseq10=some r):Fn prog 92 [.slice none 0 0,.func (.func 71) #[] #[zP bseq10]] [cells bseq10 [.string xseq10] 9] (fun v0:Value=>v0) (fun v0=>[cells bseq10 [.string xseq10] 9,zv5 v0 r]):=by
 unfold zbq at h
 refine Fn.intro func92 rfl ntmps92 (by simp) ?_
 intro w0 K
 refine zfV ?_
 obtain ⟨j1,hj1,h⟩:=zbT h
 refine za2 (β:=(List zam)×Nat×Value×(List Nat)) 1 rfl (fun b=>j1 b.1=some r) (fun b=>zdp b.2.2.2) (fun b=>[(2,zP b.2.1)]) (fun b=>[cells bseq10 [.string xseq10] 9,cells b.2.1 [b.2.2.1] 103,zv5 b.2.2.1 b.1,zej ((b.2.2.2:List Nat).map zdW)]) (fun cut => ?_) ?_
 ·
  refine zyG ?_
  refine zwe (fun _ _=>rfl) rfl dc rfl (fun b2 => ?_)
  refine zyR 1 rfl (zyN (cut (zyG (zyR 1 rfl (zyN (zaA ?_))))))
  obtain ⟨its1,hq1,h⟩:=zbx h
  refine ze2 (enc:=zbR) (e:=95) (size:=4) ?_
  obtain ⟨dn1,hdn1,h⟩:=zbT h
  refine zhc (α:=zam) (β:=(List zam)×Value) (γ:=Unit) (δ:=Nat) (ps:=[7]) Ro.nil rfl zss (zdH hq1) (fun pre b=>∀ post,its1=pre++post→zb4 dn1 (zaO) post b.1=some r) (fun pre b=>[cells b2 [b.2] 103,zv5 b.2 b.1]) (fun c pre g=>False) (fun c pre g=>[]) (fun pre x b j=>[(2,zP b2),(4,.slice none 0 0),(6,.func (.func 71) #[] #[zP bseq10]),(5,zP j)]) (fun pre x b j=>[cells b2 [b.2] 103,zv5 b.2 b.1,cells j (zr0 x) 95]) (([]:List zam),(.slice none 0 0)) (fun post e=>by rw [List.nil_append] at e; subst e; exact h) (zaa [2,3] kr rfl) ⟨.inl ⟨0,rfl⟩,trivial⟩ (fun _=>rfl) dc ?_ ?_ ?_ ?_
  ·
   rintro lp rc pre x1 post ⟨s5,v4⟩ w1 K1 hxs1 hext hro hinv
   refine zao ?_
   refine za4 zkL rfl dc (fun b3 => ?_)
   refine za6 (k:=2) (vs:=(zr0 x1)) (l':=(zr0 x1)) zfR rfl rfl rfl rfl rfl (show _≤_ by simp) rfl rfl ?_
   refine zaE ?_
   exact fun a w ha hw=>⟨b3,(za9 rfl) _ _ _ ha,hw.weaken (zaa [0,1,2] kr rfl)⟩
  ·
   rintro lp rc pre x1 post1 ⟨s5,v4⟩ jb1 w1 K1 hxs1 hext hro hinv
   have h:=hinv (x1::post1) hxs1
   obtain ⟨ag1,hag1⟩:∃ ag,ag=zb4 dn1 (zaO) post1:=⟨_,rfl⟩
   have h:zaO x1 ag1 s5=some r:=by have h2:=h; rw [zbQ,← hag1] at h2; exact h2
   unfold zaO at h
   refine zaA (zao (zan (k:=0) zul rfl dc rfl rfl rfl (zbW (k:=2) (cs:=(zr0 x1)) zgZ rfl dc rfl rfl rfl rfl ?_)))
   refine zaX (cs:=(zr0 x1)) (te:=95) (ps:=[(0,.tmp 9)]) rfl dc rfl (fun _=>by kernel_rfl) (fun b4 => ?_)
   obtain ⟨hg1,h⟩:=zcg h
   refine zbP (k:=1) (k2:=3) (ys:=[x1]) underlying103 zzc zgs zjr rfl dc rfl rfl rfl rfl rfl rfl hg1 (fun v5 => ?_)
   refine zaP (k:=0) (l':=[v5]) zwS rfl rfl rfl rfl rfl (fun _ h=>zvg h (k:=1) rfl) rfl ?_
   refine zaE (zae ?_)
   exact zcC (s5++[x1],v5) (fun post2 e2=>by have e9:=zb7 hxs1 e2; subst e9; subst hag1; exact h) (zaa [0,1] kr rfl)
  ·
   rintro dm1 ⟨s5,v4⟩ hinv
   have h:dn1 s5=some r:=hinv [] (List.append_nil _).symm
   rw [hdn1] at h
   show TX _ _ _ _ _ _ _ [cells bseq10 [.string xseq10] 9,zej ((([]:List Nat):List Nat).map zdW),emp,emp,cells b2 [v4] 103,zv5 v4 s5,zdW dm1]
   refine zdU (k:=6) (j:=1) rfl rfl dc ?_
   refine zae ?_
   exact zaj (s5,b2,v4,dm1::([]:List Nat)) h rfl (za9 rfl) (zaa [0,4,5,1] kr rfl)
  rintro dm1 c pre x1 post g hxs hX
  exact (show False from hX).elim
 rintro ⟨s2,b1,v1,ds1⟩ h
 rw [hj1] at h
 refine zyG (zan (k:=1) zul rfl dc rfl rfl rfl (zyR 1 rfl (zyN (zaD ?_))))
 cases h
 exact zdj (rs:=[.tmp 4]) ds1 v1 (.inl rfl) (zbf (k:=3) rfl) results92 (.cons (.tmp rfl) .nil) rfl (zaa [0,2] kr rfl)
def zdN (xseq10:zBA):Option (List zam) := zak (zbq xseq10) fun (r1:(List zam)) => some r1
theorem zhn {bseq10:Nat} {xseq10:zBA} {r:(List zam)} (h:zdN xseq10=some r):Fn prog 76 [.func (.func 71) #[] #[zP bseq10]] [cells bseq10 [.string xseq10] 9] (fun v0:Value=>v0) (fun v0=>[cells bseq10 [.string xseq10] 9,zv5 v0 r]):=by
 unfold zdN at h
 refine Fn.intro func76 rfl ntmps76 (by simp) ?_
 intro w0 K
 refine zyG (zyR 1 rfl (zyH (zyR 1 rfl ?_)))
 obtain ⟨r1,hq1,h⟩:=zbx h
 refine zb3 (vs:=[.slice none 0 0,.func (.func 71) #[] #[zP bseq10]]) rfl dc rfl rfl rfl zyo (zd5 (bseq10:=bseq10) hq1) (zaa [0] kr rfl) ?_
 rintro v1
 refine zyR 1 rfl (zyN (zaD ?_))
 cases h
 exact zcu (rs:=[.tmp 2]) v1 (.inl rfl) results76 (.cons (.tmp rfl) .nil) rfl (zaa [1,2] kr rfl)
def zdw (vals1:List Int) (j1:Option Int) (ag1:Int→Option Int) (x3:Int):Option Int := zat (decide ((x3:Int)<(vals1.length:Int))) ( zak (zd7 vals1 x3) fun (q1:Int) => zat ((q1:Int) != 0) ( some q1
) ( grd (I64 (x3+1)) <| ag1 (x3+1)
)
) ( j1
)
def zfo (vals1:List Int):Option Int := zbF (fun (j1:Option Int) => zaU (fun _=>none) (zdw vals1 j1) zcG 0
) ( some 0
)
theorem zlN {vvvals1 vvals1:Value} {Lvals1:List Int} {kvals1:Nat} {vals1:List Int} (hwvals1:Vw vvvals1 Lvals1 1 kvals1 vvals1 vals1) {r:Int} (h:zfo vals1=some r):FnR prog 53 [vvals1] [ze5 (zlf (.i64)) 1 vvvals1 kvals1 Lvals1] [] (fun _:Unit=>(zI r)) (fun _=>[]):=by
 unfold zfo at h
 refine FnR.intro func53 rfl ntmps53 (by simp) ?_
 intro w0 K hrd
 obtain ⟨j1,hj1,h⟩:=zbT h
 refine za2 (β:=Unit) 2 rfl (fun b=>j1=some r) (fun b=>[]) (fun b=>[(3,zI 0)]) (fun b=>[]) (fun cut => ?_) ?_
 ·
  refine zyG (zyR 1 rfl (zyH (zyR 1 rfl (zyN (cut (zyG (zyR 1 rfl ?_)))))))
  refine zcs hwvals1 rfl dc rfl underlying128 (zyR 1 rfl (zyN (zaA ?_)))
  refine zbS (β:=Nat×Int) (fun b=>zaU (fun _=>none) (zdw vals1 j1) b.1 b.2=some r) (fun b=>[]) (fun b=>[(3,zI 0),(6,vvals1),(7,zI (vals1.length:Int)),(8,zI b.2)]) (fun b=>[]) (fun b=>b.1) (zcG,0) h rfl (za9 rfl) Splits.nil ?_
  rintro ⟨n1,x3⟩ h
  cases n1 with
  | zero=>exact zez h
  | succ n1 =>
   obtain ⟨ag1,hag1⟩:∃ ag,ag=zaU (fun _=>none) (zdw vals1 j1) n1:=⟨_,rfl⟩
   have h:zdw vals1 j1 ag1 x3=some r:=by rw [hag1]; exact h
   unfold zdw at h
   refine zyG (zaW rfl zbE (zyN (zaM ?_)))
   refine zyB rfl h (fun h => ?_) (fun h => ?_)
   ·
    refine zaq (zaG (zaM (zaA (zyG ?_))))
    obtain ⟨q1,hq1,h⟩:=zbx h
    refine zbc hwvals1 hq1 underlying128 zir rfl dc rfl rfl rfl (zcD (n:=kvals1+(x3:Int).toNat) (j:=0) (i:=0) (q:=q1) hrd rfl (by omega) zd8 rfl dc rfl (Vw.get hwvals1 hq1) rfl rfl (zyR 1 rfl (zyH (zyR 2 rfl (zaW rfl zfr (zyN ?_))))))
    refine zyB rfl h (fun h => ?_) (fun h => ?_)
    ·
     refine zyG (zyR 2 rfl (zyN (zaD (zal (zai (zai (zal (zai ?_))))))))
     cases h
     exact zba 2 results53
    refine zaq (zae (zaG (zao ?_)))
    obtain ⟨hg1,h⟩:=zcg h
    refine zaW rfl (zbi (r:=x3+1) (IntWalk.i64_in _ hg1)) (zyR 1 rfl (zaE ?_))
    subst hag1
    exact zbv (n1,x3+1) h (Nat.lt_succ_self _) rfl (za9 rfl) Splits.nil
   refine zbG (zap (zap (zaI ?_)))
   exact zaj () h rfl (za9 rfl) Splits.nil
 rintro _ h
 rw [hj1] at h
 refine zyG (zyR 2 rfl (zyN (zaD ?_)))
 cases h
 exact zba 2 results53
def zen (x1:Int):Option Bool := some ((x1:Int) != x1)
theorem zgN {x1:Int} {r:Bool} (h:zen x1=some r):FnP prog 78 [zI x1] (.bool r):=by
 unfold zen at h
 refine FnP.intro func78 rfl ntmps78 (by simp) ?_
 intro w0 K
 refine zyG (zyR 1 rfl (zyH (zyR 2 rfl (zaW rfl zfr (zyR 1 rfl (zyN (zaD ?_)))))))
 cases h
 exact zba 2 results78
def zer (x1:Int) (y1:Int):Option Int := zak (zen x1) fun (r1:Bool) => zak (zen y1) fun (r2:Bool) => zat (r1) ( zat (r2) ( some 0
) ( some (-1)
)
) ( zat (r2) ( some 1
) ( zat (decide ((x1:Int)<y1)) ( some (-1)
) ( zat (decide ((y1:Int)<x1)) ( some 1
) ( some 0
)
)
)
)
theorem ziH {x1:Int} {y1:Int} {r:Int} (h:zer x1 y1=some r):FnP prog 55 [zI x1,zI y1] (zI r):=by
 unfold zer at h
 refine FnP.intro func55 rfl ntmps55 (by simp) ?_
 intro w0 K
 refine zyG (zyR 1 rfl (zyH (zyR 1 rfl ?_)))
 obtain ⟨r1,hq1,h⟩:=zbx h
 refine zaQ (v:=.bool r1) (vs:=[zI x1]) rfl dc rfl rfl rfl zxg (zgN hq1) (zyR 1 rfl (zyH (zyR 1 rfl ?_)))
 obtain ⟨r2,hq2,h⟩:=zbx h
 refine zaQ (v:=.bool r2) (vs:=[zI y1]) rfl dc rfl rfl rfl zxg (zgN hq2) (zyR 1 rfl (zyN (zaM (zyG (zyR 1 rfl (zyN ?_))))))
 refine zyB rfl h (fun h => ?_) (fun h => ?_)
 ·
  refine zaM (zyG (zyR 1 rfl (zyN ?_)))
  refine zyB rfl h (fun h => ?_) (fun h => ?_)
  ·
   refine zyG (zyR 1 rfl (zyN (zaD (zai (zai ?_)))))
   cases h
   exact zba 4 results55
  refine zaq (zaG (zyG (zyR 1 rfl (zyN (zaD (zai ?_))))))
  cases h
  exact zba 4 results55
 refine zaq (zaG (zaM (zyG (zyR 1 rfl (zyN ?_)))))
 refine zyB rfl h (fun h => ?_) (fun h => ?_)
 ·
  refine zyG (zyR 1 rfl (zyN (zaD (zai ?_))))
  cases h
  exact zba 4 results55
 refine zaq (zaG (zaM (zyG (zyR 2 rfl (zaW rfl zbE (zyN ?_))))))
 refine zyB rfl h (fun h => ?_) (fun h => ?_)
 ·
  refine zyG (zyR 1 rfl (zyN (zaD (zai ?_))))
  cases h
  exact zba 4 results55
 refine zaq (zaG (zaM (zyG (zyR 2 rfl (zaW rfl zeR (zyN ?_))))))
 refine zyB rfl h (fun h => ?_) (fun h => ?_)
 ·
  refine zyG (zyR 1 rfl (zyN (zaD (zai ?_))))
  cases h
  exact zba 4 results55
 refine zaq (zaG (zyG (zyR 1 rfl (zyN (zaD ?_)))))
 cases h
 exact zba 4 results55
def zbj (o1:zab) (s1:zBA) (ek1:Int→Int→Int→Option Int) (x1:zam) (ag1:Int→Int→Bool→Option Int) (from4:Int) (to4:Int) (open3:Bool):Option Int := grd (I32 x1.Rune) <| zat (decide ((from4:Int)<0)) ( zat (((zbr x1.Broken x1.Rune):Int)==1) ( grd (I64 (x1.At+x1.Width)) <| ag1 x1.At (x1.At+x1.Width) open3
) ( zat (decide ((from4:Int)<0)) ( ag1 from4 to4 open3
) ( zat (open3) ( zat (((zbr x1.Broken x1.Rune):Int)==1) ( grd (I64 (x1.At+x1.Width)) <| ag1 from4 (x1.At+x1.Width) open3
) ( zat (((zbr x1.Broken x1.Rune):Int)==2) ( grd (I64 (x1.At+x1.Width)) <| ag1 from4 (x1.At+x1.Width) open3
) ( zat (((zbr x1.Broken x1.Rune):Int)==1) ( grd (0≤(from4:Int)∧(from4:Int)≤to4∧(to4:Int)≤(s1.size:Int)) <| zak (zcN (zcz s1 from4 to4)) fun (r2:zBA) => zat (((zbK r2 o1.skips).getD false)) ( ek1 to4 from4 to4
) ( ek1 0 from4 to4
)
) ( zat (((zbr x1.Broken x1.Rune):Int)==3) ( grd (0≤(from4:Int)∧(from4:Int)≤to4∧(to4:Int)≤(s1.size:Int)) <| zak (zcN (zcz s1 from4 to4)) fun (r3:zBA) => zat (((zbK r3 o1.skips).getD false)) ( ek1 to4 from4 to4
) ( ek1 0 from4 to4
)
) ( ag1 from4 to4 false
)
)
)
)
) ( zat (((zbr x1.Broken x1.Rune):Int)==1) ( grd (0≤(from4:Int)∧(from4:Int)≤to4∧(to4:Int)≤(s1.size:Int)) <| zak (zcN (zcz s1 from4 to4)) fun (r4:zBA) => zat (((zbK r4 o1.skips).getD false)) ( ek1 to4 from4 to4
) ( ek1 0 from4 to4
)
) ( zat (((zbr x1.Broken x1.Rune):Int)==3) ( grd (0≤(from4:Int)∧(from4:Int)≤to4∧(to4:Int)≤(s1.size:Int)) <| zak (zcN (zcz s1 from4 to4)) fun (r5:zBA) => zat (((zbK r5 o1.skips).getD false)) ( ek1 to4 from4 to4
) ( ek1 0 from4 to4
)
) ( ag1 from4 to4 false
)
)
)
)
)
) ( zat (decide ((from4:Int)<0)) ( ag1 from4 to4 open3
) ( zat (open3) ( zat (((zbr x1.Broken x1.Rune):Int)==1) ( grd (I64 (x1.At+x1.Width)) <| ag1 from4 (x1.At+x1.Width) open3
) ( zat (((zbr x1.Broken x1.Rune):Int)==2) ( grd (I64 (x1.At+x1.Width)) <| ag1 from4 (x1.At+x1.Width) open3
) ( zat (((zbr x1.Broken x1.Rune):Int)==1) ( grd (0≤(from4:Int)∧(from4:Int)≤to4∧(to4:Int)≤(s1.size:Int)) <| zak (zcN (zcz s1 from4 to4)) fun (r6:zBA) => zat (((zbK r6 o1.skips).getD false)) ( ek1 to4 from4 to4
) ( ek1 0 from4 to4
)
) ( zat (((zbr x1.Broken x1.Rune):Int)==3) ( grd (0≤(from4:Int)∧(from4:Int)≤to4∧(to4:Int)≤(s1.size:Int)) <| zak (zcN (zcz s1 from4 to4)) fun (r7:zBA) => zat (((zbK r7 o1.skips).getD false)) ( ek1 to4 from4 to4
) ( ek1 0 from4 to4
)
) ( ag1 from4 to4 false
)
)
)
)
) ( zat (((zbr x1.Broken x1.Rune):Int)==1) ( grd (0≤(from4:Int)∧(from4:Int)≤to4∧(to4:Int)≤(s1.size:Int)) <| zak (zcN (zcz s1 from4 to4)) fun (r8:zBA) => zat (((zbK r8 o1.skips).getD false)) ( ek1 to4 from4 to4
) ( ek1 0 from4 to4
)
) ( zat (((zbr x1.Broken x1.Rune):Int)==3) ( grd (0≤(from4:Int)∧(from4:Int)≤to4∧(to4:Int)≤(s1.size:Int)) <| zak (zcN (zcz s1 from4 to4)) fun (r9:zBA) => zat (((zbK r9 o1.skips).getD false)) ( ek1 to4 from4 to4
) ( ek1 0 from4 to4
)
) ( ag1 from4 to4 false
)
)
)
)
)
def zc1 (o1:zab) (s1:zBA):Option Int := zbF (fun (j1:Option Int) => zak (zdQ s1) fun (r1:zBA) => zak (zcK r1) fun (its1:(List zam)) => zbF (fun (ek1:Int→Int→Int→Option Int) => zbF (fun (dn1:Int→Int→Bool→Option Int) => zb4 dn1 (zbj o1 s1 ek1) its1 (-1) 0 true
) (fun (from4:Int) (to4:Int) (open3:Bool) => j1
)
) (fun (x2:Int) (from5:Int) (to5:Int) => some x2
)
) ( some 0
)
theorem zg6 {bo1:Nat} {o1:zab} {o1_h0 o1_h1 o1_h2 o1_h3 o1_h4:Hd} {s1:zBA} {r:Int} (h:zc1 o1 s1=some r):FnR prog 47 [zP bo1,.string s1] [cells bo1 [o1_h0.v,.map (some (zaw o1_h1)),.map (some (zaw o1_h2)),.map (some (zaw o1_h3)),o1_h4.v] 79,zv0 o1_h0.v o1.units,za5 (fun n:zBA=>Value.string n) (fun n:Int=>Value.int .i64 n) (zaw o1_h1) o1.place,zbe (zaw o1_h2) o1.fors,za5 (fun n:zBA=>Value.string n) (fun n:Bool=>Value.bool n) (zaw o1_h3) o1.skips,zv0 o1_h4.v o1.lines] [] (fun _:Unit=>(zI r)) (fun _=>[]):=by
 unfold zc1 at h
 refine FnR.intro func47 rfl ntmps47 (by simp) ?_
 intro w0 K hrd
 refine zfV ?_
 obtain ⟨j1,hj1,h⟩:=zbT h
 refine za2 (β:=Nat×(List Nat)) 3 rfl (fun b=>j1=some r) (fun b=>zdp b.2) (fun b=>[(4,zP b.1)]) (fun b=>[cells b.1 [zI 0] 3,zej ((b.2:List Nat).map zdW)]) (fun cut => ?_) ?_
 ·
  refine zyG ?_
  refine zeb rfl dc rfl (fun b2 => ?_)
  refine zeb rfl dc rfl (fun b3 => ?_)
  refine za4 zwD rfl dc (fun b4 => ?_)
  refine zyH ?_
  refine za4 zwD rfl dc (fun b5 => ?_)
  refine za4 zwD rfl dc (fun b6 => ?_)
  refine zaP (k:=4) (l':=[zI (-1)]) zir rfl rfl rfl rfl rfl (fun _ _=>rfl) rfl ?_
  refine zaP (k:=5) (l':=[zI 0]) zir rfl rfl rfl rfl rfl (fun _ _=>rfl) rfl ?_
  refine zyH ?_
  refine za4 zxU rfl dc (fun b7 => ?_)
  refine zaP (k:=6) (l':=[.bool true]) zrt rfl rfl rfl rfl rfl (fun _ _=>rfl) rfl ?_
  refine zyN (cut (zyG (zan (k:=2) ze4 rfl dc rfl rfl rfl ?_)))
  obtain ⟨r1,hq1,h⟩:=zbx h
  refine zb3 (vs:=[.string s1]) rfl dc rfl rfl rfl zst (zev hq1) Splits.nil ?_
  rintro b8
  refine zcI (L':=[zej ((([]:List Nat):List Nat).map zdW),cells b2 [zP bo1] 23,cells b3 [.string s1] 9,cells b4 [zI 0] 3,cells b5 [zI (-1)] 3,cells b6 [zI 0] 3,cells b7 [.bool true] 4,cells b8 [.string r1] 9]) (zaa [0,1,2,3,4,5,6,7] kr rfl) (zyN (zaA ?_))
  obtain ⟨its1,hq2,h⟩:=zbx h
  obtain ⟨ek1,hek1,h⟩:=zbT h
  obtain ⟨dn1,hdn1,h⟩:=zbT h
  refine zhc (α:=zam) (β:=Int×Int×Bool) (γ:=(Int×Int×Int)) (δ:=Nat) (ps:=[12]) Ro.nil rfl zss (zdH hq2) (fun pre b=>∀ post,its1=pre++post→zb4 dn1 (zbj o1 s1 ek1) post b.1 b.2.1 b.2.2=some r) (fun pre b=>[cells b2 [zP bo1] 23,cells b3 [.string s1] 9,cells b4 [zI 0] 3,cells b5 [zI b.1] 3,cells b6 [zI b.2.1] 3,cells b7 [.bool b.2.2] 4]) (fun c pre g=>(fun g=>c=.ret∧ek1 g.1 g.2.1 g.2.2=some r) g) (fun c pre g=>(fun g=>[cells b2 [zP bo1] 23,cells b3 [.string s1] 9,cells b4 [zI g.1] 3,cells b5 [zI g.2.1] 3,cells b6 [zI g.2.2] 3,cells b7 [.bool false] 4]) g) (fun pre x b j=>[(2,zP b2),(3,zP b3),(4,zP b4),(5,zP b5),(6,zP b6),(7,zP b7),(11,.func (.func 71) #[] #[zP b8]),(8,zP j)]) (fun pre x b j=>[cells b2 [zP bo1] 23,cells b3 [.string s1] 9,cells b4 [zI 0] 3,cells b5 [zI b.1] 3,cells b6 [zI b.2.1] 3,cells b7 [.bool b.2.2] 4,cells j (zr0 x) 95]) ((-1),0,true) (fun post e=>by rw [List.nil_append] at e; subst e; exact h) (zaa [1,2,3,4,5,6] kr rfl) ⟨.inl ⟨7,rfl⟩,trivial⟩ (fun _=>rfl) dc ?_ ?_ ?_ ?_
  ·
   rintro lp rc pre x1 post ⟨from4,to4,open3⟩ w1 K1 hxs1 hext hro hinv
   have hrd:=hrd.ext hext
   refine zao ?_
   refine za4 zkL rfl dc (fun b9 => ?_)
   refine za6 (k:=6) (vs:=(zr0 x1)) (l':=(zr0 x1)) zfR rfl rfl rfl rfl rfl (show _≤_ by simp) rfl rfl ?_
   refine zaE ?_
   exact fun a w ha hw=>⟨b9,(za9 rfl) _ _ _ ha,hw.weaken (zaa [0,1,2,3,4,5,6] kr rfl)⟩
  ·
   rintro lp rc pre x1 post1 ⟨from4,to4,open3⟩ jb1 w1 K1 hxs1 hext hro hinv
   have hrd:=hrd.ext hext
   have h:=hinv (x1::post1) hxs1
   obtain ⟨ag1,hag1⟩:∃ ag,ag=zb4 dn1 (zbj o1 s1 ek1) post1:=⟨_,rfl⟩
   have h:zbj o1 s1 ek1 x1 ag1 from4 to4 open3=some r:=by have h2:=h; rw [zbQ,← hag1] at h2; exact h2
   unfold zbj at h
   refine zaA (zyG (zbW (k:=6) (cs:=(zr0 x1)) zgZ rfl dc rfl rfl rfl rfl ?_))
   obtain ⟨hg1,h⟩:=zcg h
   refine zaQ (v:=zI (zbr x1.Broken x1.Rune)) (vs:=[.agg (zr0 x1).toArray]) rfl dc rfl rfl rfl zqW (zwo x1.At x1.Width x1.Rune x1.Broken hg1.1 hg1.2) (zyR 1 rfl (zyN (zaA (zyG (zan (k:=3) zd8 rfl dc rfl rfl rfl (zaW rfl zbE (zyR 1 rfl ?_)))))))
   refine zyS (s:=35) rfl h (fun h => ?_) (fun h => ?_)
   ·
    refine zyR 1 rfl (zaW rfl zbn (zyR 2 rfl (zyN ?_)))
    refine zyB rfl h (fun h => ?_) (fun h => ?_)
    ·
     obtain ⟨hg2,h⟩:=zcg h
     refine zne (β:=Unit) 8 7 _ [(0,39,zP jb1),(1,40,zI x1.At),(2,41,zP jb1),(3,42,zI x1.At),(4,43,.pointer (some ⟨jb1,1,none⟩)),(5,44,zI x1.Width),(6,45,zI (x1.At+x1.Width))] (fun _b=>[]) (fun _b=>[cells b2 [zP bo1] 23,cells b3 [.string s1] 9,cells b4 [zI 0] 3,cells b5 [zI x1.At] 3,cells b6 [zI to4] 3,cells b7 [.bool open3] 4,cells jb1 (zr0 x1) 95]) mixed kr kr rfl dc dc (by rfl) kr kr (zaN ?_ (zaN ?_ (zaN ?_ (zaN ?_ (zaN ?_ (zaN ?_ (zaN ?_ (zeM DrawPreX.nil)))))))) (fun _b=>(zaN ?_ (zaN ?_ (zaN ?_ (zaN ?_ (zaN ?_ (zaN ?_ (zaN ?_ (zeM DrawPreX.nil))))))))) ?_ ?_
     · exact fun D n d c u i=>zag zdY rfl dc (za8 (by rfl) rfl) (show _=0 from rfl) (zaK 0 u i)
     · exact fun D n d c u i=>zan (k:=6) zd8 rfl dc (zaT 0 u d) rfl rfl (zaK 1 u i)
     · exact fun D n d c u i=>zag zdY rfl dc (za8 (by rfl) rfl) (show _=0 from rfl) (zaK 2 u i)
     · exact fun D n d c u i=>zan (k:=6) zd8 rfl dc (zaT 2 u d) rfl rfl (zaK 3 u i)
     · exact fun D n d c u i=>zag zg3 rfl dc (za8 (by rfl) rfl) (show _=1 from rfl) (zaK 4 u i)
     · exact fun D n d c u i=>zan (k:=6) zd8 rfl dc (zaT 4 u d) rfl rfl (zaK 5 u i)
     · exact fun D n d c u i=>zhj rfl dc (zaT 3 u d) (zaT 5 u d) (zbi (r:=x1.At+x1.Width) (IntWalk.i64_in _ hg2)) (zaK 6 u i)
     · exact fun D n d c u i=>zag zdY rfl dc (za8 (by rfl) rfl) (show _=0 from rfl) (zaK 0 u i)
     · exact fun D n d c u i=>zan (k:=6) zd8 rfl dc (zaT 0 u d) rfl rfl (zaK 1 u i)
     · exact fun D n d c u i=>zag zdY rfl dc (za8 (by rfl) rfl) (show _=0 from rfl) (zaK 2 u i)
     · exact fun D n d c u i=>zan (k:=6) zd8 rfl dc (zaT 2 u d) rfl rfl (zaK 3 u i)
     · exact fun D n d c u i=>zag zg3 rfl dc (za8 (by rfl) rfl) (show _=1 from rfl) (zaK 4 u i)
     · exact fun D n d c u i=>zan (k:=6) zd8 rfl dc (zaT 4 u d) rfl rfl (zaK 5 u i)
     · exact fun D n d c u i=>zhj rfl dc (zaT 3 u d) (zaT 5 u d) (zbi (r:=x1.At+x1.Width) (IntWalk.i64_in _ hg2)) (zaK 6 u i)
     ·
      intro D hn hd hcl
      refine zaP (k:=3) (l':=[zI x1.At]) zir rfl (za8 (by rfl) rfl) (zdZ (m:=1) kr rfl (hd 1 dc)) rfl rfl (fun _ _=>rfl) rfl ?_
      exact fun a w ha hw=>⟨(),ha,hw⟩
     intro _b
     refine zaP (k:=4) (l':=[zI (x1.At+x1.Width)]) zir rfl rfl rfl rfl rfl (fun _ _=>rfl) rfl ?_
     refine zaE (zae (zae ?_))
     exact zcC (x1.At,x1.At+x1.Width,open3) (fun post2 e2=>by have e9:=zb7 hxs1 e2; subst e9; subst hag1; exact h) (zaa [0,1,2,3,4,5] kr rfl)
    refine zyG (zan (k:=3) zd8 rfl dc rfl rfl rfl (zaW rfl zbE (zyR 1 rfl (zyN ?_))))
    refine zyB rfl h (fun h => ?_) (fun h => ?_)
    ·
     refine zaq (zae (zae ?_))
     exact zcC (from4,to4,open3) (fun post2 e2=>by have e9:=zb7 hxs1 e2; subst e9; subst hag1; exact h) (zaa [0,1,2,3,4,5] kr rfl)
    refine zyG (zan (k:=5) zwm rfl dc rfl rfl rfl (zyR 1 rfl ?_))
    refine zyS (s:=51) rfl h (fun h => ?_) (fun h => ?_)
    ·
     refine zyR 1 rfl (zaW rfl zbn (zyR 1 rfl ?_))
     refine zyS (s:=54) rfl h (fun h => ?_) (fun h => ?_)
     ·
      refine zyR 5 rfl (zyN (zcf rfl (zao (zag zdY rfl dc rfl (show _=0 from rfl) (zan (k:=6) zd8 rfl dc rfl rfl rfl (zag zg3 rfl dc rfl (show _=1 from rfl) (zan (k:=6) zd8 rfl dc rfl rfl rfl ?_)))))))
      obtain ⟨hg3,h⟩:=zcg h
      refine zaW rfl (zbi (r:=x1.At+x1.Width) (IntWalk.i64_in _ hg3)) ?_
      refine zaP (k:=4) (l':=[zI (x1.At+x1.Width)]) zir rfl rfl rfl rfl rfl (fun _ _=>rfl) rfl ?_
      refine zaE (zae (zae ?_))
      exact zcC (from4,x1.At+x1.Width,open3) (fun post2 e2=>by have e9:=zb7 hxs1 e2; subst e9; subst hag1; exact h) (zaa [0,1,2,3,4,5] kr rfl)
     refine zyR 1 rfl (zaW rfl zbn (zyR 3 rfl (zyN ?_)))
     refine zyB rfl h (fun h => ?_) (fun h => ?_)
     ·
      refine zao (zag zdY rfl dc rfl (show _=0 from rfl) (zan (k:=6) zd8 rfl dc rfl rfl rfl (zag zg3 rfl dc rfl (show _=1 from rfl) (zan (k:=6) zd8 rfl dc rfl rfl rfl ?_))))
      obtain ⟨hg4,h⟩:=zcg h
      refine zaW rfl (zbi (r:=x1.At+x1.Width) (IntWalk.i64_in _ hg4)) ?_
      refine zaP (k:=4) (l':=[zI (x1.At+x1.Width)]) zir rfl rfl rfl rfl rfl (fun _ _=>rfl) rfl ?_
      refine zaE (zae (zae ?_))
      exact zcC (from4,x1.At+x1.Width,open3) (fun post2 e2=>by have e9:=zb7 hxs1 e2; subst e9; subst hag1; exact h) (zaa [0,1,2,3,4,5] kr rfl)
     refine zyG ?_
     refine zaP (k:=5) (l':=[.bool false]) zrt rfl rfl rfl rfl rfl (fun _ _=>rfl) rfl ?_
     refine zyH (zyR 1 rfl (zaW rfl zbn (zyR 1 rfl ?_)))
     refine zyS (s:=17) rfl h (fun h => ?_) (fun h => ?_)
     ·
      refine zyR 3 rfl (zyN (zcf rfl (zaM (zaM ?_))))
      obtain ⟨hg5,h⟩:=zcg h
      obtain ⟨r2,hq3,h⟩:=zbx h
      refine zdh 9 [(0,21,zP bo1),(1,22,zP bo1),(2,23,.pointer (some ⟨bo1,3,none⟩)),(3,24,.map (some (zaw o1_h3))),(4,25,.string s1),(5,26,zI from4),(6,27,zI to4),(7,28,.string (zcz s1 from4 to4)),(8,29,.string r2)] mixed kr kr dc (by rfl) kr kr (zad ?_ (zad ?_ (zad ?_ (zad ?_ (zad ?_ (zad ?_ (zad ?_ (zad ?_ (zad ?_ DrawPre.nil))))))))) ?_
      · exact fun D n d c u i=>zan (k:=0) zix rfl dc (za8 (by rfl) rfl) rfl rfl (zaK 0 u i)
      · exact fun D n d c u i=>za1 rfl dc (zaT 0 u d) (zaK 1 u i)
      · exact fun D n d c u i=>zag zgB rfl dc (zaT 1 u d) (show _=3 from rfl) (zaK 2 u i)
      · exact fun D n d c u i=>zc2 (i:=0) hrd rfl zly rfl dc (zaT 2 u d) rfl (zaK 3 u i)
      · exact fun D n d c u i=>zan (k:=1) ze4 rfl dc (za8 (by rfl) rfl) rfl rfl (zaK 4 u i)
      · exact fun D n d c u i=>zan (k:=3) zd8 rfl dc (za8 (by rfl) rfl) rfl rfl (zaK 5 u i)
      · exact fun D n d c u i=>zan (k:=4) zd8 rfl dc (za8 (by rfl) rfl) rfl rfl (zaK 6 u i)
      · exact fun D n d c u i=>zce rfl dc (zaT 4 u d) (evO.some (zaT 5 u d)) (evO.some (zaT 6 u d)) (za7 (i:=from4) (j:=to4) underlying9 (.inr rfl) (.inr rfl) hg5) (zaK 7 u i)
      · exact fun D n d c u i=>zaQ (v:=.string r2) (vs:=[.string (zcz s1 from4 to4)]) rfl dc rfl (evL.cons (zaT 7 u d) evL.nil) rfl zlK (zdt hq3) (zaK 8 u i)
      refine zdO (k:=4) (ek:=(fun n:zBA=>Value.string n)) (ev':=(fun n:Bool=>Value.bool n)) (kk:=r2) (z0:=false) (zcV underlying9) underlying77 kr rfl dc rfl rfl hrd rfl ?_
      refine zyN ?_
      refine zyB rfl h (fun h => ?_) (fun h => ?_)
      ·
       refine zyG (zan (k:=4) zd8 rfl dc rfl rfl rfl ?_)
       refine zaP (k:=2) (l':=[zI to4]) zir rfl rfl rfl rfl rfl (fun _ _=>rfl) rfl ?_
       refine zyN (zaD (zai (zal (zal ?_))))
       exact zb2 (to4,from4,to4) (show _∧_ from ⟨rfl,h⟩) (zaa [0,1,2,3,4,5] kr rfl)
      refine zaq (zaG (zyG ?_))
      refine zaP (k:=2) (l':=[zI 0]) zir rfl rfl rfl rfl rfl (fun _ _=>rfl) rfl ?_
      refine zyN (zaD (zal (zal ?_)))
      exact zb2 (0,from4,to4) (show _∧_ from ⟨rfl,h⟩) (zaa [0,1,2,3,4,5] kr rfl)
     refine zyR 1 rfl (zaW rfl zbn (zyR 1 rfl (zyN ?_)))
     refine zyB rfl h (fun h => ?_) (fun h => ?_)
     ·
      refine zaM (zaM ?_)
      obtain ⟨hg6,h⟩:=zcg h
      obtain ⟨r3,hq4,h⟩:=zbx h
      refine zdh 9 [(0,21,zP bo1),(1,22,zP bo1),(2,23,.pointer (some ⟨bo1,3,none⟩)),(3,24,.map (some (zaw o1_h3))),(4,25,.string s1),(5,26,zI from4),(6,27,zI to4),(7,28,.string (zcz s1 from4 to4)),(8,29,.string r3)] mixed kr kr dc (by rfl) kr kr (zad ?_ (zad ?_ (zad ?_ (zad ?_ (zad ?_ (zad ?_ (zad ?_ (zad ?_ (zad ?_ DrawPre.nil))))))))) ?_
      · exact fun D n d c u i=>zan (k:=0) zix rfl dc (za8 (by rfl) rfl) rfl rfl (zaK 0 u i)
      · exact fun D n d c u i=>za1 rfl dc (zaT 0 u d) (zaK 1 u i)
      · exact fun D n d c u i=>zag zgB rfl dc (zaT 1 u d) (show _=3 from rfl) (zaK 2 u i)
      · exact fun D n d c u i=>zc2 (i:=0) hrd rfl zly rfl dc (zaT 2 u d) rfl (zaK 3 u i)
      · exact fun D n d c u i=>zan (k:=1) ze4 rfl dc (za8 (by rfl) rfl) rfl rfl (zaK 4 u i)
      · exact fun D n d c u i=>zan (k:=3) zd8 rfl dc (za8 (by rfl) rfl) rfl rfl (zaK 5 u i)
      · exact fun D n d c u i=>zan (k:=4) zd8 rfl dc (za8 (by rfl) rfl) rfl rfl (zaK 6 u i)
      · exact fun D n d c u i=>zce rfl dc (zaT 4 u d) (evO.some (zaT 5 u d)) (evO.some (zaT 6 u d)) (za7 (i:=from4) (j:=to4) underlying9 (.inr rfl) (.inr rfl) hg6) (zaK 7 u i)
      · exact fun D n d c u i=>zaQ (v:=.string r3) (vs:=[.string (zcz s1 from4 to4)]) rfl dc rfl (evL.cons (zaT 7 u d) evL.nil) rfl zlK (zdt hq4) (zaK 8 u i)
      refine zdO (k:=4) (ek:=(fun n:zBA=>Value.string n)) (ev':=(fun n:Bool=>Value.bool n)) (kk:=r3) (z0:=false) (zcV underlying9) underlying77 kr rfl dc rfl rfl hrd rfl ?_
      refine zyN ?_
      refine zyB rfl h (fun h => ?_) (fun h => ?_)
      ·
       refine zyG (zan (k:=4) zd8 rfl dc rfl rfl rfl ?_)
       refine zaP (k:=2) (l':=[zI to4]) zir rfl rfl rfl rfl rfl (fun _ _=>rfl) rfl ?_
       refine zyN (zaD (zai (zal (zal ?_))))
       exact zb2 (to4,from4,to4) (show _∧_ from ⟨rfl,h⟩) (zaa [0,1,2,3,4,5] kr rfl)
      refine zaq (zaG (zyG ?_))
      refine zaP (k:=2) (l':=[zI 0]) zir rfl rfl rfl rfl rfl (fun _ _=>rfl) rfl ?_
      refine zyN (zaD (zal (zal ?_)))
      exact zb2 (0,from4,to4) (show _∧_ from ⟨rfl,h⟩) (zaa [0,1,2,3,4,5] kr rfl)
     refine zaq (zae (zae ?_))
     exact zcC (from4,to4,false) (fun post2 e2=>by have e9:=zb7 hxs1 e2; subst e9; subst hag1; exact h) (zaa [0,1,2,3,4,5] kr rfl)
    refine zyR 8 rfl (zyN (za3 rfl (zyG ?_)))
    refine zaP (k:=5) (l':=[.bool false]) zrt rfl rfl rfl rfl rfl (fun _ _=>rfl) rfl ?_
    refine zyH (zyR 1 rfl (zaW rfl zbn (zyR 1 rfl ?_)))
    refine zyS (s:=17) rfl h (fun h => ?_) (fun h => ?_)
    ·
     refine zyR 3 rfl (zyN (zcf rfl (zaM (zaM ?_))))
     obtain ⟨hg7,h⟩:=zcg h
     obtain ⟨r4,hq5,h⟩:=zbx h
     refine zdh 9 [(0,21,zP bo1),(1,22,zP bo1),(2,23,.pointer (some ⟨bo1,3,none⟩)),(3,24,.map (some (zaw o1_h3))),(4,25,.string s1),(5,26,zI from4),(6,27,zI to4),(7,28,.string (zcz s1 from4 to4)),(8,29,.string r4)] mixed kr kr dc (by rfl) kr kr (zad ?_ (zad ?_ (zad ?_ (zad ?_ (zad ?_ (zad ?_ (zad ?_ (zad ?_ (zad ?_ DrawPre.nil))))))))) ?_
     · exact fun D n d c u i=>zan (k:=0) zix rfl dc (za8 (by rfl) rfl) rfl rfl (zaK 0 u i)
     · exact fun D n d c u i=>za1 rfl dc (zaT 0 u d) (zaK 1 u i)
     · exact fun D n d c u i=>zag zgB rfl dc (zaT 1 u d) (show _=3 from rfl) (zaK 2 u i)
     · exact fun D n d c u i=>zc2 (i:=0) hrd rfl zly rfl dc (zaT 2 u d) rfl (zaK 3 u i)
     · exact fun D n d c u i=>zan (k:=1) ze4 rfl dc (za8 (by rfl) rfl) rfl rfl (zaK 4 u i)
     · exact fun D n d c u i=>zan (k:=3) zd8 rfl dc (za8 (by rfl) rfl) rfl rfl (zaK 5 u i)
     · exact fun D n d c u i=>zan (k:=4) zd8 rfl dc (za8 (by rfl) rfl) rfl rfl (zaK 6 u i)
     · exact fun D n d c u i=>zce rfl dc (zaT 4 u d) (evO.some (zaT 5 u d)) (evO.some (zaT 6 u d)) (za7 (i:=from4) (j:=to4) underlying9 (.inr rfl) (.inr rfl) hg7) (zaK 7 u i)
     · exact fun D n d c u i=>zaQ (v:=.string r4) (vs:=[.string (zcz s1 from4 to4)]) rfl dc rfl (evL.cons (zaT 7 u d) evL.nil) rfl zlK (zdt hq5) (zaK 8 u i)
     refine zdO (k:=4) (ek:=(fun n:zBA=>Value.string n)) (ev':=(fun n:Bool=>Value.bool n)) (kk:=r4) (z0:=false) (zcV underlying9) underlying77 kr rfl dc rfl rfl hrd rfl ?_
     refine zyN ?_
     refine zyB rfl h (fun h => ?_) (fun h => ?_)
     ·
      refine zyG (zan (k:=4) zd8 rfl dc rfl rfl rfl ?_)
      refine zaP (k:=2) (l':=[zI to4]) zir rfl rfl rfl rfl rfl (fun _ _=>rfl) rfl ?_
      refine zyN (zaD (zai (zal (zal ?_))))
      exact zb2 (to4,from4,to4) (show _∧_ from ⟨rfl,h⟩) (zaa [0,1,2,3,4,5] kr rfl)
     refine zaq (zaG (zyG ?_))
     refine zaP (k:=2) (l':=[zI 0]) zir rfl rfl rfl rfl rfl (fun _ _=>rfl) rfl ?_
     refine zyN (zaD (zal (zal ?_)))
     exact zb2 (0,from4,to4) (show _∧_ from ⟨rfl,h⟩) (zaa [0,1,2,3,4,5] kr rfl)
    refine zyR 1 rfl (zaW rfl zbn (zyR 1 rfl (zyN ?_)))
    refine zyB rfl h (fun h => ?_) (fun h => ?_)
    ·
     refine zaM (zaM ?_)
     obtain ⟨hg8,h⟩:=zcg h
     obtain ⟨r5,hq6,h⟩:=zbx h
     refine zdh 9 [(0,21,zP bo1),(1,22,zP bo1),(2,23,.pointer (some ⟨bo1,3,none⟩)),(3,24,.map (some (zaw o1_h3))),(4,25,.string s1),(5,26,zI from4),(6,27,zI to4),(7,28,.string (zcz s1 from4 to4)),(8,29,.string r5)] mixed kr kr dc (by rfl) kr kr (zad ?_ (zad ?_ (zad ?_ (zad ?_ (zad ?_ (zad ?_ (zad ?_ (zad ?_ (zad ?_ DrawPre.nil))))))))) ?_
     · exact fun D n d c u i=>zan (k:=0) zix rfl dc (za8 (by rfl) rfl) rfl rfl (zaK 0 u i)
     · exact fun D n d c u i=>za1 rfl dc (zaT 0 u d) (zaK 1 u i)
     · exact fun D n d c u i=>zag zgB rfl dc (zaT 1 u d) (show _=3 from rfl) (zaK 2 u i)
     · exact fun D n d c u i=>zc2 (i:=0) hrd rfl zly rfl dc (zaT 2 u d) rfl (zaK 3 u i)
     · exact fun D n d c u i=>zan (k:=1) ze4 rfl dc (za8 (by rfl) rfl) rfl rfl (zaK 4 u i)
     · exact fun D n d c u i=>zan (k:=3) zd8 rfl dc (za8 (by rfl) rfl) rfl rfl (zaK 5 u i)
     · exact fun D n d c u i=>zan (k:=4) zd8 rfl dc (za8 (by rfl) rfl) rfl rfl (zaK 6 u i)
     · exact fun D n d c u i=>zce rfl dc (zaT 4 u d) (evO.some (zaT 5 u d)) (evO.some (zaT 6 u d)) (za7 (i:=from4) (j:=to4) underlying9 (.inr rfl) (.inr rfl) hg8) (zaK 7 u i)
     · exact fun D n d c u i=>zaQ (v:=.string r5) (vs:=[.string (zcz s1 from4 to4)]) rfl dc rfl (evL.cons (zaT 7 u d) evL.nil) rfl zlK (zdt hq6) (zaK 8 u i)
     refine zdO (k:=4) (ek:=(fun n:zBA=>Value.string n)) (ev':=(fun n:Bool=>Value.bool n)) (kk:=r5) (z0:=false) (zcV underlying9) underlying77 kr rfl dc rfl rfl hrd rfl ?_
     refine zyN ?_
     refine zyB rfl h (fun h => ?_) (fun h => ?_)
     ·
      refine zyG (zan (k:=4) zd8 rfl dc rfl rfl rfl ?_)
      refine zaP (k:=2) (l':=[zI to4]) zir rfl rfl rfl rfl rfl (fun _ _=>rfl) rfl ?_
      refine zyN (zaD (zai (zal (zal ?_))))
      exact zb2 (to4,from4,to4) (show _∧_ from ⟨rfl,h⟩) (zaa [0,1,2,3,4,5] kr rfl)
     refine zaq (zaG (zyG ?_))
     refine zaP (k:=2) (l':=[zI 0]) zir rfl rfl rfl rfl rfl (fun _ _=>rfl) rfl ?_
     refine zyN (zaD (zal (zal ?_)))
     exact zb2 (0,from4,to4) (show _∧_ from ⟨rfl,h⟩) (zaa [0,1,2,3,4,5] kr rfl)
    refine zaq (zae (zae ?_))
    exact zcC (from4,to4,false) (fun post2 e2=>by have e9:=zb7 hxs1 e2; subst e9; subst hag1; exact h) (zaa [0,1,2,3,4,5] kr rfl)
   refine zyR 4 rfl (zyN (za3 rfl (zyG (zan (k:=3) zd8 rfl dc rfl rfl rfl (zaW rfl zbE (zyR 1 rfl (zyN ?_)))))))
   refine zyB rfl h (fun h => ?_) (fun h => ?_)
   ·
    refine zaq (zae (zae ?_))
    exact zcC (from4,to4,open3) (fun post2 e2=>by have e9:=zb7 hxs1 e2; subst e9; subst hag1; exact h) (zaa [0,1,2,3,4,5] kr rfl)
   refine zyG (zan (k:=5) zwm rfl dc rfl rfl rfl (zyR 1 rfl ?_))
   refine zyS (s:=51) rfl h (fun h => ?_) (fun h => ?_)
   ·
    refine zyR 1 rfl (zaW rfl zbn (zyR 1 rfl ?_))
    refine zyS (s:=54) rfl h (fun h => ?_) (fun h => ?_)
    ·
     refine zyR 5 rfl (zyN (zcf rfl (zao (zag zdY rfl dc rfl (show _=0 from rfl) (zan (k:=6) zd8 rfl dc rfl rfl rfl (zag zg3 rfl dc rfl (show _=1 from rfl) (zan (k:=6) zd8 rfl dc rfl rfl rfl ?_)))))))
     obtain ⟨hg9,h⟩:=zcg h
     refine zaW rfl (zbi (r:=x1.At+x1.Width) (IntWalk.i64_in _ hg9)) ?_
     refine zaP (k:=4) (l':=[zI (x1.At+x1.Width)]) zir rfl rfl rfl rfl rfl (fun _ _=>rfl) rfl ?_
     refine zaE (zae (zae ?_))
     exact zcC (from4,x1.At+x1.Width,open3) (fun post2 e2=>by have e9:=zb7 hxs1 e2; subst e9; subst hag1; exact h) (zaa [0,1,2,3,4,5] kr rfl)
    refine zyR 1 rfl (zaW rfl zbn (zyR 3 rfl (zyN ?_)))
    refine zyB rfl h (fun h => ?_) (fun h => ?_)
    ·
     refine zao (zag zdY rfl dc rfl (show _=0 from rfl) (zan (k:=6) zd8 rfl dc rfl rfl rfl (zag zg3 rfl dc rfl (show _=1 from rfl) (zan (k:=6) zd8 rfl dc rfl rfl rfl ?_))))
     obtain ⟨hg10,h⟩:=zcg h
     refine zaW rfl (zbi (r:=x1.At+x1.Width) (IntWalk.i64_in _ hg10)) ?_
     refine zaP (k:=4) (l':=[zI (x1.At+x1.Width)]) zir rfl rfl rfl rfl rfl (fun _ _=>rfl) rfl ?_
     refine zaE (zae (zae ?_))
     exact zcC (from4,x1.At+x1.Width,open3) (fun post2 e2=>by have e9:=zb7 hxs1 e2; subst e9; subst hag1; exact h) (zaa [0,1,2,3,4,5] kr rfl)
    refine zyG ?_
    refine zaP (k:=5) (l':=[.bool false]) zrt rfl rfl rfl rfl rfl (fun _ _=>rfl) rfl ?_
    refine zyH (zyR 1 rfl (zaW rfl zbn (zyR 1 rfl ?_)))
    refine zyS (s:=17) rfl h (fun h => ?_) (fun h => ?_)
    ·
     refine zyR 3 rfl (zyN (zcf rfl (zaM (zaM ?_))))
     obtain ⟨hg11,h⟩:=zcg h
     obtain ⟨r6,hq7,h⟩:=zbx h
     refine zdh 9 [(0,21,zP bo1),(1,22,zP bo1),(2,23,.pointer (some ⟨bo1,3,none⟩)),(3,24,.map (some (zaw o1_h3))),(4,25,.string s1),(5,26,zI from4),(6,27,zI to4),(7,28,.string (zcz s1 from4 to4)),(8,29,.string r6)] mixed kr kr dc (by rfl) kr kr (zad ?_ (zad ?_ (zad ?_ (zad ?_ (zad ?_ (zad ?_ (zad ?_ (zad ?_ (zad ?_ DrawPre.nil))))))))) ?_
     · exact fun D n d c u i=>zan (k:=0) zix rfl dc (za8 (by rfl) rfl) rfl rfl (zaK 0 u i)
     · exact fun D n d c u i=>za1 rfl dc (zaT 0 u d) (zaK 1 u i)
     · exact fun D n d c u i=>zag zgB rfl dc (zaT 1 u d) (show _=3 from rfl) (zaK 2 u i)
     · exact fun D n d c u i=>zc2 (i:=0) hrd rfl zly rfl dc (zaT 2 u d) rfl (zaK 3 u i)
     · exact fun D n d c u i=>zan (k:=1) ze4 rfl dc (za8 (by rfl) rfl) rfl rfl (zaK 4 u i)
     · exact fun D n d c u i=>zan (k:=3) zd8 rfl dc (za8 (by rfl) rfl) rfl rfl (zaK 5 u i)
     · exact fun D n d c u i=>zan (k:=4) zd8 rfl dc (za8 (by rfl) rfl) rfl rfl (zaK 6 u i)
     · exact fun D n d c u i=>zce rfl dc (zaT 4 u d) (evO.some (zaT 5 u d)) (evO.some (zaT 6 u d)) (za7 (i:=from4) (j:=to4) underlying9 (.inr rfl) (.inr rfl) hg11) (zaK 7 u i)
     · exact fun D n d c u i=>zaQ (v:=.string r6) (vs:=[.string (zcz s1 from4 to4)]) rfl dc rfl (evL.cons (zaT 7 u d) evL.nil) rfl zlK (zdt hq7) (zaK 8 u i)
     refine zdO (k:=4) (ek:=(fun n:zBA=>Value.string n)) (ev':=(fun n:Bool=>Value.bool n)) (kk:=r6) (z0:=false) (zcV underlying9) underlying77 kr rfl dc rfl rfl hrd rfl ?_
     refine zyN ?_
     refine zyB rfl h (fun h => ?_) (fun h => ?_)
     ·
      refine zyG (zan (k:=4) zd8 rfl dc rfl rfl rfl ?_)
      refine zaP (k:=2) (l':=[zI to4]) zir rfl rfl rfl rfl rfl (fun _ _=>rfl) rfl ?_
      refine zyN (zaD (zai (zal (zal ?_))))
      exact zb2 (to4,from4,to4) (show _∧_ from ⟨rfl,h⟩) (zaa [0,1,2,3,4,5] kr rfl)
     refine zaq (zaG (zyG ?_))
     refine zaP (k:=2) (l':=[zI 0]) zir rfl rfl rfl rfl rfl (fun _ _=>rfl) rfl ?_
     refine zyN (zaD (zal (zal ?_)))
     exact zb2 (0,from4,to4) (show _∧_ from ⟨rfl,h⟩) (zaa [0,1,2,3,4,5] kr rfl)
    refine zyR 1 rfl (zaW rfl zbn (zyR 1 rfl (zyN ?_)))
    refine zyB rfl h (fun h => ?_) (fun h => ?_)
    ·
     refine zaM (zaM ?_)
     obtain ⟨hg12,h⟩:=zcg h
     obtain ⟨r7,hq8,h⟩:=zbx h
     refine zdh 9 [(0,21,zP bo1),(1,22,zP bo1),(2,23,.pointer (some ⟨bo1,3,none⟩)),(3,24,.map (some (zaw o1_h3))),(4,25,.string s1),(5,26,zI from4),(6,27,zI to4),(7,28,.string (zcz s1 from4 to4)),(8,29,.string r7)] mixed kr kr dc (by rfl) kr kr (zad ?_ (zad ?_ (zad ?_ (zad ?_ (zad ?_ (zad ?_ (zad ?_ (zad ?_ (zad ?_ DrawPre.nil))))))))) ?_
     · exact fun D n d c u i=>zan (k:=0) zix rfl dc (za8 (by rfl) rfl) rfl rfl (zaK 0 u i)
     · exact fun D n d c u i=>za1 rfl dc (zaT 0 u d) (zaK 1 u i)
     · exact fun D n d c u i=>zag zgB rfl dc (zaT 1 u d) (show _=3 from rfl) (zaK 2 u i)
     · exact fun D n d c u i=>zc2 (i:=0) hrd rfl zly rfl dc (zaT 2 u d) rfl (zaK 3 u i)
     · exact fun D n d c u i=>zan (k:=1) ze4 rfl dc (za8 (by rfl) rfl) rfl rfl (zaK 4 u i)
     · exact fun D n d c u i=>zan (k:=3) zd8 rfl dc (za8 (by rfl) rfl) rfl rfl (zaK 5 u i)
     · exact fun D n d c u i=>zan (k:=4) zd8 rfl dc (za8 (by rfl) rfl) rfl rfl (zaK 6 u i)
     · exact fun D n d c u i=>zce rfl dc (zaT 4 u d) (evO.some (zaT 5 u d)) (evO.some (zaT 6 u d)) (za7 (i:=from4) (j:=to4) underlying9 (.inr rfl) (.inr rfl) hg12) (zaK 7 u i)
     · exact fun D n d c u i=>zaQ (v:=.string r7) (vs:=[.string (zcz s1 from4 to4)]) rfl dc rfl (evL.cons (zaT 7 u d) evL.nil) rfl zlK (zdt hq8) (zaK 8 u i)
     refine zdO (k:=4) (ek:=(fun n:zBA=>Value.string n)) (ev':=(fun n:Bool=>Value.bool n)) (kk:=r7) (z0:=false) (zcV underlying9) underlying77 kr rfl dc rfl rfl hrd rfl ?_
     refine zyN ?_
     refine zyB rfl h (fun h => ?_) (fun h => ?_)
     ·
      refine zyG (zan (k:=4) zd8 rfl dc rfl rfl rfl ?_)
      refine zaP (k:=2) (l':=[zI to4]) zir rfl rfl rfl rfl rfl (fun _ _=>rfl) rfl ?_
      refine zyN (zaD (zai (zal (zal ?_))))
      exact zb2 (to4,from4,to4) (show _∧_ from ⟨rfl,h⟩) (zaa [0,1,2,3,4,5] kr rfl)
     refine zaq (zaG (zyG ?_))
     refine zaP (k:=2) (l':=[zI 0]) zir rfl rfl rfl rfl rfl (fun _ _=>rfl) rfl ?_
     refine zyN (zaD (zal (zal ?_)))
     exact zb2 (0,from4,to4) (show _∧_ from ⟨rfl,h⟩) (zaa [0,1,2,3,4,5] kr rfl)
    refine zaq (zae (zae ?_))
    exact zcC (from4,to4,false) (fun post2 e2=>by have e9:=zb7 hxs1 e2; subst e9; subst hag1; exact h) (zaa [0,1,2,3,4,5] kr rfl)
   refine zyR 8 rfl (zyN (za3 rfl (zyG ?_)))
   refine zaP (k:=5) (l':=[.bool false]) zrt rfl rfl rfl rfl rfl (fun _ _=>rfl) rfl ?_
   refine zyH (zyR 1 rfl (zaW rfl zbn (zyR 1 rfl ?_)))
   refine zyS (s:=17) rfl h (fun h => ?_) (fun h => ?_)
   ·
    refine zyR 3 rfl (zyN (zcf rfl (zaM (zaM ?_))))
    obtain ⟨hg13,h⟩:=zcg h
    obtain ⟨r8,hq9,h⟩:=zbx h
    refine zdh 9 [(0,21,zP bo1),(1,22,zP bo1),(2,23,.pointer (some ⟨bo1,3,none⟩)),(3,24,.map (some (zaw o1_h3))),(4,25,.string s1),(5,26,zI from4),(6,27,zI to4),(7,28,.string (zcz s1 from4 to4)),(8,29,.string r8)] mixed kr kr dc (by rfl) kr kr (zad ?_ (zad ?_ (zad ?_ (zad ?_ (zad ?_ (zad ?_ (zad ?_ (zad ?_ (zad ?_ DrawPre.nil))))))))) ?_
    · exact fun D n d c u i=>zan (k:=0) zix rfl dc (za8 (by rfl) rfl) rfl rfl (zaK 0 u i)
    · exact fun D n d c u i=>za1 rfl dc (zaT 0 u d) (zaK 1 u i)
    · exact fun D n d c u i=>zag zgB rfl dc (zaT 1 u d) (show _=3 from rfl) (zaK 2 u i)
    · exact fun D n d c u i=>zc2 (i:=0) hrd rfl zly rfl dc (zaT 2 u d) rfl (zaK 3 u i)
    · exact fun D n d c u i=>zan (k:=1) ze4 rfl dc (za8 (by rfl) rfl) rfl rfl (zaK 4 u i)
    · exact fun D n d c u i=>zan (k:=3) zd8 rfl dc (za8 (by rfl) rfl) rfl rfl (zaK 5 u i)
    · exact fun D n d c u i=>zan (k:=4) zd8 rfl dc (za8 (by rfl) rfl) rfl rfl (zaK 6 u i)
    · exact fun D n d c u i=>zce rfl dc (zaT 4 u d) (evO.some (zaT 5 u d)) (evO.some (zaT 6 u d)) (za7 (i:=from4) (j:=to4) underlying9 (.inr rfl) (.inr rfl) hg13) (zaK 7 u i)
    · exact fun D n d c u i=>zaQ (v:=.string r8) (vs:=[.string (zcz s1 from4 to4)]) rfl dc rfl (evL.cons (zaT 7 u d) evL.nil) rfl zlK (zdt hq9) (zaK 8 u i)
    refine zdO (k:=4) (ek:=(fun n:zBA=>Value.string n)) (ev':=(fun n:Bool=>Value.bool n)) (kk:=r8) (z0:=false) (zcV underlying9) underlying77 kr rfl dc rfl rfl hrd rfl ?_
    refine zyN ?_
    refine zyB rfl h (fun h => ?_) (fun h => ?_)
    ·
     refine zyG (zan (k:=4) zd8 rfl dc rfl rfl rfl ?_)
     refine zaP (k:=2) (l':=[zI to4]) zir rfl rfl rfl rfl rfl (fun _ _=>rfl) rfl ?_
     refine zyN (zaD (zai (zal (zal ?_))))
     exact zb2 (to4,from4,to4) (show _∧_ from ⟨rfl,h⟩) (zaa [0,1,2,3,4,5] kr rfl)
    refine zaq (zaG (zyG ?_))
    refine zaP (k:=2) (l':=[zI 0]) zir rfl rfl rfl rfl rfl (fun _ _=>rfl) rfl ?_
    refine zyN (zaD (zal (zal ?_)))
    exact zb2 (0,from4,to4) (show _∧_ from ⟨rfl,h⟩) (zaa [0,1,2,3,4,5] kr rfl)
   refine zyR 1 rfl (zaW rfl zbn (zyR 1 rfl (zyN ?_)))
   refine zyB rfl h (fun h => ?_) (fun h => ?_)
   ·
    refine zaM (zaM ?_)
    obtain ⟨hg14,h⟩:=zcg h
    obtain ⟨r9,hq10,h⟩:=zbx h
    refine zdh 9 [(0,21,zP bo1),(1,22,zP bo1),(2,23,.pointer (some ⟨bo1,3,none⟩)),(3,24,.map (some (zaw o1_h3))),(4,25,.string s1),(5,26,zI from4),(6,27,zI to4),(7,28,.string (zcz s1 from4 to4)),(8,29,.string r9)] mixed kr kr dc (by rfl) kr kr (zad ?_ (zad ?_ (zad ?_ (zad ?_ (zad ?_ (zad ?_ (zad ?_ (zad ?_ (zad ?_ DrawPre.nil))))))))) ?_
    · exact fun D n d c u i=>zan (k:=0) zix rfl dc (za8 (by rfl) rfl) rfl rfl (zaK 0 u i)
    · exact fun D n d c u i=>za1 rfl dc (zaT 0 u d) (zaK 1 u i)
    · exact fun D n d c u i=>zag zgB rfl dc (zaT 1 u d) (show _=3 from rfl) (zaK 2 u i)
    · exact fun D n d c u i=>zc2 (i:=0) hrd rfl zly rfl dc (zaT 2 u d) rfl (zaK 3 u i)
    · exact fun D n d c u i=>zan (k:=1) ze4 rfl dc (za8 (by rfl) rfl) rfl rfl (zaK 4 u i)
    · exact fun D n d c u i=>zan (k:=3) zd8 rfl dc (za8 (by rfl) rfl) rfl rfl (zaK 5 u i)
    · exact fun D n d c u i=>zan (k:=4) zd8 rfl dc (za8 (by rfl) rfl) rfl rfl (zaK 6 u i)
    · exact fun D n d c u i=>zce rfl dc (zaT 4 u d) (evO.some (zaT 5 u d)) (evO.some (zaT 6 u d)) (za7 (i:=from4) (j:=to4) underlying9 (.inr rfl) (.inr rfl) hg14) (zaK 7 u i)
    · exact fun D n d c u i=>zaQ (v:=.string r9) (vs:=[.string (zcz s1 from4 to4)]) rfl dc rfl (evL.cons (zaT 7 u d) evL.nil) rfl zlK (zdt hq10) (zaK 8 u i)
    refine zdO (k:=4) (ek:=(fun n:zBA=>Value.string n)) (ev':=(fun n:Bool=>Value.bool n)) (kk:=r9) (z0:=false) (zcV underlying9) underlying77 kr rfl dc rfl rfl hrd rfl ?_
    refine zyN ?_
    refine zyB rfl h (fun h => ?_) (fun h => ?_)
    ·
     refine zyG (zan (k:=4) zd8 rfl dc rfl rfl rfl ?_)
     refine zaP (k:=2) (l':=[zI to4]) zir rfl rfl rfl rfl rfl (fun _ _=>rfl) rfl ?_
     refine zyN (zaD (zai (zal (zal ?_))))
     exact zb2 (to4,from4,to4) (show _∧_ from ⟨rfl,h⟩) (zaa [0,1,2,3,4,5] kr rfl)
    refine zaq (zaG (zyG ?_))
    refine zaP (k:=2) (l':=[zI 0]) zir rfl rfl rfl rfl rfl (fun _ _=>rfl) rfl ?_
    refine zyN (zaD (zal (zal ?_)))
    exact zb2 (0,from4,to4) (show _∧_ from ⟨rfl,h⟩) (zaa [0,1,2,3,4,5] kr rfl)
   refine zaq (zae (zae ?_))
   exact zcC (from4,to4,false) (fun post2 e2=>by have e9:=zb7 hxs1 e2; subst e9; subst hag1; exact h) (zaa [0,1,2,3,4,5] kr rfl)
  ·
   rintro dm1 ⟨from4,to4,open3⟩ hinv
   have h:dn1 from4 to4 open3=some r:=hinv [] (List.append_nil _).symm
   rw [hdn1] at h
   show TX _ _ _ _ _ _ _ [zej ((([]:List Nat):List Nat).map zdW),emp,emp,emp,emp,emp,emp,cells b8 [.string r1] 9,cells b2 [zP bo1] 23,cells b3 [.string s1] 9,cells b4 [zI 0] 3,cells b5 [zI from4] 3,cells b6 [zI to4] 3,cells b7 [.bool open3] 4,zdW dm1]
   refine zdU (k:=14) (j:=0) rfl rfl dc ?_
   refine zae ?_
   exact zaj (b4,dm1::([]:List Nat)) h rfl (za9 rfl) (zaa [10,0] kr rfl)
  rintro dm1 c pre x1 post g hxs hX
  obtain ⟨rfl,h⟩:=(show _∧_ from hX)
  obtain ⟨x2,from5,to5⟩:=g
  rw [hek1] at h
  show TC _ _ _ _ _ _ _ _ _ [zej ((([]:List Nat):List Nat).map zdW),emp,emp,emp,emp,emp,emp,cells b8 [.string r1] 9,cells b2 [zP bo1] 23,cells b3 [.string s1] 9,cells b4 [zI x2] 3,cells b5 [zI from5] 3,cells b6 [zI to5] 3,cells b7 [.bool false] 4,zdW dm1]
  refine ziO (k:=14) (j:=0) rfl rfl dc ?_
  refine zaD (zal (zai ?_))
  cases h
  exact zdj (rs:=[.cell 4 3]) (dm1::([]:List Nat)) () (.inl rfl) (zbf (k:=0) rfl) results47 (.cons (.cell zd8 (k:=10) rfl rfl) .nil) rfl Splits.nil
 rintro ⟨b1,ds1⟩ h
 rw [hj1] at h
 refine zyG ?_
 refine zaP (k:=0) (l':=[zI 0]) zir rfl rfl rfl rfl rfl (fun _ _=>rfl) rfl ?_
 refine zyN (zaD ?_)
 cases h
 exact zdj (rs:=[.cell 4 3]) ds1 () (.inl rfl) (zbf (k:=1) rfl) results47 (.cons (.cell zd8 (k:=0) rfl rfl) .nil) rfl Splits.nil
def zel (s1:zBA):Option (List zam) := zak (zdQ s1) fun (r1:zBA) => zak (zdN r1) fun (r2:(List zam)) => some r2
theorem zjX {s1:zBA} {r:(List zam)} (h:zel s1=some r):Fn prog 49 [.string s1] [] (fun v0:Value=>v0) (fun v0=>[zv5 v0 r]):=by
 unfold zel at h
 refine Fn.intro func49 rfl ntmps49 (by simp) ?_
 intro w0 K
 refine zyG (zyR 1 rfl (zyH (zyR 1 rfl ?_)))
 obtain ⟨r1,hq1,h⟩:=zbx h
 refine zb3 (vs:=[.string s1]) rfl dc rfl rfl rfl zst (zev hq1) Splits.nil ?_
 rintro b1
 obtain ⟨r2,hq2,h⟩:=zbx h
 refine zb3 (vs:=[.func (.func 71) #[] #[zP b1]]) rfl dc rfl rfl rfl zyx (zhn (bseq10:=b1) hq2) (zaa [0] kr rfl) ?_
 rintro v1
 refine zyR 1 rfl (zyN (zaD ?_))
 cases h
 exact zcu (rs:=[.tmp 2]) v1 (.inl rfl) results49 (.cons (.tmp rfl) .nil) rfl (zaa [2] kr rfl)
def zbU (o1:zab) (l1:List zam) (j1:Int→Nat→(List zBA)→Option (Int×(List zBA))) (ag1:Int→zBA→Nat→(List zBA)→Int→Option (Int×(List zBA))) (best4:Int) (form3:zBA) (kd4:Nat) (places4:List zBA) (x3:Int):Option (Int×(List zBA)) := zat (decide ((x3:Int)<((zhl l1 0 (min (l1.length:Int) 8)).length:Int))) ( zbF (fun (j2:Int→zBA→Nat→(List zBA)→Option (Int×(List zBA))) => zak (zd7 (zhl l1 0 (min (l1.length:Int) 8)) x3) fun (q1:zam) => zat (q1.Broken) ( j1 best4 kd4 places4
) ( grd (I32 q1.Rune) <| grd (form3.size+(Utf8.encode (zbb q1.Rune)).size≤9223372036854775807) <| zat ((zbK (form3++(Utf8.encode (zbb q1.Rune))) o1.place).isSome) ( grd (I64 (x3+1)) <| j2 (x3+1) (form3++(Utf8.encode (zbb q1.Rune))) 1 ([form3++(Utf8.encode (zbb q1.Rune))]:List zBA)
) ( zat ((zbK (form3++(Utf8.encode (zbb q1.Rune))) o1.fors).isSome) ( grd (I64 (x3+1)) <| zak ((zbK (form3++(Utf8.encode (zbb q1.Rune))) o1.fors)) fun (xs1:List zBA) => j2 (x3+1) (form3++(Utf8.encode (zbb q1.Rune))) 2 xs1
) ( j2 best4 (form3++(Utf8.encode (zbb q1.Rune))) kd4 places4
)
)
)
) (fun (best5:Int) (form4:zBA) (kd5:Nat) (places5:List zBA) => grd (I64 (x3+1)) <| ag1 best5 form4 kd5 places5 (x3+1)
)
) ( j1 best4 kd4 places4
)
def zbH (j3:(List zBA)→Option (Int×(List zBA))) (r1:zBA) (ag2:(List zBA)→Nat→Option (Int×(List zBA))) (places9:List zBA) (m3:Nat):Option (Int×(List zBA)) := zat (decide (m3<(pcs r1.data.toList).length)) ( zak ((pcs r1.data.toList)[m3]?) fun (p1:Pc) => grd (places9.length+1≤2147483648) <| ag2 (places9++[Utf8.encode (p1.r:Int)]) (m3+1)
) ( j3 places9
)
def zdb (o1:zab) (l1:List zam):Option (Int×(List zBA)) := zbF (fun (j1:Int→Nat→(List zBA)→Option (Int×(List zBA))) => grd (0≤(0:Int)∧(0:Int)≤(min (l1.length:Int) 8)∧(min (l1.length:Int) 8:Int)≤(l1.length:Int)) <| zaU (fun _ _ _ _ _=>none) (zbU o1 l1 j1) zcG 0 (⟨#[]⟩:zBA) 0 ([]:List zBA) 0
) (fun (best1:Int) (kd1:Nat) (places1:List zBA) => zat (decide ((0:Int)<best1)) ( some (best1,places1)
) ( zbF (fun (j3:(List zBA)→Option (Int×(List zBA))) => grd (kd1=0) <| zak (zd7 l1 0) fun (q2:zam) => grd (I32 q2.Rune) <| zak (zeB (zbb q2.Rune)) fun (r1:zBA) => zaU (fun _ _=>none) (zbH j3 r1) zcG ([]:List zBA) 0
) (fun (places6:List zBA) => some (1,places6)
)
)
)
theorem zhm {bo1:Nat} {o1:zab} {o1_h0 o1_h1 o1_h2 o1_h3 o1_h4:Hd} {vvl1 vl1:Value} {Ll1:List zam} {kl1:Nat} {l1:List zam} (hwl1:Vw vvl1 Ll1 4 kl1 vl1 l1) {r:(Int×(List zBA))} (h:zdb o1 l1=some r):FnD prog 51 [zP bo1,vl1] [cells bo1 [o1_h0.v,.map (some (zaw o1_h1)),.map (some (zaw o1_h2)),.map (some (zaw o1_h3)),o1_h4.v] 79,zv0 o1_h0.v o1.units,za5 (fun n:zBA=>Value.string n) (fun n:Int=>Value.int .i64 n) (zaw o1_h1) o1.place,zbe (zaw o1_h2) o1.fors,za5 (fun n:zBA=>Value.string n) (fun n:Bool=>Value.bool n) (zaw o1_h3) o1.skips,zv0 o1_h4.v o1.lines,ze5 zbR 4 vvl1 kl1 Ll1] (fun v0:Hd=>.tuple #[zI r.1,v0.v]) (fun v0=>[zmC zgU 1 v0 r.2]):=by
 unfold zdb at h
 refine FnD.intro func51 rfl ntmps51 (by simp) ?_
 intro w0 K hrd
 obtain ⟨Lf,hLf,hrd⟩:=hrd.fors (i:=3) rfl
 replace hrd:Rd _ _ [cells bo1 [o1_h0.v,.map (some (zaw o1_h1)),.map (some (zaw o1_h2)),.map (some (zaw o1_h3)),o1_h4.v] 79,zv0 o1_h0.v o1.units,za5 (fun n:zBA=>Value.string n) (fun n:Int=>Value.int .i64 n) (zaw o1_h1) o1.place,zbe (zaw o1_h2) o1.fors,za5 (fun n:zBA=>Value.string n) (fun n:Bool=>Value.bool n) (zaw o1_h3) o1.skips,zv0 o1_h4.v o1.lines,ze5 zbR 4 vvl1 kl1 Ll1,fsM (zaw o1_h2) Lf,fsO Lf]:=hrd
 obtain ⟨j1,hj1,h⟩:=zbT h
 refine za2 (β:=Int×Nat×(List zBA)×Hd) 3 rfl (fun b=>j1 b.1 b.2.1 b.2.2.1=some r∧Rov b.2.1 b.2.2.2 b.2.2.1 Lf) (fun b=>[]) (fun b=>[(1,vl1),(6,zI b.1),(8,b.2.2.2.v)]) (fun b=>[rdX b.2.1 b.2.2.2 b.2.2.1,zoO w0 K]) (fun cut => ?_) ?_
 ·
  refine zyG (zyR 2 rfl (zyH (zyR 2 rfl (zyH ?_))))
  refine zyR 1 rfl (zgR (enc:=zgU) (e:=9) (size:=1) (zlq (k:=1) rfl (zra 9) ?_))
  refine zyN (cut (zyG (zyR 2 rfl (zcs hwl1 rfl dc rfl underlying103 (zwd rfl dc rfl rfl ?_)))))
  obtain ⟨hg1,h⟩:=zcg h
  obtain ⟨v1,hv1,hs1⟩:=ziX (lo:=none) (hi:=some (zI (min (l1.length:Int) 8))) hwl1 underlying103 zfR (.inl ⟨rfl,rfl⟩) (.inr rfl) hg1
  refine zce rfl dc rfl rfl rfl hs1 (zcs hv1 rfl dc rfl underlying103 (zyR 1 rfl (zyN (zaA ?_))))
  refine zbS (β:=Nat×Int×zBA×Nat×(List zBA)×Int×Hd) (fun b=>zaU (fun _ _ _ _ _=>none) (zbU o1 l1 j1) b.1 b.2.1 b.2.2.1 b.2.2.2.1 b.2.2.2.2.1 b.2.2.2.2.2.1=some r∧Rov b.2.2.2.1 b.2.2.2.2.2.2 b.2.2.2.2.1 Lf) (fun b=>[]) (fun b=>[(0,zP bo1),(1,vl1),(6,zI b.2.1),(7,.string b.2.2.1),(8,b.2.2.2.2.2.2.v),(21,v1),(22,zI ((zhl l1 0 (min (l1.length:Int) 8)).length:Int)),(23,zI b.2.2.2.2.2.1)]) (fun b=>[rdX b.2.2.2.1 b.2.2.2.2.2.2 b.2.2.2.2.1,zoO w0 K]) (fun b=>b.1) (zcG,0,(⟨#[]⟩:zBA),0,([]:List zBA),0,Hd.nil) ⟨h,Rov.nil⟩ rfl (za9 rfl) (zaa [1,0] kr rfl) ?_
  rintro ⟨n1,best4,form3,kd4,places4,x3,hd4⟩ ⟨h,hx4⟩
  cases n1 with
  | zero=>exact zez h
  | succ n1 =>
   obtain ⟨ag1,hag1⟩:∃ ag,ag=zaU (fun _ _ _ _ _=>none) (zbU o1 l1 j1) n1:=⟨_,rfl⟩
   have h:zbU o1 l1 j1 ag1 best4 form3 kd4 places4 x3=some r:=by rw [hag1]; exact h
   unfold zbU at h
   refine zyG (zaW rfl zbE (zyN (zaM ?_)))
   refine zyB rfl h (fun h => ?_) (fun h => ?_)
   ·
    refine zaq (zaG ?_)
    obtain ⟨j2,hj2,h⟩:=zbT h
    refine za2 (β:=Int×zBA×Nat×(List zBA)×Hd) 0 rfl (fun b=>j2 b.1 b.2.1 b.2.2.1 b.2.2.2.1=some r∧Rov b.2.2.1 b.2.2.2.2 b.2.2.2.1 Lf) (fun b=>[]) (fun b=>[(0,zP bo1),(1,vl1),(6,zI b.1),(7,.string b.2.1),(8,b.2.2.2.2.v),(21,v1),(22,zI ((zhl l1 0 (min (l1.length:Int) 8)).length:Int)),(23,zI x3)]) (fun b=>[rdX b.2.2.1 b.2.2.2.2 b.2.2.2.1,zoO w0 K]) (fun cut => ?_) ?_
    ·
     refine cut (zaA (zyG (zyR 1 rfl ?_)))
     obtain ⟨q1,hq1,h⟩:=zbx h
     refine zbc hv1 hq1 underlying103 zfR rfl dc rfl rfl rfl (zcM (m:=kl1+(0:Int).toNat+(x3:Int).toNat) (j:=0) (i:=6) (q:=q1) (cs:=(zr0 q1)) hrd rfl (by omega) zgZ rfl dc rfl (Vw.get hv1 hq1) rfl rfl rfl ?_)
     refine za4 zkL rfl dc (fun b1 => ?_)
     refine zyR 1 rfl (za6 (k:=2) (vs:=(zr0 q1)) (l':=(zr0 q1)) zfR rfl rfl rfl rfl rfl (show _≤_ by simp) rfl rfl ?_)
     refine zyN (zaM (zyG (zag zoU rfl dc rfl (show _=3 from rfl) (zan (k:=2) zwm rfl dc rfl rfl rfl (zyN ?_)))))
     refine zyB rfl h (fun h => ?_) (fun h => ?_)
     ·
      refine zbG (zap (zh3 dc (zap (zap (zaI ?_)))))
      exact zaj (best4,kd4,places4,hd4) ⟨h,hx4⟩ rfl (za9 rfl) (zaa [0,1] kr rfl)
     refine zaq (zaG (zyG (zyR 1 rfl (zag zgA rfl dc rfl (show _=2 from rfl) (zan (k:=2) zft rfl dc rfl rfl rfl ?_)))))
     obtain ⟨hg2,h⟩:=zcg h
     refine zaQ (v:=.int .i32 (zbb q1.Rune)) (vs:=[.int .i32 q1.Rune]) rfl dc rfl rfl rfl ztT (zdV fun w=>zhu q1.Rune w hg2.1 hg2.2) ?_
     refine zdC rfl dc rfl (zda underlying21 underlying9) ?_
     obtain ⟨hg3,h⟩:=zcg h
     refine zaW rfl (zfq hg3) (zyR 1 rfl (zyH (zyR 1 rfl (za1 rfl dc rfl (zag zjO rfl dc rfl (show _=1 from rfl) (zc2 (i:=0) hrd rfl zqk rfl dc rfl rfl (zyR 1 rfl ?_)))))))
     refine zfU (k:=2) (ek:=(fun n:zBA=>Value.string n)) (ev':=(fun n:Int=>Value.int .i64 n)) (kk:=form3++(Utf8.encode (zbb q1.Rune))) (z0:=0) (zcV underlying9) underlying75 kr rfl dc rfl rfl hrd rfl ?_
     refine zyR 1 rfl (zaH rfl dc rfl rfl (zaH rfl dc rfl rfl (zyR 2 rfl (zyH (zyR 1 rfl (zyN ?_))))))
     refine zyB rfl h (fun h => ?_) (fun h => ?_)
     ·
      refine zao (zyR 1 rfl ?_)
      obtain ⟨hg4,h⟩:=zcg h
      refine zaW rfl (zbi (r:=x3+1) (IntWalk.i64_in _ hg4)) (zyR 1 rfl ?_)
      refine zaX (cs:=[.string (form3++(Utf8.encode (zbb q1.Rune)))]) (te:=9) (ps:=[(0,.tmp 48)]) rfl dc rfl (fun _=>by kernel_rfl) (fun b2 => ?_)
      refine zyR 2 rfl (zgv ([form3++(Utf8.encode (zbb q1.Rune))]:List zBA) (k:=3) rfl zcq rfl (show 1≤maxLen by decide) ?_)
      refine zlq (k:=3) rfl (zq9 (hd:=(⟨some ⟨b2,0,none⟩,1,1⟩:Hd))) ?_
      refine zaE (zae ?_)
      exact zaj (x3+1,form3++(Utf8.encode (zbb q1.Rune)),1,([form3++(Utf8.encode (zbb q1.Rune))]:List zBA),(⟨some ⟨b2,0,none⟩,1,1⟩:Hd)) ⟨h,Rov.own⟩ rfl (za9 rfl) (zaa [3,1] kr rfl)
     refine zyG (zyR 1 rfl (za1 rfl dc rfl (zag zoV rfl dc rfl (show _=2 from rfl) (zc2 (i:=0) hrd rfl zu6 rfl dc rfl rfl (zyR 1 rfl ?_)))))
     refine zsV (i:=7) (kk:=(form3++(Utf8.encode (zbb q1.Rune)))) hLf underlying9 underlying76 kr rfl dc rfl rfl hrd rfl (fun hd6 hx6 => ?_)
     refine zyR 1 rfl (zaH rfl dc rfl rfl (zaH rfl dc rfl rfl (zyR 2 rfl (zyH (zyR 1 rfl (zyN ?_))))))
     refine zyB rfl h (fun h => ?_) (fun h => ?_)
     ·
      refine zao (zyR 1 rfl ?_)
      obtain ⟨hg5,h⟩:=zcg h
      refine zaW rfl (zbi (r:=x3+1) (IntWalk.i64_in _ hg5)) (zyR 3 rfl ?_)
      obtain ⟨xs1,hq2,h⟩:=zbx h
      refine zwb ?_
      refine zlq (k:=3) rfl (zrb (hd:=hd6) (xs:=xs1)) ?_
      refine zaE (zae ?_)
      exact zaj (x3+1,form3++(Utf8.encode (zbb q1.Rune)),2,xs1,hd6) ⟨h,(Rov.map (hx6 xs1 hq2))⟩ rfl (za9 rfl) (zaa [3,1] kr rfl)
     refine zaq (zae ?_)
     exact zaj (best4,form3++(Utf8.encode (zbb q1.Rune)),kd4,places4,hd4) ⟨h,hx4⟩ rfl (za9 rfl) (zaa [0,1] kr rfl)
    rintro ⟨best5,form4,kd5,places5,hd5⟩ ⟨h,hx5⟩
    rw [hj2] at h
    refine zao ?_
    obtain ⟨hg6,h⟩:=zcg h
    refine zaW rfl (zbi (r:=x3+1) (IntWalk.i64_in _ hg6)) (zyR 1 rfl (zaE ?_))
    subst hag1
    exact zbv (n1,best5,form4,kd5,places5,x3+1,hd5) ⟨h,hx5⟩ (Nat.lt_succ_self _) rfl (za9 rfl) (zaa [0,1] kr rfl)
   refine zbG (zap (zap (zaI ?_)))
   exact zaj (best4,kd4,places4,hd4) ⟨h,hx4⟩ rfl (za9 rfl) (zaa [0,1] kr rfl)
 rintro ⟨best1,kd1,places1,hd1⟩ ⟨h,hx1⟩
 rw [hj1] at h
 refine zaM (zyG (zyR 1 rfl (zaW rfl zeR (zyN ?_))))
 refine zyB rfl h (fun h => ?_) (fun h => ?_)
 ·
  refine zyG (zyR 4 rfl (zyN (zaD (zai ?_))))
  cases h
  exact zsS (rs:=[.tmp 4,.tmp 5]) hd1 hrd (.inl rfl) results51 (.cons (.tmp rfl) (.cons (.tmp rfl) .nil)) rfl (zaa [1,0] kr rfl) (zu8 hx1 (i:=8) rfl)
 refine zaq (zaG ?_)
 obtain ⟨j3,hj3,h⟩:=zbT h
 refine za2 (β:=(List zBA)×Hd) 0 rfl (fun b=>j3 b.1=some r) (fun b=>[]) (fun b=>[(8,b.2.v)]) (fun b=>[zv0 b.2.v b.1,zoO w0 K]) (fun cut => ?_) ?_
 ·
  refine cut (zaM ?_)
  obtain ⟨hg7,h⟩:=zcg h
  have hkp:=h
  obtain ⟨rfl,rfl⟩:=hx1.1 hg7
  have h:=hkp
  refine zao (zyR 1 rfl ?_)
  obtain ⟨q2,hq3,h⟩:=zbx h
  refine zbc hwl1 hq3 underlying103 zfR rfl dc rfl rfl rfl (zag zgA rfl dc rfl (show _=(kl1+(0:Int).toNat)*4+2 from rfl) (zcD (n:=kl1+(0:Int).toNat) (j:=2) (i:=6) (q:=q2) hrd rfl (by omega) zft rfl dc rfl (Vw.get hwl1 hq3) rfl rfl ?_))
  obtain ⟨hg8,h⟩:=zcg h
  refine zaQ (v:=.int .i32 (zbb q2.Rune)) (vs:=[.int .i32 q2.Rune]) rfl dc rfl rfl rfl ztT (zdV fun w=>zhu q2.Rune w hg8.1 hg8.2) ?_
  obtain ⟨r1,hq4,h⟩:=zbx h
  refine zaQ (v:=.string r1) (vs:=[.int .i32 (zbb q2.Rune)]) rfl dc rfl rfl rfl zxi (zhf hq4) ?_
  refine zfA underlying9 rfl dc rfl (fun b3 => ?_)
  refine zyN (zaA (ze2 (enc:=zgU) (e:=9) (size:=1) ?_))
  refine zbS (β:=Nat×(List zBA)×Nat×Hd) (fun b=>zaU (fun _ _=>none) (zbH j3 r1) b.1 b.2.1 b.2.2.1=some r) (fun b=>[]) (fun b=>[(8,b.2.2.2.v),(74,zP b3)]) (fun b=>[zv0 b.2.2.2.v b.2.1,obj b3 (.stringIter r1 (zgx r1 b.2.2.1)),zoO w0 K]) (fun b=>b.1) (zcG,([]:List zBA),0,Hd.nil) (by exact h) rfl (za9 rfl) (zaa [3,2,1] kr rfl) ?_
  rintro ⟨n2,places9,m3,hd10⟩ h
  cases n2 with
  | zero=>exact zez h
  | succ n2 =>
   obtain ⟨ag2,hag2⟩:∃ ag,ag=zaU (fun _ _=>none) (zbH j3 r1) n2:=⟨_,rfl⟩
   have h:zbH j3 r1 ag2 places9 m3=some r:=by rw [hag2]; exact h
   unfold zbH at h
   refine zyG ?_
   refine zfC (b:=decide (m3<(pcs r1.data.toList).length)) (fun hb6 => ?_) (fun hb6 => ?_)
   ·
    have h:=zlL hb6 h
    obtain ⟨p1,hq5,h⟩:=zbx h
    refine zf0 (k:=1) (m:=m3) (p:=p1) rfl dc rfl rfl hq5 (zaH rfl dc rfl rfl (zyN (zaM (zcf rfl (zaq (zaG (zaA (zyG (zaH rfl dc rfl rfl (zyR 1 rfl (zaE ?_)))))))))))
    refine zaG (zao (zyR 2 rfl (zdC rfl dc rfl (zda underlying21 underlying9) ?_)))
    refine zaX (cs:=[.string (Utf8.encode (p1.r:Int))]) (te:=9) (ps:=[(0,.tmp 80)]) rfl dc rfl (fun _=>by kernel_rfl) (fun b4 => ?_)
    obtain ⟨hg9,h⟩:=zcg h
    refine zbP (k:=0) (k2:=3) (ys:=[Utf8.encode (p1.r:Int)]) underlying38 zvL zcq zhX rfl dc rfl rfl rfl rfl rfl rfl hg9 (fun v2 => ?_)
    refine zcr (k:=0) rfl (fun hd11 he1 => ?_)
    subst he1
    refine zyR 1 rfl (zaE (zae ?_))
    subst hag2
    exact zbv (n2,places9++[Utf8.encode (p1.r:Int)],m3+1,hd11) h (Nat.lt_succ_self _) rfl (za9 rfl) (zaa [0,1,2] kr rfl)
   have h:=zlM hb6 h
   refine zf1 (k:=1) (m:=m3) rfl dc rfl rfl (Nat.le_of_not_lt (of_decide_eq_false hb6)) (zaH rfl dc rfl rfl (zyN (zaM (za3 rfl (zbG (zap (zap (zaI ?_))))))))
   exact zaj (places9,hd10) h rfl (za9 rfl) (zaa [0,2] kr rfl)
 rintro ⟨places6,hd7⟩ h
 rw [hj3] at h
 refine zyG (zyR 3 rfl (zyN (zaD ?_)))
 cases h
 exact zsS (rs:=[.tmp 4,.tmp 5]) hd7 hrd (.inl rfl) results51 (.cons (.tmp rfl) (.cons (.tmp rfl) .nil)) rfl (zaa [1,0] kr rfl) (zuT (e:=9) (hd:=hd7) (xs:=places6))
def zbM (e1:zac) (c0:Bool) (c1:List zac):Option (Bool×(List zac)) := zbF (fun (j1:(List zac)→Option (Bool×(List zac))) => zat (c0) ( zat (decide ((0:Int)<(c1.length:Int))) ( grd (c1.length+1≤2147483648) <| j1 (c1++[(⟨1,0,ByteArray.empty,ByteArray.empty,0⟩:zac)])
) ( j1 c1
)
) ( j1 c1
)
) (fun (l1:List zac) => grd (l1.length+1≤2147483648) <| some (false,l1++[e1])
)
theorem zdA {e1:zac} {bc0:Nat} {c0:Bool} {bc1:Nat} {c1:List zac} {c1_h0:Hd} {r:(Bool×(List zac))} (h:zbM e1 c0 c1=some r):Fn prog 48 [.agg (zr1 e1).toArray,zP bc0,zP bc1] [cells bc0 [.bool c0] 4,cells bc1 [c1_h0.v] 62,zv2 c1_h0.v c1] (fun v0:Hd=>.tuple #[]) (fun v0=>[cells bc0 [.bool r.1] 4,cells bc1 [v0.v] 62,zv2 v0.v r.2]):=by
 unfold zbM at h
 refine Fn.intro func48 rfl ntmps48 (by simp) ?_
 intro w0 K
 obtain ⟨j1,hj1,h⟩:=zbT h
 refine za2 (β:=(List zac)×Hd×Nat) 1 rfl (fun b=>j1 b.1=some r) (fun b=>[]) (fun b=>[(1,zP bc0),(2,zP bc1),(3,zP b.2.2)]) (fun b=>[cells bc1 [b.2.1.v] 62,zv2 b.2.1.v b.1,cells bc0 [.bool c0] 4,cells b.2.2 (zr1 e1) 66]) (fun cut => ?_) ?_
 ·
  refine zyG ?_
  refine zeb rfl dc rfl (fun b2 => ?_)
  refine zyN (cut (zyG (zan (k:=0) zwm rfl dc rfl rfl rfl (zyR 1 rfl ?_))))
  refine zyS (s:=5) rfl h (fun h => ?_) (fun h => ?_)
  ·
   refine zan (k:=1) zql rfl dc rfl rfl rfl (zdB (k:=2) rfl dc rfl rfl underlying62 (zaW rfl zeR (zyR 1 rfl (zyN ?_))))
   refine zyB rfl h (fun h => ?_) (fun h => ?_)
   ·
    refine zao (zan (k:=1) zql rfl dc rfl rfl rfl ?_)
    refine zck (v:=.agg #[zI 1,zI 0,.string ByteArray.empty,.string ByteArray.empty,zI 0]) (ps:=[(0,.const (zI 1))]) rfl dc rfl (fun _=>by kernel_rfl) ?_
    refine zaX (cs:=[zI 1,zI 0,.string ByteArray.empty,.string ByteArray.empty,zI 0]) (te:=66) (ps:=[(0,.tmp 11)]) rfl dc rfl (fun _=>by kernel_rfl) (fun b3 => ?_)
    obtain ⟨hg1,h⟩:=zcg h
    refine zbP (k:=2) (k2:=4) (ys:=[(⟨1,0,ByteArray.empty,ByteArray.empty,0⟩:zac)]) underlying62 zxq zbg zfb rfl dc rfl rfl rfl rfl rfl rfl hg1 (fun v1 => ?_)
    refine zcr (k:=2) rfl (fun hd2 he1 => ?_)
    subst he1
    refine zaP (k:=1) (l':=[hd2.v]) zwL rfl rfl rfl rfl rfl (fun _ _=>rfl) rfl ?_
    refine zaE ?_
    exact zaj (c1++[(⟨1,0,ByteArray.empty,ByteArray.empty,0⟩:zac)],hd2,b2) h rfl (za9 rfl) (zaa [1,2,0,3] kr rfl)
   refine zaq ?_
   exact zaj (c1,c1_h0,b2) h rfl (za9 rfl) (zaa [1,2,0,3] kr rfl)
  refine zyR 4 rfl (zyN (za3 rfl (zaq ?_)))
  exact zaj (c1,c1_h0,b2) h rfl (za9 rfl) (zaa [1,2,0,3] kr rfl)
 rintro ⟨l1,hd1,b1⟩ h
 rw [hj1] at h
 refine zyG ?_
 refine zaP (k:=2) (l':=[.bool false]) zrt rfl rfl rfl rfl rfl (fun _ _=>rfl) rfl ?_
 refine zyN (zao (zan (k:=0) zql rfl dc rfl rfl rfl (zbW (k:=3) (cs:=(zr1 e1)) zi0 rfl dc rfl rfl rfl rfl ?_)))
 refine zaX (cs:=(zr1 e1)) (te:=66) (ps:=[(0,.tmp 15)]) rfl dc rfl (fun _=>by kernel_rfl) (fun b4 => ?_)
 obtain ⟨hg2,h⟩:=zcg h
 refine zbP (k:=1) (k2:=4) (ys:=[e1]) underlying62 zxq zbg zfb rfl dc rfl rfl rfl rfl rfl rfl hg2 (fun v2 => ?_)
 refine zcr (k:=1) rfl (fun hd3 he2 => ?_)
 subst he2
 refine zaP (k:=0) (l':=[hd3.v]) zwL rfl rfl rfl rfl rfl (fun _ _=>rfl) rfl ?_
 refine zaE ?_
 cases h
 exact zcu (rs:=[]) hd3 (.inr rfl) results48 .nil rfl (zaa [2,0,1] kr rfl)
def zbl (l3:List zam) (r4:(Int×(List zBA))) (j3:Int→Option (List zac)) (ag2:Int→Int→Option (List zac)) (great4:Int) (x3:Int):Option (List zac) := zat (decide ((x3:Int)<((zhl l3 0 r4.1).length:Int))) ( zbF (fun (j4:Int→Option (List zac)) => zak (zd7 (zhl l3 0 r4.1) x3) fun (q2:zam) => grd (I32 q2.Rune) <| zat (great q2.Rune) ( j4 1
) ( j4 great4
)
) (fun (great5:Int) => grd (I64 (x3+1)) <| ag2 great5 (x3+1)
)
) ( j3 great4
)
def zbA (l3:List zam) (j5:Int→zBA→Option (List zac)) (ag3:Int→zBA→Option (List zac)) (n7:Int) (marks4:zBA):Option (List zac) := zat (decide ((n7:Int)<(l3.length:Int))) ( zak (zd7 l3 n7) fun (q3:zam) => zak (zdS q3) fun (r5:Bool) => zat (r5) ( zak (zd7 l3 n7) fun (q4:zam) => grd (marks4.size+(Utf8.encode q4.Rune).size≤9223372036854775807) <| grd (I64 (n7+1)) <| ag3 (n7+1) (marks4++(Utf8.encode q4.Rune))
) ( j5 n7 marks4
)
) ( j5 n7 marks4
)
def zbk (o1:zab) (r4:(Int×(List zBA))) (great1:Int) (j6:(List zac)→Bool→Option (List zac)) (ag4:(List zac)→Bool→Int→Option (List zac)) (out9:List zac) (space8:Bool) (x6:Int):Option (List zac) := zat (decide ((x6:Int)<(r4.2.length:Int))) ( zak (zd7 r4.2 x6) fun (q5:zBA) => zak (zbM (⟨3,((zbK q5 o1.place).getD 0),ByteArray.empty,ByteArray.empty,great1⟩:zac) space8 out9) fun (r6:(Bool×(List zac))) => grd (I64 (x6+1)) <| ag4 r6.2 r6.1 (x6+1)
) ( j6 out9 space8
)
def zbz (l3:List zam) (j7:Int→Option (List zac)) (ag5:Int→Option (List zac)) (n13:Int):Option (List zac) := zat (decide ((n13:Int)<(l3.length:Int))) ( zak (zd7 l3 n13) fun (q7:zam) => grd (I32 q7.Rune) <| zat (((zbr q7.Broken q7.Rune):Int)==3) ( grd (I64 (n13+1)) <| ag5 (n13+1)
) ( j7 n13
)
) ( j7 n13
)
def zby (j8:zBA→Option (List zac)) (ag6:zBA→Option (List zac)) (digits4:zBA):Option (List zac) := zat (decide ((0:Int)<(digits4.size:Int))) ( zak (zlH digits4 0) fun (c1:Int) => zat ((c1:Int)==48) ( grd (0≤(1:Int)∧(1:Int)≤(digits4.size:Int)∧((digits4.size:Int):Int)≤(digits4.size:Int)) <| ag6 (zcz digits4 1 (digits4.size:Int))
) ( j8 digits4
)
) ( j8 digits4
)
def zbB (o1:zab) (j1:(List zac)→Option (List zac)) (r1:zBA) (r2:Int) (ag1:(List zac)→Bool→(List zam)→Option (List zac)) (out4:List zac) (space3:Bool) (l3:List zam):Option (List zac) := zat (decide ((0:Int)<(l3.length:Int))) ( zbF (fun (j2:(List zac)→Bool→Int→Option (List zac)) => zak (zd7 l3 0) fun (q1:zam) => grd (I32 q1.Rune) <| zat (((zbr q1.Broken q1.Rune):Int)==1) ( zak (zdb o1 l3) fun (r4:(Int×(List zBA))) => zbF (fun (j3:Int→Option (List zac)) => grd (0≤(0:Int)∧(0:Int)≤r4.1∧(r4.1:Int)≤(l3.length:Int)) <| zaU (fun _ _=>none) (zbl l3 r4 j3) zcG 0 0
) (fun (great1:Int) => zbF (fun (j5:Int→zBA→Option (List zac)) => zaU (fun _ _=>none) (zbA l3 j5) zcG r4.1 (⟨#[]⟩:zBA)
) (fun (n4:Int) (marks1:zBA) => zbF (fun (j6:(List zac)→Bool→Option (List zac)) => zaU (fun _ _ _=>none) (zbk o1 r4 great1 j6) zcG out4 space3 0
) (fun (out6:List zac) (space5:Bool) => grd (I64 ((out6.length:Int) - 1)) <| zak (zd7 out6 ((out6.length:Int) - 1)) fun (q6:zac) => j2 (out6.set ((out6.length:Int) - 1:Int).toNat (⟨q6.sort,q6.place,q6.digits,marks1,q6.great⟩:zac)) space5 n4
)
)
)
) ( zat (((zbr q1.Broken q1.Rune):Int)==3) ( zbF (fun (j7:Int→Option (List zac)) => zaU (fun _=>none) (zbz l3 j7) zcG 1
) (fun (n10:Int) => zbF (fun (j8:zBA→Option (List zac)) => grd (I64 (q1.At+n10)) <| grd (0≤(q1.At:Int)∧(q1.At:Int)≤(q1.At+n10)∧(q1.At+n10:Int)≤((zcz r1 r2 (r1.size:Int)).size:Int)) <| zaU (fun _=>none) (zby j8) zcG (zcz (zcz r1 r2 (r1.size:Int)) q1.At (q1.At+n10))
) (fun (digits1:zBA) => zak (zbM (⟨2,0,digits1,ByteArray.empty,0⟩:zac) space3 out4) fun (r7:(Bool×(List zac))) => j2 r7.2 r7.1 n10
)
)
) ( zbF (fun (j9:Bool→Option (List zac)) => zat (((zbr q1.Broken q1.Rune):Int)==5) ( j9 (((zbr q1.Broken q1.Rune):Int)==5)
) ( zat (((zbr q1.Broken q1.Rune):Int)==4) ( j9 (((zbr q1.Broken q1.Rune):Int)==4)
) ( j9 (((zbr q1.Broken q1.Rune):Int)==6)
)
)
) (fun (x7:Bool) => zat (x7) ( j2 out4 true 1
) ( zat (((zbr q1.Broken q1.Rune):Int)==11) ( zak (zlH (zcz r1 r2 (r1.size:Int)) q1.At) fun (c2:Int) => grd (I64 c2) <| zak (zbM (⟨4,c2,ByteArray.empty,ByteArray.empty,0⟩:zac) space3 out4) fun (r8:(Bool×(List zac))) => j2 r8.2 r8.1 1
) ( j2 out4 space3 1
)
)
)
)
)
) (fun (out5:List zac) (space4:Bool) (n2:Int) => grd (0≤(n2:Int)∧(n2:Int)≤(l3.length:Int)∧((l3.length:Int):Int)≤(l3.length:Int)) <| ag1 out5 space4 (zhl l3 n2 (l3.length:Int))
)
) ( j1 out4
)
def zbZ (o1:zab) (t1:zBA):Option (List zac) := zbF (fun (j1:(List zac)→Option (List zac)) => zak (zfa t1) fun (r1:zBA) => zak (zc1 o1 r1) fun (r2:Int) => grd (0≤(r2:Int)∧(r2:Int)≤(r1.size:Int)∧((r1.size:Int):Int)≤(r1.size:Int)) <| zak (zel (zcz r1 r2 (r1.size:Int))) fun (r3:(List zam)) => zaU (fun _ _ _=>none) (zbB o1 j1 r1 r2) zcG ([]:List zac) false r3
) (fun (out1:List zac) => some out1
)
theorem zdT {bo1:Nat} {o1:zab} {o1_h0 o1_h1 o1_h2 o1_h3 o1_h4:Hd} {t1:zBA} {r:(List zac)} (h:zbZ o1 t1=some r):FnR prog 25 [zP bo1,.string t1] [cells bo1 [o1_h0.v,.map (some (zaw o1_h1)),.map (some (zaw o1_h2)),.map (some (zaw o1_h3)),o1_h4.v] 79,zv0 o1_h0.v o1.units,za5 (fun n:zBA=>Value.string n) (fun n:Int=>Value.int .i64 n) (zaw o1_h1) o1.place,zbe (zaw o1_h2) o1.fors,za5 (fun n:zBA=>Value.string n) (fun n:Bool=>Value.bool n) (zaw o1_h3) o1.skips,zv0 o1_h4.v o1.lines] [] (fun v0:Value=>v0) (fun v0=>[zv2 v0 r]):=by
 unfold zbZ at h
 refine FnR.intro func25 rfl ntmps25 (by simp) ?_
 intro w0 K hrd
 obtain ⟨j1,hj1,h⟩:=zbT h
 refine za2 (β:=(List zac)×Nat×Hd) 6 rfl (fun b=>j1 b.1=some r) (fun b=>[]) (fun b=>[(6,zP b.2.1)]) (fun b=>[cells b.2.1 [b.2.2.v] 62,zv2 b.2.2.v b.1]) (fun cut => ?_) ?_
 ·
  refine zyG (zyR 1 rfl (zyH (zyR 1 rfl ?_)))
  obtain ⟨r1,hq1,h⟩:=zbx h
  refine zaQ (v:=.string r1) (vs:=[.string t1]) rfl dc rfl rfl rfl zzr (zjm hq1) (zyR 1 rfl (zyH (zyR 3 rfl ?_)))
  obtain ⟨r2,hq2,h⟩:=zbx h
  refine zdn (v:=zI r2) (vs:=[zP bo1,.string r1]) hrd rfl dc rfl rfl rfl zyZ (zg6 (bo1:=bo1) (o1:=o1) (o1_h0:=o1_h0) (o1_h1:=o1_h1) (o1_h2:=o1_h2) (o1_h3:=o1_h3) (o1_h4:=o1_h4) hq2) (.ro 0 rfl (.ro 1 rfl (.ro 2 rfl (.ro 3 rfl (.ro 4 rfl (.ro 5 rfl .nil)))))) ?_
  obtain ⟨hg1,h⟩:=zcg h
  refine zce rfl dc rfl rfl rfl (za7 (i:=r2) (j:=(r1.size:Int)) underlying9 (.inr rfl) (.inl ⟨rfl,rfl⟩) hg1) (zyR 1 rfl (zyH ?_))
  refine za4 zxR rfl dc (fun b2 => ?_)
  refine zyH ?_
  refine za4 zxU rfl dc (fun b3 => ?_)
  refine zaP (k:=1) (l':=[.bool false]) zrt rfl rfl rfl rfl rfl (fun _ _=>rfl) rfl ?_
  refine zyH (zfB (x1:=[]) (x2:=[.tmp 7,.tmp 6]) rfl dc rfl rfl (zyR 1 rfl (zyN (cut (zyG (zyR 1 rfl ?_))))))
  obtain ⟨r3,hq3,h⟩:=zbx h
  refine zb3 (vs:=[.string (zcz r1 r2 (r1.size:Int))]) rfl dc rfl rfl rfl zyY (zjX hq3) Splits.nil ?_
  rintro v1
  refine zcr (k:=2) rfl (fun hd2 he1 => ?_)
  subst he1
  refine zyR 1 rfl ?_
  refine zes (k:=2) rfl (fun hw1 => ?_)
  refine zsW (B:=ze5 zbR 4 hd2.v 0 r3) (As:=[zv5 hd2.v r3]) (zaa [2] kr rfl) (fun _ _ h=>zek zgs (sepL.one1.1 h)) hrd ?_
  intro wf1 Kf1 hxf1 hrd
  replace hrd:Rd _ _ [cells bo1 [o1_h0.v,.map (some (zaw o1_h1)),.map (some (zaw o1_h2)),.map (some (zaw o1_h3)),o1_h4.v] 79,zv0 o1_h0.v o1.units,za5 (fun n:zBA=>Value.string n) (fun n:Int=>Value.int .i64 n) (zaw o1_h1) o1.place,zbe (zaw o1_h2) o1.fors,za5 (fun n:zBA=>Value.string n) (fun n:Bool=>Value.bool n) (zaw o1_h3) o1.skips,zv0 o1_h4.v o1.lines,ze5 zbR 4 hd2.v 0 r3]:=hrd
  refine zyN (zaA (ze2 (enc:=zbs) (e:=66) (size:=5) ?_))
  refine zbS (β:=Nat×(List zac)×Bool×(List zam)×Hd×Value×Nat) (fun b=>zaU (fun _ _ _=>none) (zbB o1 j1 r1 r2) b.1 b.2.1 b.2.2.1 b.2.2.2.1=some r∧Vw hd2.v r3 4 b.2.2.2.2.2.2 b.2.2.2.2.2.1 b.2.2.2.1) (fun b=>[]) (fun b=>[(0,zP bo1),(5,.string (zcz r1 r2 (r1.size:Int))),(6,zP b2),(7,zP b3),(8,.func (.func 48) #[] #[zP b3,zP b2]),(9,b.2.2.2.2.2.1)]) (fun b=>[cells b2 [b.2.2.2.2.1.v] 62,zv2 b.2.2.2.2.1.v b.2.1,cells b3 [.bool b.2.2.1] 4]) (fun b=>b.1) (zcG,([]:List zac),false,r3,Hd.nil,hd2.v,0) ⟨h,hw1⟩ rfl (za9 rfl) (zaa [0,3,1] kr rfl) ?_
  rintro ⟨n1,out4,space3,l3,hd5,v4,at3⟩ ⟨h,hw4⟩
  cases n1 with
  | zero=>exact zez h
  | succ n1 =>
   obtain ⟨ag1,hag1⟩:∃ ag,ag=zaU (fun _ _ _=>none) (zbB o1 j1 r1 r2) n1:=⟨_,rfl⟩
   have h:zbB o1 j1 r1 r2 ag1 out4 space3 l3=some r:=by rw [hag1]; exact h
   unfold zbB at h
   refine zaM (zyG (zyR 1 rfl (zcs hw4 rfl dc rfl underlying103 (zaW rfl zeR (zyN ?_)))))
   refine zyB rfl h (fun h => ?_) (fun h => ?_)
   ·
    refine zaq (zaG (zaA ?_))
    obtain ⟨j2,hj2,h⟩:=zbT h
    refine za2 (β:=(List zac)×Bool×Int×Hd) 2 rfl (fun b=>j2 b.1 b.2.1 b.2.2.1=some r) (fun b=>[]) (fun b=>[(0,zP bo1),(5,.string (zcz r1 r2 (r1.size:Int))),(6,zP b2),(7,zP b3),(8,.func (.func 48) #[] #[zP b3,zP b2]),(9,v4),(11,zI b.2.2.1)]) (fun b=>[cells b2 [b.2.2.2.v] 62,zv2 b.2.2.2.v b.1,cells b3 [.bool b.2.1] 4]) (fun cut => ?_) ?_
    ·
     refine zyG (zyR 1 rfl ?_)
     obtain ⟨q1,hq4,h⟩:=zbx h
     refine zbc hw4 hq4 underlying103 zfR rfl dc rfl rfl rfl (zcM (m:=at3+(0:Int).toNat) (j:=0) (i:=6) (q:=q1) (cs:=(zr0 q1)) hrd rfl (by omega) zgZ rfl dc rfl (Vw.get hw4 hq4) rfl rfl rfl ?_)
     refine za4 zkL rfl dc (fun b4 => ?_)
     refine za6 (k:=3) (vs:=(zr0 q1)) (l':=(zr0 q1)) zfR rfl rfl rfl rfl rfl (show _≤_ by simp) rfl rfl ?_
     refine zyH (zyR 1 rfl (zyN (cut (zyG (zbW (k:=3) (cs:=(zr0 q1)) zgZ rfl dc rfl rfl rfl rfl ?_)))))
     obtain ⟨hg2,h⟩:=zcg h
     refine zaQ (v:=zI (zbr q1.Broken q1.Rune)) (vs:=[.agg (zr0 q1).toArray]) rfl dc rfl rfl rfl zqW (zwo q1.At q1.Width q1.Rune q1.Broken hg2.1 hg2.2) (zyN (zaA (zyG (zaW rfl zbn (zyR 1 rfl (zyN ?_))))))
     refine zyB rfl h (fun h => ?_) (fun h => ?_)
     ·
      refine zyG (zyR 1 rfl (zyH (zyR 2 rfl ?_)))
      have hrd:Rd _ _ [cells bo1 [o1_h0.v,.map (some (zaw o1_h1)),.map (some (zaw o1_h2)),.map (some (zaw o1_h3)),o1_h4.v] 79,zv0 o1_h0.v o1.units,za5 (fun n:zBA=>Value.string n) (fun n:Int=>Value.int .i64 n) (zaw o1_h1) o1.place,zbe (zaw o1_h2) o1.fors,za5 (fun n:zBA=>Value.string n) (fun n:Bool=>Value.bool n) (zaw o1_h3) o1.skips,zv0 o1_h4.v o1.lines,ze5 zbR 4 hd2.v 0 r3,ze5 zbR 4 hd2.v at3 r3]:=hrd.up0 (i:=6) rfl
      obtain ⟨r4,hq5,h⟩:=zbx h
      refine zt9 (vs:=[zP bo1,v4]) hrd rfl dc rfl rfl rfl zyX (zhm (bo1:=bo1) (o1:=o1) (o1_h0:=o1_h0) (o1_h1:=o1_h1) (o1_h2:=o1_h2) (o1_h3:=o1_h3) (o1_h4:=o1_h4) hw4 hq5) (.ro 0 rfl (.ro 1 rfl (.ro 2 rfl (.ro 3 rfl (.ro 4 rfl (.ro 5 rfl (.ro 7 rfl .nil))))))) ?_
      intro hd7 wf2 Kf2 hxf2 hrd
      replace hrd:Rd _ _ [cells bo1 [o1_h0.v,.map (some (zaw o1_h1)),.map (some (zaw o1_h2)),.map (some (zaw o1_h3)),o1_h4.v] 79,zv0 o1_h0.v o1.units,za5 (fun n:zBA=>Value.string n) (fun n:Int=>Value.int .i64 n) (zaw o1_h1) o1.place,zbe (zaw o1_h2) o1.fors,za5 (fun n:zBA=>Value.string n) (fun n:Bool=>Value.bool n) (zaw o1_h3) o1.skips,zv0 o1_h4.v o1.lines,ze5 zbR 4 hd2.v 0 r3,ze5 zbR 4 hd2.v at3 r3,zmC zgU 1 hd7 r4.2]:=hrd
      obtain ⟨vv1,k1,L1,hV1,hrd⟩:=hrd.openSl (i:=8) rfl
      replace hrd:Rd _ _ [cells bo1 [o1_h0.v,.map (some (zaw o1_h1)),.map (some (zaw o1_h2)),.map (some (zaw o1_h3)),o1_h4.v] 79,zv0 o1_h0.v o1.units,za5 (fun n:zBA=>Value.string n) (fun n:Int=>Value.int .i64 n) (zaw o1_h1) o1.place,zbe (zaw o1_h2) o1.fors,za5 (fun n:zBA=>Value.string n) (fun n:Bool=>Value.bool n) (zaw o1_h3) o1.skips,zv0 o1_h4.v o1.lines,ze5 zbR 4 hd2.v 0 r3,ze5 zbR 4 hd2.v at3 r3,zmC zgU 1 hd7 r4.2,ze5 zgU 1 vv1 k1 L1]:=hrd
      refine zyR 1 rfl (zaH rfl dc rfl rfl (zaH rfl dc rfl rfl (zyR 2 rfl (zyN ?_))))
      obtain ⟨j3,hj3,h⟩:=zbT h
      refine za2 (β:=Int) 1 rfl (fun b=>j3 b=some r) (fun b=>[]) (fun b=>[(0,zP bo1),(5,.string (zcz r1 r2 (r1.size:Int))),(6,zP b2),(7,zP b3),(8,.func (.func 48) #[] #[zP b3,zP b2]),(9,v4),(11,zI r4.1),(12,hd7.v),(13,zI b)]) (fun b=>[cells b2 [hd5.v] 62,zv2 hd5.v out4,cells b3 [.bool space3] 4]) (fun cut => ?_) ?_
      ·
       refine zyG (zyR 1 rfl (zyN (cut (zyG (zyR 2 rfl ?_)))))
       obtain ⟨hg3,h⟩:=zcg h
       obtain ⟨v5,hv1,hs1⟩:=ziX (lo:=none) (hi:=some (zI r4.1)) hw4 underlying103 zfR (.inl ⟨rfl,rfl⟩) (.inr rfl) hg3
       refine zce rfl dc rfl rfl rfl hs1 (zcs hv1 rfl dc rfl underlying103 (zyR 1 rfl (zyN (zaA ?_))))
       refine zbS (β:=Nat×Int×Int) (fun b=>zaU (fun _ _=>none) (zbl l3 r4 j3) b.1 b.2.1 b.2.2=some r) (fun b=>[]) (fun b=>[(0,zP bo1),(5,.string (zcz r1 r2 (r1.size:Int))),(6,zP b2),(7,zP b3),(8,.func (.func 48) #[] #[zP b3,zP b2]),(9,v4),(11,zI r4.1),(12,hd7.v),(13,zI b.2.1),(48,v5),(49,zI ((zhl l3 0 r4.1).length:Int)),(50,zI b.2.2)]) (fun b=>[cells b2 [hd5.v] 62,zv2 hd5.v out4,cells b3 [.bool space3] 4]) (fun b=>b.1) (zcG,0,0) h rfl (za9 rfl) (zaa [0,1,2] kr rfl) ?_
       rintro ⟨n3,great4,x3⟩ h
       cases n3 with
       | zero=>exact zez h
       | succ n3 =>
        obtain ⟨ag2,hag2⟩:∃ ag,ag=zaU (fun _ _=>none) (zbl l3 r4 j3) n3:=⟨_,rfl⟩
        have h:zbl l3 r4 j3 ag2 great4 x3=some r:=by rw [hag2]; exact h
        unfold zbl at h
        refine zyG (zaW rfl zbE (zyN (zaM ?_)))
        refine zyB rfl h (fun h => ?_) (fun h => ?_)
        ·
         refine zaq (zaG ?_)
         obtain ⟨j4,hj4,h⟩:=zbT h
         refine za2 (β:=Int) 0 rfl (fun b=>j4 b=some r) (fun b=>[]) (fun b=>[(0,zP bo1),(5,.string (zcz r1 r2 (r1.size:Int))),(6,zP b2),(7,zP b3),(8,.func (.func 48) #[] #[zP b3,zP b2]),(9,v4),(11,zI r4.1),(12,hd7.v),(13,zI b),(48,v5),(49,zI ((zhl l3 0 r4.1).length:Int)),(50,zI x3)]) (fun b=>[cells b2 [hd5.v] 62,zv2 hd5.v out4,cells b3 [.bool space3] 4]) (fun cut => ?_) ?_
         ·
          refine cut (zaA (zyG ?_))
          obtain ⟨q2,hq6,h⟩:=zbx h
          refine zbc hv1 hq6 underlying103 zfR rfl dc rfl rfl rfl (zcM (m:=at3+(0:Int).toNat+(x3:Int).toNat) (j:=0) (i:=6) (q:=q2) (cs:=(zr0 q2)) hrd rfl (by omega) zgZ rfl dc rfl (Vw.get hv1 hq6) rfl rfl rfl ?_)
          refine za4 zkL rfl dc (fun b5 => ?_)
          refine za6 (k:=3) (vs:=(zr0 q2)) (l':=(zr0 q2)) zfR rfl rfl rfl rfl rfl (show _≤_ by simp) rfl rfl ?_
          refine zyH (zag zgA rfl dc rfl (show _=2 from rfl) (zan (k:=3) zft rfl dc rfl rfl rfl ?_))
          obtain ⟨hg4,h⟩:=zcg h
          refine zaQ (v:=.bool (great q2.Rune)) (vs:=[.int .i32 q2.Rune]) rfl dc rfl rfl rfl zy6 (zdV fun w=>zhw q2.Rune w hg4.1 hg4.2) ?_
          refine zyN ?_
          refine zyB rfl h (fun h => ?_) (fun h => ?_)
          ·
           refine zao (zyR 1 rfl (zaE (zae ?_)))
           exact zaj 1 h rfl (za9 rfl) (zaa [0,1,2] kr rfl)
          refine zaq (zae ?_)
          exact zaj great4 h rfl (za9 rfl) (zaa [0,1,2] kr rfl)
         rintro great5 h
         rw [hj4] at h
         refine zao ?_
         obtain ⟨hg5,h⟩:=zcg h
         refine zaW rfl (zbi (r:=x3+1) (IntWalk.i64_in _ hg5)) (zyR 1 rfl (zaE ?_))
         subst hag2
         exact zbv (n3,great5,x3+1) h (Nat.lt_succ_self _) rfl (za9 rfl) (zaa [0,1,2] kr rfl)
        refine zbG (zap (zap (zaI ?_)))
        exact zaj great4 h rfl (za9 rfl) (zaa [0,1,2] kr rfl)
      rintro great1 h
      rw [hj3] at h
      obtain ⟨j5,hj5,h⟩:=zbT h
      refine za2 (β:=Int×zBA) 1 rfl (fun b=>j5 b.1 b.2=some r) (fun b=>[]) (fun b=>[(0,zP bo1),(5,.string (zcz r1 r2 (r1.size:Int))),(6,zP b2),(7,zP b3),(8,.func (.func 48) #[] #[zP b3,zP b2]),(9,v4),(11,zI b.1),(12,hd7.v),(13,zI great1),(16,.string b.2)]) (fun b=>[cells b2 [hd5.v] 62,zv2 hd5.v out4,cells b3 [.bool space3] 4]) (fun cut => ?_) ?_
      ·
       refine zyG (zyR 1 rfl (zyN (cut (zaA ?_))))
       refine zbS (β:=Nat×Int×zBA) (fun b=>zaU (fun _ _=>none) (zbA l3 j5) b.1 b.2.1 b.2.2=some r) (fun b=>[]) (fun b=>[(0,zP bo1),(5,.string (zcz r1 r2 (r1.size:Int))),(6,zP b2),(7,zP b3),(8,.func (.func 48) #[] #[zP b3,zP b2]),(9,v4),(11,zI b.2.1),(12,hd7.v),(13,zI great1),(16,.string b.2.2)]) (fun b=>[cells b2 [hd5.v] 62,zv2 hd5.v out4,cells b3 [.bool space3] 4]) (fun b=>b.1) (zcG,r4.1,(⟨#[]⟩:zBA)) (by exact h) rfl (za9 rfl) (zaa [0,1,2] kr rfl) ?_
       rintro ⟨n8,n7,marks4⟩ h
       cases n8 with
       | zero=>exact zez h
       | succ n8 =>
        obtain ⟨ag3,hag3⟩:∃ ag,ag=zaU (fun _ _=>none) (zbA l3 j5) n8:=⟨_,rfl⟩
        have h:zbA l3 j5 ag3 n7 marks4=some r:=by rw [hag3]; exact h
        unfold zbA at h
        refine zaM (zyG (zyR 2 rfl (zcs hw4 rfl dc rfl underlying103 (zaW rfl zbE (zyR 1 rfl ?_)))))
        refine zyS (s:=62) rfl h (fun h => ?_) (fun h => ?_)
        ·
         refine zyR 2 rfl ?_
         obtain ⟨q3,hq7,h⟩:=zbx h
         refine zbc hw4 hq7 underlying103 zfR rfl dc rfl rfl rfl (zcM (m:=at3+(n7:Int).toNat) (j:=0) (i:=6) (q:=q3) (cs:=(zr0 q3)) hrd rfl (by omega) zgZ rfl dc rfl (Vw.get hw4 hq7) rfl rfl rfl ?_)
         obtain ⟨r5,hq8,h⟩:=zbx h
         refine zaQ (v:=.bool r5) (vs:=[.agg (zr0 q3).toArray]) rfl dc rfl rfl rfl zxj (zhI (p1:=q3) hq8) (zyR 1 rfl (zyN ?_))
         refine zyB rfl h (fun h => ?_) (fun h => ?_)
         ·
          refine zaq (zaG (zaA (zyG (zyR 3 rfl ?_))))
          obtain ⟨q4,hq9,h⟩:=zbx h
          refine zbc hw4 hq9 underlying103 zfR rfl dc rfl rfl rfl (zag zgA rfl dc rfl (show _=(at3+(n7:Int).toNat)*4+2 from rfl) (zcD (n:=at3+(n7:Int).toNat) (j:=2) (i:=6) (q:=q4) hrd rfl (by omega) zft rfl dc rfl (Vw.get hw4 hq9) rfl rfl (zdC rfl dc rfl (zda underlying21 underlying9) ?_)))
          obtain ⟨hg6,h⟩:=zcg h
          refine zaW rfl (zfq hg6) (zyR 1 rfl (zyN (zao (zyR 1 rfl ?_))))
          obtain ⟨hg7,h⟩:=zcg h
          refine zaW rfl (zbi (r:=n7+1) (IntWalk.i64_in _ hg7)) (zyR 1 rfl (zaE (zae ?_)))
          subst hag3
          exact zbv (n8,n7+1,marks4++(Utf8.encode q4.Rune)) h (Nat.lt_succ_self _) rfl (za9 rfl) (zaa [0,1,2] kr rfl)
         refine zbG (zap (zap (zaI ?_)))
         exact zaj (n7,marks4) h rfl (za9 rfl) (zaa [0,1,2] kr rfl)
        refine zyR 6 rfl (zyN (za3 rfl (zbG (zap (zap (zaI ?_))))))
        exact zaj (n7,marks4) h rfl (za9 rfl) (zaa [0,1,2] kr rfl)
      rintro ⟨n4,marks1⟩ h
      rw [hj5] at h
      obtain ⟨j6,hj6,h⟩:=zbT h
      refine za2 (β:=(List zac)×Bool×Hd) 0 rfl (fun b=>j6 b.1 b.2.1=some r) (fun b=>[]) (fun b=>[(0,zP bo1),(5,.string (zcz r1 r2 (r1.size:Int))),(6,zP b2),(7,zP b3),(8,.func (.func 48) #[] #[zP b3,zP b2]),(9,v4),(11,zI n4),(16,.string marks1)]) (fun b=>[cells b2 [b.2.2.v] 62,zv2 b.2.2.v b.1,cells b3 [.bool b.2.1] 4]) (fun cut => ?_) ?_
      ·
       refine cut (zyG (zyR 1 rfl (zcs hV1 rfl dc rfl underlying38 (zyR 1 rfl (zyN (zaA ?_))))))
       refine zbS (β:=Nat×(List zac)×Bool×Int×Hd) (fun b=>zaU (fun _ _ _=>none) (zbk o1 r4 great1 j6) b.1 b.2.1 b.2.2.1 b.2.2.2.1=some r) (fun b=>[]) (fun b=>[(0,zP bo1),(5,.string (zcz r1 r2 (r1.size:Int))),(6,zP b2),(7,zP b3),(8,.func (.func 48) #[] #[zP b3,zP b2]),(9,v4),(11,zI n4),(13,zI great1),(16,.string marks1),(79,hd7.v),(80,zI (r4.2.length:Int)),(81,zI b.2.2.2.1)]) (fun b=>[cells b2 [b.2.2.2.2.v] 62,zv2 b.2.2.2.2.v b.2.1,cells b3 [.bool b.2.2.1] 4]) (fun b=>b.1) (zcG,out4,space3,0,hd5) h rfl (za9 rfl) (zaa [0,1,2] kr rfl) ?_
       rintro ⟨n9,out9,space8,x6,hd11⟩ h
       cases n9 with
       | zero=>exact zez h
       | succ n9 =>
        obtain ⟨ag4,hag4⟩:∃ ag,ag=zaU (fun _ _ _=>none) (zbk o1 r4 great1 j6) n9:=⟨_,rfl⟩
        have h:zbk o1 r4 great1 j6 ag4 out9 space8 x6=some r:=by rw [hag4]; exact h
        unfold zbk at h
        refine zyG (zaW rfl zbE (zyN (zaM ?_)))
        refine zyB rfl h (fun h => ?_) (fun h => ?_)
        ·
         refine zaq (zaG (zaM (zaA (zyG ?_))))
         obtain ⟨q5,hq10,h⟩:=zbx h
         refine zbc hV1 hq10 underlying38 ziS rfl dc rfl rfl rfl (zcD (n:=k1+(x6:Int).toNat) (j:=0) (i:=9) (q:=q5) hrd rfl (by omega) ze4 rfl dc rfl (Vw.get hV1 hq10) rfl rfl (zyR 1 rfl (zyN (zao (zyR 2 rfl (za1 rfl dc rfl (zag zjO rfl dc rfl (show _=1 from rfl) (zc2 (i:=0) hrd rfl zqk rfl dc rfl rfl (zyR 1 rfl ?_)))))))))
         refine zdO (k:=2) (ek:=(fun n:zBA=>Value.string n)) (ev':=(fun n:Int=>Value.int .i64 n)) (kk:=q5) (z0:=0) (zcV underlying9) underlying75 kr rfl dc rfl rfl hrd rfl ?_
         refine zyR 1 rfl ?_
         refine zck (v:=.agg #[zI 3,zI ((zbK q5 o1.place).getD 0),.string ByteArray.empty,.string ByteArray.empty,zI great1]) (ps:=[(0,.const (zI 3)),(1,.tmp 91),(4,.tmp 92)]) rfl dc rfl (fun _=>by kernel_rfl) ?_
         obtain ⟨r6,hq11,h⟩:=zbx h
         refine zb3 (vs:=[.agg #[zI 3,zI ((zbK q5 o1.place).getD 0),.string ByteArray.empty,.string ByteArray.empty,zI great1]]) rfl dc rfl rfl rfl zvx (zdA (e1:=(⟨3,((zbK q5 o1.place).getD 0),ByteArray.empty,ByteArray.empty,great1⟩:zac)) (bc0:=b3) (c0:=space8) (bc1:=b2) (c1:=out9) (c1_h0:=hd11) hq11) (zaa [2,0,1] kr rfl) ?_
         rintro hd12
         refine zcI (L':=[cells b2 [hd12.v] 62,zv2 hd12.v r6.2,cells b3 [.bool r6.1] 4]) (zaa [4,5,3] kr rfl) (zaE (zae (zaG (zao ?_))))
         obtain ⟨hg8,h⟩:=zcg h
         refine zaW rfl (zbi (r:=x6+1) (IntWalk.i64_in _ hg8)) (zyR 1 rfl (zaE ?_))
         subst hag4
         exact zbv (n9,r6.2,r6.1,x6+1,hd12) h (Nat.lt_succ_self _) rfl (za9 rfl) (zaa [0,1,2] kr rfl)
        refine zbG (zap (zap (zaI ?_)))
        exact zaj (out9,space8,hd11) h rfl (za9 rfl) (zaa [0,1,2] kr rfl)
      rintro ⟨out6,space5,hd8⟩ h
      rw [hj6] at h
      refine zao (zan (k:=0) zql rfl dc rfl rfl rfl (zan (k:=0) zql rfl dc rfl rfl rfl (zdB (k:=1) rfl dc rfl rfl underlying62 ?_)))
      obtain ⟨hg9,h⟩:=zcg h
      refine zaW rfl (zgE (r:=(out6.length:Int) - 1) (IntWalk.i64_in _ hg9)) (zyR 1 rfl ?_)
      obtain ⟨q6,hq12,h⟩:=zbx h
      refine zbo (k:=1) hq12 underlying62 ziq rfl dc rfl rfl rfl rfl (zag zoW rfl dc rfl (show _=(((out6.length:Int) - 1:Int).toNat)*5+3 from rfl) ?_)
      refine zgi (i:=((out6.length:Int) - 1:Int).toNat) (j:=3) (k:=1) (q:=q6) (q':=(⟨q6.sort,q6.place,q6.digits,marks1,q6.great⟩:zac)) ziS zbg rfl rfl rfl rfl (zcj hq12) rfl dc rfl (fun _ _=>rfl) ?_
      refine zaE (zae (zsQ hxf2 ?_))
      exact zaj (out6.set ((out6.length:Int) - 1:Int).toNat (⟨q6.sort,q6.place,q6.digits,marks1,q6.great⟩:zac),space5,n4,hd8) h rfl (za9 rfl) (zaa [0,1,2] kr rfl)
     refine zyG (zaW rfl zbn (zyR 1 rfl (zyN ?_)))
     refine zyB rfl h (fun h => ?_) (fun h => ?_)
     ·
      obtain ⟨j7,hj7,h⟩:=zbT h
      refine za2 (β:=Int) 0 rfl (fun b=>j7 b=some r) (fun b=>[]) (fun b=>[(0,zP bo1),(5,.string (zcz r1 r2 (r1.size:Int))),(6,zP b2),(7,zP b3),(8,.func (.func 48) #[] #[zP b3,zP b2]),(9,v4),(10,zP b4),(11,zI b)]) (fun b=>[cells b2 [hd5.v] 62,zv2 hd5.v out4,cells b3 [.bool space3] 4,cells b4 (zr0 q1) 95]) (fun cut => ?_) ?_
      ·
       refine cut (zaA ?_)
       refine zbS (β:=Nat×Int) (fun b=>zaU (fun _=>none) (zbz l3 j7) b.1 b.2=some r) (fun b=>[]) (fun b=>[(0,zP bo1),(5,.string (zcz r1 r2 (r1.size:Int))),(6,zP b2),(7,zP b3),(8,.func (.func 48) #[] #[zP b3,zP b2]),(9,v4),(10,zP b4),(11,zI b.2)]) (fun b=>[cells b2 [hd5.v] 62,zv2 hd5.v out4,cells b3 [.bool space3] 4,cells b4 (zr0 q1) 95]) (fun b=>b.1) (zcG,1) h rfl (za9 rfl) (zaa [0,1,2,3] kr rfl) ?_
       rintro ⟨n14,n13⟩ h
       cases n14 with
       | zero=>exact zez h
       | succ n14 =>
        obtain ⟨ag5,hag5⟩:∃ ag,ag=zaU (fun _=>none) (zbz l3 j7) n14:=⟨_,rfl⟩
        have h:zbz l3 j7 ag5 n13=some r:=by rw [hag5]; exact h
        unfold zbz at h
        refine zaM (zyG (zyR 2 rfl (zcs hw4 rfl dc rfl underlying103 (zaW rfl zbE (zyR 1 rfl ?_)))))
        refine zyS (s:=109) rfl h (fun h => ?_) (fun h => ?_)
        ·
         refine zyR 2 rfl ?_
         obtain ⟨q7,hq13,h⟩:=zbx h
         refine zbc hw4 hq13 underlying103 zfR rfl dc rfl rfl rfl (zcM (m:=at3+(n13:Int).toNat) (j:=0) (i:=6) (q:=q7) (cs:=(zr0 q7)) hrd rfl (by omega) zgZ rfl dc rfl (Vw.get hw4 hq13) rfl rfl rfl ?_)
         obtain ⟨hg10,h⟩:=zcg h
         refine zaQ (v:=zI (zbr q7.Broken q7.Rune)) (vs:=[.agg (zr0 q7).toArray]) rfl dc rfl rfl rfl zqW (zwo q7.At q7.Width q7.Rune q7.Broken hg10.1 hg10.2) (zaW rfl zbn (zyR 1 rfl (zyN ?_)))
         refine zyB rfl h (fun h => ?_) (fun h => ?_)
         ·
          refine zaq (zaG (zaA (zao (zyR 1 rfl ?_))))
          obtain ⟨hg11,h⟩:=zcg h
          refine zaW rfl (zbi (r:=n13+1) (IntWalk.i64_in _ hg11)) (zyR 1 rfl (zaE (zae ?_)))
          subst hag5
          exact zbv (n14,n13+1) h (Nat.lt_succ_self _) rfl (za9 rfl) (zaa [0,1,2,3] kr rfl)
         refine zbG (zap (zap (zaI ?_)))
         exact zaj n13 h rfl (za9 rfl) (zaa [0,1,2,3] kr rfl)
        refine zyR 7 rfl (zyN (za3 rfl (zbG (zap (zap (zaI ?_))))))
        exact zaj n13 h rfl (za9 rfl) (zaa [0,1,2,3] kr rfl)
      rintro n10 h
      rw [hj7] at h
      obtain ⟨j8,hj8,h⟩:=zbT h
      refine za2 (β:=zBA) 1 rfl (fun b=>j8 b=some r) (fun b=>[]) (fun b=>[(0,zP bo1),(5,.string (zcz r1 r2 (r1.size:Int))),(6,zP b2),(7,zP b3),(8,.func (.func 48) #[] #[zP b3,zP b2]),(9,v4),(11,zI n10),(19,.string b)]) (fun b=>[cells b2 [hd5.v] 62,zv2 hd5.v out4,cells b3 [.bool space3] 4]) (fun cut => ?_) ?_
      ·
       refine zyG (zyR 1 rfl (zag zdY rfl dc rfl (show _=0 from rfl) (zan (k:=3) zd8 rfl dc rfl rfl rfl (zag zdY rfl dc rfl (show _=0 from rfl) (zan (k:=3) zd8 rfl dc rfl rfl rfl (zyR 1 rfl ?_))))))
       obtain ⟨hg12,h⟩:=zcg h
       refine zaW rfl (zbi (r:=q1.At+n10) (IntWalk.i64_in _ hg12)) ?_
       obtain ⟨hg13,h⟩:=zcg h
       refine zce rfl dc rfl rfl rfl (za7 (i:=q1.At) (j:=q1.At+n10) underlying9 (.inr rfl) (.inr rfl) hg13) (zyR 1 rfl (zyN (cut (zaA ?_))))
       refine zbS (β:=Nat×zBA) (fun b=>zaU (fun _=>none) (zby j8) b.1 b.2=some r) (fun b=>[]) (fun b=>[(0,zP bo1),(5,.string (zcz r1 r2 (r1.size:Int))),(6,zP b2),(7,zP b3),(8,.func (.func 48) #[] #[zP b3,zP b2]),(9,v4),(11,zI n10),(19,.string b.2)]) (fun b=>[cells b2 [hd5.v] 62,zv2 hd5.v out4,cells b3 [.bool space3] 4]) (fun b=>b.1) (zcG,zcz (zcz r1 r2 (r1.size:Int)) q1.At (q1.At+n10)) h rfl (za9 rfl) (zaa [0,1,2] kr rfl) ?_
       rintro ⟨n15,digits4⟩ h
       cases n15 with
       | zero=>exact zez h
       | succ n15 =>
        obtain ⟨ag6,hag6⟩:∃ ag,ag=zaU (fun _=>none) (zby j8) n15:=⟨_,rfl⟩
        have h:zby j8 ag6 digits4=some r:=by rw [hag6]; exact h
        unfold zby at h
        refine zaM (zyG (zyR 1 rfl (zcU rfl dc rfl underlying9 (zaW rfl zeR (zyR 1 rfl ?_)))))
        refine zyS (s:=130) rfl h (fun h => ?_) (fun h => ?_)
        ·
         refine zyR 1 rfl ?_
         obtain ⟨c1,hq14,h⟩:=zbx h
         refine zfF rfl dc rfl rfl (zfj underlying9 hq14) (zaW rfl zbn (zyR 1 rfl (zyN ?_)))
         refine zyB rfl h (fun h => ?_) (fun h => ?_)
         ·
          refine zaq (zaG (zaA (zao (zyR 1 rfl ?_))))
          obtain ⟨hg14,h⟩:=zcg h
          refine zce rfl dc rfl rfl rfl (za7 (i:=1) (j:=(digits4.size:Int)) underlying9 (.inr rfl) (.inl ⟨rfl,rfl⟩) hg14) (zyR 1 rfl (zaE (zae ?_)))
          subst hag6
          exact zbv (n15,zcz digits4 1 (digits4.size:Int)) h (Nat.lt_succ_self _) rfl (za9 rfl) (zaa [0,1,2] kr rfl)
         refine zbG (zap (zap (zaI ?_)))
         exact zaj digits4 h rfl (za9 rfl) (zaa [0,1,2] kr rfl)
        refine zyR 4 rfl (zyN (za3 rfl (zbG (zap (zap (zaI ?_))))))
        exact zaj digits4 h rfl (za9 rfl) (zaa [0,1,2] kr rfl)
      rintro digits1 h
      rw [hj8] at h
      refine zao (zyR 2 rfl ?_)
      refine zck (v:=.agg #[zI 2,zI 0,.string digits1,.string ByteArray.empty,zI 0]) (ps:=[(0,.const (zI 2)),(2,.tmp 138)]) rfl dc rfl (fun _=>by kernel_rfl) ?_
      obtain ⟨r7,hq15,h⟩:=zbx h
      refine zb3 (vs:=[.agg #[zI 2,zI 0,.string digits1,.string ByteArray.empty,zI 0]]) rfl dc rfl rfl rfl zvx (zdA (e1:=(⟨2,0,digits1,ByteArray.empty,0⟩:zac)) (bc0:=b3) (c0:=space3) (bc1:=b2) (c1:=out4) (c1_h0:=hd5) hq15) (zaa [2,0,1] kr rfl) ?_
      rintro hd13
      refine zcI (L':=[cells b2 [hd13.v] 62,zv2 hd13.v r7.2,cells b3 [.bool r7.1] 4]) (zaa [4,5,3] kr rfl) (zaE (zae ?_))
      exact zaj (r7.2,r7.1,n10,hd13) h rfl (za9 rfl) (zaa [0,1,2] kr rfl)
     obtain ⟨j9,hj9,h⟩:=zbT h
     refine za2 (β:=Bool) 0 rfl (fun b=>j9 b=some r) (fun b=>[]) (fun b=>[(0,zP bo1),(5,.string (zcz r1 r2 (r1.size:Int))),(6,zP b2),(7,zP b3),(8,.func (.func 48) #[] #[zP b3,zP b2]),(9,v4),(10,zP b4),(11,zI 1),(37,zI (zbr q1.Broken q1.Rune)),(141,.bool b)]) (fun b=>[cells b2 [hd5.v] 62,zv2 hd5.v out4,cells b3 [.bool space3] 4,cells b4 (zr0 q1) 95]) (fun cut => ?_) ?_
     ·
      refine cut (zyG (zaW rfl zbn (zyR 1 rfl (zyN ?_))))
      refine zyB rfl h (fun h => ?_) (fun h => ?_)
      ·
       refine zaq ?_
       exact zaj (((zbr q1.Broken q1.Rune):Int)==5) h rfl (za9 rfl) (zaa [0,1,2,3] kr rfl)
      refine zyG (zaW rfl zbn (zyR 1 rfl (zyN ?_)))
      refine zyB rfl h (fun h => ?_) (fun h => ?_)
      ·
       refine zaq ?_
       exact zaj (((zbr q1.Broken q1.Rune):Int)==4) h rfl (za9 rfl) (zaa [0,1,2,3] kr rfl)
      refine zao (zaW rfl zbn (zyR 1 rfl (zaE ?_)))
      exact zaj (((zbr q1.Broken q1.Rune):Int)==6) h rfl (za9 rfl) (zaa [0,1,2,3] kr rfl)
     rintro x7 h
     rw [hj9] at h
     refine zyB rfl h (fun h => ?_) (fun h => ?_)
     ·
      refine zao ?_
      refine zaP (k:=2) (l':=[.bool true]) zrt rfl rfl rfl rfl rfl (fun _ _=>rfl) rfl ?_
      refine zaE (zae ?_)
      exact zaj (out4,true,1,hd5) h rfl (za9 rfl) (zaa [0,1,2] kr rfl)
     refine zyG (zaW rfl zbn (zyR 1 rfl (zyN ?_)))
     refine zyB rfl h (fun h => ?_) (fun h => ?_)
     ·
      refine zao (zyR 2 rfl (zag zdY rfl dc rfl (show _=0 from rfl) (zan (k:=3) zd8 rfl dc rfl rfl rfl ?_)))
      obtain ⟨c2,hq16,h⟩:=zbx h
      refine zfF rfl dc rfl rfl (zfj underlying9 hq16) ?_
      obtain ⟨hg15,h⟩:=zcg h
      refine zdC rfl dc rfl (zpU (r:=c2) underlying5 underlying3 (IntWalk.i64_in _ hg15)) ?_
      refine zck (v:=.agg #[zI 4,zI c2,.string ByteArray.empty,.string ByteArray.empty,zI 0]) (ps:=[(0,.const (zI 4)),(1,.tmp 152)]) rfl dc rfl (fun _=>by kernel_rfl) ?_
      obtain ⟨r8,hq17,h⟩:=zbx h
      refine zb3 (vs:=[.agg #[zI 4,zI c2,.string ByteArray.empty,.string ByteArray.empty,zI 0]]) rfl dc rfl rfl rfl zvx (zdA (e1:=(⟨4,c2,ByteArray.empty,ByteArray.empty,0⟩:zac)) (bc0:=b3) (c0:=space3) (bc1:=b2) (c1:=out4) (c1_h0:=hd5) hq17) (zaa [2,0,1] kr rfl) ?_
      rintro hd14
      refine zcI (L':=[cells b2 [hd14.v] 62,zv2 hd14.v r8.2,cells b3 [.bool r8.1] 4,cells b4 (zr0 q1) 95]) (zaa [5,6,4,3] kr rfl) (zaE (zae ?_))
      exact zaj (r8.2,r8.1,1,hd14) h rfl (za9 rfl) (zaa [0,1,2] kr rfl)
     refine zaq (zae ?_)
     exact zaj (out4,space3,1,hd5) h rfl (za9 rfl) (zaa [0,1,2] kr rfl)
    rintro ⟨out5,space4,n2,hd6⟩ h
    rw [hj2] at h
    refine zao (zyR 2 rfl ?_)
    obtain ⟨hg16,h⟩:=zcg h
    obtain ⟨v6,hv2,hs2⟩:=ziX (lo:=some (zI n2)) (hi:=none) hw4 underlying103 zfR (.inr rfl) (.inl ⟨rfl,rfl⟩) hg16
    refine zce rfl dc rfl rfl rfl hs2 (zyR 1 rfl (zaE (zae ?_)))
    subst hag1
    exact zbv (n1,out5,space4,zhl l3 n2 (l3.length:Int),hd6,v6,at3+(n2:Int).toNat) ⟨h,hv2⟩ (Nat.lt_succ_self _) rfl (za9 rfl) (zaa [0,1,2] kr rfl)
   refine zbG (zap (zap (zaI (zsQ hxf1 ?_))))
   exact zaj (out4,b2,hd5) h rfl (za9 rfl) (zaa [0,1] kr rfl)
 rintro ⟨out1,b1,hd1⟩ h
 rw [hj1] at h
 refine zyG (zan (k:=0) zql rfl dc rfl rfl rfl (zyR 1 rfl (zyN (zaD ?_))))
 cases h
 exact zcu (rs:=[.tmp 4]) hd1.v (.inl rfl) results25 (.cons (.tmp rfl) .nil) rfl (zaa [1] kr rfl)
abbrev Tk:=Int×zBA
def tkT (t:Tok):Tk:=(if t.broken then -1 else (t.r:Int),⟨t.bs.toArray⟩)
def kT (x:Tk):Int:=if x.1<0 then 11 else kind x.1
def zfH (x:Tk):Bool:=zaS x.1
def zim (x:Tk):Bool:=mrk x.1
def zjd (x:Tk):Bool:=decide (48≤x.1∧x.1≤57)
def zmK (x:Tk):Bool:=zfH x||zim x
def zh0 (l:List Tk):zBA:=J (·.2) l
abbrev El:=zac
structure zlt where
 p:zBA→Option Int
 f:zBA→Option (List zBA)
 s:zBA→Bool
def zms (l:List Tk):List Tk:=(l.dropWhile fun x=>!zfH x).dropWhile zmK
def zkl (l:List Tk):List Tk:=(l.dropWhile fun x=>!zfH x).takeWhile zmK
def zlB (o:zlt) (l:List Tk):Nat :=
 if (zms l).any (fun x=>zfH x||zjd x)&&o.s (zfQ (zh0 (zkl l))) then (l.takeWhile fun x=>!zfH x).length+(zkl l).length else 0
def znk (o:zlt) (a:zBA×Nat×Option (Nat×List zBA)) (x:Tk):zBA×Nat×Option (Nat×List zBA) :=
 let f:=a.1++Utf8.encode (zbb x.1)
 (f,a.2.1+1,if (o.p f).isSome then some (a.2.1+1,[f]) else match o.f f with | some xs=>some (a.2.1+1,xs) | none=>a.2.2)
def zo7 (l:List Tk):List Tk:=(l.take 8).takeWhile fun x=>!decide (x.1<0)
def zn4 (o:zlt) (l:List Tk):Option (Nat×List zBA):=((zo7 l).foldl (znk o) (ByteArray.empty,0,none)).2.2
def ziz (r:Int):List zBA:=(zep (zfQ (Utf8.encode (zbb r)))).map Utf8.encode
def zeX (o:zlt) (x:Tk) (l:List Tk):Nat×List zBA:=(zn4 o (x::l)).getD (1,ziz x.1)
def elU (o:zlt) (g:Int) (u:zBA):El:=⟨3,(o.p u).getD 0,ByteArray.empty,ByteArray.empty,g⟩
def zrc (m:zBA):List El→List El
 | []=>[]
 | [e]=>[⟨e.sort,e.place,e.digits,m,e.great⟩]
 | e::e'::es=>e::zrc m (e'::es)
def zjg (l:List Tk):Int:=if l.any (fun x=>great x.1) then 1 else 0
def zf7 (l:List Tk):zBA:=J (fun x=>Utf8.encode x.1) l
def zru:List UInt8→List UInt8:=List.dropWhile (· == 48)
def zwp (l:List Tk):zBA:=⟨(zru (zh0 l).data.toList).toArray⟩
def zg7 (o:zlt) (x:Tk) (l:List Tk):Nat×Option (List El) :=
 if kT x=1 then
  let m:=zeX o x l
  let ms:=((x::l).drop m.1).takeWhile zim
  (m.1+ms.length,some (zrc (zf7 ms) (m.2.map (elU o (zjg ((x::l).take m.1))))))
 else if kT x=3 then (1+(l.takeWhile zjd).length,some [⟨2,0,zwp (x::l.takeWhile zjd),ByteArray.empty,0⟩])
 else if kT x=5∨kT x=4∨kT x=6 then (1,none)
 else if kT x=11 then (1,some [⟨4,zgn x.2,ByteArray.empty,ByteArray.empty,0⟩])
 else (1,some [])
def zgP (o:zlt):Nat→List Tk→List (Option (List El))
 | 0,_=>[]
 | _+1,[]=>[]
 | n+1,x::l=>(zg7 o x l).2::zgP o n ((x::l).drop (zg7 o x l).1)
def zxc:El:=⟨1,0,ByteArray.empty,ByteArray.empty,0⟩
def asm:List (Option (List El))→List El→Bool→List El
 | [],out,_=>out
 | none::cs,out,_=>asm cs out true
 | some []::cs,out,sp=>asm cs out sp
 | some (e::es)::cs,out,sp=>asm cs (out++(if sp&&!out.isEmpty then [zxc] else [])++e::es) false
def zkh (o:zlt) (l:List Tk):List El:=asm (zgP o l.length (l.drop (zlB o l))) [] false
def zio (t:zBA):List Tok:=zdP (zdc t).data.toList
def zif (t:zBA):List Tk:=(zio t).map tkT
def zeq (o:zab):zlt:=⟨fun u=>zbK u o.place,fun u=>zbK u o.fors,fun f=>(zbK f o.skips).getD false⟩
def pT (i:Nat) (t:Tok):zam:=⟨(i:Int),(t.bs.length:Int),(t.r:Int),t.broken⟩
def pL:Nat→List Tok→List zam
 | _,[]=>[]
 | i,t::ts=>pT i t::pL (i+t.bs.length) ts
theorem zpv:∀ (ts:List Tok) (i:Nat),(place i ts).map pcG=pL i ts
 | [],_=>rfl
 | t::ts,i=>by
  show pcG ⟨i,t.bs.length,t.r⟩::(place (i+t.bs.length) ts).map pcG=_
  rw [zpv ts]; rfl
theorem zka (l:List UInt8):(pcs l).map pcG=pL 0 (zdP l):=by
 show (zed 0 l).map pcG=_
 rw [znx,zpv]
theorem zgp:∀ (ts:List Tok) (i:Nat),(pL i ts).length=ts.length
 | [],_=>rfl
 | t::ts,i=>by rw [pL,List.length_cons,List.length_cons,zgp ts]
theorem ztP (ts:List Tok) (n:Nat):(zbp (ts.take n)).length+(zbp (ts.drop n)).length=(zbp ts).length:=by
 rw [← List.length_append,← zbh,List.take_append_drop]
theorem zrP:∀ (n:Nat) (ts:List Tok) (i:Nat),(pL i ts).drop n=pL (i+(zbp (ts.take n)).length) (ts.drop n)
 | 0,ts,i=>by simp [zbp]
 | n+1,[],i=>by simp [pL,zbp]
 | n+1,t::ts,i=>by
  rw [pL,List.drop_succ_cons,zrP n ts,List.take_succ_cons,zch,List.length_append,List.drop_succ_cons,Nat.add_assoc]
theorem zij:∀ (ts:List Tok) (i k:Nat) (t:Tok),ts[k]?=some t→(pL i ts)[k]?=some (pT (i+(zbp (ts.take k)).length) t)
 | [],_,_,_,h=>by simp at h
 | t'::ts,i,0,t,h=>by simp at h; subst h; simp [pL,zbp]
 | t'::ts,i,k+1,t,h=>by
  rw [pL,List.getElem?_cons_succ,zij ts _ k t (by simpa using h),List.take_succ_cons,zch,List.length_append,Nat.add_assoc]
theorem zeP {t:Tok} (h:zeW t):I32 (t.r:Int):=by
 rcases h with h | h
 ·obtain ⟨h,_⟩:=h
  exact ⟨by omega,by omega⟩
 ·unfold Tok.broken at h
  simp at h
  exact ⟨by omega,by omega⟩
theorem zjb (t:Tok):zbr t.broken (t.r:Int)=kT (tkT t):=by
 have h1:∀ r:Int,kT (r,(⟨t.bs.toArray⟩:zBA))=if r<0 then 11 else kind r:=fun r=>rfl
 unfold tkT
 cases hb:t.broken with
 | true=>rw [if_pos rfl,h1,if_pos (by omega)]; rfl
 | false =>
  rw [if_neg (by simp),h1]
  have h2:¬ ((t.r:Int)<0):=by omega
  have h3:zbr false (t.r:Int)=kind (t.r:Int):=if_neg (by simp)
  rw [if_neg h2,h3]
theorem zgb (x:Tk):((kT x:Int)==1)=zfH x:=by
 unfold kT zfH
 split
 ·rename_i h
  have:zaS x.1=false:=by
   cases hL:zaS x.1 with
   | false=>rfl
   | true=>have:=zcy _ hL; omega
  rw [this]; rfl
 ·exact zw7 x.1
theorem zk6 (x:Tk):((kT x:Int)==2)=zim x:=by
 unfold kT zim
 split
 ·have:mrk x.1=false:=by unfold mrk; exact decide_eq_false (by omega)
  rw [this]; rfl
 ·exact zw6 x.1
theorem zyg (r:Int):((kind r:Int)==3)=decide (48≤r∧r≤57):=by
 by_cases h:48≤r∧r≤57
 ·have hl:zaS r=false:=by
   cases hL:zaS r with
   | false=>rfl
   | true =>
    unfold zaS great ziW at hL
    simp only [Bool.or_eq_true,decide_eq_true_eq] at hL
    unfold zkf zj8 at hL
    omega
  have:kind r=3:=by
   unfold kind znH
   rw [if_neg (by omega),hl]
   simp only [Bool.false_eq_true,if_false]
   rw [if_neg (by omega),if_pos h]
  rw [this,decide_eq_true h]; rfl
 ·rw [decide_eq_false h]
  have:kind r≠3:=by
   unfold kind znH
   intro hh
   repeat' split at hh
   all_goals first | omega | cases hh
  exact beq_eq_false_iff_ne.2 this
theorem zhV (x:Tk):((kT x:Int)==3)=zjd x:=by
 unfold kT zjd
 split
 ·have:decide (48≤x.1∧x.1≤57)=false:=decide_eq_false (by omega)
  rw [this]; rfl
 ·exact zyg x.1
theorem zva (o:zab) (s:zBA) (ek:Int→Int→Int→Option Int) (x:zam) (ag:Int→Int→Bool→Option Int) (f t:Int) (op:Bool) (h32:I32 x.Rune) :
  zbj o s ek x ag f t op=zat (decide ((f:Int)<0)) (zat (((zbr x.Broken x.Rune):Int)==1) (grd (I64 (x.At+x.Width))<|ag x.At (x.At+x.Width) op) (ag f t op))
   (zat (op&&((((zbr x.Broken x.Rune):Int)==1)||(((zbr x.Broken x.Rune):Int)==2))) (grd (I64 (x.At+x.Width))<|ag f (x.At+x.Width) op)
    (zat ((((zbr x.Broken x.Rune):Int)==1)||(((zbr x.Broken x.Rune):Int)==3)) (grd (0≤(f:Int)∧(f:Int)≤t∧(t:Int)≤(s.size:Int))<|zak (zcN (zcz s f t)) fun (r2:zBA)=>zat (((zbK r2 o.skips).getD false)) (ek t f t) (ek 0 f t)) (ag f t false))):=by
 unfold zbj
 rw [zr9 h32]
 generalize (((zbr x.Broken x.Rune):Int)==1)=b1
 generalize (((zbr x.Broken x.Rune):Int)==2)=b2
 generalize (((zbr x.Broken x.Rune):Int)==3)=b3
 generalize decide ((f:Int)<0)=b0
 cases b0 <;> cases b1 <;> cases b2 <;> cases b3 <;> cases op <;> rfl
theorem zgF (a b:zBA):(a++b).data.toList=a.data.toList++b.data.toList:=by simp
theorem zhi {a b:zBA} (h:a.data.toList=b.data.toList):a=b:=ByteArray.ext (Array.toList_inj.1 h)
theorem zkH:∀ ts:List Tok,(zh0 (ts.map tkT)).data.toList=zbp ts
 | []=>rfl
 | t::ts=>by
  rw [List.map_cons,zch,← zkH ts]
  show (J (·.2) (tkT t::ts.map tkT)).data.toList=_
  rw [zdo,zgF]; rfl
theorem zhG (s:zBA) (a b:Nat):(zcz s (a:Int) (b:Int)).data.toList=(s.data.toList.drop a).take (b - a):=by
 unfold zcz
 simp [ByteArray.data_extract]
theorem zm2 {s:zBA} {A W Z:List Tok} (h:s.data.toList=zbp (A++(W++Z))) {a b:Nat} (ha:a=(zbp A).length) (hb:b=a+(zbp W).length):zcz s (a:Int) (b:Int)=zh0 (W.map tkT):=by
 apply zhi
 rw [zhG,zkH,h,zbh,zbh,ha,List.drop_left,hb,ha,Nat.add_sub_cancel_left,List.take_left]
theorem zbY (s:zBA):s.size=s.data.toList.length:=by rw [Array.length_toList]; rfl
theorem zlg (s:zBA) (a b:Int):(zcz s a b).size≤s.size:=by
 unfold zcz
 rw [ByteArray.size_extract]
 omega
theorem zrs {α:Type} (p:α→Bool):∀ l:List α,l.take (l.takeWhile p).length=l.takeWhile p
 | []=>rfl
 | x::l=>by
  rw [List.takeWhile_cons]
  cases p x with
  | true=>simp only [if_true,List.length_cons,List.take_succ_cons]; rw [zrs p l]
  | false=>rfl
section
variable {o:zab} {s:zBA} {ek:Int→Int→Int→Option Int} {dn:Int→Int→Bool→Option Int} {Z:Option Int}
abbrev zpH (x:Tk):Bool:=zfH x||zjd x
def zxt (o:zab) (s:zBA) (a b:Nat):Int:=if (zeq o).s (zfQ (zcz s (a:Int) (b:Int))) then (b:Int) else 0
theorem ph3 (hz:∀ a b c,dn a b c=some 0) (he:∀ v a b,ek v a b=some v) (hs:s.size≤65536) {a b:Nat} (hab:a≤b) (hbs:b≤s.size):∀ (ts:List Tok) (i:Nat),(∀ t∈ts,zeW t) →
  zb4 dn (zbj o s ek) (pL i ts) (a:Int) (b:Int) false=if (ts.map tkT).any zpH then some (zxt o s a b) else some 0
 | [],i,_=>hz _ _ _
 | t::ts,i,hok=>by
  have ih:=ph3 hz he hs hab hbs ts (i+t.bs.length) (fun x hx=>hok x (List.mem_cons_of_mem _ hx))
  rw [pL,zbQ,zva o s ek (pT i t) _ _ _ _ (zeP (hok t (List.mem_cons_self ..)))]
  show zat (decide ((a:Int)<0)) _ _=_
  have hk:zbr (pT i t).Broken (pT i t).Rune=kT (tkT t):=zjb t
  rw [hk,zgb,zk6,zhV,List.map_cons,List.any_cons]
  refine zaF (decide_eq_false (by omega)) (zaF (by simp) ?_)
  cases hb:(zfH (tkT t)||zjd (tkT t)) with
  | false =>
   refine zaF rfl (ih.trans ?_)
   show _=if (zpH (tkT t)||_) then _ else _
   rw [show zpH (tkT t)=false from hb,Bool.false_or]
  | true =>
   refine zaL rfl (zct (by omega) ?_)
   have:(zpH (tkT t)||(ts.map tkT).any zpH)=true:=by rw [show zpH (tkT t)=true from hb]; rfl
   rw [this,if_pos rfl]
   refine zaR (zpK _ (by have:=zlg s (a:Int) (b:Int); omega)) ?_
   unfold zxt
   show zat ((zeq o).s (zfQ (zcz s (a:Int) (b:Int)))) _ _=_
   cases hq:(zeq o).s (zfQ (zcz s (a:Int) (b:Int))) with
   | true=>exact zaL rfl (by rw [he,if_pos rfl])
   | false=>exact zaF rfl (by rw [he]; rfl)
theorem ph2 (hz:∀ a b c,dn a b c=some 0) (he:∀ v a b,ek v a b=some v) (hs:s.size≤65536) {a:Nat}:∀ (ts:List Tok) (i:Nat),(∀ t∈ts,zeW t)→a≤i→i+(zbp ts).length=s.size →
  zb4 dn (zbj o s ek) (pL i ts) (a:Int) (i:Int) true =
   if ((ts.map tkT).dropWhile zmK).any zpH then some (zxt o s a (i+(zbp (ts.takeWhile fun t=>zmK (tkT t))).length)) else some 0
 | [],i,_,_,_=>hz _ _ _
 | t::ts,i,hok,hai,hsz=>by
  have hok':∀ x∈ts,zeW x:=fun x hx=>hok x (List.mem_cons_of_mem _ hx)
  rw [zch,List.length_append] at hsz
  have ih:=ph2 hz he hs (a:=a) ts (i+t.bs.length) hok' (by omega) (by omega)
  rw [pL,zbQ,zva o s ek (pT i t) _ _ _ _ (zeP (hok t (List.mem_cons_self ..)))]
  show zat (decide ((a:Int)<0)) _ _=_
  have hk:zbr (pT i t).Broken (pT i t).Rune=kT (tkT t):=zjb t
  rw [hk,zgb,zk6,zhV,List.map_cons,List.takeWhile_cons,List.dropWhile_cons]
  refine zaF (decide_eq_false (by omega)) ?_
  cases hb:zmK (tkT t) with
  | true =>
   refine zaL (by rw [show (zfH (tkT t)||zim (tkT t))=true from hb]; rfl) (zct ⟨?_,?_⟩ ?_)
   ·show (-9223372036854775808:Int)≤(i:Int)+(t.bs.length:Int); omega
   ·show (i:Int)+(t.bs.length:Int)≤(9223372036854775807:Int); omega
   ·simp only [if_true]
    rw [zch,List.length_append,← Nat.add_assoc]
    have e:(pT i t).At+(pT i t).Width=((i+t.bs.length:Nat):Int):=by show (i:Int)+(t.bs.length:Int)=_; push_cast; rfl
    rw [e]
    exact ih
  | false =>
   refine zaF (by rw [show (zfH (tkT t)||zim (tkT t))=false from hb]; rfl) ?_
   simp only [Bool.false_eq_true,if_false]
   rw [show zbp []=([]:List UInt8) from rfl,List.length_nil,Nat.add_zero,List.any_cons]
   have hl:zfH (tkT t)=false:=by
    have:(zfH (tkT t)||zim (tkT t))=false:=hb
    revert this; cases zfH (tkT t) <;> simp
   cases hd:zjd (tkT t) with
   | true =>
    refine zaL (by rw [hl]; rfl) (zct (by omega) ?_)
    have:(zpH (tkT t)||(ts.map tkT).any zpH)=true:=by rw [show zpH (tkT t)=true by unfold zpH; rw [hd,Bool.or_true]]; rfl
    rw [this,if_pos rfl]
    refine zaR (zpK _ (by have:=zlg s (a:Int) (i:Int); omega)) ?_
    unfold zxt
    show zat ((zeq o).s (zfQ (zcz s (a:Int) (i:Int)))) _ _=_
    cases hq:(zeq o).s (zfQ (zcz s (a:Int) (i:Int))) with
    | true=>exact zaL rfl (by rw [he,if_pos rfl])
    | false=>exact zaF rfl (by rw [he]; rfl)
   | false =>
    refine zaF (by rw [hl]; rfl) ?_
    rw [show zpH (tkT t)=false by unfold zpH; rw [hd,hl]; rfl,Bool.false_or]
    exact ph3 hz he hs hai (by omega) ts _ hok'
def zsB (o:zlt) (l:List Tk):Bool:=(zms l).any (fun x=>zfH x||zjd x)&&o.s (zfQ (zh0 (zkl l)))
def zxH (l:List Tk):Nat:=(l.takeWhile fun x=>!zfH x).length+(zkl l).length
theorem ztx (o:zlt) (l:List Tk):zlB o l=if zsB o l then zxH l else 0:=rfl
theorem ph1 (hz:∀ a b c,dn a b c=some 0) (he:∀ v a b,ek v a b=some v) (hs:s.size≤65536):∀ (ts A:List Tok),(∀ t∈ts,zeW t)→s.data.toList=zbp (A++ts) →
  zb4 dn (zbj o s ek) (pL (zbp A).length ts) (-1) 0 true=some (if zsB (zeq o) (ts.map tkT) then (((zbp A).length+(zbp (ts.take (zxH (ts.map tkT)))).length:Nat):Int) else 0)
 | [],A,_,_=>by
  rw [pL,zfY,hz]; rfl
 | t::ts,A,hok,hsz=>by
  have hok':∀ x∈ts,zeW x:=fun x hx=>hok x (List.mem_cons_of_mem _ hx)
  have hlen:(zbp A).length+(t.bs.length+(zbp ts).length)=s.size:=by rw [zbY,hsz,zbh,zch,List.length_append,List.length_append]
  rw [pL,zbQ,zva o s ek (pT _ t) _ _ _ _ (zeP (hok t (List.mem_cons_self ..)))]
  have hk:∀ i,zbr (pT i t).Broken (pT i t).Rune=kT (tkT t):=fun _=>zjb t
  rw [hk,zgb,zk6,zhV]
  refine zaL (by decide) ?_
  cases hl:zfH (tkT t) with
  | true =>
   refine zaL rfl (zct ⟨?_,?_⟩ ?_)
   ·show (-9223372036854775808:Int)≤((zbp A).length:Int)+(t.bs.length:Int); omega
   ·show ((zbp A).length:Int)+(t.bs.length:Int)≤(9223372036854775807:Int); omega
   ·have e:(pT (zbp A).length t).At+(pT (zbp A).length t).Width=(((zbp A).length+t.bs.length:Nat):Int):=by show ((zbp A).length:Int)+(t.bs.length:Int)=_; push_cast; rfl
    rw [e]
    refine (ph2 (o:=o) (ek:=ek) hz he hs (a:=(zbp A).length) ts ((zbp A).length+t.bs.length) hok' (by omega) (by omega)).trans ?_
    have hd:((t::ts).map tkT).dropWhile (fun x=>!zfH x)=tkT t::ts.map tkT:=by rw [List.map_cons,List.dropWhile_cons,hl]; rfl
    have ht:((t::ts).map tkT).takeWhile (fun x=>!zfH x)=[]:=by rw [List.map_cons,List.takeWhile_cons,hl]; rfl
    have hm:zmK (tkT t)=true:=by unfold zmK; rw [hl]; rfl
    have e1:zms ((t::ts).map tkT)=(ts.map tkT).dropWhile zmK:=by unfold zms; rw [hd,List.dropWhile_cons,hm]; rfl
    have e2:zkl ((t::ts).map tkT)=((t::ts).takeWhile fun t=>zmK (tkT t)).map tkT:=by
     unfold zkl; rw [hd,← List.map_cons,List.takeWhile_map]; rfl
    have e3:(t::ts).takeWhile (fun t=>zmK (tkT t))=t::ts.takeWhile fun t=>zmK (tkT t):=by rw [List.takeWhile_cons,hm]; rfl
    unfold zsB zxH
    rw [e1,e2,ht]
    have hB:∀ W:List Tok,W=ts.takeWhile (fun t=>zmK (tkT t))→zcz s (((zbp A).length:Nat):Int) ((((zbp A).length+t.bs.length)+(zbp W).length:Nat):Int)=zh0 (((t::ts).takeWhile fun t=>zmK (tkT t)).map tkT):=by
     intro W hW
     rw [e3,← hW]
     refine zm2 (A:=A) (W:=t::W) (Z:=ts.dropWhile fun t=>zmK (tkT t)) ?_ rfl (by rw [zch,List.length_append]; omega)
     rw [hsz,List.cons_append,hW,List.takeWhile_append_dropWhile]
    cases hany:((ts.map tkT).dropWhile zmK).any zpH with
    | false=>rfl
    | true =>
     rw [if_pos rfl,Bool.true_and]
     unfold zxt
     rw [hB _ rfl]
     cases hq:(zeq o).s (zfQ (zh0 (((t::ts).takeWhile fun t=>zmK (tkT t)).map tkT))) with
     | false=>rfl
     | true =>
      rw [if_pos rfl,if_pos rfl,List.length_nil,Nat.zero_add,List.length_map]
      rw [e3,List.length_cons,List.take_succ_cons,zch,List.length_append,zrs,Nat.add_assoc]
  | false =>
   refine zaF rfl ?_
   have e:(zbp A).length+t.bs.length=(zbp (A++[t])).length:=by rw [zbh,List.length_append]; simp [zbp]
   rw [e]
   refine (ph1 hz he hs ts (A++[t]) hok' (by rw [hsz,List.append_assoc]; rfl)).trans ?_
   have e1:zms ((t::ts).map tkT)=zms (ts.map tkT):=by unfold zms; rw [List.map_cons,List.dropWhile_cons,hl]; rfl
   have e2:zkl ((t::ts).map tkT)=zkl (ts.map tkT):=by unfold zkl; rw [List.map_cons,List.dropWhile_cons,hl]; rfl
   have e3:(((t::ts).map tkT).takeWhile fun x=>!zfH x).length=((ts.map tkT).takeWhile fun x=>!zfH x).length+1:=by rw [List.map_cons,List.takeWhile_cons,hl]; rfl
   unfold zsB zxH
   rw [e1,e2,e3,show ((ts.map tkT).takeWhile fun x=>!zfH x).length+1+(zkl (ts.map tkT)).length=(((ts.map tkT).takeWhile fun x=>!zfH x).length+(zkl (ts.map tkT)).length)+1 by omega,List.take_succ_cons,zch,List.length_append,← e,Nat.add_assoc]
end
theorem ztv (o:zab) (s:zBA) (hs:s.size≤65536):zc1 o s=some ((zbp ((zdP s.data.toList).take (zlB (zeq o) ((zdP s.data.toList).map tkT)))).length:Int):=by
 unfold zc1
 refine zb8 (zaR (a:=s) rfl (zaR (zk0 s (by omega)) (zb8 (zb8 ?_))))
 rw [zka]
 refine (ph1 (o:=o) (s:=s) (fun _ _ _=>rfl) (fun _ _ _=>rfl) hs (zdP s.data.toList) [] (ze3 _) (by rw [List.nil_append,zfI])).trans ?_
 rw [ztx]
 cases zsB (zeq o) ((zdP s.data.toList).map tkT) with
 | true=>simp [zbp]
 | false=>simp [zbp]
theorem zzi:∀ n:Fin 256,zxL .u8 ((n.val:Nat):Int) 63=((n.val % 64:Nat):Int):=by decide +kernel
theorem zx8:∀ n:Fin 64,orI .u8 ((n.val:Nat):Int) 128=((n.val+128:Nat):Int):=by decide +kernel
theorem zx7:∀ n:Fin 32,orI .u8 192 ((n.val:Nat):Int)=((n.val+192:Nat):Int):=by decide +kernel
theorem zx6:∀ n:Fin 16,orI .u8 224 ((n.val:Nat):Int)=((n.val+224:Nat):Int):=by decide +kernel
theorem zx5:∀ n:Fin 8,orI .u8 240 ((n.val:Nat):Int)=((n.val+240:Nat):Int):=by decide +kernel
theorem znl (n:Nat):IntKind.u8.wrap (n:Int)=((n % 256:Nat):Int):=by
 simp [IntKind.wrap,IntKind.bits,IntKind.signed]
theorem zqe (n:Nat):zcl (n:Int)=some ((n % 64+128:Nat):Int):=by
 unfold zcl
 rw [znl]
 have h1:=zzi ⟨n % 256,by omega⟩
 simp only at h1
 rw [h1]
 have h2:=zx8 ⟨n % 256 % 64,by omega⟩
 simp only at h2
 rw [h2,show n % 256 % 64=n % 64 by omega]
theorem zxX (n:Nat):zig .i32 (n:Int) 6=((n / 64:Nat):Int):=by
 show Int.fdiv (n:Int) 64=_
 rw [Int.fdiv_eq_ediv_of_nonneg _ (by decide)]; omega
theorem zwT (n:Nat):zig .i32 (n:Int) 12=((n / 4096:Nat):Int):=by
 show Int.fdiv (n:Int) 4096=_
 rw [Int.fdiv_eq_ediv_of_nonneg _ (by decide)]; omega
theorem zxY (n:Nat):zig .i32 (n:Int) 18=((n / 262144:Nat):Int):=by
 show Int.fdiv (n:Int) 262144=_
 rw [Int.fdiv_eq_ediv_of_nonneg _ (by decide)]; omega
theorem zzq (n:Nat) (hv:n<55296∨(57343<n∧n≤1114111)):(zat (decide (((n:Int):Int)<128)) (grd (∀ x∈([IntKind.u8.wrap (n:Int)]:List Int),U8 x)<|some (zcZ ([IntKind.u8.wrap (n:Int)]:List Int)))
  (zat (decide (((n:Int):Int)<2048)) (zak (zcl (n:Int)) fun (r4:Int)=>grd (∀ x∈([orI .u8 192 (IntKind.u8.wrap (zig .i32 (n:Int) 6)),r4]:List Int),U8 x)<|some (zcZ ([orI .u8 192 (IntKind.u8.wrap (zig .i32 (n:Int) 6)),r4]:List Int)))
  (zat (decide (((n:Int):Int)<65536)) (zak (zcl (zig .i32 (n:Int) 6)) fun (r5:Int)=>zak (zcl (n:Int)) fun (r6:Int)=>grd (∀ x∈([orI .u8 224 (IntKind.u8.wrap (zig .i32 (n:Int) 12)),r5,r6]:List Int),U8 x)<|some (zcZ ([orI .u8 224 (IntKind.u8.wrap (zig .i32 (n:Int) 12)),r5,r6]:List Int)))
  (zak (zcl (zig .i32 (n:Int) 12)) fun (r7:Int)=>zak (zcl (zig .i32 (n:Int) 6)) fun (r8:Int)=>zak (zcl (n:Int)) fun (r9:Int)=>grd (∀ x∈([orI .u8 240 (IntKind.u8.wrap (zig .i32 (n:Int) 18)),r7,r8,r9]:List Int),U8 x)<|some (zcZ ([orI .u8 240 (IntKind.u8.wrap (zig .i32 (n:Int) 18)),r7,r8,r9]:List Int))))))=some (Utf8.encode (n:Int)):=by
 have hw:encodeRune (n:Int)=(encodeRuneZ (n:Int)).map fun x=>x.toNat.toUInt8:=rfl
 rcases zjS n hv with ⟨h,e⟩ | ⟨h,h',e⟩ | ⟨h,h',e⟩ | ⟨h,h',e⟩
 ·refine zaL (decide_eq_true (by omega)) ?_
  rw [znl]
  refine zct (by intro x hx; simp only [List.mem_singleton] at hx; subst hx; exact ⟨by omega,by omega⟩) (congrArg some (zh2 ?_))
  rw [zcT,hw,e,show n % 256=n by omega]
 ·refine zaF (decide_eq_false (by omega)) (zaL (decide_eq_true (by omega)) (zaR (zqe n) ?_))
  have h1:=zx7 ⟨n / 64,by omega⟩
  simp only at h1
  rw [zxX,znl,show n / 64 % 256=n / 64 by omega,h1]
  refine zct (by intro x hx; simp only [List.mem_cons,List.not_mem_nil,or_false] at hx; rcases hx with rfl | rfl <;> exact ⟨by omega,by omega⟩) (congrArg some (zh2 ?_))
  rw [zcT,hw,e,show ((n / 64+192:Nat):Int)=192+(n:Int) / 64 by omega,show ((n % 64+128:Nat):Int)=128+(n:Int) % 64 by omega]
 ·refine zaF (decide_eq_false (by omega)) (zaF (decide_eq_false (by omega)) (zaL (decide_eq_true (by omega)) ?_))
  have h1:=zx6 ⟨n / 4096,by omega⟩
  simp only at h1
  rw [zxX,zwT,znl,show n / 4096 % 256=n / 4096 by omega,h1]
  refine zaR (zqe _) (zaR (zqe _) ?_)
  refine zct (by intro x hx; simp only [List.mem_cons,List.not_mem_nil,or_false] at hx; rcases hx with rfl | rfl | rfl <;> exact ⟨by omega,by omega⟩) (congrArg some (zh2 ?_))
  rw [zcT,hw,e,show ((n / 4096+224:Nat):Int)=224+(n:Int) / 4096 by omega,show ((n / 64 % 64+128:Nat):Int)=128+(n:Int) / 64 % 64 by omega,show ((n % 64+128:Nat):Int)=128+(n:Int) % 64 by omega]
 ·refine zaF (decide_eq_false (by omega)) (zaF (decide_eq_false (by omega)) (zaF (decide_eq_false (by omega)) ?_))
  have h1:=zx5 ⟨n / 262144,by omega⟩
  simp only at h1
  rw [zxX,zwT,zxY,znl,show n / 262144 % 256=n / 262144 by omega,h1]
  refine zaR (zqe _) (zaR (zqe _) (zaR (zqe _) ?_))
  refine zct (by intro x hx; simp only [List.mem_cons,List.not_mem_nil,or_false] at hx; rcases hx with rfl | rfl | rfl | rfl <;> exact ⟨by omega,by omega⟩) (congrArg some (zh2 ?_))
  rw [zcT,hw,e,show ((n / 262144+240:Nat):Int)=240+(n:Int) / 262144 by omega,show ((n / 4096 % 64+128:Nat):Int)=128+(n:Int) / 4096 % 64 by omega,show ((n / 64 % 64+128:Nat):Int)=128+(n:Int) / 64 % 64 by omega,show ((n % 64+128:Nat):Int)=128+(n:Int) % 64 by omega]
theorem zsq {r:Int} (h:¬ vr r):Utf8.encode r=Utf8.encode 65533:=by
 apply ByteArray.ext; apply Array.toList_inj.1
 rw [zcT,zcT]
 unfold encodeRune
 congr 1
 unfold vr at h
 unfold encodeRuneZ
 (repeat' split) <;> first | rfl | (exfalso; omega)
theorem zvw (r:Int):zeV r=some (Utf8.encode r):=by
 unfold zeV
 refine zb8 ?_
 by_cases hv:vr r
 ·refine zaR (zrE r hv) ?_
  have hpos:0<(Utf8.encode r).size:=by rw [zge]; exact (zfD r).1
  refine zaF (by rw [beq_eq_false_iff_ne]; omega) ?_
  obtain ⟨n,rfl⟩:∃ n:Nat,r=n:=⟨r.toNat,by unfold vr at hv; omega⟩
  exact zzq n (by unfold vr at hv; omega)
 ·have hne:r≠65533:=by intro e; subst e; exact hv (by unfold vr; omega)
  have hl:Utf8.encode r=(⟨#[239,191,189]⟩:zBA):=by rw [zsq hv]; decide
  refine zaR (a:=0) ?_ (zaL rfl ?_)
  ·unfold zec
   exact zb8 (zaL (bne_iff_ne.2 hne) (zaL (decide_eq_true hl) rfl))
  ·rw [zsq hv]; exact zzq 65533 (by omega)
theorem zqR (r:Int):zeB r=some (zfQ (Utf8.encode r)):=zaR (zvw r) (zaR (zpK _ (by have:=zdl r; omega)) rfl)
section
variable {R X A:Type} {xs:List X}
theorem zyc {F:(A→Nat→Option R)→A→Nat→Option R} {bot:A→Nat→Option R} {f:A→X→A} {J:A→Option R} (Inv:Nat→A→Prop)
  (hs:∀ ag k x a,xs[k]?=some x→Inv k a→F ag a k=ag (f a x) (k+1)) (hI:∀ k x a,xs[k]?=some x→Inv k a→Inv (k+1) (f a x))
  (he:∀ ag a,Inv xs.length a→F ag a xs.length=J a) {n:Nat} (hn:xs.length<n) {a:A} (h0:Inv 0 a):zaU bot F n a 0=J (xs.foldl f a):=by
 have key:∀ (n k:Nat) (a:A),k≤xs.length→xs.length - k<n→Inv k a→zaU bot F n a k=J ((xs.drop k).foldl f a):=by
  intro n
  induction n with
  | zero=>intro k a _ h; omega
  | succ n ih =>
   intro k a hk hn hi
   rw [zfO]
   by_cases h:k<xs.length
   ·have hx:xs[k]?=some xs[k]:=List.getElem?_eq_getElem h
    rw [hs _ k _ a hx hi,List.drop_eq_getElem_cons h,List.foldl_cons]
    exact ih (k+1) _ (by omega) (by omega) (hI k _ a hx hi)
   ·have:k=xs.length:=by omega
    subst this
    rw [he _ a hi,List.drop_length]; rfl
 have:=key n 0 a (Nat.zero_le _) (by omega) h0
 simpa using this
end
theorem zl8 {α β:Type} (g:α→β):∀ (xs:List α) (a:List β),xs.foldl (fun a x=>a++[g x]) a=a++xs.map g
 | [],a=>by simp
 | x::xs,a=>by rw [List.foldl_cons,zl8 g xs]; simp
theorem zoF:∀ (n:Nat) (ts:List Tok) (i:Nat),(pL i ts).take n=pL i (ts.take n)
 | 0,ts,i=>rfl
 | n+1,[],i=>rfl
 | n+1,t::ts,i=>by rw [pL,List.take_succ_cons,List.take_succ_cons,pL,zoF n ts]
theorem znY {α:Type} (l:List α) (n:Nat):zhl l 0 (n:Int)=l.take n:=by unfold zhl; simp
theorem ztl {α:Type} (l:List α) (n:Nat):l.take (min l.length n)=l.take n:=by
 rcases Nat.le_total l.length n with h | h
 ·rw [Nat.min_eq_left h,List.take_length,List.take_of_length_le h]
 ·rw [Nat.min_eq_right h]
def okB (x:Tk):Bool:=!decide (x.1<0)
theorem zvh (t:Tok):okB (tkT t)=!t.broken:=by
 unfold okB tkT
 cases t.broken with
 | true=>rfl
 | false =>
  have:¬ (((t.r:Int),(⟨t.bs.toArray⟩:zBA)).1<0):=by show ¬ ((t.r:Int)<0); omega
  rw [if_neg (by simp),decide_eq_false this]
def zxM (b:Int) (k:Nat) (p:List zBA):Option (Nat×List zBA)→Prop
 | none=>b=0∧k=0∧p=[]
 | some (m,xs)=>b=(m:Int)∧0<m∧p=xs
theorem zvi (o:zab) (l1:List zam) (j1:Int→Nat→List zBA→Option (Int×List zBA)) (i:Nat) (TT:List Tok) (h8:TT.length≤8) (hc:zhl l1 0 (min (l1.length:Int) 8)=pL i TT) (hok:∀ t∈TT,zeW t) :
  ∀ (n:Nat) (B A:List Tok) (b:Int) (k:Nat) (p:List zBA) (f:zBA) (r:Option (Nat×List zBA)),TT=A++B→B.length<n→zxM b k p r→f.size≤4*A.length →
   ∃ b' k' p',zxM b' k' p' (((B.map tkT).takeWhile okB).foldl (znk (zeq o)) (f,A.length,r)).2.2∧zaU (fun _ _ _ _ _=>none) (zbU o l1 j1) n b f k p (A.length:Int)=j1 b' k' p':=by
 intro n
 induction n with
 | zero=>intro B A b k p f r _ h; omega
 | succ n ih =>
  intro B A b k p f r hT hn hr hf
  rw [zfO]
  generalize hag:zaU (fun _ _ _ _ _=>none) (zbU o l1 j1) n=ag
  unfold zbU
  rw [hc]
  have hlen:(pL i TT).length=A.length+B.length:=by rw [zgp,hT,List.length_append]
  cases B with
  | nil =>
   refine ⟨b,k,p,hr,zaF (decide_eq_false (by rw [hlen]; simp)) rfl⟩
  | cons t B =>
   have hget:TT[A.length]?=some t:=by rw [hT]; simp
   have hA:A.length<8:=by rw [hT,List.length_append,List.length_cons] at h8; omega
   have htok:=hok t (by rw [hT]; simp)
   have hT':TT=(A++[t])++B:=by rw [hT,List.append_assoc]; rfl
   have hl':(A++[t]).length=A.length+1:=by simp
   have hcast:(A.length:Int)+1=((A++[t]).length:Int):=by rw [hl']; push_cast; rfl
   rw [List.map_cons,List.takeWhile_cons,zvh]
   cases hb:t.broken with
   | true =>
    refine ⟨b,k,p,hr,zaL (decide_eq_true (by rw [hlen]; simp; omega)) (zb8 (zaR (zdq (zij _ _ _ _ hget)) (zaL hb rfl)))⟩
   | false =>
    simp only [Bool.not_false,if_true,List.foldl_cons]
    have e4:=zdl (zbb (t.r:Int))
    have hx:(tkT t).1=(t.r:Int):=by unfold tkT; rw [hb]; rfl
    have hst:znk (zeq o) (f,A.length,r) (tkT t)=(f++Utf8.encode (zbb (t.r:Int)),A.length+1,if (zbK (f++Utf8.encode (zbb (t.r:Int))) o.place).isSome then some (A.length+1,[f++Utf8.encode (zbb (t.r:Int))]) else match zbK (f++Utf8.encode (zbb (t.r:Int))) o.fors with | some xs=>some (A.length+1,xs) | none=>r):=by
     unfold znk; rw [hx]; rfl
    rw [hst]
    have hf':(f++Utf8.encode (zbb (t.r:Int))).size≤4*(A++[t]).length:=by rw [ByteArray.size_append,hl']; omega
    have hn':B.length<n:=by rw [List.length_cons] at hn; omega
    have fin:∀ (b':Int) (k':Nat) (p':List zBA) (r':Option (Nat×List zBA)),zxM b' k' p' r'→∃ b'' k'' p'',zxM b'' k'' p'' (((B.map tkT).takeWhile okB).foldl (znk (zeq o)) (f++Utf8.encode (zbb (t.r:Int)),A.length+1,r')).2.2 ∧
      (grd (I64 ((A.length:Int)+1))<|ag b' (f++Utf8.encode (zbb (t.r:Int))) k' p' ((A.length:Int)+1))=j1 b'' k'' p'':=by
     intro b' k' p' r' hr'
     obtain ⟨b'',k'',p'',h1,h2⟩:=ih B (A++[t]) b' k' p' _ r' hT' hn' hr' hf'
     rw [hl'] at h1
     rw [← hcast,hag] at h2
     exact ⟨b'',k'',p'',h1,zct ⟨by omega,by omega⟩ h2⟩
    have h64:I64 ((A.length:Int)+1):=⟨by omega,by omega⟩
    cases hp:(zbK (f++Utf8.encode (zbb (t.r:Int))) o.place).isSome with
    | true =>
     obtain ⟨b'',k'',p'',h1,h2⟩:=fin ((A.length:Int)+1) 1 [f++Utf8.encode (zbb (t.r:Int))] (some (A.length+1,[f++Utf8.encode (zbb (t.r:Int))])) ⟨by push_cast; rfl,by omega,rfl⟩
     refine ⟨b'',k'',p'',h1,zaL (decide_eq_true (by rw [hlen]; simp; omega)) (zb8 (zaR (zdq (zij _ _ _ _ hget)) (zaF hb (zct (zeP htok) (zct (by show f.size+(Utf8.encode (zbb (t.r:Int))).size≤_; omega) (zaL hp (zct h64 h2)))))))⟩
    | false =>
     simp only [Bool.false_eq_true,if_false]
     cases hq:zbK (f++Utf8.encode (zbb (t.r:Int))) o.fors with
     | some xs =>
      obtain ⟨b'',k'',p'',h1,h2⟩:=fin ((A.length:Int)+1) 2 xs (some (A.length+1,xs)) ⟨by push_cast; rfl,by omega,rfl⟩
      refine ⟨b'',k'',p'',h1,zaL (decide_eq_true (by rw [hlen]; simp; omega)) (zb8 (zaR (zdq (zij _ _ _ _ hget)) (zaF hb (zct (zeP htok) (zct (by show f.size+(Utf8.encode (zbb (t.r:Int))).size≤_; omega) (zaF hp (zaL (by show (zbK (f++Utf8.encode (zbb (t.r:Int))) o.fors).isSome=true; rw [hq]; rfl) (zct h64 (zaR hq h2)))))))))⟩
     | none =>
      obtain ⟨b'',k'',p'',h1,h2⟩:=fin b k p r hr
      refine ⟨b'',k'',p'',h1,zaL (decide_eq_true (by rw [hlen]; simp; omega)) (zb8 (zaR (zdq (zij _ _ _ _ hget)) (zaF hb (zct (zeP htok) (zct (by show f.size+(Utf8.encode (zbb (t.r:Int))).size≤_; omega) (zaF hp (zaF (by show (zbK (f++Utf8.encode (zbb (t.r:Int))) o.fors).isSome=false; rw [hq]; rfl) h2)))))))⟩
theorem J_w (f:Itm×List Itm→zBA):∀ {l:List (Itm×List Itm)},(∀ c∈l,(f c).size≤4*(zl5 c).length)→(J f l).size≤4*(l.flatMap zl5).length
 | [],_=>Nat.zero_le _
 | c::l,h=>by
  have:=J_w f (l:=l) fun d hd=>h d (List.mem_cons_of_mem _ hd)
  have h1:=h c (List.mem_cons_self ..)
  rw [zdo,ByteArray.size_append,List.flatMap_cons,List.length_append]; omega
theorem zxu (s:zBA):((zki s).flatMap zl5).length≤3*s.size:=by
 have h1:=ztz (apL (zgq s))
 have h2:=zsN (zgq s)
 have h3:=zew s
 have h4:(zgq s).length=(pcs s.data.toList).length:=by unfold zgq; rw [List.length_map]
 show (zuo (apL (zgq s))).length≤_
 omega
theorem zky (c:Itm×List Itm):(zl5 c).length=1+c.2.length:=by
 unfold zl5; rw [List.length_cons,zhU]; omega
theorem zhz (s:zBA) (hs:s.size≤65536):(zfQ s).size≤12*s.size∧(zdc s).size≤12*s.size∧(zxA s).size≤12*s.size∧(zie s).size≤12*s.size:=by
 obtain ⟨hl,hc⟩:=ziI hs
 have hw:=zxu s
 refine ⟨?_,?_,?_,?_⟩
 ·have:=J_w zjn (l:=zki s) (fun c hcm=>by have:=zqT (hc c hcm).1; have:=zky c; show (znP c.1).Text.size≤_; omega)
  unfold zfQ; omega
 ·have:=J_w zgQ (l:=zki s) (fun c hcm=>by
   obtain ⟨h1,h2,_,h4⟩:=hc c hcm
   have:=zs0 (fun x:Itm=>x.Text) 4 (l:=zl5 c) (fun x hx=>by
    unfold zl5 at hx
    rcases List.mem_cons.1 hx with rfl | hx
    ·exact zi7 h1
    ·have hx':x∈c.2:=by
      unfold loI hiI at hx
      rw [List.mem_append,List.mem_filter,List.mem_filter] at hx
      rcases hx with hx | hx <;> exact hx.1
     exact zi7 (h2 x hx').2)
   unfold zgQ; omega)
  unfold zdc; omega
 ·have:=J_w (fun c:Itm×List Itm=>c.1.Text) (l:=zki s) (fun c hcm=>by have:=zi7 (hc c hcm).1; have:=zky c; show c.1.Text.size≤_; omega)
  unfold zxA; omega
 ·have:=J_w tgC (l:=zki s) (fun c hcm=>by
   obtain ⟨h1,h2,_,h4⟩:=hc c hcm
   have hh:=zoN c.2
   have h5:=zhU c.2
   have h6:=zky c
   rw [List.length_append] at h5
   unfold tgC
   split
   ·have:=zpn c.1.Rune ((loI c.2).map (·.Rune)) ((hiI c.2).map (·.Rune)) (by simp; omega) (by simp; omega)
    simp only [List.length_map] at this; omega
   ·have:=zi7 h1; omega)
  unfold zie; omega
theorem zoD (r:zBA) (hr:r.size≤1000) (J:List zBA→Option (Int×List zBA)):zaU (fun _ _=>none) (zbH J r) zcG [] 0=J ((zep r).map Utf8.encode):=by
 have hl:=zew r
 have:=zyc (xs:=pcs r.data.toList) (F:=zbH J r) (bot:=fun _ _=>none) (f:=fun a (p:Pc)=>a++[Utf8.encode (p.r:Int)]) (J:=J) (fun k a=>a.length=k) (fun ag k x a hx hi=>by
   have hk:=(List.getElem?_eq_some_iff.1 hx).1
   unfold zbH
   exact zaL (decide_eq_true hk) (zaR hx (zct (by omega) rfl))) (fun k x a _ hi=>by simp [hi]) (fun ag a _=>by unfold zbH; exact zaF (decide_eq_false (by omega)) rfl) (n:=zcG) (zfs (by omega)) (a:=[]) rfl
 refine this.trans ?_
 have e:(pcs r.data.toList).map (fun p=>Utf8.encode (p.r:Int))=(zep r).map Utf8.encode:=by
  unfold zep
  rw [List.map_map]
  exact List.map_congr_left fun p _=>by rw [Function.comp_apply]
 rw [zl8,List.nil_append,e]
theorem zvk (o:zab) (i:Nat) (t:Tok) (ts:List Tok) (hb:t.broken=false) (hok:∀ x∈t::ts,zeW x) (hl:(t::ts).length≤1000000000) :
  zdb o (pL i (t::ts))=some (((zeX (zeq o) (tkT t) (ts.map tkT)).1:Int),(zeX (zeq o) (tkT t) (ts.map tkT)).2):=by
 unfold zdb
 have hmin:min ((pL i (t::ts)).length:Int) 8=((min (pL i (t::ts)).length 8:Nat):Int):=by omega
 have hcut:zhl (pL i (t::ts)) 0 (min ((pL i (t::ts)).length:Int) 8)=pL i ((t::ts).take 8):=by rw [hmin,znY,ztl,zoF]
 refine zb8 (zct ⟨Int.le_refl _,by omega,by omega⟩ ?_)
 have hok8:∀ x∈(t::ts).take 8,zeW x:=fun x hx=>hok x (List.mem_of_mem_take hx)
 have hlt8:((t::ts).take 8).length≤8:=List.length_take_le _ _
 obtain ⟨b',k',p',h1,h2⟩:=zvi o (pL i (t::ts)) _ i ((t::ts).take 8) hlt8 hcut hok8 zcG ((t::ts).take 8) [] 0 0 [] ⟨#[]⟩ none rfl (by unfold zcG; omega) ⟨rfl,rfl,rfl⟩ (by decide)
 refine h2.trans ?_
 have hbest:(((((t::ts).take 8).map tkT).takeWhile okB).foldl (znk (zeq o)) ((⟨#[]⟩:zBA),([]:List Tok).length,none)).2.2=zn4 (zeq o) (tkT t::ts.map tkT):=by
  unfold zn4 zo7
  rw [List.map_take]; rfl
 rw [hbest] at h1
 unfold zeX
 cases hB:zn4 (zeq o) (tkT t::ts.map tkT) with
 | some mx =>
  rw [hB] at h1
  obtain ⟨rfl,h0,rfl⟩:=h1
  exact zaL (decide_eq_true (by omega)) rfl
 | none =>
  rw [hB] at h1
  obtain ⟨rfl,rfl,rfl⟩:=h1
  refine zaF (by decide) (zb8 (zct rfl (zaR (a:=pT i t) rfl (zct (zeP (hok t (List.mem_cons_self ..))) ?_))))
  refine zaR (zqR (zbb (t.r:Int))) ?_
  have hx:(tkT t).1=(t.r:Int):=by unfold tkT; rw [hb]; rfl
  rw [zoD _ (by have h2:=zdl (zbb (t.r:Int)); have h3:=(zhz (Utf8.encode (zbb (t.r:Int))) (by omega)).1; omega),hx,Option.getD_none]
  unfold ziz
  generalize (zep (zfQ (Utf8.encode (zbb (t.r:Int))))).map Utf8.encode=X
  rfl
theorem zrO {r:Int} (h:zaS r=true):∃ b,zaS b=true∧zbK b tabS=none∧ziz r=(zep (zeO (zbb b))).map Utf8.encode:=by
 have hL:zaS (zbb r)=true:=by
  have h1:=zcy r h
  have key:((List.range 1120).all fun n=>!zaS (n:Int)||zaS (zbb (n:Int)))=true:=by decide +kernel
  have:=List.all_eq_true.1 key r.toNat (List.mem_range.2 (by omega))
  rw [show ((r.toNat:Nat):Int)=r by omega,h] at this
  simpa using this
 obtain ⟨b,ms,hp,hb,hn,hm,_⟩:=zey hL
 refine ⟨b,hb,hn,?_⟩
 unfold ziz
 have e:Utf8.encode (zbb r)=zeT [zbb r]:=by rw [zgX,zdo,zlu,ByteArray.append_empty]
 rw [e,zsg (by intro x hx; rw [List.mem_singleton.1 hx]; exact zga hL),List.flatMap_cons,List.flatMap_nil,List.append_nil,hp,List.map_cons,zli (by exact hb)]
 have h1:(ms.map mkI).takeWhile isM=ms.map mkI:=zpl (fun x hx=>by obtain ⟨y,hy,rfl⟩:=List.mem_map.1 hx; exact hm y hy)
 have h2:(ms.map mkI).dropWhile isM=[]:=zpT (fun x hx=>by obtain ⟨y,hy,rfl⟩:=List.mem_map.1 hx; exact hm y hy)
 rw [h1,h2,zuB,zdo,zlu,ByteArray.append_empty,zsi (by exact hb)]
 rfl
theorem zrN {r:Int} (h:zaS r=true):ziz r≠[]∧(ziz r).length≤4:=by
 obtain ⟨b,hb,hn,e⟩:=zrO h
 rw [e]
 have h1:=(zqS hb).2.1
 have h2:=ziy (zbb b)
 have h3:=zew (zeO (zbb b))
 refine ⟨by simpa using h1,?_⟩
 rw [List.length_map]
 unfold zep
 rw [List.length_map]; omega
def zkk (o:zlt):Prop:=∀ u xs,o.f u=some xs→xs≠[]∧xs.length≤4
theorem zn3 (o:zlt) (ho:zkk o):∀ (l:List Tk) (a:zBA×Nat×Option (Nat×List zBA)),(∀ m xs,a.2.2=some (m,xs)→1≤m∧m≤a.2.1∧xs≠[]∧xs.length≤4) →
  (l.foldl (znk o) a).2.1=a.2.1+l.length∧∀ m xs,(l.foldl (znk o) a).2.2=some (m,xs)→1≤m∧m≤a.2.1+l.length∧xs≠[]∧xs.length≤4
 | [],a,h=>⟨rfl,h⟩
 | x::l,a,h=>by
  rw [List.foldl_cons,List.length_cons]
  have hs:(znk o a x).2.1=a.2.1+1:=rfl
  obtain ⟨h1,h2⟩:=zn3 o ho l (znk o a x) (by
   intro m xs hm
   rw [hs]
   unfold znk at hm
   simp only at hm
   split at hm
   ·injection hm with hm; injection hm with e1 e2; subst e1; subst e2; exact ⟨by omega,by omega,by simp,by simp⟩
   ·split at hm
    ·rename_i ys hy
     injection hm with hm; injection hm with e1 e2; subst e1; subst e2
     have:=ho _ _ hy
     exact ⟨by omega,by omega,this.1,this.2⟩
    ·have:=h m xs hm
     exact ⟨this.1,by omega,this.2.2⟩)
  rw [hs] at h1 h2
  exact ⟨by omega,fun m xs hm=>by have:=h2 m xs hm; exact ⟨this.1,by omega,this.2.2⟩⟩
theorem zpy (o:zlt) (ho:zkk o) (x:Tk) (l:List Tk) (hx:zaS x.1=true):1≤(zeX o x l).1∧(zeX o x l).1≤(x::l).length∧(zeX o x l).2≠[]∧(zeX o x l).2.length≤4:=by
 unfold zeX
 cases hb:zn4 o (x::l) with
 | none =>
  have:=zrN hx
  rw [Option.getD_none]
  generalize ziz x.1=X at this
  exact ⟨Nat.le_refl 1,by rw [List.length_cons]; omega,this.1,this.2⟩
 | some mx =>
  obtain ⟨m,xs⟩:=mx
  unfold zn4 at hb
  have:=(zn3 o ho (zo7 (x::l)) (ByteArray.empty,0,none) (by intro m xs h; cases h)).2 m xs hb
  have hl:(zo7 (x::l)).length≤(x::l).length:=by
   unfold zo7
   exact Nat.le_trans (List.takeWhile_sublist _).length_le (List.take_sublist _ _).length_le
  have h0:=this.2.1
  rw [Option.getD_some]
  have e0:((ByteArray.empty,0,none):zBA×Nat×Option (Nat×List zBA)).2.1=0:=rfl
  rw [e0] at h0
  exact ⟨this.1,by omega,this.2.2.1,this.2.2.2⟩
theorem zpr (m:zBA):∀ l:List El,(zrc m l).length=l.length
 | []=>rfl
 | [e]=>rfl
 | e::e'::es=>by rw [zrc,List.length_cons,zpr m (e'::es)]; rfl
theorem zns (m:zBA):∀ (l:List El) (e:El),zrc m (l++[e])=l++[⟨e.sort,e.place,e.digits,m,e.great⟩]
 | [],e=>rfl
 | [a],e=>rfl
 | a::b::l,e=>by
  have:=zns m (b::l) e
  simp only [List.cons_append] at this ⊢
  rw [zrc,this]
theorem zt3 {New:List El} (h:New≠[]) (cs:List (Option (List El))) (out:List El) (sp:Bool):asm (some New::cs) out sp=asm cs (out++(if sp&&!out.isEmpty then [zxc] else [])++New) false:=by
 cases New with
 | nil=>exact absurd rfl h
 | cons e es=>rfl
def zok (sp:Bool) (out:List El):List El:=if sp&&!out.isEmpty then [zxc] else []
theorem zjk (sp:Bool) (out:List El):(zok sp out).length≤1:=by unfold zok; split <;> simp
theorem zu9 (e:El) (sp:Bool) (out:List El) (h:out.length≤2000000000):zbM e sp out=some (false,out++zok sp out++[e]):=by
 unfold zbM
 refine zb8 ?_
 have hfin:∀ l:List El,l.length≤2000000001→(grd (l.length+1≤2147483648)<|some (false,l++[e]))=some (false,l++[e]):=fun l hl=>zct (by omega) rfl
 cases sp with
 | false =>
  refine zaF rfl ((hfin out (by omega)).trans ?_)
  unfold zok
  simp
 | true =>
  refine zaL rfl ?_
  cases out with
  | nil=>exact zaF rfl (hfin [] (by simp))
  | cons a out =>
   refine zaL (decide_eq_true (by rw [List.length_cons]; omega)) (zct (by omega) ((hfin _ (by rw [List.length_append]; simp only [List.length_cons,List.length_nil] at h ⊢; omega)).trans ?_))
   rfl
theorem zqL (l3:List zam) (r4:Int×List zBA) (J:Int→Option (List El)) (TT:List Tok) (i:Nat) (hc:zhl l3 0 r4.1=pL i TT) (hok:∀ t∈TT,zeW t) (hb:TT.length≤1000000000) (hn:∀ t∈TT,great (tkT t).1=great (t.r:Int)) :
  zaU (fun _ _=>none) (zbl l3 r4 J) zcG 0 0=J (zjg (TT.map tkT)):=by
 have hm:∀ (k:Nat) (x:zam),(pL i TT)[k]?=some x→I32 x.Rune∧k<TT.length:=fun k x hx=>by
  have hk:=(List.getElem?_eq_some_iff.1 hx).1
  rw [zgp] at hk
  have:=zij TT i k TT[k] (List.getElem?_eq_getElem hk)
  rw [this] at hx
  injection hx with hx
  subst hx
  exact ⟨zeP (hok _ (List.getElem_mem _)),hk⟩
 have:=zrZ (xs:=pL i TT) (F:=zbl l3 r4 J) (bot:=fun _ _=>none) (f:=fun (g:Int) (p:zam)=>if great p.Rune then 1 else g) (J:=J) (fun _ _=>True) (fun ag k x a hx hi=>by
   obtain ⟨h1,h2⟩:=hm k x hx
   unfold zbl
   rw [hc]
   refine zaL (zlD hx) (zb8 (zaR (zht hx) (zct h1 ?_)))
   cases hg:great x.Rune with
   | true=>exact zaL rfl (zct (zf8 (by omega)) rfl)
   | false=>exact zaF rfl (zct (zf8 (by omega)) rfl)) (fun _ _ _ _ _=>trivial) (fun ag a _=>by unfold zbl; rw [hc]; exact zaF zlE rfl) (n:=zcG) (by rw [zgp]; exact zfs (by omega)) (a:=0) trivial
 refine this.trans (congrArg J ?_)
 clear this hm
 have key:∀ (TT:List Tok) (i:Nat) (g:Int),(∀ t∈TT,great (tkT t).1=great (t.r:Int))→(pL i TT).foldl (fun (g:Int) (p:zam)=>if great p.Rune then 1 else g) g=if (TT.map tkT).any (fun x=>great x.1) then 1 else g:=by
  intro TT
  induction TT with
  | nil=>intro i g _; rfl
  | cons t TT ih =>
   intro i g h
   rw [pL,List.foldl_cons,ih _ _ (fun x hx=>h x (List.mem_cons_of_mem _ hx)),List.map_cons,List.any_cons,h t (List.mem_cons_self ..)]
   show (if _ then (1:Int) else if great (t.r:Int) then 1 else g)=_
   cases great (t.r:Int) <;> cases (TT.map tkT).any (fun x=>great x.1) <;> rfl
 exact key TT i 0 hn
theorem ztk {t:Tok} (h:zim (tkT t)=true):(tkT t).1=(t.r:Int)∧t.broken=false:=by
 unfold zim tkT at h
 unfold tkT
 cases hb:t.broken with
 | true=>rw [hb,if_pos rfl] at h; exact absurd h (show ¬ mrk (-1)=true by decide)
 | false=>exact ⟨rfl,rfl⟩
theorem zoM (i:Nat) (TT:List Tok) (J:Int→zBA→Option (List El)) (hok:∀ t∈TT,zeW t) (hl:TT.length≤1000000000):∀ (n:Nat) (B A:List Tok) (m:zBA),TT=A++B→B.length<n→m.size≤4*A.length →
  zaU (fun _ _=>none) (zbA (pL i TT) J) n (A.length:Int) m=J ((A.length:Int)+(((B.map tkT).takeWhile zim).length:Nat)) (m++zf7 ((B.map tkT).takeWhile zim)):=by
 intro n
 induction n with
 | zero=>intro B A m _ h; omega
 | succ n ih =>
  intro B A m hT hn hm
  rw [zfO]
  generalize hag:zaU (fun _ _=>none) (zbA (pL i TT) J) n=ag
  unfold zbA
  have hlen:(pL i TT).length=A.length+B.length:=by rw [zgp,hT,List.length_append]
  cases B with
  | nil =>
   refine zaF (decide_eq_false (by rw [hlen]; simp)) ?_
   show J _ m=J _ (m++ByteArray.empty)
   rw [ByteArray.append_empty]; simp
  | cons t B =>
   have hget:TT[A.length]?=some t:=by rw [hT]; simp
   have htok:=hok t (by rw [hT]; simp)
   have hA:A.length≤1000000000:=by rw [hT,List.length_append] at hl; omega
   refine zaL (decide_eq_true (by rw [hlen]; simp; omega)) (zaR (zdq (zij _ _ _ _ hget)) (zaR (a:=zim (tkT t)) ?_ ?_))
   ·unfold zdS
    refine zct (zeP htok) ?_
    show some ((zbr t.broken (t.r:Int):Int)==2)=_
    rw [zjb,zk6]
   ·rw [List.map_cons,List.takeWhile_cons]
    cases hk:zim (tkT t) with
    | false =>
     refine zaF rfl ?_
     show J _ m=J _ (m++ByteArray.empty)
     rw [ByteArray.append_empty]; simp
    | true =>
     have e4:=zdl (t.r:Int)
     refine zaL rfl (zaR (zdq (zij _ _ _ _ hget)) (zct (by show m.size+(Utf8.encode (t.r:Int)).size≤_; omega) (zct ⟨by omega,by omega⟩ ?_)))
     have:=ih B (A++[t]) (m++Utf8.encode (t.r:Int)) (by rw [hT,List.append_assoc]; rfl) (by rw [List.length_cons] at hn; omega) (by rw [ByteArray.size_append,List.length_append]; simp; omega)
     rw [hag] at this
     have hcast:(A.length:Int)+1=((A++[t]).length:Int):=by simp
     rw [hcast]
     refine this.trans ?_
     simp only [if_true]
     unfold zf7
     rw [zdo,(ztk hk).1,ByteArray.append_assoc,List.length_cons,← hcast]
     congr 1
     push_cast; omega
theorem zrJ (o:zab) (r4:Int×List zBA) (g:Int) (J:List El→Bool→Option (List El)) (hl:r4.2.length≤4) (out:List El) (sp:Bool) (ho:out.length≤1999999000) :
  zaU (fun _ _ _=>none) (zbk o r4 g J) zcG out sp 0=if r4.2=[] then J out sp else J (out++zok sp out++r4.2.map (elU (zeq o) g)) false:=by
 have:=zyf (xs:=r4.2) (F:=zbk o r4 g J) (bot:=fun _ _ _=>none) (f:=fun (a:List El×Bool) u=>(a.1++zok a.2 a.1++[elU (zeq o) g u],false)) (J:=J) (fun k a=>a.1.length≤1999999000+2*k) (fun ag k x a hx hi=>by
   have hk:=zkb hx
   unfold zbk
   exact zaL (zlD hx) (zaR (zht hx) (zaR (zu9 _ a.2 a.1 (by omega)) (zct (zf8 (by omega)) rfl)))) (fun k x a _ hi=>by
    have:=zjk a.2 a.1
    simp only [List.length_append,List.length_cons,List.length_nil]; omega) (fun ag a _=>by unfold zbk; exact zaF zlE rfl) (n:=zcG) (zfs (by omega)) (a:=(out,sp)) (by simpa using ho)
 refine this.trans ?_
 have g0:∀ l:List El,zok false l=[]:=fun _=>rfl
 have key:∀ (us:List zBA) (l:List El),us.foldl (fun (a:List El×Bool) u=>(a.1++zok a.2 a.1++[elU (zeq o) g u],false)) (l,false)=(l++us.map (elU (zeq o) g),false):=by
  intro us
  induction us with
  | nil=>intro l; simp
  | cons u us ih=>intro l; rw [List.foldl_cons]; simp only [g0,List.append_nil]; rw [ih]; simp
 cases hr:r4.2 with
 | nil=>rw [if_pos rfl]; rfl
 | cons u us =>
  rw [if_neg (by simp),List.foldl_cons,key]
  simp
theorem zpm {t:Tok} (h:0≤(tkT t).1):(tkT t).1=(t.r:Int)∧t.broken=false:=by
 unfold tkT at h ⊢
 cases hb:t.broken with
 | true=>rw [hb,if_pos rfl] at h; exact absurd h (by omega)
 | false=>exact ⟨rfl,rfl⟩
theorem znT {t:Tok} (hok:zeW t) (h:zjd (tkT t)=true):t.bs.length=1:=by
 have h:=of_decide_eq_true h
 obtain ⟨h1,h2⟩:=zpm (t:=t) (by omega)
 rcases hok with hv | hb
 ·obtain ⟨_,hbs⟩:=hv
  rw [h1] at h
  rw [hbs,← zge]
  have key:((List.range 58).all fun n=>decide ((Utf8.encode (n:Int)).size=1))=true:=by decide +kernel
  exact of_decide_eq_true (List.all_eq_true.1 key t.r (List.mem_range.2 (by omega)))
 ·rw [hb] at h2; cases h2
theorem zo1 (i:Nat) (TT:List Tok) (J:Int→Option (List El)) (hok:∀ t∈TT,zeW t) (hl:TT.length≤1000000000):∀ (n:Nat) (B A:List Tok),TT=A++B→B.length<n →
  zaU (fun _=>none) (zbz (pL i TT) J) n (A.length:Int)=J ((A.length:Int)+(((B.map tkT).takeWhile zjd).length:Nat)):=by
 intro n
 induction n with
 | zero=>intro B A _ h; omega
 | succ n ih =>
  intro B A hT hn
  rw [zfO]
  generalize hag:zaU (fun _=>none) (zbz (pL i TT) J) n=ag
  unfold zbz
  have hlen:(pL i TT).length=A.length+B.length:=by rw [zgp,hT,List.length_append]
  cases B with
  | nil =>
   refine zaF (decide_eq_false (by rw [hlen]; simp)) ?_
   show J _=J _
   congr 1
  | cons t B =>
   have hget:TT[A.length]?=some t:=by rw [hT]; simp
   have htok:=hok t (by rw [hT]; simp)
   have hA:A.length≤1000000000:=by rw [hT,List.length_append] at hl; omega
   refine zaL (decide_eq_true (by rw [hlen]; simp; omega)) (zaR (zdq (zij _ _ _ _ hget)) (zct (zeP htok) ?_))
   have hk:∀ i,zbr (pT i t).Broken (pT i t).Rune=kT (tkT t):=fun _=>zjb t
   rw [hk,zhV,List.map_cons,List.takeWhile_cons]
   cases hd:zjd (tkT t) with
   | false =>
    refine zaF rfl ?_
    congr 1
   | true =>
    refine zaL rfl (zct ⟨by omega,by omega⟩ ?_)
    have:=ih B (A++[t]) (by rw [hT,List.append_assoc]; rfl) (by rw [List.length_cons] at hn; omega)
    rw [hag] at this
    have hcast:(A.length:Int)+1=((A++[t]).length:Int):=by simp
    rw [hcast]
    refine this.trans ?_
    simp only [if_true]
    rw [List.length_cons,← hcast]
    congr 1
    push_cast; omega
theorem zqg (J:zBA→Option (List El)):∀ (n:Nat) (d:zBA),d.size<n→d.size≤1000000000→zaU (fun _=>none) (zby J) n d=J ⟨(zru d.data.toList).toArray⟩:=by
 intro n
 induction n with
 | zero=>intro d h; omega
 | succ n ih =>
  intro d hn hb
  rw [zfO]
  generalize hag:zaU (fun _=>none) (zby J) n=ag
  unfold zby
  cases hd:d.data.toList with
  | nil =>
   have h0:d.size=0:=by rw [zbY,hd]; rfl
   refine zaF (decide_eq_false (by omega)) ?_
   have:d=⟨([]:List UInt8).toArray⟩:=zhi (by rw [hd])
   rw [this]; rfl
  | cons c l =>
   have h0:d.size=l.length+1:=by rw [zbY,hd]; rfl
   have hg:zlH d 0=some (c.toNat:Int):=by
    unfold zlH
    rw [if_pos (Int.le_refl 0)]
    have:d.data[(0:Int).toNat]?=some c:=by
     rw [← Array.getElem?_toList,hd]; rfl
    rw [this]; rfl
   refine zaL (decide_eq_true (by omega)) (zaR hg ?_)
   unfold zru
   rw [List.dropWhile_cons]
   have hc:(((c.toNat:Int):Int)==48)=(c==48):=by
    rw [Bool.eq_iff_iff,beq_iff_eq,beq_iff_eq]
    constructor
    ·intro h; exact UInt8.toNat_inj.1 (by show c.toNat=48; omega)
    ·intro h; subst h; rfl
   rw [hc]
   cases hz:(c==48) with
   | false =>
    refine zaF rfl ?_
    simp only [Bool.false_eq_true,if_false]
    rw [← hd]
   | true =>
    refine zaL rfl (zct ⟨by omega,by omega,by omega⟩ ?_)
    have hcut:(zcz d 1 (d.size:Int)).data.toList=l:=by
     have:=zhG d 1 d.size
     rw [hd,List.drop_succ_cons,List.drop_zero,h0,Nat.add_sub_cancel,List.take_length] at this
     rw [h0]; exact this
    have hs:(zcz d 1 (d.size:Int)).size=l.length:=by rw [zbY,hcut]
    have:=ih (zcz d 1 (d.size:Int)) (by omega) (by omega)
    rw [hag] at this
    rw [this,hcut]
    rfl
theorem zkB (x:Tk):(kT x=1↔zfH x=true)∧(kT x=3↔zjd x=true):=by
 constructor
 ·rw [← zgb,beq_iff_eq]
 ·rw [← zhV,beq_iff_eq]
theorem zrY {t:Tok} (h:zfH (tkT t)=true):(tkT t).1=(t.r:Int)∧t.broken=false∧zaS (t.r:Int)=true:=by
 have h':zaS (tkT t).1=true:=h
 have:=zcy _ h'
 obtain ⟨h1,h2⟩:=zpm (t:=t) (by omega)
 rw [h1] at h'
 exact ⟨h1,h2,h'⟩
theorem ztK (t:Tok):great (tkT t).1=great (t.r:Int):=by
 unfold tkT
 cases hb:t.broken with
 | true =>
  rw [if_pos rfl]
  have:t.r=65533:=by unfold Tok.broken at hb; simp at hb; exact hb.1
  rw [this]; show great (-1)=great ((65533:Nat):Int); decide
 | false=>rfl
theorem zvU {S:zBA} {A ts:List Tok} {t:Tok} (hok:zeW t) (h:S.data.toList=zbp (A++t::ts)):zlH S ((zbp A).length:Int)=some (zgn (tkT t).2):=by
 have hne:=zvW hok
 cases hb:t.bs with
 | nil=>exact absurd hb hne
 | cons c l =>
  unfold zlH
  rw [if_pos (by omega),Int.toNat_natCast]
  have h1:S.data.toList[(zbp A).length]?=some c:=by
   rw [h,zbh,zch,hb]; simp
  have h2:S.data[(zbp A).length]?=some c:=by rw [← Array.getElem?_toList]; exact h1
  rw [h2]
  unfold zgn tkT
  rw [hb]; rfl
theorem zsx {α:Type} (l:List α) (c:Nat):zhl l (c:Int) (l.length:Int)=l.drop c:=by
 unfold zhl
 rw [Int.toNat_natCast,Int.toNat_natCast,List.take_of_length_le (by rw [List.length_drop]; exact Nat.le_refl _)]
theorem zw8 {x:Tk} (h:zfH x=true):kT x=1:=(zkB x).1.2 h
set_option maxHeartbeats 1000000 in
theorem zvK (o:zab) (ho:zkk (zeq o)) (r1:zBA) (r2:Int) (S:zBA) (hS:zcz r1 r2 (r1.size:Int)=S) (hSb:S.size≤1000000000) (J:List El→Option (List El)) :
  ∀ (n:Nat) (ts A:List Tok) (out:List El) (sp:Bool) (m:Nat),S.data.toList=zbp (A++ts)→(∀ t∈ts,zeW t)→ts.length<n→ts.length≤m→out.length+6*ts.length≤1999999000 →
   zaU (fun _ _ _=>none) (zbB o J r1 r2) n out sp (pL (zbp A).length ts)=J (asm (zgP (zeq o) m (ts.map tkT)) out sp):=by
 intro n
 induction n with
 | zero=>intro ts A out sp m _ _ h; omega
 | succ n ih =>
  intro ts A out sp m hd hok hn hm hb
  rw [zfO]
  generalize hag:zaU (fun _ _ _=>none) (zbB o J r1 r2) n=ag
  unfold zbB
  rw [hS]
  cases ts with
  | nil =>
   refine zaF (decide_eq_false (by rw [zgp]; simp)) ?_
   cases m <;> rfl
  | cons t ts =>
   obtain ⟨m,rfl⟩:∃ k,m=k+1:=⟨m - 1,by rw [List.length_cons] at hm; omega⟩
   have ht:=hok t (List.mem_cons_self ..)
   have hlenS:(zbp A).length+(t.bs.length+(zbp ts).length)=S.size:=by rw [zbY,hd,zbh,zch,List.length_append,List.length_append]
   have hl1:(t::ts).length≤1000000000:=by omega
   have fin:∀ (c:Nat) (New:Option (List El)) (out':List El) (sp':Bool),1≤c→c≤(t::ts).length→zg7 (zeq o) (tkT t) (ts.map tkT)=(c,New)→(∀ cs,asm (New::cs) out sp=asm cs out' sp')→out'.length≤out.length+5 →
     (grd (0≤(c:Int)∧(c:Int)≤((pL (zbp A).length (t::ts)).length:Int)∧(((pL (zbp A).length (t::ts)).length:Int):Int)≤((pL (zbp A).length (t::ts)).length:Int))<|ag out' sp' (zhl (pL (zbp A).length (t::ts)) (c:Int) ((pL (zbp A).length (t::ts)).length:Int))) =
      J (asm (zgP (zeq o) (m+1) ((t::ts).map tkT)) out sp):=by
    intro c New out' sp' h1 h2 h3 h4 h5
    refine zct ⟨by omega,by rw [zgp]; omega,Int.le_refl _⟩ ?_
    rw [zsx,zrP]
    have hA:(zbp A).length+(zbp ((t::ts).take c)).length=(zbp (A++(t::ts).take c)).length:=by rw [zbh,List.length_append]
    have hdl:((t::ts).drop c).length+c=(t::ts).length:=by rw [List.length_drop]; omega
    have:=ih ((t::ts).drop c) (A++(t::ts).take c) out' sp' m (by rw [hd,List.append_assoc,List.take_append_drop]) (fun x hx=>hok x (List.mem_of_mem_drop hx)) (by omega) (by omega) (by omega)
    rw [hag] at this
    rw [hA,this,List.map_cons]
    show _=J (asm ((zg7 (zeq o) (tkT t) (ts.map tkT)).2::zgP (zeq o) m ((tkT t::ts.map tkT).drop (zg7 (zeq o) (tkT t) (ts.map tkT)).1)) out sp)
    rw [h3,h4,← List.map_cons,List.map_drop]
   have hk:∀ i,zbr (pT i t).Broken (pT i t).Rune=kT (tkT t):=fun _=>zjb t
   refine zaL (decide_eq_true (by rw [zgp,List.length_cons]; omega)) (zb8 (zaR (a:=pT (zbp A).length t) rfl (zct (zeP ht) ?_)))
   rw [hk,zgb,zhV]
   cases hl:zfH (tkT t) with
   | true =>
    obtain ⟨hx1,hx2,hx3⟩:=zrY hl
    have hm4:=zpy (zeq o) ho (tkT t) (ts.map tkT) hl
    have hch:zg7 (zeq o) (tkT t) (ts.map tkT)=((zeX (zeq o) (tkT t) (ts.map tkT)).1+(((tkT t::ts.map tkT).drop (zeX (zeq o) (tkT t) (ts.map tkT)).1).takeWhile zim).length,some (zrc (zf7 (((tkT t::ts.map tkT).drop (zeX (zeq o) (tkT t) (ts.map tkT)).1).takeWhile zim)) ((zeX (zeq o) (tkT t) (ts.map tkT)).2.map (elU (zeq o) (zjg ((tkT t::ts.map tkT).take (zeX (zeq o) (tkT t) (ts.map tkT)).1)))))):=by
     unfold zg7; rw [if_pos (zw8 hl)]
    refine zaL rfl (zaR (zvk o (zbp A).length t ts hx2 hok hl1) ?_)
    generalize hM:zeX (zeq o) (tkT t) (ts.map tkT)=M at hm4 hch ⊢
    rw [← List.map_cons,← List.map_drop,← List.map_take] at hch
    have hmn:M.1≤(t::ts).length:=by have:=hm4.2.1; rw [List.length_cons,List.length_map] at this; exact this
    refine zb8 (zct ⟨Int.le_refl _,by show (0:Int)≤(M.1:Int); omega,by rw [zgp]; show (M.1:Int)≤_; omega⟩ ?_)
    refine (zqL _ (((M.1:Nat):Int),M.2) _ ((t::ts).take M.1) (zbp A).length (by show zhl _ 0 (M.1:Int)=_; rw [znY,zoF]) (fun x hx=>hok x (List.mem_of_mem_take hx)) (by rw [List.length_take]; omega) (fun x _=>ztK x)).trans ?_
    refine zb8 ?_
    have hml:=fun Jm=>zoM (zbp A).length (t::ts) Jm hok hl1 zcG ((t::ts).drop M.1) ((t::ts).take M.1) ⟨#[]⟩ (List.take_append_drop _ _).symm (by rw [List.length_drop]; unfold zcG; omega) (by show 0≤_; omega)
    have hMl:((t::ts).take M.1).length=M.1:=by rw [List.length_take]; omega
    simp only [hMl] at hml
    refine (hml _).trans ?_
    rw [show (⟨#[]⟩:zBA)=ByteArray.empty from rfl,ByteArray.empty_append]
    refine zb8 ?_
    refine (zrJ o (((M.1:Nat):Int),M.2) _ _ hm4.2.2.2 out sp (by omega)).trans ?_
    rw [if_neg hm4.2.2.1]
    generalize hms:(((t::ts).drop M.1).map tkT).takeWhile zim=ms at hch ⊢
    generalize hgr:zjg (((t::ts).take M.1).map tkT)=gr at hch ⊢
    obtain ⟨us,u,hus⟩:∃ us u,M.2=us++[u]:=⟨M.2.dropLast,M.2.getLast hm4.2.2.1,(List.dropLast_concat_getLast hm4.2.2.1).symm⟩
    have hmap:M.2.map (elU (zeq o) gr)=us.map (elU (zeq o) gr)++[elU (zeq o) gr u]:=by rw [hus]; simp
    have hset:zrc (zf7 ms) (M.2.map (elU (zeq o) gr))=us.map (elU (zeq o) gr)++[⟨3,((zeq o).p u).getD 0,ByteArray.empty,zf7 ms,gr⟩]:=by rw [hmap,zns]; rfl
    have hul:us.length≤3:=by have:=hm4.2.2.2; rw [hus,List.length_append,List.length_cons,List.length_nil] at this; omega
    have hgl:=zjk sp out
    generalize hP:out++zok sp out++us.map (elU (zeq o) gr)=P at *
    have hPl:P.length≤out.length+4:=by rw [← hP]; simp only [List.length_append,List.length_map]; omega
    have hall:out++zok sp out++M.2.map (elU (zeq o) gr)=P++[elU (zeq o) gr u]:=by rw [hmap,← List.append_assoc,hP]
    rw [hall]
    have hlast:((P++[elU (zeq o) gr u]).length:Int) - 1=(P.length:Int):=by rw [List.length_append,List.length_cons,List.length_nil]; push_cast; omega
    rw [hlast]
    refine zct ⟨by omega,by omega⟩ (zaR (zdq (show (P++[elU (zeq o) gr u])[P.length]?=some (elU (zeq o) gr u) by simp)) ?_)
    have hstt:(P++[elU (zeq o) gr u]).set ((P.length:Int)).toNat (⟨(elU (zeq o) gr u).sort,(elU (zeq o) gr u).place,(elU (zeq o) gr u).digits,zf7 ms,(elU (zeq o) gr u).great⟩:El)=P++[⟨3,((zeq o).p u).getD 0,ByteArray.empty,zf7 ms,gr⟩]:=by
     rw [Int.toNat_natCast,List.set_append_right _ _ (Nat.le_refl _),Nat.sub_self]; rfl
    have hmsl:ms.length+M.1≤(t::ts).length:=by
     rw [← hms]
     have:=(List.takeWhile_sublist zim (l:=((t::ts).drop M.1).map tkT)).length_le
     rw [List.length_map,List.length_drop] at this; omega
    have:=fin (M.1+ms.length) (some (zrc (zf7 ms) (M.2.map (elU (zeq o) gr)))) (P++[⟨3,((zeq o).p u).getD 0,ByteArray.empty,zf7 ms,gr⟩]) false (by omega) (by omega) hch (fun cs=>by
     rw [zt3 (by rw [hset]; simp),hset,← List.append_assoc]
     show asm cs (out++zok sp out++us.map (elU (zeq o) gr)++_) false=_
     rw [hP]) (by rw [List.length_append,List.length_cons,List.length_nil]; omega)
    rw [hstt]
    have hcast:((M.1:Nat):Int)+((ms.length:Nat):Int)=((M.1+ms.length:Nat):Int):=by push_cast; rfl
    rw [hcast]
    exact this
   | false =>
    refine zaF rfl ?_
    have hk1:¬ kT (tkT t)=1:=fun h=>by have:=(zkB (tkT t)).1.1 h; rw [hl] at this; cases this
    have hk3i:=(zkB (tkT t)).2
    cases hdg:zjd (tkT t) with
    | true =>
     have hk3:kT (tkT t)=3:=hk3i.2 hdg
     have hch:zg7 (zeq o) (tkT t) (ts.map tkT)=(1+((ts.map tkT).takeWhile zjd).length,some [⟨2,0,zwp (tkT t::(ts.map tkT).takeWhile zjd),ByteArray.empty,0⟩]):=by
      unfold zg7; rw [if_neg hk1,if_pos hk3]
     refine zaL rfl (zb8 ?_)
     have hdl:=fun Jd=>zo1 (zbp A).length (t::ts) Jd hok hl1 zcG ts [t] rfl (by rw [List.length_cons] at hl1; unfold zcG; omega)
     have e1:(([t]:List Tok).length:Int)=1:=rfl
     simp only [e1] at hdl
     refine (hdl _).trans ?_
     have hW1:(ts.map tkT).takeWhile zjd=(ts.takeWhile fun x=>zjd (tkT x)).map tkT:=by rw [List.takeWhile_map]; rfl
     rw [hW1,List.length_map] at hch ⊢
     generalize hW:(ts.takeWhile fun x=>zjd (tkT x))=W at hch ⊢
     have hWl:W.length≤ts.length:=by rw [← hW]; exact (List.takeWhile_sublist _).length_le
     have hWd:∀ x∈t::W,x.bs.length=1:=by
      intro x hx
      rcases List.mem_cons.1 hx with rfl | hx
      ·exact znT ht hdg
      ·have hx2:x∈ts:=by rw [← hW] at hx; exact (List.takeWhile_sublist _).subset hx
       have hx3:zjd (tkT x)=true:=by
        rw [← hW] at hx
        exact List.all_eq_true.1 (List.all_takeWhile (p:=fun x=>zjd (tkT x)) (l:=ts)) x hx
       exact znT (hok x (List.mem_cons_of_mem _ hx2)) hx3
     have hfl:∀ l:List Tok,(∀ x∈l,x.bs.length=1)→(zbp l).length=l.length:=by
      intro l
      induction l with
      | nil=>intro _; rfl
      | cons x l ihl=>intro h; rw [zch,List.length_append,List.length_cons,h x (List.mem_cons_self ..),ihl (fun y hy=>h y (List.mem_cons_of_mem _ hy))]; omega
     have hfw:(zbp (t::W)).length=1+W.length:=by rw [hfl _ hWd,List.length_cons]; omega
     have hspl:t::ts=(t::W)++ts.dropWhile fun x=>zjd (tkT x):=by rw [List.cons_append,← hW,List.takeWhile_append_dropWhile]
     have hcut:zcz S ((zbp A).length:Int) (((zbp A).length+(1+W.length):Nat):Int)=zh0 ((t::W).map tkT) :=
      zm2 (A:=A) (W:=t::W) (Z:=ts.dropWhile fun x=>zjd (tkT x)) (by rw [hd,hspl]) rfl (by rw [hfw])
     have hle:(zbp A).length+(1+W.length)≤S.size:=by
      rw [zbY,hd,hspl,zbh,zbh,List.length_append,List.length_append,hfw]; omega
     have hq:(pT (zbp A).length t).At+(1+((W.length:Nat):Int))=(((zbp A).length+(1+W.length):Nat):Int):=by
      show ((zbp A).length:Int)+(1+((W.length:Nat):Int))=_
      push_cast; omega
     refine zb8 ?_
     rw [hq]
     refine zct ⟨by omega,by omega⟩ (zct ⟨by show (0:Int)≤((zbp A).length:Int); omega,by show ((zbp A).length:Int)≤_; omega,by omega⟩ ?_)
     have hcut':zcz S (pT (zbp A).length t).At (((zbp A).length+(1+W.length):Nat):Int)=zh0 ((t::W).map tkT):=hcut
     rw [hcut']
     have hcs:(zh0 ((t::W).map tkT)).size=1+W.length:=by rw [zbY,zkH,hfw]
     refine (zqg _ zcG (zh0 ((t::W).map tkT)) (by unfold zcG; omega) (by omega)).trans ?_
     refine zaR (zu9 _ sp out (by omega)) ?_
     have hgl:=zjk sp out
     have:=fin (1+W.length) (some [⟨2,0,zwp (tkT t::W.map tkT),ByteArray.empty,0⟩]) (out++zok sp out++[⟨2,0,zwp (tkT t::W.map tkT),ByteArray.empty,0⟩]) false (by omega) (by rw [List.length_cons]; omega) hch (fun cs=>rfl) (by simp only [List.length_append,List.length_cons,List.length_nil]; omega)
     have hcast:(1:Int)+((W.length:Nat):Int)=((1+W.length:Nat):Int):=by push_cast; rfl
     rw [hcast]
     exact this
    | false =>
     have hk3:¬ kT (tkT t)=3:=fun h=>by have:=hk3i.1 h; rw [hdg] at this; cases this
     refine zaF rfl ?_
     have hx7:∀ K:Bool→Option (List El),zbF (fun (j9:Bool→Option (List El))=>zat (((kT (tkT t)):Int)==5) (j9 (((kT (tkT t)):Int)==5)) (zat (((kT (tkT t)):Int)==4) (j9 (((kT (tkT t)):Int)==4)) (j9 (((kT (tkT t)):Int)==6)))) K=K (decide (kT (tkT t)=5∨kT (tkT t)=4∨kT (tkT t)=6)):=by
      intro K
      unfold zbF
      by_cases h5:kT (tkT t)=5
      ·rw [h5]; rfl
      ·by_cases h4:kT (tkT t)=4
       ·rw [h4]; rfl
       ·rw [beq_eq_false_iff_ne.2 h5,beq_eq_false_iff_ne.2 h4]
        by_cases h6:kT (tkT t)=6
        ·rw [h6]; rfl
        ·rw [beq_eq_false_iff_ne.2 h6,decide_eq_false (by simp [h5,h4,h6])]; rfl
     refine (hx7 _).trans ?_
     by_cases hsp:kT (tkT t)=5∨kT (tkT t)=4∨kT (tkT t)=6
     ·rw [decide_eq_true hsp]
      refine zaL rfl ?_
      exact fin 1 none out true (Nat.le_refl 1) (by rw [List.length_cons]; omega) (by unfold zg7; rw [if_neg hk1,if_neg hk3,if_pos hsp]) (fun cs=>rfl) (by omega)
     ·rw [decide_eq_false hsp]
      refine zaF rfl ?_
      by_cases hbr:kT (tkT t)=11
      ·rw [beq_iff_eq.2 hbr]
       have hby:0≤zgn (tkT t).2∧zgn (tkT t).2≤255:=by unfold zgn; have:=((tkT t).2.data.toList.headD 0).toNat_lt; omega
       refine zaL rfl (zaR (zvU ht hd) (zct ⟨by omega,by omega⟩ (zaR (zu9 _ sp out (by omega)) ?_)))
       have hgl:=zjk sp out
       exact fin 1 (some [⟨4,zgn (tkT t).2,ByteArray.empty,ByteArray.empty,0⟩]) (out++zok sp out++[⟨4,zgn (tkT t).2,ByteArray.empty,ByteArray.empty,0⟩]) false (Nat.le_refl 1) (by rw [List.length_cons]; omega)
        (by unfold zg7; rw [if_neg hk1,if_neg hk3,if_neg hsp,if_pos hbr]) (fun cs=>rfl) (by simp only [List.length_append,List.length_cons,List.length_nil]; omega)
      ·rw [beq_eq_false_iff_ne.2 hbr]
       refine zaF rfl ?_
       exact fin 1 (some []) out sp (Nat.le_refl 1) (by rw [List.length_cons]; omega) (by unfold zg7; rw [if_neg hk1,if_neg hk3,if_neg hsp,if_neg hbr]) (fun cs=>rfl) (by omega)
theorem zsz (s:zBA) (hs:s.size≤1000000000):zel s=some (pL 0 (zdP s.data.toList)):=by
 unfold zel
 refine zaR (a:=s) rfl (zaR (a:=pL 0 (zdP s.data.toList)) ?_ rfl)
 unfold zdN
 refine zaR (a:=pL 0 (zdP s.data.toList)) ?_ rfl
 unfold zbq
 refine zb8 (zaR (zk0 s (by omega)) (zb8 ?_))
 rw [zka]
 have hlen:(pL 0 (zdP s.data.toList)).length≤s.size:=by
  rw [zgp]
  have:=zew s
  have e:(pcs s.data.toList).length=(zdP s.data.toList).length:=by rw [← zgp (zdP s.data.toList) 0,← zka,List.length_map]
  omega
 have key:∀ (l acc:List zam),acc.length+l.length≤1000000000→zb4 (fun s5=>(some s5:Option (List zam))) zaO l acc=some (acc++l):=by
  intro l
  induction l with
  | nil=>intro acc _; rw [zfY,List.append_nil]
  | cons x l ih =>
   intro acc h
   rw [List.length_cons] at h
   rw [zbQ]
   unfold zaO
   refine zct (by omega) ?_
   have:=ih (acc++[x]) (by simp; omega)
   unfold zaO at this
   rw [this,List.append_assoc]; rfl
 have:=key (pL 0 (zdP s.data.toList)) [] (by simp; omega)
 rw [List.nil_append] at this
 exact this
theorem ztw (o:zlt) (l:List Tk):zlB o l≤l.length:=by
 unfold zlB
 split
 ·unfold zkl
  have h1:=congrArg List.length (List.takeWhile_append_dropWhile (p:=fun x=>!zfH x) (l:=l))
  have h2:=congrArg List.length (List.takeWhile_append_dropWhile (p:=zmK) (l:=l.dropWhile fun x=>!zfH x))
  rw [List.length_append] at h1 h2
  omega
 ·omega
theorem zhP (s:zBA):(zdP s.data.toList).length≤s.size:=by
 have h3:=zew s
 have e:(pcs s.data.toList).length=(zdP s.data.toList).length:=by rw [← zgp (zdP s.data.toList) 0,← zka,List.length_map]
 omega
theorem zmc {s:zBA} {X Y:List UInt8} (h:s.data.toList=X++Y):(zcz s (X.length:Int) (s.size:Int)).data.toList=Y:=by
 rw [zhG,h,List.drop_left,zbY,h,List.length_append,Nat.add_sub_cancel_left,List.take_length]
def Few (t:zBA):Prop:=t.size≤65536∧(zdc t).size≤65536
theorem zxI {t:zBA} (h:t.size≤5000):Few t:=⟨by omega,by have:=(zhz t (by omega)).2.1; omega⟩
theorem zjT (o:zab) (ho:zkk (zeq o)) (t:zBA) (ht:Few t):zbZ o t=some (zkh (zeq o) (zif t)):=by
 obtain ⟨h0,h1⟩:=ht
 unfold zbZ
 refine zb8 (zaR (zp1 t h0) (zaR (ztv o (zdc t) (by omega)) ?_))
 have hple:=ztw (zeq o) ((zdP (zdc t).data.toList).map tkT)
 generalize hp:zlB (zeq o) ((zdP (zdc t).data.toList).map tkT)=p at hple ⊢
 have hcut:=ztP (zdP (zdc t).data.toList) p
 rw [zfI,← zbY] at hcut
 refine zct ⟨by omega,by omega,Int.le_refl _⟩ ?_
 have hS:(zcz (zdc t) ((zbp ((zdP (zdc t).data.toList).take p)).length:Int) ((zdc t).size:Int)).data.toList=zbp ((zdP (zdc t).data.toList).drop p):=by
  exact zmc (by rw [← zbh,List.take_append_drop,zfI])
 have hg:zdP (zbp ((zdP (zdc t).data.toList).drop p))=(zdP (zdc t).data.toList).drop p:=zhx (a:=(zdP (zdc t).data.toList).take p) (by rw [List.take_append_drop]; exact zk9 _)
 generalize hSS:zcz (zdc t) ((zbp ((zdP (zdc t).data.toList).take p)).length:Int) ((zdc t).size:Int)=SS at hS ⊢
 have hSl:SS.size≤65536:=by rw [zbY,hS]; omega
 refine zaR (zsz SS (by omega)) ?_
 rw [hS,hg]
 have htl:=zhP (zdc t)
 have:=zvK o ho (zdc t) ((zbp ((zdP (zdc t).data.toList).take p)).length:Int) SS hSS (by omega) some zcG ((zdP (zdc t).data.toList).drop p) [] [] false (((zdP (zdc t).data.toList).map tkT).length) (by rw [List.nil_append,hS]) (fun x hx=>ze3 _ x (List.mem_of_mem_drop hx)) (by rw [List.length_drop]; unfold zcG; omega) (by rw [List.length_drop,List.length_map]; omega) (by rw [List.length_drop]; simp only [List.length_nil]; omega)
 refine this.trans ?_
 unfold zkh zif zio
 rw [hp,List.map_drop]
def zcw (s1:zBA) (prefix1:zBA):Option Bool := zat (decide (((prefix1.size:Int):Int)≤(s1.size:Int))) ( grd (0≤(0:Int)∧(0:Int)≤(prefix1.size:Int)∧((prefix1.size:Int):Int)≤(s1.size:Int)) <| some (decide (zcz s1 0 (prefix1.size:Int)=prefix1))
) ( some false
)
theorem zfi {s1:zBA} {prefix1:zBA} {r:Bool} (h:zcw s1 prefix1=some r):FnP prog 104 [.string s1,.string prefix1] (.bool r):=by
 unfold zcw at h
 refine FnP.intro func104 rfl ntmps104 (by simp) ?_
 intro w0 K
 refine zyG (zyR 1 rfl (zyH (zyR 1 rfl (zcU rfl dc rfl underlying9 (zyR 1 rfl (zcU rfl dc rfl underlying9 (zaW rfl zbN (zyR 1 rfl ?_))))))))
 refine zyS (s:=10) rfl h (fun h => ?_) (fun h => ?_)
 ·
  refine zyR 2 rfl (zcU rfl dc rfl underlying9 ?_)
  obtain ⟨hg1,h⟩:=zcg h
  refine zce rfl dc rfl rfl rfl (za7 (i:=0) (j:=(prefix1.size:Int)) underlying9 (.inl ⟨rfl,rfl⟩) (.inr rfl) hg1) (zyR 1 rfl (zaW rfl zeL (zyR 2 rfl (zyN (zaD ?_)))))
  cases h
  exact zba 4 results104
 refine zyR 8 rfl (zyN (zaD ?_))
 cases h
 exact zba 4 results104
def zdy (s1:zBA) (prefix1:zBA):Option Bool := zak (zcw s1 prefix1) fun (r1:Bool) => some r1
theorem zh8 {s1:zBA} {prefix1:zBA} {r:Bool} (h:zdy s1 prefix1=some r):FnP prog 98 [.string s1,.string prefix1] (.bool r):=by
 unfold zdy at h
 refine FnP.intro func98 rfl ntmps98 (by simp) ?_
 intro w0 K
 refine zyG (zyR 1 rfl (zyH (zyR 2 rfl ?_)))
 obtain ⟨r1,hq1,h⟩:=zbx h
 refine zaQ (v:=.bool r1) (vs:=[.string s1,.string prefix1]) rfl dc rfl rfl rfl zxp (zfi hq1) (zyR 1 rfl (zyN (zaD ?_)))
 cases h
 exact zba 4 results98
def zcQ (c0:zBA) (ag1:Nat→Option (List zam)) (m3:Nat):Option (List zam) := zat (decide (m3<(pcs c0.data.toList).length)) ( zak ((pcs c0.data.toList)[m3]?) fun (p1:Pc) => zbF (fun (j1:Int→Bool→Option (List zam)) => zat (((p1.r:Int):Int)==65533) ( grd (0≤((p1.i:Int):Int)∧((p1.i:Int):Int)≤(c0.size:Int)∧((c0.size:Int):Int)≤(c0.size:Int)) <| zak (zdy (zcz c0 (p1.i:Int) (c0.size:Int)) (⟨#[239,191,189]⟩:zBA)) fun (r1:Bool) => zat (!r1) ( j1 1 true
) ( j1 ((Utf8.encode (p1.r:Int)).size:Int) false
)
) ( j1 ((Utf8.encode (p1.r:Int)).size:Int) false
)
) (fun (p2:Int) (p3:Bool) => zm3 (⟨(p1.i:Int),p2,(p1.r:Int),p3⟩:zam) <| ag1 (m3+1)
)
) ( some []
)
def zeo (c0:zBA):Option (List zam) := zaU (fun _=>none) (zcQ c0) zcG 0
theorem zjs {b_c0:Nat} {c0:zBA} {xs:(List zam)} (h:zeo c0=some xs):Itr prog 97 [zP b_c0] (fun q:zam=>[.agg (zr0 q).toArray]) xs [(b_c0,.cells #[.string c0] 9 (0,0))]:=by
 unfold zeo at h
 refine Itr.intro func97 rfl ntmps97 (by simp) ?_
 intro l w0 K I X hRo hy
 obtain ⟨r0,hx0⟩:∃ r,xs=[]++r:=⟨xs,rfl⟩
 have hr0:xs=r0:=hx0
 rw [hr0] at h
 refine zyG (zjA (i:=0) hRo ze4 rfl dc rfl rfl rfl ?_)
 refine zfA underlying9 rfl dc rfl (fun b1 => ?_)
 refine zyN (zaA ?_)
 refine zbS (β:=Nat×Nat×(List zam)×(List zam)) (fun b=>zaU (fun _=>none) (zcQ c0) b.1 b.2.1=some b.2.2.2∧xs=b.2.2.1++b.2.2.2) (fun b=>[]) (fun b=>[(0,.func (.yield l) #[] #[]),(1,zP b_c0),(7,zP b1)]) (fun b=>[I b.2.2.1,obj b1 (.stringIter c0 (zgx c0 b.2.1))]) (fun b=>b.1) (zcG,0,([]:List zam),r0) ⟨h,hx0⟩ rfl (za9 rfl) (zaa [0,1] kr rfl) ?_
 rintro ⟨n1,m3,acc3,rr3⟩ ⟨h,hx3⟩
 cases n1 with
 | zero=>exact zez h
 | succ n1 =>
  obtain ⟨ag1,hag1⟩:∃ ag,ag=zaU (fun _=>none) (zcQ c0) n1:=⟨_,rfl⟩
  have h:zcQ c0 ag1 m3=some rr3:=by rw [hag1]; exact h
  unfold zcQ at h
  refine zyG ?_
  refine zfC (b:=decide (m3<(pcs c0.data.toList).length)) (fun hb1 => ?_) (fun hb1 => ?_)
  ·
   have h:=zlL hb1 h
   obtain ⟨p1,hq1,h⟩:=zbx h
   refine zf0 (k:=1) (m:=m3) (p:=p1) rfl dc rfl rfl hq1 (zaH rfl dc rfl rfl (zyN (zaM (zcf rfl (zaq (zaG (zaA ?_)))))))
   obtain ⟨j1,hj1,h⟩:=zbT h
   refine za2 (β:=Int×Bool×Nat) 2 rfl (fun b=>j1 b.1 b.2.1=some rr3) (fun b=>[]) (fun b=>[(0,.func (.yield l) #[] #[]),(1,zP b_c0),(5,zP b.2.2),(7,zP b1)]) (fun b=>[I acc3,cells b.2.2 [zI (p1.i:Int),zI b.1,.int .i32 (p1.r:Int),.bool b.2.1] 95,obj b1 (.stringIter c0 (zgx c0 (m3+1)))]) (fun cut => ?_) ?_
   ·
    refine zyG (zaH rfl dc rfl rfl (zaH rfl dc rfl rfl (zyR 2 rfl (zyH (zyR 2 rfl (zdC rfl dc rfl (zda underlying21 underlying9) (zcU rfl dc rfl underlying9 ?_)))))))
    refine zyR 1 rfl ?_
    refine zck (v:=.agg #[zI (p1.i:Int),zI ((Utf8.encode (p1.r:Int)).size:Int),.int .i32 (p1.r:Int),.bool false]) (ps:=[(0,.tmp 12),(1,.tmp 15),(2,.tmp 16)]) rfl dc rfl (fun _=>by kernel_rfl) ?_
    refine za4 zkL rfl dc (fun b3 => ?_)
    refine za6 (k:=2) (vs:=[zI (p1.i:Int),zI ((Utf8.encode (p1.r:Int)).size:Int),.int .i32 (p1.r:Int),.bool false]) (l':=[zI (p1.i:Int),zI ((Utf8.encode (p1.r:Int)).size:Int),.int .i32 (p1.r:Int),.bool false]) zfR rfl rfl rfl rfl rfl (show _≤_ by simp) rfl rfl (zyN (cut (zyG (zyR 1 rfl (zaW rfl zbn (zyR 1 rfl ?_))))))
    refine zyS (s:=20) rfl h (fun h => ?_) (fun h => ?_)
    ·
     refine zjA (i:=0) hRo ze4 rfl dc rfl rfl rfl (zyR 1 rfl ?_)
     obtain ⟨hg1,h⟩:=zcg h
     refine zce rfl dc rfl rfl rfl (za7 (i:=(p1.i:Int)) (j:=(c0.size:Int)) underlying9 (.inr rfl) (.inl ⟨rfl,rfl⟩) hg1) ?_
     obtain ⟨r1,hq2,h⟩:=zbx h
     refine zaQ (v:=.bool r1) (vs:=[.string (zcz c0 (p1.i:Int) (c0.size:Int)),.string (⟨#[239,191,189]⟩:zBA)]) rfl dc rfl rfl rfl zym (zh8 hq2) (zgG rfl dc rfl zeS (zyR 1 rfl (zyN ?_)))
     refine zyB rfl h (fun h => ?_) (fun h => ?_)
     ·
      refine zao (zag zg3 rfl dc rfl (show _=1 from rfl) ?_)
      refine zaP (k:=2) (l':=[zI (p1.i:Int),zI 1,.int .i32 (p1.r:Int),.bool false]) zir rfl rfl rfl rfl rfl (fun _ _=>rfl) rfl ?_
      refine zag zoU rfl dc rfl (show _=3 from rfl) ?_
      refine zaP (k:=2) (l':=[zI (p1.i:Int),zI 1,.int .i32 (p1.r:Int),.bool true]) zrt rfl rfl rfl rfl rfl (fun _ _=>rfl) rfl ?_
      refine zaE ?_
      exact zaj (1,true,b3) h rfl (za9 rfl) (zaa [0,2,1] kr rfl)
     refine zaq ?_
     exact zaj (((Utf8.encode (p1.r:Int)).size:Int),false,b3) h rfl (za9 rfl) (zaa [0,2,1] kr rfl)
    refine zyR 6 rfl (zyN (za3 rfl (zaq ?_)))
    exact zaj (((Utf8.encode (p1.r:Int)).size:Int),false,b3) h rfl (za9 rfl) (zaa [0,2,1] kr rfl)
   rintro ⟨p2,p3,b2⟩ h
   rw [hj1] at h
   refine zyG (zyR 1 rfl (zbW (k:=1) (cs:=[zI (p1.i:Int),zI p2,.int .i32 (p1.r:Int),.bool p3]) zgZ rfl dc rfl rfl rfl rfl ?_))
   obtain ⟨rr4,hr1,h⟩:=zo5 h
   have hx4:xs=acc3++(⟨(p1.i:Int),p2,(p1.r:Int),p3⟩:zam)::rr4:=by rw [hx3,hr1]
   refine zg8 hy rfl dc rfl hx4 rfl (k:=0) rfl ?_ ?_
   ·
    have hx5:xs=(acc3++[(⟨(p1.i:Int),p2,(p1.r:Int),p3⟩:zam)])++rr4:=by rw [hx4]; simp
    refine zgG rfl dc rfl zeS (zyN (za3 rfl (zaq (zae ?_))))
    subst hag1
    exact zbv (n1,m3+1,acc3++[(⟨(p1.i:Int),p2,(p1.r:Int),p3⟩:zam)],rr4) ⟨h,hx5⟩ (Nat.lt_succ_self _) rfl (za9 rfl) (zaa [0,2] kr rfl)
   refine zgG rfl dc rfl zeS (zyN (zcf rfl (zaD (zal (zai (zal ?_))))))
   exact ziL (ds:=[]) acc3 (⟨(p1.i:Int),p2,(p1.r:Int),p3⟩:zam) rr4 hx4 (.inl rfl) Splits.nil results97 (zaa [0] kr rfl)
  have h:=zlM hb1 h
  refine zf1 (k:=1) (m:=m3) rfl dc rfl rfl (Nat.le_of_not_lt (of_decide_eq_false hb1)) (zaH rfl dc rfl rfl (zyN (zaM (za3 rfl (zbG (zap (zap (zaI ?_))))))))
  cases h
  exact zj2 (ds:=[]) (.inr rfl) Splits.nil results97 (congrArg I (hx3.trans (List.append_nil _))) (zaa [0] kr rfl)
def zgD (s1:zBA):Option zBA := some s1
theorem zlh {s1:zBA} {r:zBA} (h:zgD s1=some r):Fn prog 89 [.string s1] [] (fun v0:Nat=>.func (.func 97) #[] #[zP v0]) (fun v0=>[cells v0 [.string r] 9]):=by
 unfold zgD at h
 refine Fn.intro func89 rfl ntmps89 (by simp) ?_
 intro w0 K
 refine zyG ?_
 refine zeb rfl dc rfl (fun b1 => ?_)
 refine zyR 1 rfl (zyH (zfB (x1:=[]) (x2:=[.tmp 1]) rfl dc rfl rfl (zyR 1 rfl (zyN (zaD ?_)))))
 cases h
 exact zcu (rs:=[.tmp 2]) b1 (.inl rfl) results89 (.cons (.tmp rfl) .nil) rfl (zaa [0] kr rfl)
def zei (r1:Int) (x1:Bool) (x2:zBA):Option zBA := zat ((r1:Int)==223) ( some (⟨#[83,83]⟩:zBA)
) ( grd (I32 r1) <| some (Utf8.encode (zoq r1))
)
theorem zic {r1:Int} {x1:Bool} {x2:zBA} {r:zBA} (h:zei r1 x1 x2=some r):FnP prog 69 [.int .i32 r1,.bool x1,.string x2] (.string r):=by
 unfold zei at h
 refine FnP.intro func69 rfl ntmps69 (by simp) ?_
 intro w0 K
 refine zyG (zyR 1 rfl (zyN (zaM (zyG (zyR 1 rfl (zaW rfl zbn (zyN ?_)))))))
 refine zyB rfl h (fun h => ?_) (fun h => ?_)
 ·
  refine zyG (zyR 1 rfl (zyN (zaD (zai ?_))))
  cases h
  exact zba 6 results69
 refine zaq (zaG (zyG (zyR 1 rfl ?_)))
 obtain ⟨hg1,h⟩:=zcg h
 refine zaQ (v:=.int .i32 (zoq r1)) (vs:=[.int .i32 r1]) rfl dc rfl rfl rfl zyA (zdV fun w=>zrk r1 w hg1.1 hg1.2) ?_
 refine zdC rfl dc rfl (zda underlying21 underlying9) (zyR 1 rfl (zyN (zaD ?_)))
 cases h
 exact zba 6 results69
def zbm (s1:zBA) (x1:zam) (ag1:zBA→Bool→Option zBA) (b10:zBA) (led3:Bool):Option zBA := zbF (fun (j2:zBA→Option zBA) => grd (I64 (x1.At+x1.Width)) <| grd (I32 x1.Rune) <| zat (((zbr x1.Broken x1.Rune):Int)==1) ( grd (0≤(x1.At+x1.Width:Int)∧(x1.At+x1.Width:Int)≤(s1.size:Int)∧((s1.size:Int):Int)≤(s1.size:Int)) <| zak (zei x1.Rune led3 (zcz s1 (x1.At+x1.Width) (s1.size:Int))) fun (r2:zBA) => grd (b10.size+r2.size≤140737488355328) <| j2 (b10++r2)
) ( grd (0≤(x1.At:Int)∧(x1.At:Int)≤(x1.At+x1.Width)∧(x1.At+x1.Width:Int)≤(s1.size:Int)) <| grd (b10.size+(zcz s1 x1.At (x1.At+x1.Width)).size≤140737488355328) <| j2 (b10++(zcz s1 x1.At (x1.At+x1.Width)))
)
) (fun (b12:zBA) => zat (((zbr x1.Broken x1.Rune):Int) != 2) ( ag1 b12 (((zbr x1.Broken x1.Rune):Int)==1)
) ( ag1 b12 led3
)
)
def zdg (s1:zBA):Option zBA := zbF (fun (j1:zBA→Option zBA) => zak (zgD s1) fun (r1:zBA) => zak (zeo r1) fun (its1:(List zam)) => zbF (fun (dn1:zBA→Bool→Option zBA) => zb4 dn1 (zbm s1) its1 (⟨#[]⟩:zBA) false
) (fun (b10:zBA) (led3:Bool) => j1 b10
)
) (fun (b2:zBA) => some b2
)
theorem zgC {s1:zBA} {r:zBA} (h:zdg s1=some r):FnP prog 68 [.string s1,.func (.func 69) #[] #[]] (.string r):=by
 unfold zdg at h
 refine FnP.intro func68 rfl ntmps68 (by simp) ?_
 intro w0 K
 refine zfV ?_
 obtain ⟨j1,hj1,h⟩:=zbT h
 refine za2 (β:=zBA×Nat×(List Nat)) 3 rfl (fun b=>j1 b.1=some r) (fun b=>zdp b.2.2) (fun b=>[(5,zP b.2.1)]) (fun b=>[zsH b.2.1 b.1,zej ((b.2.2:List Nat).map zdW)]) (fun cut => ?_) ?_
 ·
  refine zyG ?_
  refine zeb rfl dc rfl (fun b3 => ?_)
  refine zeb rfl dc rfl (fun b4 => ?_)
  refine zyR 1 rfl (zyH ?_)
  refine za4 zwz rfl dc (fun b5 => ?_)
  refine zlq (k:=3) rfl zmk ?_
  refine zyH ?_
  refine za4 zxU rfl dc (fun b6 => ?_)
  refine zaP (k:=4) (l':=[.bool false]) zrt rfl rfl rfl rfl rfl (fun _ _=>rfl) rfl ?_
  refine zyN (cut (zyG (zan (k:=1) ze4 rfl dc rfl rfl rfl ?_)))
  obtain ⟨r1,hq1,h⟩:=zbx h
  refine zb3 (vs:=[.string s1]) rfl dc rfl rfl rfl zyp (zlh hq1) Splits.nil ?_
  rintro b7
  refine zyN (zaA ?_)
  obtain ⟨its1,hq2,h⟩:=zbx h
  obtain ⟨dn1,hdn1,h⟩:=zbT h
  refine zhc (α:=zam) (β:=zBA×Bool) (γ:=Unit) (δ:=Nat) (ps:=[12]) Ro.nil rfl zyn (zjs hq2) (fun pre b=>∀ post,its1=pre++post→zb4 dn1 (zbm s1) post b.1 b.2=some r) (fun pre b=>[cells b3 [.string s1] 9,cells b4 [.func (.func 69) #[] #[]] 121,zsH b5 b.1,cells b6 [.bool b.2] 4]) (fun c pre g=>False) (fun c pre g=>[]) (fun pre x b j=>[(2,zP b3),(3,zP b4),(4,.string (⟨#[]⟩:zBA)),(5,zP b5),(6,zP b6),(11,.func (.func 97) #[] #[zP b7]),(7,zP j)]) (fun pre x b j=>[cells b3 [.string s1] 9,cells b4 [.func (.func 69) #[] #[]] 121,zsH b5 b.1,cells b6 [.bool b.2] 4,cells j (zr0 x) 95]) ((⟨#[]⟩:zBA),false) (fun post e=>by rw [List.nil_append] at e; subst e; exact h) (zaa [1,2,3,4] kr rfl) ⟨.inl ⟨5,rfl⟩,trivial⟩ (fun _=>rfl) dc ?_ ?_ ?_ ?_
  ·
   rintro lp rc pre x1 post ⟨b10,led3⟩ w1 K1 hxs1 hext hro hinv
   refine zao ?_
   refine za4 zkL rfl dc (fun b11 => ?_)
   refine za6 (k:=4) (vs:=(zr0 x1)) (l':=(zr0 x1)) zfR rfl rfl rfl rfl rfl (show _≤_ by simp) rfl rfl ?_
   refine zaE ?_
   exact fun a w ha hw=>⟨b11,(za9 rfl) _ _ _ ha,hw.weaken (zaa [0,1,2,3,4] kr rfl)⟩
  ·
   rintro lp rc pre x1 post1 ⟨b10,led3⟩ jb1 w1 K1 hxs1 hext hro hinv
   have h:=hinv (x1::post1) hxs1
   obtain ⟨ag1,hag1⟩:∃ ag,ag=zb4 dn1 (zbm s1) post1:=⟨_,rfl⟩
   have h:zbm s1 x1 ag1 b10 led3=some r:=by have h2:=h; rw [zbQ,← hag1] at h2; exact h2
   unfold zbm at h
   refine zaA ?_
   obtain ⟨j2,hj2,h⟩:=zbT h
   refine za2 (β:=zBA) 2 rfl (fun b=>j2 b=some r) (fun b=>[]) (fun b=>[(2,zP b3),(3,zP b4),(4,.string (⟨#[]⟩:zBA)),(5,zP b5),(6,zP b6),(9,zI (zbr x1.Broken x1.Rune)),(11,.func (.func 97) #[] #[zP b7])]) (fun b=>[cells b3 [.string s1] 9,cells b4 [.func (.func 69) #[] #[]] 121,zsH b5 b,cells b6 [.bool led3] 4]) (fun cut => ?_) ?_
   ·
    refine zyG (zag zdY rfl dc rfl (show _=0 from rfl) (zan (k:=4) zd8 rfl dc rfl rfl rfl (zag zg3 rfl dc rfl (show _=1 from rfl) (zan (k:=4) zd8 rfl dc rfl rfl rfl ?_))))
    obtain ⟨hg1,h⟩:=zcg h
    refine zaW rfl (zbi (r:=x1.At+x1.Width) (IntWalk.i64_in _ hg1)) (zyR 1 rfl (zyH (zbW (k:=4) (cs:=(zr0 x1)) zgZ rfl dc rfl rfl rfl rfl ?_)))
    obtain ⟨hg2,h⟩:=zcg h
    refine zaQ (v:=zI (zbr x1.Broken x1.Rune)) (vs:=[.agg (zr0 x1).toArray]) rfl dc rfl rfl rfl zqW (zwo x1.At x1.Width x1.Rune x1.Broken hg2.1 hg2.2) (zyR 1 rfl (zyN (cut (zyG (zyR 1 rfl (zaW rfl zbn (zyN ?_)))))))
    refine zyB rfl h (fun h => ?_) (fun h => ?_)
    ·
     obtain ⟨hg3,h⟩:=zcg h
     obtain ⟨r2,hq3,h⟩:=zbx h
     obtain ⟨hg4,h⟩:=zcg h
     refine zdh 7 [(0,22,.func (.func 69) #[] #[]),(1,23,.pointer (some ⟨jb1,2,none⟩)),(2,24,.int .i32 x1.Rune),(3,25,.bool led3),(4,26,.string s1),(5,27,zI (x1.At+x1.Width)),(6,28,.string (zcz s1 (x1.At+x1.Width) (s1.size:Int)))] mixed kr kr dc (by rfl) kr kr (zad ?_ (zad ?_ (zad ?_ (zad ?_ (zad ?_ (zyP 1 5 rfl (zad ?_ DrawPre.nil))))))) ?_
     · exact fun D n d c u i=>zan (k:=1) zwY rfl dc (za8 (by rfl) rfl) rfl rfl (zaK 0 u i)
     · exact fun D n d c u i=>zag zgA rfl dc (za8 (by rfl) rfl) (show _=2 from rfl) (zaK 1 u i)
     · exact fun D n d c u i=>zan (k:=4) zft rfl dc (zaT 1 u d) rfl rfl (zaK 2 u i)
     · exact fun D n d c u i=>zan (k:=3) zwm rfl dc (za8 (by rfl) rfl) rfl rfl (zaK 3 u i)
     · exact fun D n d c u i=>zan (k:=0) ze4 rfl dc (za8 (by rfl) rfl) rfl rfl (zaK 4 u i)
     · exact fun D n d c u i=>zce rfl dc (zaT 4 u d) (evO.some (zaT 5 u d)) zpR (za7 (i:=x1.At+x1.Width) (j:=(s1.size:Int)) underlying9 (.inr rfl) (.inl ⟨rfl,rfl⟩) hg3) (zaK 6 u i)
     refine zaQ (v:=.string r2) (vs:=[.int .i32 x1.Rune,.bool led3,.string (zcz s1 (x1.At+x1.Width) (s1.size:Int))]) rfl dc rfl rfl rfl zyD (zic hq3) (zb3 (vs:=[zP b5,.string r2]) rfl dc rfl rfl rfl zvA (zon b5 b10 r2 hg4) (zaa [2] kr rfl) ?_)
     rintro u1
     refine zaE ?_
     exact zaj (b10++r2) h rfl (za9 rfl) (zaa [0,1,5,3] kr rfl)
    refine zao (zan (k:=0) ze4 rfl dc rfl rfl rfl (zag zdY rfl dc rfl (show _=0 from rfl) (zan (k:=4) zd8 rfl dc rfl rfl rfl (zyR 1 rfl ?_))))
    obtain ⟨hg5,h⟩:=zcg h
    refine zce rfl dc rfl rfl rfl (za7 (i:=x1.At) (j:=x1.At+x1.Width) underlying9 (.inr rfl) (.inr rfl) hg5) ?_
    obtain ⟨hg6,h⟩:=zcg h
    refine zb3 (vs:=[zP b5,.string (zcz s1 x1.At (x1.At+x1.Width))]) rfl dc rfl rfl rfl zvA (zon b5 b10 (zcz s1 x1.At (x1.At+x1.Width)) hg6) (zaa [2] kr rfl) ?_
    rintro u2
    refine zaE ?_
    exact zaj (b10++(zcz s1 x1.At (x1.At+x1.Width))) h rfl (za9 rfl) (zaa [0,1,5,3] kr rfl)
   rintro b12 h
   rw [hj2] at h
   refine zyG (zyR 1 rfl (zaW rfl zfr (zyN ?_)))
   refine zyB rfl h (fun h => ?_) (fun h => ?_)
   ·
    refine zao (zyR 1 rfl (zaW rfl zbn ?_))
    refine zaP (k:=3) (l':=[.bool (((zbr x1.Broken x1.Rune):Int)==1)]) zrt rfl rfl rfl rfl rfl (fun _ _=>rfl) rfl ?_
    refine zaE (zae ?_)
    exact zcC (b12,((zbr x1.Broken x1.Rune):Int)==1) (fun post2 e2=>by have e9:=zb7 hxs1 e2; subst e9; subst hag1; exact h) (zaa [0,1,2,3] kr rfl)
   refine zaq (zae ?_)
   exact zcC (b12,led3) (fun post2 e2=>by have e9:=zb7 hxs1 e2; subst e9; subst hag1; exact h) (zaa [0,1,2,3] kr rfl)
  ·
   rintro dm1 ⟨b10,led3⟩ hinv
   have h:dn1 b10 led3=some r:=hinv [] (List.append_nil _).symm
   rw [hdn1] at h
   show TX _ _ _ _ _ _ _ [zej ((([]:List Nat):List Nat).map zdW),emp,emp,emp,emp,cells b7 [.string r1] 9,cells b3 [.string s1] 9,cells b4 [.func (.func 69) #[] #[]] 121,zsH b5 b10,cells b6 [.bool led3] 4,zdW dm1]
   refine zdU (k:=10) (j:=0) rfl rfl dc ?_
   refine zae ?_
   exact zaj (b10,b5,dm1::([]:List Nat)) h rfl (za9 rfl) (zaa [8,0] kr rfl)
  rintro dm1 c pre x1 post g hxs hX
  exact (show False from hX).elim
 rintro ⟨b2,b1,ds1⟩ h
 rw [hj1] at h
 refine zyG (zb3 (vs:=[zP b1]) rfl dc rfl rfl rfl zxm (zsG b1 b2) (zaa [0] kr rfl) ?_)
 rintro _
 refine zyR 1 rfl (zyN (zaD ?_))
 cases h
 exact zdj (rs:=[.tmp 4]) ds1 () (.inl rfl) (zbf (k:=1) rfl) results68 (.cons (.tmp rfl) .nil) rfl Splits.nil
def zd4 (s1:zBA):Option zBA := zak (zdg s1) fun (r1:zBA) => some r1
theorem zjt {s1:zBA} {r:zBA} (h:zd4 s1=some r):FnP prog 40 [.string s1] (.string r):=by
 unfold zd4 at h
 refine FnP.intro func40 rfl ntmps40 (by simp) ?_
 intro w0 K
 refine zyG (zyR 1 rfl (zyH (zyR 1 rfl ?_)))
 obtain ⟨r1,hq1,h⟩:=zbx h
 refine zaQ (v:=.string r1) (vs:=[.string s1,.func (.func 69) #[] #[]]) rfl dc rfl rfl rfl zyF (zgC hq1) (zyR 1 rfl (zyN (zaD ?_)))
 cases h
 exact zba 2 results40
def zd1 (a1:zac) (b1:zac):Option Int := grd (I64 (a1.sort - b1.sort)) <| grd (I64 (a1.place - b1.place)) <| grd (I64 ((a1.digits.size:Int) - (b1.digits.size:Int))) <| zak (zfo ([a1.sort - b1.sort,a1.place - b1.place,(a1.digits.size:Int) - (b1.digits.size:Int),Lib.compareBytes a1.digits.data.toList b1.digits.data.toList]:List Int)) fun (r1:Int) => some r1
theorem zks {a1:zac} {b1:zac} {r:Int} (h:zd1 a1 b1=some r):FnP prog 26 [.agg (zr1 a1).toArray,.agg (zr1 b1).toArray] (zI r):=by
 unfold zd1 at h
 refine FnP.intro func26 rfl ntmps26 (by simp) ?_
 intro w0 K
 refine zyG ?_
 refine zeb rfl dc rfl (fun b2 => ?_)
 refine zeb rfl dc rfl (fun b3 => ?_)
 refine zyR 1 rfl (zyN (zaM ?_))
 obtain ⟨hg1,h⟩:=zcg h
 obtain ⟨hg2,h⟩:=zcg h
 obtain ⟨hg3,h⟩:=zcg h
 obtain ⟨r1,hq1,h⟩:=zbx h
 refine zdh 22 [(0,5,zP b2),(1,6,zI a1.sort),(2,7,zP b3),(3,8,zI b1.sort),(4,9,zI (a1.sort - b1.sort)),(5,10,.pointer (some ⟨b2,1,none⟩)),(6,11,zI a1.place),(7,12,.pointer (some ⟨b3,1,none⟩)),(8,13,zI b1.place),(9,14,zI (a1.place - b1.place)),(10,15,.pointer (some ⟨b2,2,none⟩)),(11,16,.string a1.digits),(12,17,zI (a1.digits.size:Int)),(13,18,.pointer (some ⟨b3,2,none⟩)),(14,19,.string b1.digits),(15,20,zI (b1.digits.size:Int)),(16,21,zI ((a1.digits.size:Int) - (b1.digits.size:Int))),(17,22,.pointer (some ⟨b2,2,none⟩)),(18,23,.string a1.digits),(19,24,.pointer (some ⟨b3,2,none⟩)),(20,25,.string b1.digits),(21,26,zI (Lib.compareBytes a1.digits.data.toList b1.digits.data.toList))] mixed kr kr dc (by rfl) kr kr (zad ?_ (zad ?_ (zad ?_ (zad ?_ (zad ?_ (zad ?_ (zad ?_ (zad ?_ (zad ?_ (zad ?_ (zad ?_ (zad ?_ (zad ?_ (zad ?_ (zad ?_ (zad ?_ (zad ?_ (zad ?_ (zad ?_ (zad ?_ (zad ?_ (zad ?_ DrawPre.nil)))))))))))))))))))))) ?_
 · exact fun D n d c u i=>zag zoY rfl dc (za8 (by rfl) rfl) (show _=0 from rfl) (zaK 0 u i)
 · exact fun D n d c u i=>zan (k:=0) zd8 rfl dc (zaT 0 u d) rfl rfl (zaK 1 u i)
 · exact fun D n d c u i=>zag zoY rfl dc (za8 (by rfl) rfl) (show _=0 from rfl) (zaK 2 u i)
 · exact fun D n d c u i=>zan (k:=1) zd8 rfl dc (zaT 2 u d) rfl rfl (zaK 3 u i)
 · exact fun D n d c u i=>zhj rfl dc (zaT 1 u d) (zaT 3 u d) (zgE (r:=a1.sort - b1.sort) (IntWalk.i64_in _ hg1)) (zaK 4 u i)
 · exact fun D n d c u i=>zag zoX rfl dc (za8 (by rfl) rfl) (show _=1 from rfl) (zaK 5 u i)
 · exact fun D n d c u i=>zan (k:=0) zd8 rfl dc (zaT 5 u d) rfl rfl (zaK 6 u i)
 · exact fun D n d c u i=>zag zoX rfl dc (za8 (by rfl) rfl) (show _=1 from rfl) (zaK 7 u i)
 · exact fun D n d c u i=>zan (k:=1) zd8 rfl dc (zaT 7 u d) rfl rfl (zaK 8 u i)
 · exact fun D n d c u i=>zhj rfl dc (zaT 6 u d) (zaT 8 u d) (zgE (r:=a1.place - b1.place) (IntWalk.i64_in _ hg2)) (zaK 9 u i)
 · exact fun D n d c u i=>zag zmT rfl dc (za8 (by rfl) rfl) (show _=2 from rfl) (zaK 10 u i)
 · exact fun D n d c u i=>zan (k:=0) ze4 rfl dc (zaT 10 u d) rfl rfl (zaK 11 u i)
 · exact fun D n d c u i=>zcU rfl dc (zaT 11 u d) underlying9 (zaK 12 u i)
 · exact fun D n d c u i=>zag zmT rfl dc (za8 (by rfl) rfl) (show _=2 from rfl) (zaK 13 u i)
 · exact fun D n d c u i=>zan (k:=1) ze4 rfl dc (zaT 13 u d) rfl rfl (zaK 14 u i)
 · exact fun D n d c u i=>zcU rfl dc (zaT 14 u d) underlying9 (zaK 15 u i)
 · exact fun D n d c u i=>zhj rfl dc (zaT 12 u d) (zaT 15 u d) (zgE (r:=(a1.digits.size:Int) - (b1.digits.size:Int)) (IntWalk.i64_in _ hg3)) (zaK 16 u i)
 · exact fun D n d c u i=>zag zmT rfl dc (za8 (by rfl) rfl) (show _=2 from rfl) (zaK 17 u i)
 · exact fun D n d c u i=>zan (k:=0) ze4 rfl dc (zaT 17 u d) rfl rfl (zaK 18 u i)
 · exact fun D n d c u i=>zag zmT rfl dc (za8 (by rfl) rfl) (show _=2 from rfl) (zaK 19 u i)
 · exact fun D n d c u i=>zan (k:=1) ze4 rfl dc (zaT 19 u d) rfl rfl (zaK 20 u i)
 · exact fun D n d c u i=>zaQ (v:=zI (Lib.compareBytes a1.digits.data.toList b1.digits.data.toList)) (vs:=[.string a1.digits,.string b1.digits]) rfl dc rfl (evL.cons (zaT 18 u d) (evL.cons (zaT 20 u d) evL.nil)) rfl zvD (zrB a1.digits b1.digits) (zaK 21 u i)
 refine zaX (cs:=[zI (a1.sort - b1.sort),zI (a1.place - b1.place),zI ((a1.digits.size:Int) - (b1.digits.size:Int)),zI (Lib.compareBytes a1.digits.data.toList b1.digits.data.toList)]) (te:=3) (ps:=[(0,.tmp 9),(1,.tmp 14),(2,.tmp 21),(3,.tmp 26)]) rfl dc rfl (fun _=>by kernel_rfl) (fun b4 => ?_)
 refine zgv ([a1.sort - b1.sort,a1.place - b1.place,(a1.digits.size:Int) - (b1.digits.size:Int),Lib.compareBytes a1.digits.data.toList b1.digits.data.toList]:List Int) (k:=2) rfl zdr rfl (show 4≤maxLen by decide) ?_
 refine zes (k:=2) rfl (fun hw1 => ?_)
 refine zdn (v:=zI r1) (vs:=[.slice (some ⟨b4,0,none⟩) 4 4]) (Rd.nil:Rd _ _ []) rfl dc rfl rfl rfl zyW (zlN hw1 hq1) (.own (As:=[vec (zlf (.i64)) 3 1 (.slice (some ⟨b4,0,none⟩) 4 4) ([a1.sort - b1.sort,a1.place - b1.place,(a1.digits.size:Int) - (b1.digits.size:Int),Lib.compareBytes a1.digits.data.toList b1.digits.data.toList]:List Int)]) (zaa [2] kr rfl) (fun _ _ h=>zek zdr (sepL.one1.1 h)) .nil) ?_
 refine zyR 1 rfl (zyN (zaD ?_))
 cases h
 exact zba 4 results26
def zc6 (p1:zac) (q1:zac):Option Int := some (Lib.compareBytes p1.marks.data.toList q1.marks.data.toList)
theorem zgm {p1:zac} {q1:zac} {r:Int} (h:zc6 p1 q1=some r):FnP prog 27 [.agg (zr1 p1).toArray,.agg (zr1 q1).toArray] (zI r):=by
 unfold zc6 at h
 refine FnP.intro func27 rfl ntmps27 (by simp) ?_
 intro w0 K
 refine zyG ?_
 refine zeb rfl dc rfl (fun b1 => ?_)
 refine zeb rfl dc rfl (fun b2 => ?_)
 refine zyR 1 rfl (zyH (zag zoW rfl dc rfl (show _=3 from rfl) (zan (k:=0) ze4 rfl dc rfl rfl rfl (zag zoW rfl dc rfl (show _=3 from rfl) (zan (k:=1) ze4 rfl dc rfl rfl rfl (zaQ (v:=zI (Lib.compareBytes p1.marks.data.toList q1.marks.data.toList)) (vs:=[.string p1.marks,.string q1.marks]) rfl dc rfl rfl rfl zvD (zrB p1.marks q1.marks) (zyR 1 rfl (zyN (zaD ?_)))))))))
 cases h
 exact zba 4 results27
def zc5 (p1:zac) (q1:zac):Option Int := grd (I64 (p1.great - q1.great)) <| some (p1.great - q1.great)
theorem zgl {p1:zac} {q1:zac} {r:Int} (h:zc5 p1 q1=some r):FnP prog 29 [.agg (zr1 p1).toArray,.agg (zr1 q1).toArray] (zI r):=by
 unfold zc5 at h
 refine FnP.intro func29 rfl ntmps29 (by simp) ?_
 intro w0 K
 refine zyG ?_
 refine zeb rfl dc rfl (fun b1 => ?_)
 refine zeb rfl dc rfl (fun b2 => ?_)
 refine zyR 1 rfl (zyH (zag zsk rfl dc rfl (show _=4 from rfl) (zan (k:=0) zd8 rfl dc rfl rfl rfl (zag zsk rfl dc rfl (show _=4 from rfl) (zan (k:=1) zd8 rfl dc rfl rfl rfl ?_)))))
 obtain ⟨hg1,h⟩:=zcg h
 refine zaW rfl (zgE (r:=p1.great - q1.great) (IntWalk.i64_in _ hg1)) (zyR 1 rfl (zyN (zaD ?_)))
 cases h
 exact zba 4 results29
def zdR (n1:Int):Option Int := zak (zer n1 0) fun (r1:Int) => some r1
theorem zgg {n1:Int} {r:Int} (h:zdR n1=some r):FnP prog 31 [zI n1] (zI r):=by
 unfold zdR at h
 refine FnP.intro func31 rfl ntmps31 (by simp) ?_
 intro w0 K
 refine zyG (zyR 1 rfl (zyH (zyR 1 rfl ?_)))
 obtain ⟨r1,hq1,h⟩:=zbx h
 refine zaQ (v:=zI r1) (vs:=[zI n1,zI 0]) rfl dc rfl rfl rfl zyV (ziH hq1) (zyR 1 rfl (zyN (zaD ?_)))
 cases h
 exact zba 2 results31
def zav (s1x1:List zac) (s2x1:List zac) (j1:Option Int) (ag1:Int→Option Int) (x3:Int):Option Int := zat (decide ((x3:Int)<(s1x1.length:Int))) ( zak (zd7 s1x1 x3) fun (q1:zac) => zat (decide (((s2x1.length:Int):Int)≤x3)) ( some 1
) ( zak (zd7 s2x1 x3) fun (q2:zac) => zak (zd1 q1 q2) fun (r1:Int) => zat ((r1:Int) != 0) ( some r1
) ( grd (I64 (x3+1)) <| ag1 (x3+1)
)
)
) ( j1
)
def zax (s1x1:List zac) (s2x1:List zac):Option Int := zbF (fun (j1:Option Int) => zaU (fun _=>none) (zav s1x1 s2x1 j1) zcG 0
) ( zat (decide (((s1x1.length:Int):Int)<(s2x1.length:Int))) ( some (-1)
) ( some 0
)
)
theorem zbD {vvs1x1 vs1x1:Value} {Ls1x1:List zac} {ks1x1:Nat} {s1x1:List zac} (hws1x1:Vw vvs1x1 Ls1x1 5 ks1x1 vs1x1 s1x1) {vvs2x1 vs2x1:Value} {Ls2x1:List zac} {ks2x1:Nat} {s2x1:List zac} (hws2x1:Vw vvs2x1 Ls2x1 5 ks2x1 vs2x1 s2x1) {r:Int} (h:zax s1x1 s2x1=some r):FnR prog 30 [vs1x1,vs2x1,.func (.func 26) #[] #[]] [ze5 zbs 5 vvs1x1 ks1x1 Ls1x1,ze5 zbs 5 vvs2x1 ks2x1 Ls2x1] [] (fun _:Unit=>(zI r)) (fun _=>[]):=by
 unfold zax at h
 refine FnR.intro func30 rfl ntmps30 (by simp) ?_
 intro w0 K hrd
 obtain ⟨j1,hj1,h⟩:=zbT h
 refine za2 (β:=Unit) 1 rfl (fun b=>j1=some r) (fun b=>[]) (fun b=>[(0,vs1x1),(1,vs2x1)]) (fun b=>[]) (fun cut => ?_) ?_
 ·
  refine zyG (zyR 1 rfl (zyN (cut (zyG (zyR 1 rfl (zcs hws1x1 rfl dc rfl underlying62 (zyR 1 rfl (zyN (zaA ?_)))))))))
  refine zbS (β:=Nat×Int) (fun b=>zaU (fun _=>none) (zav s1x1 s2x1 j1) b.1 b.2=some r) (fun b=>[]) (fun b=>[(0,vs1x1),(1,vs2x1),(2,.func (.func 26) #[] #[]),(11,vs1x1),(12,zI (s1x1.length:Int)),(13,zI b.2)]) (fun b=>[]) (fun b=>b.1) (zcG,0) h rfl (za9 rfl) Splits.nil ?_
  rintro ⟨n1,x3⟩ h
  cases n1 with
  | zero=>exact zez h
  | succ n1 =>
   obtain ⟨ag1,hag1⟩:∃ ag,ag=zaU (fun _=>none) (zav s1x1 s2x1 j1) n1:=⟨_,rfl⟩
   have h:zav s1x1 s2x1 j1 ag1 x3=some r:=by rw [hag1]; exact h
   unfold zav at h
   refine zyG (zaW rfl zbE (zyN (zaM ?_)))
   refine zyB rfl h (fun h => ?_) (fun h => ?_)
   ·
    refine zaq (zaG (zaM (zaA (zyG (zyR 1 rfl ?_)))))
    obtain ⟨q1,hq1,h⟩:=zbx h
    refine zbc hws1x1 hq1 underlying62 ziq rfl dc rfl rfl rfl (zcM (m:=ks1x1+(x3:Int).toNat) (j:=0) (i:=0) (q:=q1) (cs:=(zr1 q1)) hrd rfl (by omega) zi0 rfl dc rfl (Vw.get hws1x1 hq1) rfl rfl rfl ?_)
    refine za4 zol rfl dc (fun b1 => ?_)
    refine zyR 1 rfl (za6 (k:=0) (vs:=(zr1 q1)) (l':=(zr1 q1)) ziq rfl rfl rfl rfl rfl (show _≤_ by simp) rfl rfl ?_)
    refine zyN (zaM (zyG (zyR 2 rfl (zcs hws2x1 rfl dc rfl underlying62 (zaW rfl zbN (zyN ?_))))))
    refine zyB rfl h (fun h => ?_) (fun h => ?_)
    ·
     refine zyG (zyR 1 rfl (zyN (zaD (zai (zal (zai (zai (zal (zai ?_)))))))))
     cases h
     exact zba 6 results30
    refine zaq (zaG (zyG (zyR 2 rfl ?_)))
    obtain ⟨q2,hq2,h⟩:=zbx h
    refine zbc hws2x1 hq2 underlying62 ziq rfl dc rfl rfl rfl (zcM (m:=ks2x1+(x3:Int).toNat) (j:=0) (i:=1) (q:=q2) (cs:=(zr1 q2)) hrd rfl (by omega) zi0 rfl dc rfl (Vw.get hws2x1 hq2) rfl rfl rfl ?_)
    refine za4 zol rfl dc (fun b2 => ?_)
    refine za6 (k:=1) (vs:=(zr1 q2)) (l':=(zr1 q2)) ziq rfl rfl rfl rfl rfl (show _≤_ by simp) rfl rfl ?_
    refine zyH (zyR 1 rfl (zbW (k:=0) (cs:=(zr1 q1)) zi0 rfl dc rfl rfl rfl rfl (zbW (k:=1) (cs:=(zr1 q2)) zi0 rfl dc rfl rfl rfl rfl ?_)))
    obtain ⟨r1,hq3,h⟩:=zbx h
    refine zaQ (v:=zI r1) (vs:=[.agg (zr1 q1).toArray,.agg (zr1 q2).toArray]) rfl dc rfl rfl rfl zy9 (zks (a1:=q1) (b1:=q2) hq3) (zyR 1 rfl (zyH (zyR 1 rfl (zaW rfl zfr (zyN ?_)))))
    refine zyB rfl h (fun h => ?_) (fun h => ?_)
    ·
     refine zyG (zyR 2 rfl (zyN (zaD (zal (zai (zai (zal (zai ?_))))))))
     cases h
     exact zba 6 results30
    refine zaq (zae (zaG (zao ?_)))
    obtain ⟨hg1,h⟩:=zcg h
    refine zaW rfl (zbi (r:=x3+1) (IntWalk.i64_in _ hg1)) (zyR 1 rfl (zaE ?_))
    subst hag1
    exact zbv (n1,x3+1) h (Nat.lt_succ_self _) rfl (za9 rfl) Splits.nil
   refine zbG (zap (zap (zaI ?_)))
   exact zaj () h rfl (za9 rfl) Splits.nil
 rintro _ h
 rw [hj1] at h
 refine zaM (zyG (zyR 1 rfl (zcs hws1x1 rfl dc rfl underlying62 (zyR 1 rfl (zcs hws2x1 rfl dc rfl underlying62 (zaW rfl zbE (zyN ?_)))))))
 refine zyB rfl h (fun h => ?_) (fun h => ?_)
 ·
  refine zyG (zyR 1 rfl (zyN (zaD (zai ?_))))
  cases h
  exact zba 6 results30
 refine zaq (zaG (zyG (zyR 1 rfl (zyN (zaD ?_)))))
 cases h
 exact zba 6 results30
def zas (s1x1:List zac) (s2x1:List zac) (j1:Option Int) (ag1:Int→Option Int) (x3:Int):Option Int := zat (decide ((x3:Int)<(s1x1.length:Int))) ( zak (zd7 s1x1 x3) fun (q1:zac) => zat (decide (((s2x1.length:Int):Int)≤x3)) ( some 1
) ( zak (zd7 s2x1 x3) fun (q2:zac) => zak (zc6 q1 q2) fun (r1:Int) => zat ((r1:Int) != 0) ( some r1
) ( grd (I64 (x3+1)) <| ag1 (x3+1)
)
)
) ( j1
)
def zaC (s1x1:List zac) (s2x1:List zac):Option Int := zbF (fun (j1:Option Int) => zaU (fun _=>none) (zas s1x1 s2x1 j1) zcG 0
) ( zat (decide (((s1x1.length:Int):Int)<(s2x1.length:Int))) ( some (-1)
) ( some 0
)
)
theorem zbu {vvs1x1 vs1x1:Value} {Ls1x1:List zac} {ks1x1:Nat} {s1x1:List zac} (hws1x1:Vw vvs1x1 Ls1x1 5 ks1x1 vs1x1 s1x1) {vvs2x1 vs2x1:Value} {Ls2x1:List zac} {ks2x1:Nat} {s2x1:List zac} (hws2x1:Vw vvs2x1 Ls2x1 5 ks2x1 vs2x1 s2x1) {r:Int} (h:zaC s1x1 s2x1=some r):FnR prog 30 [vs1x1,vs2x1,.func (.func 27) #[] #[]] [ze5 zbs 5 vvs1x1 ks1x1 Ls1x1,ze5 zbs 5 vvs2x1 ks2x1 Ls2x1] [] (fun _:Unit=>(zI r)) (fun _=>[]):=by
 unfold zaC at h
 refine FnR.intro func30 rfl ntmps30 (by simp) ?_
 intro w0 K hrd
 obtain ⟨j1,hj1,h⟩:=zbT h
 refine za2 (β:=Unit) 1 rfl (fun b=>j1=some r) (fun b=>[]) (fun b=>[(0,vs1x1),(1,vs2x1)]) (fun b=>[]) (fun cut => ?_) ?_
 ·
  refine zyG (zyR 1 rfl (zyN (cut (zyG (zyR 1 rfl (zcs hws1x1 rfl dc rfl underlying62 (zyR 1 rfl (zyN (zaA ?_)))))))))
  refine zbS (β:=Nat×Int) (fun b=>zaU (fun _=>none) (zas s1x1 s2x1 j1) b.1 b.2=some r) (fun b=>[]) (fun b=>[(0,vs1x1),(1,vs2x1),(2,.func (.func 27) #[] #[]),(11,vs1x1),(12,zI (s1x1.length:Int)),(13,zI b.2)]) (fun b=>[]) (fun b=>b.1) (zcG,0) h rfl (za9 rfl) Splits.nil ?_
  rintro ⟨n1,x3⟩ h
  cases n1 with
  | zero=>exact zez h
  | succ n1 =>
   obtain ⟨ag1,hag1⟩:∃ ag,ag=zaU (fun _=>none) (zas s1x1 s2x1 j1) n1:=⟨_,rfl⟩
   have h:zas s1x1 s2x1 j1 ag1 x3=some r:=by rw [hag1]; exact h
   unfold zas at h
   refine zyG (zaW rfl zbE (zyN (zaM ?_)))
   refine zyB rfl h (fun h => ?_) (fun h => ?_)
   ·
    refine zaq (zaG (zaM (zaA (zyG (zyR 1 rfl ?_)))))
    obtain ⟨q1,hq1,h⟩:=zbx h
    refine zbc hws1x1 hq1 underlying62 ziq rfl dc rfl rfl rfl (zcM (m:=ks1x1+(x3:Int).toNat) (j:=0) (i:=0) (q:=q1) (cs:=(zr1 q1)) hrd rfl (by omega) zi0 rfl dc rfl (Vw.get hws1x1 hq1) rfl rfl rfl ?_)
    refine za4 zol rfl dc (fun b1 => ?_)
    refine zyR 1 rfl (za6 (k:=0) (vs:=(zr1 q1)) (l':=(zr1 q1)) ziq rfl rfl rfl rfl rfl (show _≤_ by simp) rfl rfl ?_)
    refine zyN (zaM (zyG (zyR 2 rfl (zcs hws2x1 rfl dc rfl underlying62 (zaW rfl zbN (zyN ?_))))))
    refine zyB rfl h (fun h => ?_) (fun h => ?_)
    ·
     refine zyG (zyR 1 rfl (zyN (zaD (zai (zal (zai (zai (zal (zai ?_)))))))))
     cases h
     exact zba 6 results30
    refine zaq (zaG (zyG (zyR 2 rfl ?_)))
    obtain ⟨q2,hq2,h⟩:=zbx h
    refine zbc hws2x1 hq2 underlying62 ziq rfl dc rfl rfl rfl (zcM (m:=ks2x1+(x3:Int).toNat) (j:=0) (i:=1) (q:=q2) (cs:=(zr1 q2)) hrd rfl (by omega) zi0 rfl dc rfl (Vw.get hws2x1 hq2) rfl rfl rfl ?_)
    refine za4 zol rfl dc (fun b2 => ?_)
    refine za6 (k:=1) (vs:=(zr1 q2)) (l':=(zr1 q2)) ziq rfl rfl rfl rfl rfl (show _≤_ by simp) rfl rfl ?_
    refine zyH (zyR 1 rfl (zbW (k:=0) (cs:=(zr1 q1)) zi0 rfl dc rfl rfl rfl rfl (zbW (k:=1) (cs:=(zr1 q2)) zi0 rfl dc rfl rfl rfl rfl ?_)))
    obtain ⟨r1,hq3,h⟩:=zbx h
    refine zaQ (v:=zI r1) (vs:=[.agg (zr1 q1).toArray,.agg (zr1 q2).toArray]) rfl dc rfl rfl rfl zy8 (zgm (p1:=q1) (q1:=q2) hq3) (zyR 1 rfl (zyH (zyR 1 rfl (zaW rfl zfr (zyN ?_)))))
    refine zyB rfl h (fun h => ?_) (fun h => ?_)
    ·
     refine zyG (zyR 2 rfl (zyN (zaD (zal (zai (zai (zal (zai ?_))))))))
     cases h
     exact zba 6 results30
    refine zaq (zae (zaG (zao ?_)))
    obtain ⟨hg1,h⟩:=zcg h
    refine zaW rfl (zbi (r:=x3+1) (IntWalk.i64_in _ hg1)) (zyR 1 rfl (zaE ?_))
    subst hag1
    exact zbv (n1,x3+1) h (Nat.lt_succ_self _) rfl (za9 rfl) Splits.nil
   refine zbG (zap (zap (zaI ?_)))
   exact zaj () h rfl (za9 rfl) Splits.nil
 rintro _ h
 rw [hj1] at h
 refine zaM (zyG (zyR 1 rfl (zcs hws1x1 rfl dc rfl underlying62 (zyR 1 rfl (zcs hws2x1 rfl dc rfl underlying62 (zaW rfl zbE (zyN ?_)))))))
 refine zyB rfl h (fun h => ?_) (fun h => ?_)
 ·
  refine zyG (zyR 1 rfl (zyN (zaD (zai ?_))))
  cases h
  exact zba 6 results30
 refine zaq (zaG (zyG (zyR 1 rfl (zyN (zaD ?_)))))
 cases h
 exact zba 6 results30
def zar (s1x1:List zac) (s2x1:List zac) (j1:Option Int) (ag1:Int→Option Int) (x3:Int):Option Int := zat (decide ((x3:Int)<(s1x1.length:Int))) ( zak (zd7 s1x1 x3) fun (q1:zac) => zat (decide (((s2x1.length:Int):Int)≤x3)) ( some 1
) ( zak (zd7 s2x1 x3) fun (q2:zac) => zak (zc5 q1 q2) fun (r1:Int) => zat ((r1:Int) != 0) ( some r1
) ( grd (I64 (x3+1)) <| ag1 (x3+1)
)
)
) ( j1
)
def zaB (s1x1:List zac) (s2x1:List zac):Option Int := zbF (fun (j1:Option Int) => zaU (fun _=>none) (zar s1x1 s2x1 j1) zcG 0
) ( zat (decide (((s1x1.length:Int):Int)<(s2x1.length:Int))) ( some (-1)
) ( some 0
)
)
theorem zbt {vvs1x1 vs1x1:Value} {Ls1x1:List zac} {ks1x1:Nat} {s1x1:List zac} (hws1x1:Vw vvs1x1 Ls1x1 5 ks1x1 vs1x1 s1x1) {vvs2x1 vs2x1:Value} {Ls2x1:List zac} {ks2x1:Nat} {s2x1:List zac} (hws2x1:Vw vvs2x1 Ls2x1 5 ks2x1 vs2x1 s2x1) {r:Int} (h:zaB s1x1 s2x1=some r):FnR prog 30 [vs1x1,vs2x1,.func (.func 29) #[] #[]] [ze5 zbs 5 vvs1x1 ks1x1 Ls1x1,ze5 zbs 5 vvs2x1 ks2x1 Ls2x1] [] (fun _:Unit=>(zI r)) (fun _=>[]):=by
 unfold zaB at h
 refine FnR.intro func30 rfl ntmps30 (by simp) ?_
 intro w0 K hrd
 obtain ⟨j1,hj1,h⟩:=zbT h
 refine za2 (β:=Unit) 1 rfl (fun b=>j1=some r) (fun b=>[]) (fun b=>[(0,vs1x1),(1,vs2x1)]) (fun b=>[]) (fun cut => ?_) ?_
 ·
  refine zyG (zyR 1 rfl (zyN (cut (zyG (zyR 1 rfl (zcs hws1x1 rfl dc rfl underlying62 (zyR 1 rfl (zyN (zaA ?_)))))))))
  refine zbS (β:=Nat×Int) (fun b=>zaU (fun _=>none) (zar s1x1 s2x1 j1) b.1 b.2=some r) (fun b=>[]) (fun b=>[(0,vs1x1),(1,vs2x1),(2,.func (.func 29) #[] #[]),(11,vs1x1),(12,zI (s1x1.length:Int)),(13,zI b.2)]) (fun b=>[]) (fun b=>b.1) (zcG,0) h rfl (za9 rfl) Splits.nil ?_
  rintro ⟨n1,x3⟩ h
  cases n1 with
  | zero=>exact zez h
  | succ n1 =>
   obtain ⟨ag1,hag1⟩:∃ ag,ag=zaU (fun _=>none) (zar s1x1 s2x1 j1) n1:=⟨_,rfl⟩
   have h:zar s1x1 s2x1 j1 ag1 x3=some r:=by rw [hag1]; exact h
   unfold zar at h
   refine zyG (zaW rfl zbE (zyN (zaM ?_)))
   refine zyB rfl h (fun h => ?_) (fun h => ?_)
   ·
    refine zaq (zaG (zaM (zaA (zyG (zyR 1 rfl ?_)))))
    obtain ⟨q1,hq1,h⟩:=zbx h
    refine zbc hws1x1 hq1 underlying62 ziq rfl dc rfl rfl rfl (zcM (m:=ks1x1+(x3:Int).toNat) (j:=0) (i:=0) (q:=q1) (cs:=(zr1 q1)) hrd rfl (by omega) zi0 rfl dc rfl (Vw.get hws1x1 hq1) rfl rfl rfl ?_)
    refine za4 zol rfl dc (fun b1 => ?_)
    refine zyR 1 rfl (za6 (k:=0) (vs:=(zr1 q1)) (l':=(zr1 q1)) ziq rfl rfl rfl rfl rfl (show _≤_ by simp) rfl rfl ?_)
    refine zyN (zaM (zyG (zyR 2 rfl (zcs hws2x1 rfl dc rfl underlying62 (zaW rfl zbN (zyN ?_))))))
    refine zyB rfl h (fun h => ?_) (fun h => ?_)
    ·
     refine zyG (zyR 1 rfl (zyN (zaD (zai (zal (zai (zai (zal (zai ?_)))))))))
     cases h
     exact zba 6 results30
    refine zaq (zaG (zyG (zyR 2 rfl ?_)))
    obtain ⟨q2,hq2,h⟩:=zbx h
    refine zbc hws2x1 hq2 underlying62 ziq rfl dc rfl rfl rfl (zcM (m:=ks2x1+(x3:Int).toNat) (j:=0) (i:=1) (q:=q2) (cs:=(zr1 q2)) hrd rfl (by omega) zi0 rfl dc rfl (Vw.get hws2x1 hq2) rfl rfl rfl ?_)
    refine za4 zol rfl dc (fun b2 => ?_)
    refine za6 (k:=1) (vs:=(zr1 q2)) (l':=(zr1 q2)) ziq rfl rfl rfl rfl rfl (show _≤_ by simp) rfl rfl ?_
    refine zyH (zyR 1 rfl (zbW (k:=0) (cs:=(zr1 q1)) zi0 rfl dc rfl rfl rfl rfl (zbW (k:=1) (cs:=(zr1 q2)) zi0 rfl dc rfl rfl rfl rfl ?_)))
    obtain ⟨r1,hq3,h⟩:=zbx h
    refine zaQ (v:=zI r1) (vs:=[.agg (zr1 q1).toArray,.agg (zr1 q2).toArray]) rfl dc rfl rfl rfl zy7 (zgl (p1:=q1) (q1:=q2) hq3) (zyR 1 rfl (zyH (zyR 1 rfl (zaW rfl zfr (zyN ?_)))))
    refine zyB rfl h (fun h => ?_) (fun h => ?_)
    ·
     refine zyG (zyR 2 rfl (zyN (zaD (zal (zai (zai (zal (zai ?_))))))))
     cases h
     exact zba 6 results30
    refine zaq (zae (zaG (zao ?_)))
    obtain ⟨hg1,h⟩:=zcg h
    refine zaW rfl (zbi (r:=x3+1) (IntWalk.i64_in _ hg1)) (zyR 1 rfl (zaE ?_))
    subst hag1
    exact zbv (n1,x3+1) h (Nat.lt_succ_self _) rfl (za9 rfl) Splits.nil
   refine zbG (zap (zap (zaI ?_)))
   exact zaj () h rfl (za9 rfl) Splits.nil
 rintro _ h
 rw [hj1] at h
 refine zaM (zyG (zyR 1 rfl (zcs hws1x1 rfl dc rfl underlying62 (zyR 1 rfl (zcs hws2x1 rfl dc rfl underlying62 (zaW rfl zbE (zyN ?_)))))))
 refine zyB rfl h (fun h => ?_) (fun h => ?_)
 ·
  refine zyG (zyR 1 rfl (zyN (zaD (zai ?_))))
  cases h
  exact zba 6 results30
 refine zaq (zaG (zyG (zyR 1 rfl (zyN (zaD ?_)))))
 cases h
 exact zba 6 results30
def zbw (o1:zab) (a1:zBA) (b1:zBA):Option (Int×Int) := zat (decide (a1=b1)) ( some (0,0)
) ( zbF (fun (j1:Option (Int×Int)) => zak (zbZ o1 a1) fun (r1:(List zac)) => zak (zbZ o1 b1) fun (r2:(List zac)) => zak (zax r1 r2) fun (r3:Int) => zat ((r3:Int) != 0) ( zak (zdR r3) fun (r4:Int) => some (r4,1)
) ( zak (zaC r1 r2) fun (r5:Int) => zat ((r5:Int) != 0) ( zak (zdR r5) fun (r6:Int) => some (r6,2)
) ( zak (zaB r1 r2) fun (r7:Int) => zat ((r7:Int) != 0) ( zak (zdR r7) fun (r8:Int) => some (r8,3)
) ( j1
)
)
)
) ( some (Lib.compareBytes a1.data.toList b1.data.toList,4)
)
)
theorem zdf {bo1:Nat} {o1:zab} {o1_h0 o1_h1 o1_h2 o1_h3 o1_h4:Hd} {a1:zBA} {b1:zBA} {r:(Int×Int)} (h:zbw o1 a1 b1=some r):FnR prog 11 [zP bo1,.string a1,.string b1] [cells bo1 [o1_h0.v,.map (some (zaw o1_h1)),.map (some (zaw o1_h2)),.map (some (zaw o1_h3)),o1_h4.v] 79,zv0 o1_h0.v o1.units,za5 (fun n:zBA=>Value.string n) (fun n:Int=>Value.int .i64 n) (zaw o1_h1) o1.place,zbe (zaw o1_h2) o1.fors,za5 (fun n:zBA=>Value.string n) (fun n:Bool=>Value.bool n) (zaw o1_h3) o1.skips,zv0 o1_h4.v o1.lines] [] (fun _:Unit=>(.tuple #[zI r.1,zI r.2])) (fun _=>[]):=by
 unfold zbw at h
 refine FnR.intro func11 rfl ntmps11 (by simp) ?_
 intro w0 K hrd
 refine zyG (zyR 2 rfl (zyN (zaM (zyG (zyR 1 rfl (zaW rfl (zfE underlying23) (zyR 3 rfl ?_)))))))
 refine zaW rfl zeL (zyR 1 rfl (zyN ?_))
 refine zyB rfl h (fun h => ?_) (fun h => ?_)
 ·
  refine zyG (zyR 2 rfl (zyN (zaD (zai ?_))))
  cases h
  exact zcu (rs:=[.tmp 6,.tmp 7]) () (.inl rfl) results11 (.cons (.tmp rfl) (.cons (.tmp rfl) .nil)) rfl Splits.nil
 refine zaq (zaG ?_)
 obtain ⟨j1,hj1,h⟩:=zbT h
 refine za2 (β:=Unit) 2 rfl (fun b=>j1=some r) (fun b=>[]) (fun b=>[(1,.string a1),(2,.string b1)]) (fun b=>[]) (fun cut => ?_) ?_
 ·
  refine zyG (zyR 2 rfl ?_)
  obtain ⟨r1,hq1,h⟩:=zbx h
  refine zh4 (vs:=[zP bo1,.string a1]) hrd rfl dc rfl rfl rfl zvE (zdT (bo1:=bo1) (o1:=o1) (o1_h0:=o1_h0) (o1_h1:=o1_h1) (o1_h2:=o1_h2) (o1_h3:=o1_h3) (o1_h4:=o1_h4) hq1) Splits.nil (.ro 0 rfl (.ro 1 rfl (.ro 2 rfl (.ro 3 rfl (.ro 4 rfl (.ro 5 rfl .nil)))))) ?_
  rintro v1
  refine zcr (k:=0) rfl (fun hd1 he1 => ?_)
  subst he1
  refine zyR 2 rfl ?_
  obtain ⟨r2,hq2,h⟩:=zbx h
  refine zh4 (vs:=[zP bo1,.string b1]) hrd rfl dc rfl rfl rfl zvE (zdT (bo1:=bo1) (o1:=o1) (o1_h0:=o1_h0) (o1_h1:=o1_h1) (o1_h2:=o1_h2) (o1_h3:=o1_h3) (o1_h4:=o1_h4) hq2) Splits.nil (.ro 0 rfl (.ro 1 rfl (.ro 2 rfl (.ro 3 rfl (.ro 4 rfl (.ro 5 rfl .nil)))))) ?_
  rintro v2
  refine zcr (k:=1) rfl (fun hd2 he2 => ?_)
  subst he2
  refine zyR 2 rfl (zyH ?_)
  refine zck (v:=.agg #[.func (.func 26) #[] #[],.func (.func 27) #[] #[],.func (.func 29) #[] #[]]) (ps:=[(0,.func 26),(1,.func 27),(2,.func 29)]) rfl dc rfl (fun _=>by kernel_rfl) ?_
  refine za4 zxQ rfl dc (fun b2 => ?_)
  refine za6 (k:=2) (vs:=[.func (.func 26) #[] #[],.func (.func 27) #[] #[],.func (.func 29) #[] #[]]) (l':=[.func (.func 26) #[] #[],.func (.func 27) #[] #[],.func (.func 29) #[] #[]]) zxW rfl rfl rfl rfl rfl (show _≤_ by simp) rfl rfl ?_
  refine zyN (cut (zyG (zbW (k:=2) (cs:=[.func (.func 26) #[] #[],.func (.func 27) #[] #[],.func (.func 29) #[] #[]]) zx0 rfl dc rfl rfl rfl rfl (zyR 1 rfl (zyN (zaA (zp4 4 (ziM (zyG ?_)))))))))
  refine zaW rfl (zgh (show Value.bool (decide ((0:Int)<3))=Value.bool true from congrArg Value.bool dc) zbE) (zyN (zaM (zcf rfl (zaq (zaG (zaM (zaA (zyG (zyR 1 rfl ?_)))))))))
  refine zfF (v:=.func (.func 26) #[] #[]) rfl dc rfl rfl (fun _=>by kernel_rfl) ?_
  refine zyR 2 rfl (zyH (zyR 3 rfl ?_))
  refine zes (k:=0) rfl (fun hw1 => ?_)
  refine zes (k:=1) rfl (fun hw2 => ?_)
  obtain ⟨r3,hq3,h⟩:=zbx h
  refine zdn (v:=zI r3) (vs:=[hd1.v,hd2.v,.func (.func 26) #[] #[]]) hrd rfl dc rfl rfl rfl zvC (zbD hw1 hw2 hq3) (.own (As:=[zv2 hd1.v r1]) (zaa [0] kr rfl) (fun _ _ h=>zek zbg (sepL.one1.1 h)) (.own (As:=[zv2 hd2.v r2]) (zaa [1] kr rfl) (fun _ _ h=>zek zbg (sepL.one1.1 h)) .nil)) ?_
  refine zyR 1 rfl (zyH (zyR 1 rfl (zaW rfl zfr (zyN ?_))))
  refine zyB rfl h (fun h => ?_) (fun h => ?_)
  ·
   refine zyG (zyR 1 rfl ?_)
   obtain ⟨r4,hq4,h⟩:=zbx h
   refine zaQ (v:=zI r4) (vs:=[zI r3]) rfl dc rfl rfl rfl zvB (zgg hq4) (zyR 1 rfl (zaW rfl (zbi (r:=1) dc) (zyR 2 rfl (zyN (zaD (zal (zai (zai (zal (zai ?_))))))))))
   cases h
   exact zcu (rs:=[.tmp 6,.tmp 7]) () (.inl rfl) results11 (.cons (.tmp rfl) (.cons (.tmp rfl) .nil)) rfl Splits.nil
  refine zaq (zae (zaG (zao (zaW rfl (zbi (r:=1) dc) (zyR 1 rfl (zaE (zjy (ziM (zyG (zaW rfl (zgh (show Value.bool (decide ((1:Int)<3))=Value.bool true from congrArg Value.bool dc) zbE) (zyN ?_)))))))))))
  refine zaM (zcf rfl (zaq (zaG (zaM (zaA (zyG (zyR 1 rfl ?_)))))))
  refine zfF (v:=.func (.func 27) #[] #[]) rfl dc rfl rfl (fun _=>by kernel_rfl) ?_
  refine zyR 2 rfl (zyH (zyR 3 rfl ?_))
  refine zes (k:=0) rfl (fun hw3 => ?_)
  refine zes (k:=1) rfl (fun hw4 => ?_)
  obtain ⟨r5,hq5,h⟩:=zbx h
  refine zdn (v:=zI r5) (vs:=[hd1.v,hd2.v,.func (.func 27) #[] #[]]) hrd rfl dc rfl rfl rfl zvC (zbu hw3 hw4 hq5) (.own (As:=[zv2 hd1.v r1]) (zaa [0] kr rfl) (fun _ _ h=>zek zbg (sepL.one1.1 h)) (.own (As:=[zv2 hd2.v r2]) (zaa [1] kr rfl) (fun _ _ h=>zek zbg (sepL.one1.1 h)) .nil)) ?_
  refine zyR 1 rfl (zyH (zyR 1 rfl (zaW rfl zfr (zyN ?_))))
  refine zyB rfl h (fun h => ?_) (fun h => ?_)
  ·
   refine zyG (zyR 1 rfl ?_)
   obtain ⟨r6,hq6,h⟩:=zbx h
   refine zaQ (v:=zI r6) (vs:=[zI r5]) rfl dc rfl rfl rfl zvB (zgg hq6) (zyR 1 rfl (zaW rfl (zbi (r:=2) dc) (zyR 2 rfl (zyN (zaD (zal (zai (zai (zal (zai ?_))))))))))
   cases h
   exact zcu (rs:=[.tmp 6,.tmp 7]) () (.inl rfl) results11 (.cons (.tmp rfl) (.cons (.tmp rfl) .nil)) rfl Splits.nil
  refine zaq (zae (zaG (zao (zaW rfl (zbi (r:=2) dc) (zyR 1 rfl (zaE (zjy (ziM (zyG (zaW rfl (zgh (show Value.bool (decide ((2:Int)<3))=Value.bool true from congrArg Value.bool dc) zbE) (zyN ?_)))))))))))
  refine zaM (zcf rfl (zaq (zaG (zaM (zaA (zyG (zyR 1 rfl ?_)))))))
  refine zfF (v:=.func (.func 29) #[] #[]) rfl dc rfl rfl (fun _=>by kernel_rfl) ?_
  refine zyR 2 rfl (zyH (zyR 3 rfl ?_))
  refine zes (k:=0) rfl (fun hw5 => ?_)
  refine zes (k:=1) rfl (fun hw6 => ?_)
  obtain ⟨r7,hq7,h⟩:=zbx h
  refine zdn (v:=zI r7) (vs:=[hd1.v,hd2.v,.func (.func 29) #[] #[]]) hrd rfl dc rfl rfl rfl zvC (zbt hw5 hw6 hq7) (.own (As:=[zv2 hd1.v r1]) (zaa [0] kr rfl) (fun _ _ h=>zek zbg (sepL.one1.1 h)) (.own (As:=[zv2 hd2.v r2]) (zaa [1] kr rfl) (fun _ _ h=>zek zbg (sepL.one1.1 h)) .nil)) ?_
  refine zyR 1 rfl (zyH (zyR 1 rfl (zaW rfl zfr (zyN ?_))))
  refine zyB rfl h (fun h => ?_) (fun h => ?_)
  ·
   refine zyG (zyR 1 rfl ?_)
   obtain ⟨r8,hq8,h⟩:=zbx h
   refine zaQ (v:=zI r8) (vs:=[zI r7]) rfl dc rfl rfl rfl zvB (zgg hq8) (zyR 1 rfl (zaW rfl (zbi (r:=3) dc) (zyR 2 rfl (zyN (zaD (zal (zai (zai (zal (zai ?_))))))))))
   cases h
   exact zcu (rs:=[.tmp 6,.tmp 7]) () (.inl rfl) results11 (.cons (.tmp rfl) (.cons (.tmp rfl) .nil)) rfl Splits.nil
  refine zaq (zae (zaG (zao (zaW rfl (zbi (r:=3) dc) (zyR 1 rfl (zaE (zjy (ziM (zyG (zaW rfl (zgh (show Value.bool (decide ((3:Int)<3))=Value.bool false from congrArg Value.bool dc) zbE) (zyN ?_)))))))))))
  refine zaM (za3 rfl (zbG (zap (zap (zaI ?_)))))
  exact zaj () h rfl (za9 rfl) Splits.nil
 rintro _ h
 rw [hj1] at h
 refine zyG (zyR 2 rfl (zaQ (v:=zI (Lib.compareBytes a1.data.toList b1.data.toList)) (vs:=[.string a1,.string b1]) rfl dc rfl rfl rfl zvD (zrB a1 b1) (zyR 2 rfl (zyN (zaD ?_)))))
 cases h
 exact zcu (rs:=[.tmp 6,.tmp 7]) () (.inl rfl) results11 (.cons (.tmp rfl) (.cons (.tmp rfl) .nil)) rfl Splits.nil
def zbJ (o1:zab) (j1:Option zBA) (r1:(List zac)) (ag1:Option zBA):Option zBA := zat (decide ((0:Int)<(r1.length:Int))) ( zak (zd7 r1 0) fun (q1:zac) => zat ((q1.sort:Int)==3) ( zak (zd7 o1.units q1.place) fun (q2:zBA) => zak (zc8 q2) fun (r2:zBA) => zak (zd4 r2) fun (r3:zBA) => some r3
) ( zat ((q1.sort:Int)==2) ( some (⟨#[48,45,57]⟩:zBA)
) ( j1
)
)
) ( j1
)
def zcd (o1:zab) (s1:zBA):Option zBA := zbF (fun (j1:Option zBA) => zak (zbZ o1 s1) fun (r1:(List zac)) => zaU none (zbJ o1 j1 r1) zcG
) ( some (⟨#[63]⟩:zBA)
)
theorem zd3 {bo1:Nat} {o1:zab} {o1_h0 o1_h1 o1_h2 o1_h3 o1_h4:Hd} {s1:zBA} {r:zBA} (h:zcd o1 s1=some r):FnR prog 16 [zP bo1,.string s1] [cells bo1 [o1_h0.v,.map (some (zaw o1_h1)),.map (some (zaw o1_h2)),.map (some (zaw o1_h3)),o1_h4.v] 79,zv0 o1_h0.v o1.units,za5 (fun n:zBA=>Value.string n) (fun n:Int=>Value.int .i64 n) (zaw o1_h1) o1.place,zbe (zaw o1_h2) o1.fors,za5 (fun n:zBA=>Value.string n) (fun n:Bool=>Value.bool n) (zaw o1_h3) o1.skips,zv0 o1_h4.v o1.lines] [] (fun _:Unit=>(.string r)) (fun _=>[]):=by
 unfold zcd at h
 refine FnR.intro func16 rfl ntmps16 (by simp) ?_
 intro w0 K hrd
 obtain ⟨j1,hj1,h⟩:=zbT h
 refine za2 (β:=Unit) 1 rfl (fun b=>j1=some r) (fun b=>[]) (fun b=>[]) (fun b=>[]) (fun cut => ?_) ?_
 ·
  refine zyG (zyR 1 rfl (zyN (cut (zyG (zyR 1 rfl (zaW rfl (zlO underlying23) (zyN (zcf rfl (zaM ?_)))))))))
  refine zao (zyR 2 rfl ?_)
  obtain ⟨r1,hq1,h⟩:=zbx h
  refine zh4 (vs:=[zP bo1,.string s1]) hrd rfl dc rfl rfl rfl zvE (zdT (bo1:=bo1) (o1:=o1) (o1_h0:=o1_h0) (o1_h1:=o1_h1) (o1_h2:=o1_h2) (o1_h3:=o1_h3) (o1_h4:=o1_h4) hq1) Splits.nil (.ro 0 rfl (.ro 1 rfl (.ro 2 rfl (.ro 3 rfl (.ro 4 rfl (.ro 5 rfl .nil)))))) ?_
  rintro v1
  refine zcr (k:=0) rfl (fun hd1 he1 => ?_)
  subst he1
  refine zdB (k:=0) rfl dc rfl rfl underlying62 (zyR 1 rfl (zyN (zaA ?_)))
  refine zbS (β:=Nat) (fun b=>zaU none (zbJ o1 j1 r1) b=some r) (fun b=>[]) (fun b=>[(0,zP bo1),(11,hd1.v),(12,zI (r1.length:Int)),(13,zI 0)]) (fun b=>[zv2 hd1.v r1]) (fun b=>b) zcG h rfl (za9 rfl) (zaa [0] kr rfl) ?_
  rintro n1 h
  cases n1 with
  | zero=>exact zez h
  | succ n1 =>
   obtain ⟨ag1,hag1⟩:∃ ag,ag=zaU none (zbJ o1 j1 r1) n1:=⟨_,rfl⟩
   have h:zbJ o1 j1 r1 ag1=some r:=by rw [hag1]; exact h
   unfold zbJ at h
   refine zyG (zaW rfl zbE (zyN (zaM ?_)))
   refine zyB rfl h (fun h => ?_) (fun h => ?_)
   ·
    refine zaq (zaG (zaM (zaA (zyG ?_))))
    obtain ⟨q1,hq2,h⟩:=zbx h
    refine zbo (k:=0) hq2 underlying62 ziq rfl dc rfl rfl rfl rfl (zgj (i:=(0:Int).toNat) (j:=0) (k:=0) (q:=q1) (cs:=(zr1 q1)) zi0 zbg rfl dc rfl rfl (zcj hq2) rfl rfl rfl ?_)
    refine za4 zol rfl dc (fun b1 => ?_)
    refine za6 (k:=1) (vs:=(zr1 q1)) (l':=(zr1 q1)) ziq rfl rfl rfl rfl rfl (show _≤_ by simp) rfl rfl ?_
    refine zyN (zaM (zyG (zag zoY rfl dc rfl (show _=0 from rfl) (zan (k:=1) zd8 rfl dc rfl rfl rfl (zyN (zaA (zyG (zaW rfl zbn (zyR 1 rfl ?_)))))))))
    refine zyN ?_
    refine zyB rfl h (fun h => ?_) (fun h => ?_)
    ·
     refine zaM ?_
     obtain ⟨q2,hq3,h⟩:=zbx h
     obtain ⟨r2,hq4,h⟩:=zbx h
     obtain ⟨r3,hq5,h⟩:=zbx h
     refine zdh 6 [(0,21,zP bo1),(1,22,zP bo1),(2,23,zP bo1),(3,24,o1_h0.v),(4,25,.pointer (some ⟨b1,1,none⟩)),(5,26,zI q1.place)] mixed kr kr dc (by rfl) kr kr (zyP 1 0 rfl (zad ?_ (zad ?_ (zad ?_ (zad ?_ (zad ?_ DrawPre.nil)))))) ?_
     · exact fun D n d c u i=>za1 rfl dc (zaT 0 u d) (zaK 1 u i)
     · exact fun D n d c u i=>zag ziF rfl dc (zaT 1 u d) (show _=0 from rfl) (zaK 2 u i)
     · exact fun D n d c u i=>zc2 (i:=0) hrd rfl zgY rfl dc (zaT 2 u d) rfl (zaK 3 u i)
     · exact fun D n d c u i=>zag zoX rfl dc (za8 (by rfl) rfl) (show _=1 from rfl) (zaK 4 u i)
     · exact fun D n d c u i=>zan (k:=1) zd8 rfl dc (zaT 4 u d) rfl rfl (zaK 5 u i)
     refine zbc (hrd.vw (i:=1) rfl) hq3 underlying38 ziS rfl dc rfl rfl rfl (zhL (n:=0+(q1.place:Int).toNat) (j:=0) (i:=1) (q:=q2) hrd rfl ze4 zcq rfl dc rfl (Vw.get (hrd.vw (i:=1) rfl) hq3) rfl dc rfl (zaQ (v:=.string r2) (vs:=[.string q2]) rfl dc rfl rfl rfl zvJ (zfP hq4) (zaQ (v:=.string r3) (vs:=[.string r2]) rfl dc rfl rfl rfl zy1 (zjt hq5) (zyR 1 rfl (zyN (zaD (zal (zai (zal (zai (zai (zal ?_))))))))))))
     refine zai ?_
     cases h
     exact zba 4 results16
    refine zyG (zaW rfl zbn (zyR 1 rfl (zyN ?_)))
    refine zyB rfl h (fun h => ?_) (fun h => ?_)
    ·
     refine zyG (zyR 1 rfl (zyN (zaD (zal (zai (zal (zai (zai (zal (zai ?_))))))))))
     cases h
     exact zba 4 results16
    refine zaq (zae (zaG (zbG (zh3 dc (zap (zap (zaI ?_)))))))
    exact zaj () h rfl (znf) Splits.nil
   refine zbG (zap (zap (zaI ?_)))
   exact zaj () h rfl (znf) Splits.nil
 rintro _ h
 rw [hj1] at h
 refine zyG (zyR 1 rfl (zyN (zaD ?_)))
 cases h
 exact zba 4 results16
abbrev cb:=Lib.compareBytes
theorem zfp (a b:UInt8) (x y:List UInt8):cb (a::x) (b::y)=if a.toNat<b.toNat then -1 else if b.toNat<a.toNat then 1 else cb x y:=by
 show (if a<b then (-1:Int) else if b<a then 1 else cb x y)=_
 simp only [UInt8.lt_iff_toNat_lt]
theorem zzd (b:UInt8) (y:List UInt8):cb [] (b::y)=-1:=rfl
theorem zze (b:UInt8) (y:List UInt8):cb (b::y) []=1:=rfl
theorem zm8:∀ x:List UInt8,cb x x=0
 | []=>rfl
 | a::x=>by rw [zfp,if_neg (Nat.lt_irrefl _),if_neg (Nat.lt_irrefl _),zm8 x]
theorem zsE:∀ {x y:List UInt8},cb x y=0→x=y
 | [],[],_=>rfl
 | [],_::_,h=>by cases h
 | _::_,[],h=>by cases h
 | a::x,b::y,h=>by
  rw [zfp] at h
  split at h
  ·cases h
  ·split at h
   ·cases h
   ·have:a=b:=UInt8.toNat_inj.1 (by omega)
    rw [this,zsE h]
theorem zuC:∀ x y:List UInt8,cb x y=-1∨cb x y=0∨cb x y=1
 | [],[]=>.inr (.inl rfl)
 | [],_::_=>.inl rfl
 | _::_,[]=>.inr (.inr rfl)
 | a::x,b::y=>by
  rw [zfp]
  split
  ·exact .inl rfl
  ·split
   ·exact .inr (.inr rfl)
   ·exact zuC x y
def zs9:Int→List (List UInt8)→List (List UInt8)→Int×Int
 | i,x::xs,y::ys=>if cb x y=0 then zs9 (i+1) xs ys else (cb x y,i)
 | _,_,_=>(0,0)
theorem zn0:∀ (l:List (List UInt8)) (i:Int),zs9 i l l=(0,0)
 | [],i=>rfl
 | x::xs,i=>by rw [zs9,if_pos (zm8 x),zn0 xs]
theorem zm9:∀ (a:List UInt8) (x y:List UInt8),cb (a++x) (a++y)=cb x y
 | [],x,y=>rfl
 | c::a,x,y=>by rw [List.cons_append,List.cons_append,zfp,if_neg (Nat.lt_irrefl _),if_neg (Nat.lt_irrefl _),zm9 a]
def be:Nat→Nat→List UInt8
 | 0,_=>[]
 | k+1,m=>UInt8.ofNat (m / 256 ^ k)::be k (m % 256 ^ k)
theorem zp0:∀ (k m n:Nat) (r s:List UInt8),m<256 ^ k→n<256 ^ k→cb (be k m++r) (be k n++s)=if m<n then -1 else if n<m then 1 else cb r s
 | 0,m,n,r,s,hm,hn=>by
  have:m=0:=by simpa using hm
  have:n=0:=by simpa using hn
  subst m; subst n; rfl
 | k+1,m,n,r,s,hm,hn=>by
  rw [be,be,List.cons_append,List.cons_append,zfp,zp0 k _ _ r s (Nat.mod_lt _ (Nat.pow_pos (by omega))) (Nat.mod_lt _ (Nat.pow_pos (by omega)))]
  have e1:=Nat.div_add_mod m (256 ^ k)
  have e2:=Nat.div_add_mod n (256 ^ k)
  have l1:m / 256 ^ k<256:=Nat.div_lt_of_lt_mul (by rw [Nat.pow_succ] at hm; exact hm)
  have l2:n / 256 ^ k<256:=Nat.div_lt_of_lt_mul (by rw [Nat.pow_succ] at hn; exact hn)
  have m1:=Nat.mod_lt m (Nat.pow_pos (n:=k) (show 0<256 by omega))
  have m2:=Nat.mod_lt n (Nat.pow_pos (n:=k) (show 0<256 by omega))
  generalize 256 ^ k=P at *
  generalize m / P=a at *
  generalize n / P=b at *
  have hu:∀ x:Nat,x<256→(UInt8.ofNat x).toNat=x:=fun x hx=>by
   simp only [UInt8.toNat_ofNat']
   omega
  rw [hu a l1,hu b l2]
  by_cases c1:a<b
  ·rw [if_pos c1,if_pos]
   have:P*(a+1)≤P*b:=Nat.mul_le_mul_left P c1
   rw [Nat.mul_add] at this
   omega
  ·rw [if_neg c1]
   by_cases c2:b<a
   ·have:P*(b+1)≤P*a:=Nat.mul_le_mul_left P c2
    rw [Nat.mul_add] at this
    rw [if_pos c2,if_neg (by omega),if_pos (by omega)]
   ·have:a=b:=by omega
    subst this
    rw [if_neg c2]
    by_cases c3:m % P<n % P
    ·rw [if_pos c3,if_pos (by omega)]
    ·rw [if_neg c3]
     by_cases c4:n % P<m % P
     ·rw [if_pos c4,if_neg (by omega),if_pos (by omega)]
     ·rw [if_neg c4,if_neg (by omega),if_neg (by omega)]
def sg (n:Int):Int:=if n<0 then -1 else if 0<n then 1 else 0
theorem zwW (x y:List UInt8):sg (cb x y)=cb x y:=by rcases zuC x y with h | h | h <;> rw [h] <;> rfl
theorem sg_zero {n:Int}:sg n=0↔n=0:=by
 unfold sg
 by_cases h:n<0
 ·rw [if_pos h]; omega
 ·rw [if_neg h]
  by_cases h2:0<n
  ·rw [if_pos h2]; omega
  ·rw [if_neg h2]; omega
def zwn (a b:Int):Int:=if a=0 then b else a
def zfJ (a b:El):Int:=zwn (a.sort - b.sort) (zwn (a.place - b.place) (zwn ((a.digits.size:Int) - (b.digits.size:Int)) (cb a.digits.data.toList b.digits.data.toList)))
def zhs (a b:El):Int:=cb a.marks.data.toList b.marks.data.toList
def zjh (a b:El):Int:=a.great - b.great
def zhv (c:El→El→Int):List El→List El→Int
 | [],[]=>0
 | [],_::_=>-1
 | _::_,[]=>1
 | x::xs,y::ys=>if c x y=0 then zhv c xs ys else c x y
theorem zmJ {c:El→El→Int}:∀ {x y:List El},zhv c x y=0→x.length=y.length
 | [],[],_=>rfl
 | [],_::_,h=>by cases h
 | _::_,[],h=>by cases h
 | x::xs,y::ys,h=>by
  rw [zhv] at h
  split at h
  ·rw [List.length_cons,List.length_cons,zmJ h]
  ·rename_i h1; exact absurd h h1
structure zfu (e:El):Prop where
 so:e.sort=1∨e.sort=2∨e.sort=3∨e.sort=4
 pl:0≤e.place∧e.place<65536
 di:e.digits.size≤300000
 nd:e.sort≠2→e.digits=ByteArray.empty
 ma:∀ c∈e.marks.data.toList,c≠0
 ml:e.marks.size≤300000
 gr:e.great=0∨e.great=1
def c1 (e:El):List UInt8:=be 1 e.sort.toNat++be 2 e.place.toNat++(if e.sort=2 then be 4 e.digits.size++e.digits.data.toList else [])
def k1 (x:List El):List UInt8:=x.flatMap c1++[0]
def k2 (x:List El):List UInt8:=x.flatMap fun e=>e.marks.data.toList++[0]
def k3 (x:List El):List UInt8:=x.map fun e=>UInt8.ofNat e.great.toNat
theorem zpY:∀ {x y r s:List UInt8},x.length=y.length→cb (x++r) (y++s)=if cb x y=0 then cb r s else cb x y
 | [],[],r,s,_=>by rw [zm8,if_pos rfl]; rfl
 | a::x,b::y,r,s,h=>by
  rw [List.cons_append,List.cons_append,zfp,zfp,zpY (by simpa using h)]
  by_cases h1:a.toNat<b.toNat
  ·simp only [if_pos h1]; rfl
  ·simp only [if_neg h1]
   by_cases h2:b.toNat<a.toNat
   ·simp only [if_pos h2]; rfl
   ·simp only [if_neg h2]
theorem zxy {a b:El} (ha:zfu a) (hb:zfu b) (r s:List UInt8):cb (c1 a++r) (c1 b++s)=if zfJ a b=0 then cb r s else sg (zfJ a b):=by
 have s1:=ha.so; have s2:=hb.so; have p1:=ha.pl; have p2:=hb.pl; have d1:=ha.di; have d2:=hb.di
 unfold c1 zfJ zwn
 rw [List.append_assoc,List.append_assoc,List.append_assoc,List.append_assoc,zp0 1 _ _ _ _ (by omega) (by omega),zp0 2 _ _ _ _ (by omega) (by omega)]
 by_cases h1:a.sort - b.sort=0
 ·have e1:a.sort=b.sort:=by omega
  rw [if_pos h1,e1,if_neg (Nat.lt_irrefl _),if_neg (Nat.lt_irrefl _)]
  by_cases h2:a.place - b.place=0
  ·have e2:a.place=b.place:=by omega
   rw [if_pos h2,e2,if_neg (Nat.lt_irrefl _),if_neg (Nat.lt_irrefl _)]
   by_cases h3:b.sort=2
   ·rw [if_pos h3,if_pos h3,List.append_assoc,List.append_assoc,zp0 4 _ _ _ _ (by omega) (by omega)]
    by_cases h4:(a.digits.size:Int) - (b.digits.size:Int)=0
    ·rw [if_pos h4,if_neg (by omega),if_neg (by omega),zpY (by rw [← zbY,← zbY]; omega),zwW]
    ·rw [if_neg h4,if_neg h4]
     unfold sg
     by_cases h5:a.digits.size<b.digits.size
     ·rw [if_pos h5,if_pos (by omega)]
     ·rw [if_neg h5,if_pos (by omega),if_neg (by omega),if_pos (by omega)]
   ·rw [if_neg h3,if_neg h3,ha.nd (by omega),hb.nd h3]
    rfl
  ·rw [if_neg h2,if_neg h2]
   unfold sg
   by_cases h5:a.place.toNat<b.place.toNat
   ·rw [if_pos h5,if_pos (by omega)]
   ·rw [if_neg h5,if_pos (by omega),if_neg (by omega),if_pos (by omega)]
 ·rw [if_neg h1,if_neg h1]
  unfold sg
  by_cases h5:a.sort.toNat<b.sort.toNat
  ·rw [if_pos h5,if_pos (by omega)]
  ·rw [if_neg h5,if_pos (by omega),if_neg (by omega),if_pos (by omega)]
theorem zsF {e:El} (h:zfu e):∃ c l,c1 e=c::l∧0<c.toNat:=by
 have:=h.so
 refine ⟨UInt8.ofNat (e.sort.toNat / 256 ^ 0),_,rfl,?_⟩
 rw [Nat.pow_zero,Nat.div_one,UInt8.toNat_ofNat']
 omega
theorem zux:∀ {x y:List El} (r s:List UInt8),(∀ e∈x,zfu e)→(∀ e∈y,zfu e)→cb (k1 x++r) (k1 y++s)=if zhv zfJ x y=0 then cb r s else sg (zhv zfJ x y)
 | [],[],r,s,_,_=>zm9 [0] r s
 | [],b::y,r,s,_,hb=>by
  obtain ⟨c,l,e,hc⟩:=zsF (hb b (List.mem_cons_self ..))
  unfold k1
  rw [List.flatMap_cons,e,List.flatMap_nil]
  show cb (0::([]++r)) (c::_)=_
  rw [zfp,if_pos (by show (0:UInt8).toNat<_; exact hc)]; rfl
 | a::x,[],r,s,ha,_=>by
  obtain ⟨c,l,e,hc⟩:=zsF (ha a (List.mem_cons_self ..))
  unfold k1
  rw [List.flatMap_cons,e,List.flatMap_nil]
  show cb (c::_) (0::([]++s))=_
  rw [zfp,if_neg (by show ¬ _<(0:UInt8).toNat; exact Nat.not_lt_zero _),if_pos (by show (0:UInt8).toNat<_; exact hc)]; rfl
 | a::x,b::y,r,s,ha,hb=>by
  have e1:∀ (e:El) (l:List El) (r:List UInt8),k1 (e::l)++r=c1 e++(k1 l++r):=fun e l r=>by unfold k1; rw [List.flatMap_cons]; simp
  rw [e1,e1,zxy (ha a (List.mem_cons_self ..)) (hb b (List.mem_cons_self ..)),zux r s (fun e h=>ha e (List.mem_cons_of_mem _ h)) (fun e h=>hb e (List.mem_cons_of_mem _ h)),zhv]
  by_cases h:zfJ a b=0
  ·simp only [if_pos h]
  ·simp only [if_neg h]
theorem zpA:∀ {x y r s:List UInt8},(∀ c∈x,c≠0)→(∀ c∈y,c≠0)→cb (x++0::r) (y++0::s)=if cb x y=0 then cb r s else cb x y
 | [],[],r,s,_,_=>by rw [zm8,if_pos rfl]; exact zm9 [0] r s
 | [],b::y,r,s,_,hb=>by
  have:b.toNat≠0:=fun h=>hb b (List.mem_cons_self ..) (UInt8.toNat_inj.1 h)
  show cb (0::r) (b::(y++0::s))=_
  rw [zfp,if_pos (by show (0:UInt8).toNat<_; show 0<_; omega),zzd]; rfl
 | a::x,[],r,s,ha,_=>by
  have:a.toNat≠0:=fun h=>ha a (List.mem_cons_self ..) (UInt8.toNat_inj.1 h)
  show cb (a::(x++0::r)) (0::s)=_
  rw [zfp,if_neg (by show ¬ _<(0:UInt8).toNat; exact Nat.not_lt_zero _),if_pos (by show (0:UInt8).toNat<_; show 0<_; omega),zze]; rfl
 | a::x,b::y,r,s,ha,hb=>by
  rw [List.cons_append,List.cons_append,zfp,zfp,zpA (fun c h=>ha c (List.mem_cons_of_mem _ h)) (fun c h=>hb c (List.mem_cons_of_mem _ h))]
  by_cases h1:a.toNat<b.toNat
  ·simp only [if_pos h1]; rfl
  ·simp only [if_neg h1]
   by_cases h2:b.toNat<a.toNat
   ·simp only [if_pos h2]; rfl
   ·simp only [if_neg h2]
theorem zuw:∀ {x y:List El} (r s:List UInt8),(∀ e∈x,zfu e)→(∀ e∈y,zfu e)→x.length=y.length→cb (k2 x++r) (k2 y++s)=if zhv zhs x y=0 then cb r s else sg (zhv zhs x y)
 | [],[],r,s,_,_,_=>rfl
 | a::x,b::y,r,s,ha,hb,h=>by
  have e1:∀ (e:El) (l:List El) (r:List UInt8),k2 (e::l)++r=e.marks.data.toList++0::(k2 l++r):=fun e l r=>by unfold k2; rw [List.flatMap_cons]; simp
  rw [e1,e1,zpA (ha a (List.mem_cons_self ..)).ma (hb b (List.mem_cons_self ..)).ma,zuw r s (fun e h=>ha e (List.mem_cons_of_mem _ h)) (fun e h=>hb e (List.mem_cons_of_mem _ h)) (by simpa using h),zhv]
  show (if zhs a b=0 then _ else zhs a b)=_
  by_cases h:zhs a b=0
  ·simp only [if_pos h]
  ·simp only [if_neg h]; exact (zwW _ _).symm
theorem zuv:∀ {x y:List El} (r s:List UInt8),(∀ e∈x,zfu e)→(∀ e∈y,zfu e)→x.length=y.length→cb (k3 x++r) (k3 y++s)=if zhv zjh x y=0 then cb r s else sg (zhv zjh x y)
 | [],[],r,s,_,_,_=>rfl
 | a::x,b::y,r,s,ha,hb,h=>by
  have g1:=(ha a (List.mem_cons_self ..)).gr
  have g2:=(hb b (List.mem_cons_self ..)).gr
  have ih:=zuv r s (fun e h=>ha e (List.mem_cons_of_mem _ h)) (fun e h=>hb e (List.mem_cons_of_mem _ h)) (x:=x) (y:=y) (by simpa using h)
  show cb (UInt8.ofNat a.great.toNat::(k3 x++r)) (UInt8.ofNat b.great.toNat::(k3 y++s))=_
  rw [zfp,ih,zhv]
  unfold zjh
  rcases g1 with g1 | g1 <;> rcases g2 with g2 | g2 <;> rw [g1,g2] <;> rfl
theorem zzG (l:List Int) (hl:l.length≤1000):zfo l=some ((l.find? fun x=>!decide (x=0)).getD 0):=by
 unfold zfo
 refine zb8 ?_
 have:=zzF (xs:=l) (F:=zdw l (some 0)) (bot:=fun _=>none) (g:=fun x=>if x=0 then none else some (some x)) (J:=some 0) (fun ag k x hx=>by
  have hk:=zkb hx
  unfold zdw
  refine zaL (zlD hx) (zaR (zht hx) ?_)
  by_cases h:x=0
  ·rw [if_pos h]; exact zaF (by rw [h]; rfl) (zct (zf8 (by omega)) rfl)
  ·rw [if_neg h]; exact zaL (bne_iff_ne.2 h) rfl) (fun ag=>by unfold zdw; exact zaF zlE rfl) (n:=zcG) (zfs (by omega))
 refine this.trans ?_
 clear this hl
 induction l with
 | nil=>rfl
 | cons a l ih =>
  rw [List.findSome?_cons,List.find?_cons]
  by_cases h:a=0
  ·rw [if_pos h,h]; exact ih
  ·rw [if_neg h,decide_eq_false h]; rfl
theorem zvu (a b:El) (ha:zfu a) (hb:zfu b):zd1 a b=some (zfJ a b):=by
 have s1:=ha.so; have s2:=hb.so; have p1:=ha.pl; have p2:=hb.pl; have d1:=ha.di; have d2:=hb.di
 unfold zd1
 refine zct ⟨by omega,by omega⟩ (zct ⟨by omega,by omega⟩ (zct ⟨by omega,by omega⟩ (zaR (zzG _ (show 4≤1000 by omega)) ?_)))
 congr 1
 unfold zfJ zwn
 simp only [List.find?_cons,List.find?_nil]
 by_cases h1:a.sort - b.sort=0
 ·simp only [h1,decide_true,Bool.not_true,if_true]
  by_cases h2:a.place - b.place=0
  ·simp only [h2,decide_true,Bool.not_true,if_true]
   by_cases h3:(a.digits.size:Int) - (b.digits.size:Int)=0
   ·simp only [h3,decide_true,Bool.not_true,if_true]
    by_cases h4:Lib.compareBytes a.digits.data.toList b.digits.data.toList=0
    ·simp only [h4,decide_true,Bool.not_true]; rfl
    ·simp only [h4,decide_false,Bool.not_false]; rfl
   ·simp only [h3,decide_false,Bool.not_false,if_false]; rfl
  ·simp only [h2,decide_false,Bool.not_false,if_false]; rfl
 ·simp only [h1,decide_false,Bool.not_false,if_false]; rfl
theorem zo6 {F:(Int→Option Int)→Int→Option Int} {cv:El→El→Option Int} {c:El→El→Int} (x y:List El) (hl:x.length≤1000000000)
  (hF:∀ ag k,F ag k=zat (decide ((k:Int)<(x.length:Int))) (zak (zd7 x k) fun (q1:El)=>zat (decide (((y.length:Int):Int)≤k)) (some 1) (zak (zd7 y k) fun (q2:El)=>zak (cv q1 q2) fun (r1:Int)=>zat ((r1:Int) != 0) (some r1) (grd (I64 (k+1))<|ag (k+1)))) (zat (decide (((x.length:Int):Int)<(y.length:Int))) (some (-1)) (some 0)))
  (hc:∀ a∈x,∀ b∈y,cv a b=some (c a b)):zaU (fun _=>none) F zcG 0=some (zhv c x y):=by
 have key:∀ (n k:Nat),k≤x.length→k≤y.length→x.length - k<n→zaU (fun _=>none) F n (k:Int)=some (zhv c (x.drop k) (y.drop k)):=by
  intro n
  induction n with
  | zero=>intro k _ _ h; omega
  | succ n ih =>
   intro k hk1 hk2 hn
   rw [zfO,hF]
   by_cases h:k<x.length
   ·have hx:x[k]?=some x[k]:=List.getElem?_eq_getElem h
    refine zaL (decide_eq_true (by omega)) (zaR (zht hx) ?_)
    rw [List.drop_eq_getElem_cons h]
    by_cases h2:k<y.length
    ·have hy:y[k]?=some y[k]:=List.getElem?_eq_getElem h2
     refine zaF (decide_eq_false (by omega)) (zaR (zht hy) (zaR (hc _ (List.getElem_mem _) _ (List.getElem_mem _)) ?_))
     rw [List.drop_eq_getElem_cons h2,zhv]
     by_cases h0:c x[k] y[k]=0
     ·rw [if_pos h0]
      refine zaF (by rw [h0]; rfl) (zct ⟨by omega,by omega⟩ ?_)
      have:=ih (k+1) (by omega) (by omega) (by omega)
      push_cast at this
      exact this
     ·rw [if_neg h0]; exact zaL (bne_iff_ne.2 h0) rfl
    ·refine zaL (decide_eq_true (by omega)) ?_
     rw [List.drop_eq_nil_of_le (show y.length≤k by omega)]; rfl
   ·refine zaF (decide_eq_false (by omega)) ?_
    rw [List.drop_eq_nil_of_le (show x.length≤k by omega)]
    by_cases h2:k<y.length
    ·rw [List.drop_eq_getElem_cons h2]
     exact zaL (decide_eq_true (by omega)) rfl
    ·rw [List.drop_eq_nil_of_le (show y.length≤k by omega)]
     exact zaF (decide_eq_false (by omega)) rfl
 have:=key zcG 0 (Nat.zero_le _) (Nat.zero_le _) (by unfold zcG; omega)
 simpa using this
theorem zrx (n:Int):zdR n=some (sg n):=by
 unfold zdR
 refine zaR (a:=sg n) ?_ rfl
 unfold zer
 refine zaR (a:=false) (by unfold zen; simp) (zaR (a:=false) (by decide) (zaF rfl (zaF rfl ?_)))
 unfold sg
 by_cases h:n<0
 ·rw [if_pos h]; exact zaL (decide_eq_true h) rfl
 ·rw [if_neg h]
  refine zaF (decide_eq_false h) ?_
  by_cases h2:0<n
  ·rw [if_pos h2]; exact zaL (decide_eq_true h2) rfl
  ·rw [if_neg h2]; exact zaF (decide_eq_false h2) rfl
end Go.Proofs.YtifpjbgnikjglaaDoor
