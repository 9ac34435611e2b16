/-
  Texts laid together: LqZ, PqC, PqD, PqE, LqE, LqB, Cb, LqG, LqH, PqF, PqG, PqH, PqI, LgC, LgA, PgB, PgC, PgD, LgB, LgD. Nothing is assumed.
-/
import Derived.Test.YtbempdelckaccaaGreatDoorPageRows4
import Derived.Test.YtbempdelckaccaaGreatDoorPageRows2
import Derived.Test.YtbempdelckaccaaGreatDoorPageRows3
set_option maxRecDepth 100000
set_option maxHeartbeats 4000000

namespace Go.Proofs.YtbempdelckaccaaGreatDoor
open Go.RowKit Go.Lib
set_option linter.unusedVariables false
set_option linter.unusedSimpArgs false
def zcQ (s1:ByteArray) (j1:ByteArray→(List (List ByteArray))→(List Gapi_Verse)→Option (Gref17_Poem×(List Gapi_Verse)×Gapi_Spot)) (r1:(List Gapi_Span)) (ag1:ByteArray→(List (List ByteArray))→(List Gapi_Verse)→Bool→Bool→Int→Option (Gref17_Poem×(List Gapi_Verse)×Gapi_Spot)) (p10:ByteArray) (p11:List (List ByteArray)) (l4:List Gapi_Verse) (first3:Bool) (row3:Bool) (i3:Int):Option (Gref17_Poem×(List Gapi_Verse)×Gapi_Spot) :=
zaw (decide ((i3:Int)<(r1.length:Int))) (
zbi (fun (j2:ByteArray→(List (List ByteArray))→(List Gapi_Verse)→Bool→Bool→Option (Gref17_Poem×(List Gapi_Verse)×Gapi_Spot)) =>
zal (zcb r1 i3) fun (q1:Gapi_Span) =>
grd (0≤(q1.From:Int)∧(q1.From:Int)≤q1.To∧(q1.To:Int)≤(s1.size:Int)) <|
zal (zeC (zbU s1 q1.From q1.To)) fun (r2:Bool) =>
zaw (r2) (
j2 p10 p11 l4 first3 false
) (
zaw (decide ((1024:Int)<((zbU s1 q1.From q1.To).size:Int))) (
grd (I64 (q1.From+1024)) <|
some ((⟨ByteArray.empty,([]:List (List ByteArray))⟩:Gref17_Poem),([]:List Gapi_Verse),(⟨3,q1.From+1024⟩:Gapi_Spot))
) (
zbi (fun (j3:Option (Gref17_Poem×(List Gapi_Verse)×Gapi_Spot)) =>
zaw (first3) (
zal (zeL (zbU s1 q1.From q1.To)) fun (r3:Bool) =>
zaw (r3) (
zbi (fun (j4:ByteArray→Option (Gref17_Poem×(List Gapi_Verse)×Gapi_Spot)) =>
zaw (decide ((2:Int)<((zbU s1 q1.From q1.To).size:Int))) (
grd (0≤(2:Int)∧(2:Int)≤((zbU s1 q1.From q1.To).size:Int)∧(((zbU s1 q1.From q1.To).size:Int):Int)≤((zbU s1 q1.From q1.To).size:Int)) <|
j4 (zbU (zbU s1 q1.From q1.To) 2 ((zbU s1 q1.From q1.To).size:Int))
) (
j4 p10
)
) (fun (p14:ByteArray) =>
j2 p14 p11 l4 false row3
)
) (
j3
)
) (
j3
)
) (
zaw (((l4.length:Int):Int)==512) (
some ((⟨ByteArray.empty,([]:List (List ByteArray))⟩:Gref17_Poem),([]:List Gapi_Verse),(⟨3,q1.From⟩:Gapi_Spot))
) (
zbi (fun (j5:(List (List ByteArray))→Option (Gref17_Poem×(List Gapi_Verse)×Gapi_Spot)) =>
zaw (!row3) (
grd (p11.length+1≤2147483648) <|
j5 (p11++[([]:List ByteArray)])
) (
j5 p11
)
) (fun (p15:List (List ByteArray)) =>
grd (I64 ((p15.length:Int) - 1)) <|
zal (zb5 (zbU s1 q1.From q1.To)) fun (r4:Int) =>
grd (0≤(r4:Int)∧(r4:Int)≤((zbU s1 q1.From q1.To).size:Int)∧(((zbU s1 q1.From q1.To).size:Int):Int)≤((zbU s1 q1.From q1.To).size:Int)) <|
zal (zb5 (zbU s1 q1.From q1.To)) fun (r5:Int) =>
zal (zcb p15 ((p15.length:Int) - 1)) fun (x1:List ByteArray) =>
zal (zb5 (zbU s1 q1.From q1.To)) fun (r6:Int) =>
grd (I64 (q1.From+r6)) <|
grd (l4.length+1≤2147483648) <|
zal (zcb p15 ((p15.length:Int) - 1)) fun (x2:List ByteArray) =>
grd (x2.length+1≤2147483648) <|
j2 p10 (p15.set ((p15.length:Int) - 1:Int).toNat (x2++[zbU s1 q1.From q1.To])) (l4++[(⟨zbU (zbU s1 q1.From q1.To) r4 ((zbU s1 q1.From q1.To).size:Int),r5,(p15.length:Int) - 1,(x1.length:Int),q1.From+r6,q1.To⟩:Gapi_Verse)]) false true
)
)
)
)
)
) (fun (p12:ByteArray) (p13:List (List ByteArray)) (l5:List Gapi_Verse) (first4:Bool) (row4:Bool) =>
grd (I64 (i3+1)) <|
ag1 p12 p13 l5 first4 row4 (i3+1)
)
) (
j1 p10 p11 l4
)
def zfJ (s1:ByteArray):Option (Gref17_Poem×(List Gapi_Verse)×Gapi_Spot) :=
zaw (decide ((65536:Int)<(s1.size:Int))) (
some ((⟨ByteArray.empty,([]:List (List ByteArray))⟩:Gref17_Poem),([]:List Gapi_Verse),(⟨3,65536⟩:Gapi_Spot))
) (
zbi (fun (j1:ByteArray→(List (List ByteArray))→(List Gapi_Verse)→Option (Gref17_Poem×(List Gapi_Verse)×Gapi_Spot)) =>
zal (zfe s1) fun (r1:(List Gapi_Span)) =>
zaF (fun _ _ _ _ _ _=>none) (zcQ s1 j1 r1) zbT ByteArray.empty ([]:List (List ByteArray)) ([]:List Gapi_Verse) true false 0
) (fun (p1:ByteArray) (p2:List (List ByteArray)) (l1:List Gapi_Verse) =>
some ((⟨p1,p2⟩:Gref17_Poem),l1,(⟨0,0⟩:Gapi_Spot))
)
)
theorem zmT {s1:ByteArray} {r:(Gref17_Poem×(List Gapi_Verse)×Gapi_Spot)} (h:zfJ s1=some r):Fn Tryz.prog 68 [.string s1] [] (fun b:Hd×Value=>.tuple #[.agg #[.string r.1.Title,b.1.v],b.2,.agg (zr6 r.2.2).toArray]) (fun b=>[zfM zbz zbx 70 1 b.1.v r.1.Stanzas,zv6 b.2 r.2.1]):=by
 unfold zfJ at h
 refine Fn.intro Tryz.func68 rfl Tryz.ntmps68 (by simp) ?_
 intro w0 K
 refine zyG ?_
 refine zbc zqD rfl dc (fun b1 => ?_)
 refine zyR 1 rfl ?_
 refine zbc zsz rfl dc (fun b2 => ?_)
 refine zyH ?_
 refine zbc zqD rfl dc (fun b3 => ?_)
 refine zyH (zyR 1 rfl (zyN (zaJ (zyG (zyR 1 rfl (zbS rfl dc rfl Tryz.underlying9 (zaW rfl zcK (zaQ ?_))))))))
 refine zaI ?_
 refine zyB rfl h (fun h => ?_) (fun h => ?_)
 ·
  refine zyG (zbb (k:=2) (cs:=[.string ByteArray.empty,.slice none 0 0]) zl6 rfl dc rfl rfl rfl rfl ?_)
  refine za7 (v:=.agg #[zI 3,zI 65536]) (ps:=[(0,.const (zI 3)),(1,.const (zI 65536))]) rfl dc rfl (fun _=>by kernel_rfl) ?_
  refine za0 (k:=0) (vs:=[.string ByteArray.empty,.slice none 0 0]) (l':=[.string ByteArray.empty,.slice none 0 0]) znv rfl rfl rfl rfl rfl (show _≤_ by simp) rfl rfl ?_
  refine zyR 1 rfl (za0 (k:=1) (vs:=[zI 3,zI 65536]) (l':=[zI 3,zI 65536]) zks rfl rfl rfl rfl rfl (show _≤_ by simp) rfl rfl (zyN (zaE (zaq (zoY (enc:=zbz) (nest:=zbx) (e:=70) (size:=1) ?_)))))
  refine zda (enc:=zbA) (e:=76) (size:=6) ?_
  cases h
  exact zaS (rs:=[.cell 2 135,.tmp 3,.cell 4 60]) (Hd.nil,(.slice none 0 0)) (.inl rfl) Tryz.results68 (.cons (.cells zl6 (k:=0) rfl rfl rfl) (.cons (.tmp rfl) (.cons (.cells zmK (k:=1) rfl rfl rfl) .nil))) rfl (zad [3,4] kr rfl)
 refine zas (zaI ?_)
 obtain ⟨j1,hj1,h⟩:=zbF h
 refine za1 (β:=ByteArray×(List (List ByteArray))×(List Gapi_Verse)×Hd×Hd) 2 rfl (fun b=>j1 b.1 b.2.1 b.2.2.1=some r) (fun b=>[]) (fun b=>[(2,zP b1),(4,zP b2),(5,zP b3),(6,b.2.2.2.2.v)]) (fun b=>[cells b1 [.string ByteArray.empty,.slice none 0 0] 135,cells b2 [zI 0,zI 0] 60,cells b3 [.string b.1,b.2.2.2.1.v] 135,zfM zbz zbx 70 1 b.2.2.2.1.v b.2.1,zv6 b.2.2.2.2.v b.2.2.1]) (fun cut => ?_) ?_
 ·
  refine zyG (zyR 1 rfl ?_)
  obtain ⟨r1,hq1,h⟩:=zbw h
  refine zdu (vs:=[.string s1]) rfl dc rfl rfl rfl zxu (zlI hq1) Splits.nil ?_
  rintro v1
  refine zbu (k:=3) rfl (fun hd3 he1 => ?_)
  subst he1
  refine zyR 1 rfl (zyH (zyR 2 rfl (zyN (cut (zyG (zyR 1 rfl (zaQ ?_)))))))
  refine zaI (zaC (zsp (enc:=zbz) (nest:=zbx) (e:=70) (size:=1) ?_))
  refine zc1 (enc:=zbA) (e:=76) (size:=6) ?_
  refine zbq (β:=Nat×ByteArray×(List (List ByteArray))×(List Gapi_Verse)×Bool×Bool×Int×Hd×Hd) (fun b=>zaF (fun _ _ _ _ _ _=>none) (zcQ s1 j1 r1) b.1 b.2.1 b.2.2.1 b.2.2.2.1 b.2.2.2.2.1 b.2.2.2.2.2.1 b.2.2.2.2.2.2.1=some r) (fun b=>[]) (fun b=>[(0,.string s1),(2,zP b1),(4,zP b2),(5,zP b3),(6,b.2.2.2.2.2.2.2.2.v),(7,hd3.v),(8,.bool b.2.2.2.2.1),(9,.bool b.2.2.2.2.2.1),(10,zI b.2.2.2.2.2.2.1)]) (fun b=>[cells b1 [.string ByteArray.empty,.slice none 0 0] 135,cells b2 [zI 0,zI 0] 60,cells b3 [.string b.2.1,b.2.2.2.2.2.2.2.1.v] 135,zfM zbz zbx 70 1 b.2.2.2.2.2.2.2.1.v b.2.2.1,zv6 b.2.2.2.2.2.2.2.2.v b.2.2.2.1,zv5 hd3.v r1]) (fun b=>b.1) (zbT,ByteArray.empty,([]:List (List ByteArray)),([]:List Gapi_Verse),true,false,0,Hd.nil,Hd.nil) h rfl (za5 rfl) (zad [0,1,2,4,5,3] kr rfl) ?_
  rintro ⟨n1,p10,p11,l4,first3,row3,i3,hd9,hd10⟩ h
  cases n1 with
  | zero=>exact zdM h
  | succ n1 =>
   obtain ⟨ag1,hag1⟩:∃ ag,ag=zaF (fun _ _ _ _ _ _=>none) (zcQ s1 j1 r1) n1:=⟨_,rfl⟩
   have h:zcQ s1 j1 r1 ag1 p10 p11 l4 first3 row3 i3=some r:=by rw [hag1]; exact h
   unfold zcQ at h
   refine zaJ (zyG (zyR 2 rfl (zbl (k:=5) rfl dc rfl rfl Tryz.underlying102 (zaW rfl zbC (zyN ?_)))))
   refine zyB rfl h (fun h => ?_) (fun h => ?_)
   ·
    refine zas (zaI ?_)
    obtain ⟨j2,hj2,h⟩:=zbF h
    refine za1 (β:=ByteArray×(List (List ByteArray))×(List Gapi_Verse)×Bool×Bool×Hd×Hd) 0 rfl (fun b=>j2 b.1 b.2.1 b.2.2.1 b.2.2.2.1 b.2.2.2.2.1=some r) (fun b=>[]) (fun b=>[(0,.string s1),(2,zP b1),(4,zP b2),(5,zP b3),(6,b.2.2.2.2.2.2.v),(7,hd3.v),(8,.bool b.2.2.2.1),(9,.bool b.2.2.2.2.1),(10,zI i3)]) (fun b=>[cells b1 [.string ByteArray.empty,.slice none 0 0] 135,cells b2 [zI 0,zI 0] 60,cells b3 [.string b.1,b.2.2.2.2.2.1.v] 135,zfM zbz zbx 70 1 b.2.2.2.2.2.1.v b.2.1,zv6 b.2.2.2.2.2.2.v b.2.2.1,zv5 hd3.v r1]) (fun cut => ?_) ?_
    ·
     refine cut (zaC (zyG (zyR 2 rfl ?_)))
     obtain ⟨q1,hq2,h⟩:=zbw h
     refine zar (k:=5) hq2 Tryz.underlying102 zkt rfl dc rfl rfl rfl rfl (zdP (i:=(i3:Int).toNat) (j:=0) (k:=5) (q:=q1) (cs:=(zr5 q1)) znB zbp rfl dc rfl rfl (zaG hq2) rfl rfl rfl ?_)
     refine zbc zqC rfl dc (fun b4 => ?_)
     refine za0 (k:=6) (vs:=(zr5 q1)) (l':=(zr5 q1)) zkt rfl rfl rfl rfl rfl (show _≤_ by simp) rfl rfl ?_
     refine zyH (zyR 1 rfl (zab zdc rfl dc rfl (show _=0 from rfl) (zam (k:=6) zbr rfl dc rfl rfl rfl (zab zdY rfl dc rfl (show _=1 from rfl) (zam (k:=6) zbr rfl dc rfl rfl rfl ?_)))))
     obtain ⟨hg1,h⟩:=zbn h
     refine zeH rfl dc rfl rfl rfl (zci (i:=q1.From) (j:=q1.To) Tryz.underlying9 (.inr rfl) (.inr rfl) hg1) (zyR 1 rfl (zyN (zaJ (zyG (zyR 1 rfl ?_)))))
     obtain ⟨r2,hq3,h⟩:=zbw h
     refine zbe (v:=.bool r2) (vs:=[.string (zbU s1 q1.From q1.To)]) rfl dc rfl rfl rfl zxt (zlJ hq3) (zyN ?_)
     refine zyB rfl h (fun h => ?_) (fun h => ?_)
     ·
      refine zyG (zyR 1 rfl (zyN (za6 (zak (zav ?_)))))
      exact zai (p10,p11,l4,first3,false,hd9,hd10) h rfl (za5 rfl) (zad [0,1,2,3,4,5] kr rfl)
     refine zas (zaI (zaJ (zyG (zyR 1 rfl (zbS rfl dc rfl Tryz.underlying9 (zaW rfl zcK (zyN ?_)))))))
     refine zyB rfl h (fun h => ?_) (fun h => ?_)
     ·
      refine zaJ ?_
      obtain ⟨hg2,h⟩:=zbn h
      refine zbK 7 [(0,43,.agg #[.string ByteArray.empty,.slice none 0 0]),(1,44,zP b4),(2,45,zI q1.From),(3,46,zI (q1.From+1024)),(4,47,.agg #[zI 3,zI (q1.From+1024)]),(6,3,.slice none 0 0)] mixed kr kr dc (by rfl) kr kr (zae ?_ (zae ?_ (zae ?_ (zae ?_ (zae ?_ (zae ?_ (zae ?_ DrawPre.nil))))))) ?_
      · exact fun D n d c u i=>za7 (v:=.agg #[.string ByteArray.empty,.slice none 0 0]) (ps:=[]) rfl dc evP.nil (fun _=>by kernel_rfl) (zaf 0 u i rfl)
      · exact fun D n d c u i=>zab zdc rfl dc (za4 (by rfl) rfl) (show _=0 from rfl) (zaf 1 u i rfl)
      · exact fun D n d c u i=>zam (k:=6) zbr rfl dc (zaa (m:=1) u rfl (d 1 dc)) rfl rfl (zaf 2 u i rfl)
      · exact fun D n d c u i=>zb9 rfl dc (zaa (m:=2) u rfl (d 2 dc)) rfl (zaX (r:=q1.From+1024) (IntWalk.i64_in _ hg2)) (zaf 3 u i rfl)
      · exact fun D n d c u i=>za7 (v:=.agg #[zI 3,zI (q1.From+1024)]) (ps:=[(0,.const (zI 3)),(1,.tmp 46)]) rfl dc (evP.cons rfl (evP.cons (zaa (m:=3) u rfl (d 3 dc)) evP.nil)) (fun _=>by kernel_rfl) (zaf 4 u i rfl)
      · exact fun D n d c u i=>za0 (k:=0) (vs:=[.string ByteArray.empty,.slice none 0 0]) (l':=[.string ByteArray.empty,.slice none 0 0]) znv rfl (za4 (by rfl) rfl) (zaa (m:=0) u rfl (d 0 dc)) rfl rfl (show _≤_ by simp) rfl rfl (zop (by rfl))
      · exact fun D n d c u i=>zyR 1 rfl (zaf 5 u i rfl)
      refine za0 (k:=1) (vs:=[zI 3,zI (q1.From+1024)]) (l':=[zI 3,zI (q1.From+1024)]) zks rfl rfl rfl rfl rfl (show _≤_ by simp) rfl rfl (zyN (zaE (zaq (zaA (zaq (zaq (zaA (zaq (zoY (enc:=zbz) (nest:=zbx) (e:=70) (size:=1) ?_)))))))))
      refine zda (enc:=zbA) (e:=76) (size:=6) ?_
      cases h
      exact zaS (rs:=[.cell 2 135,.tmp 3,.cell 4 60]) (Hd.nil,(.slice none 0 0)) (.inl rfl) Tryz.results68 (.cons (.cells zl6 (k:=0) rfl rfl rfl) (.cons (.tmp rfl) (.cons (.cells zmK (k:=1) rfl rfl rfl) .nil))) rfl (zad [7,8] kr rfl)
     refine zas (zaI ?_)
     obtain ⟨j3,hj3,h⟩:=zbF h
     refine za1 (β:=Unit) 0 rfl (fun b=>j3=some r) (fun b=>[]) (fun b=>[(0,.string s1),(2,zP b1),(4,zP b2),(5,zP b3),(6,hd10.v),(7,hd3.v),(9,.bool row3),(10,zI i3),(11,zP b4),(12,.string (zbU s1 q1.From q1.To))]) (fun b=>[cells b1 [.string ByteArray.empty,.slice none 0 0] 135,cells b2 [zI 0,zI 0] 60,cells b3 [.string p10,hd9.v] 135,zfM zbz zbx 70 1 hd9.v p11,zv6 hd10.v l4,zv5 hd3.v r1,cells b4 (zr5 q1) 38]) (fun cut => ?_) ?_
     ·
      refine cut (zyG (zyR 2 rfl ?_))
      refine zyS (s:=49) rfl h (fun h => ?_) (fun h => ?_)
      ·
       refine zyR 1 rfl ?_
       obtain ⟨r3,hq4,h⟩:=zbw h
       refine zbe (v:=.bool r3) (vs:=[.string (zbU s1 q1.From q1.To)]) rfl dc rfl rfl rfl zwC (zkG hq4) (zyR 1 rfl (zyN ?_))
       refine zyB rfl h (fun h => ?_) (fun h => ?_)
       ·
        obtain ⟨j4,hj4,h⟩:=zbF h
        refine za1 (β:=ByteArray) 1 rfl (fun b=>j4 b=some r) (fun b=>[]) (fun b=>[(0,.string s1),(2,zP b1),(4,zP b2),(5,zP b3),(6,hd10.v),(7,hd3.v),(8,.bool false),(9,.bool row3),(10,zI i3),(50,.string (zbU s1 q1.From q1.To)),(51,.bool r3)]) (fun b=>[cells b1 [.string ByteArray.empty,.slice none 0 0] 135,cells b2 [zI 0,zI 0] 60,cells b3 [.string b,hd9.v] 135,zfM zbz zbx 70 1 hd9.v p11,zv6 hd10.v l4,zv5 hd3.v r1]) (fun cut => ?_) ?_
        ·
         refine zyG (zyR 1 rfl (zyN (cut (zyG (zyR 1 rfl (zbS rfl dc rfl Tryz.underlying9 (zaW rfl zcK (zyN ?_))))))))
         refine zyB rfl h (fun h => ?_) (fun h => ?_)
         ·
          refine zat (zyR 1 rfl ?_)
          obtain ⟨hg3,h⟩:=zbn h
          refine zeH rfl dc rfl rfl rfl (zci (i:=2) (j:=((zbU s1 q1.From q1.To).size:Int)) Tryz.underlying9 (.inr rfl) (.inl ⟨rfl,rfl⟩) hg3) (zab ztc rfl dc rfl (show _=0 from rfl) ?_)
          refine zaM (k:=2) (l':=[.string (zbU (zbU s1 q1.From q1.To) 2 ((zbU s1 q1.From q1.To).size:Int)),hd9.v]) zwX rfl rfl rfl rfl rfl (fun _ _=>rfl) rfl ?_
          refine zaQ ?_
          exact zai (zbU (zbU s1 q1.From q1.To) 2 ((zbU s1 q1.From q1.To).size:Int)) h rfl (za5 rfl) (zad [0,1,2,3,4,5] kr rfl)
         refine zas ?_
         exact zai p10 h rfl (za5 rfl) (zad [0,1,2,3,4,5] kr rfl)
        rintro p14 h
        rw [hj4] at h
        refine za6 (zak (zav ?_))
        exact zai (p14,p11,l4,false,row3,hd9,hd10) h rfl (za5 rfl) (zad [0,1,2,3,4,5] kr rfl)
       refine zas ?_
       exact zai () h rfl (za5 rfl) (zad [0,1,2,3,4,5,6] kr rfl)
      refine zyR 3 rfl (zyN (zaN rfl (zas ?_)))
      exact zai () h rfl (za5 rfl) (zad [0,1,2,3,4,5,6] kr rfl)
     rintro _ h
     rw [hj3] at h
     refine zyG (zyR 1 rfl (zyN (zaJ (zyG (zyR 1 rfl (zbl (k:=4) rfl dc rfl rfl Tryz.underlying26 (zaW rfl zaT (zyN ?_))))))))
     refine zyB rfl h (fun h => ?_) (fun h => ?_)
     ·
      refine zaJ ?_
      refine zbK 6 [(0,62,.agg #[.string ByteArray.empty,.slice none 0 0]),(1,63,zP b4),(2,64,zI q1.From),(3,65,.agg #[zI 3,zI q1.From]),(5,3,.slice none 0 0)] mixed kr kr dc (by rfl) kr kr (zae ?_ (zae ?_ (zae ?_ (zae ?_ (zae ?_ (zae ?_ DrawPre.nil)))))) ?_
      · exact fun D n d c u i=>za7 (v:=.agg #[.string ByteArray.empty,.slice none 0 0]) (ps:=[]) rfl dc evP.nil (fun _=>by kernel_rfl) (zaf 0 u i rfl)
      · exact fun D n d c u i=>zab zdc rfl dc (za4 (by rfl) rfl) (show _=0 from rfl) (zaf 1 u i rfl)
      · exact fun D n d c u i=>zam (k:=6) zbr rfl dc (zaa (m:=1) u rfl (d 1 dc)) rfl rfl (zaf 2 u i rfl)
      · exact fun D n d c u i=>za7 (v:=.agg #[zI 3,zI q1.From]) (ps:=[(0,.const (zI 3)),(1,.tmp 64)]) rfl dc (evP.cons rfl (evP.cons (zaa (m:=2) u rfl (d 2 dc)) evP.nil)) (fun _=>by kernel_rfl) (zaf 3 u i rfl)
      · exact fun D n d c u i=>za0 (k:=0) (vs:=[.string ByteArray.empty,.slice none 0 0]) (l':=[.string ByteArray.empty,.slice none 0 0]) znv rfl (za4 (by rfl) rfl) (zaa (m:=0) u rfl (d 0 dc)) rfl rfl (show _≤_ by simp) rfl rfl (zop (by rfl))
      · exact fun D n d c u i=>zyR 1 rfl (zaf 4 u i rfl)
      refine za0 (k:=1) (vs:=[zI 3,zI q1.From]) (l':=[zI 3,zI q1.From]) zks rfl rfl rfl rfl rfl (show _≤_ by simp) rfl rfl (zyN (zaE (zaq (zaA (zaq (zaq (zaA (zaq (zoY (enc:=zbz) (nest:=zbx) (e:=70) (size:=1) ?_)))))))))
      refine zda (enc:=zbA) (e:=76) (size:=6) ?_
      cases h
      exact zaS (rs:=[.cell 2 135,.tmp 3,.cell 4 60]) (Hd.nil,(.slice none 0 0)) (.inl rfl) Tryz.results68 (.cons (.cells zl6 (k:=0) rfl rfl rfl) (.cons (.tmp rfl) (.cons (.cells zmK (k:=1) rfl rfl rfl) .nil))) rfl (zad [7,8] kr rfl)
     refine zas (zaI ?_)
     obtain ⟨j5,hj5,h⟩:=zbF h
     refine za1 (β:=(List (List ByteArray))×Hd) 0 rfl (fun b=>j5 b.1=some r) (fun b=>[]) (fun b=>[(0,.string s1),(2,zP b1),(4,zP b2),(5,zP b3),(6,hd10.v),(7,hd3.v),(8,.bool false),(10,zI i3),(11,zP b4),(12,.string (zbU s1 q1.From q1.To))]) (fun b=>[cells b1 [.string ByteArray.empty,.slice none 0 0] 135,cells b2 [zI 0,zI 0] 60,cells b3 [.string p10,b.2.v] 135,zfM zbz zbx 70 1 b.2.v b.1,zv6 hd10.v l4,zv5 hd3.v r1,cells b4 (zr5 q1) 38]) (fun cut => ?_) ?_
     ·
      refine cut (zyG (zyR 1 rfl (zd2 rfl dc rfl zcB (zyN ?_))))
      refine zyB rfl h (fun h => ?_) (fun h => ?_)
      ·
       refine zat (zab zgX rfl dc rfl (show _=1 from rfl) (zam (k:=2) zl5 rfl dc rfl rfl rfl ?_))
       refine zaR (cs:=[.slice none 0 0]) (te:=70) (ps:=[(0,.const (.slice none 0 0))]) rfl dc rfl (fun _=>by kernel_rfl) (fun b5 => ?_)
       refine zgL (enc:=zrN) (e:=9) (size:=1) ?_
       refine zmo (k:=3) rfl zsX (fun zs1 hz1 => ?_)
       obtain ⟨hg4,h⟩:=zbn h
       refine za3 (k:=3) (k2:=7) (ys:=[(([]:List ByteArray),Hd.nil)]) Tryz.underlying112 zyb zdZ zjv rfl dc rfl rfl rfl rfl rfl rfl (by rw [zxf hz1]; exact hg4) (fun v2 => ?_)
       refine zbu (k:=3) rfl (fun hd14 he2 => ?_)
       subst he2
       refine zi3 (k:=9) rfl (zad [8] kr rfl) rfl (ztI (nest:=zbx) (zs:=zs1) (z:=(([]:List ByteArray),Hd.nil))) ?_
       refine zi3 (k:=3) rfl (zad [9] kr rfl) rfl (zr9 (enc:=zbz) (nest:=zbx) (zys hz1)) ?_
       refine zdA (L':=[cells b1 [.string ByteArray.empty,.slice none 0 0] 135,cells b2 [zI 0,zI 0] 60,cells b3 [.string p10,hd9.v] 135,zfM zbz zbx 70 1 hd14.v (p11++[([]:List ByteArray)]),zv6 hd10.v l4,zv5 hd3.v r1,cells b4 (zr5 q1) 38,cells b5 [.slice none 0 0] 70]) (zad [0,1,2,3,4,5,6,7] kr rfl) (zab zgX rfl dc rfl (show _=1 from rfl) ?_)
       refine zaM (k:=2) (l':=[.string p10,hd14.v]) zvG rfl rfl rfl rfl rfl (fun _ _=>rfl) rfl ?_
       refine zaQ ?_
       exact zai (p11++[([]:List ByteArray)],hd14) h rfl (za5 rfl) (zad [0,1,2,3,4,5,6] kr rfl)
      refine zas ?_
      exact zai (p11,hd9) h rfl (za5 rfl) (zad [0,1,2,3,4,5,6] kr rfl)
     rintro ⟨p15,hd13⟩ h
     rw [hj5] at h
     refine zyG (zyR 1 rfl (zyH (zab zgX rfl dc rfl (show _=1 from rfl) (zam (k:=2) zl5 rfl dc rfl rfl rfl (zqu (k:=3) rfl dc rfl rfl Tryz.underlying112 ?_)))))
     obtain ⟨hg5,h⟩:=zbn h
     refine zaW rfl (zbG (r:=(p15.length:Int) - 1) (IntWalk.i64_in _ hg5)) (zyR 1 rfl (zyN (zaJ ?_)))
     refine zjD (k:=3) rfl zsX (fun zs2 hz2 => ?_)
     obtain ⟨r4,hq5,h⟩:=zbw h
     obtain ⟨hg6,h⟩:=zbn h
     obtain ⟨r5,hq6,h⟩:=zbw h
     obtain ⟨x1,hq7,h⟩:=zbw h
     obtain ⟨eh1,eq1⟩:=zpy hz2 hq7
     obtain ⟨r6,hq8,h⟩:=zbw h
     obtain ⟨hg7,h⟩:=zbn h
     refine zjD (k:=7) rfl (zvY (zaG eq1)) (fun _ _ => ?_)
     refine zi4 (β:=Nat) 23 22 _ [(0,77,.string (zbU s1 q1.From q1.To)),(1,78,.string (zbU s1 q1.From q1.To)),(2,79,zI r4),(3,80,.string (zbU (zbU s1 q1.From q1.To) r4 ((zbU s1 q1.From q1.To).size:Int))),(4,81,.string (zbU s1 q1.From q1.To)),(5,82,zI r5),(6,83,zI ((p15.length:Int) - 1)),(7,84,.pointer (some ⟨b3,1,none⟩)),(8,85,hd13.v),(9,86,zI ((p15.length:Int) - 1)),(10,87,.pointer (some ⟨zcN hd13.v,((p15.length:Int) - 1:Int).toNat*1,none⟩)),(11,88,eh1.v),(12,89,zI (x1.length:Int)),(13,90,zP b4),(14,91,zI q1.From),(15,92,.string (zbU s1 q1.From q1.To)),(16,93,zI r6),(17,94,zI (q1.From+r6)),(18,95,.pointer (some ⟨b4,1,none⟩)),(19,96,zI q1.To),(20,97,.agg #[zI (q1.From+r6),zI q1.To]),(21,98,.agg #[.string (zbU (zbU s1 q1.From q1.To) r4 ((zbU s1 q1.From q1.To).size:Int)),zI r5,zI ((p15.length:Int) - 1),zI (x1.length:Int),zI (q1.From+r6),zI q1.To])] (fun b6=>[(14,zP b6)]) (fun b6=>[cells b1 [.string ByteArray.empty,.slice none 0 0] 135,cells b2 [zI 0,zI 0] 60,cells b3 [.string p10,hd13.v] 135,vec zbz 70 1 hd13.v zs2,zv6 hd10.v l4,zv5 hd3.v r1,cells b4 (zr5 q1) 38,own zbx (zs2.eraseIdx (((p15.length:Int) - 1:Int).toNat)),zv7 eh1.v x1,cells b6 [.string ByteArray.empty,zI 0,zI 0,zI 0,zI 0,zI 0] 76]) mixed kr kr rfl dc dc (by rfl) kr kr (zyE 2 0 rfl (zaj ?_ (zaj ?_ (zyE 1 4 rfl (zaj ?_ (zyE 1 6 rfl (zaj ?_ (zaj ?_ (zyE 1 9 rfl (zaj ?_ (zaj ?_ (zaj ?_ (zaj ?_ (zaj ?_ (zyE 1 15 rfl (zaj ?_ (zaj ?_ (zaj ?_ (zaj ?_ (zaj ?_ (zaj ?_ (zcT DrawPreX.nil)))))))))))))))))))))) (fun b6=>(zyE 2 0 rfl (zaj ?_ (zaj ?_ (zyE 1 4 rfl (zaj ?_ (zyE 1 6 rfl (zaj ?_ (zaj ?_ (zyE 1 9 rfl (zaj ?_ (zaj ?_ (zaj ?_ (zaj ?_ (zaj ?_ (zyE 1 15 rfl (zaj ?_ (zaj ?_ (zaj ?_ (zaj ?_ (zaj ?_ (zaj ?_ (zcT DrawPreX.nil))))))))))))))))))))))) ?_ ?_
     · exact fun D n d c u i=>zbe (v:=zI r4) (vs:=[.string (zbU s1 q1.From q1.To)]) rfl dc rfl (evL.cons (zaa (m:=1) u rfl (d 1 dc)) evL.nil) rfl zmf (zdU hq5) (zaf 2 u i rfl)
     · exact fun D n d c u i=>zeH rfl dc (zaa (m:=0) u rfl (d 0 dc)) (evO.some (zaa (m:=2) u rfl (d 2 dc))) zm8 (zci (i:=r4) (j:=((zbU s1 q1.From q1.To).size:Int)) Tryz.underlying9 (.inr rfl) (.inl ⟨rfl,rfl⟩) hg6) (zaf 3 u i rfl)
     · exact fun D n d c u i=>zbe (v:=zI r5) (vs:=[.string (zbU s1 q1.From q1.To)]) rfl dc rfl (evL.cons (zaa (m:=4) u rfl (d 4 dc)) evL.nil) rfl zmf (zdU hq6) (zaf 5 u i rfl)
     · exact fun D n d c u i=>zab zgX rfl dc (za4 (by rfl) rfl) (show _=1 from rfl) (zaf 7 u i rfl)
     · exact fun D n d c u i=>zam (k:=2) zl5 rfl dc (zaa (m:=7) u rfl (d 7 dc)) rfl rfl (zaf 8 u i rfl)
     · exact fun D n d c u i=>zar (k:=3) eq1 Tryz.underlying112 zqR rfl dc (zaa (m:=8) u rfl (d 8 dc)) (zaa (m:=9) u rfl (d 9 dc)) rfl rfl (zaf 10 u i rfl)
     · exact fun D n d c u i=>zaH (i:=((p15.length:Int) - 1:Int).toNat) (j:=0) (k:=3) (q:=(x1,eh1)) zuh zdZ rfl dc (zaa (m:=10) u rfl (d 10 dc)) rfl (zaG eq1) rfl dc rfl (zaf 11 u i rfl)
     · exact fun D n d c u i=>zbl (k:=8) rfl dc (zaa (m:=11) u rfl (d 11 dc)) rfl Tryz.underlying70 (zaf 12 u i rfl)
     · exact fun D n d c u i=>zab zdc rfl dc (za4 (by rfl) rfl) (show _=0 from rfl) (zaf 13 u i rfl)
     · exact fun D n d c u i=>zam (k:=6) zbr rfl dc (zaa (m:=13) u rfl (d 13 dc)) rfl rfl (zaf 14 u i rfl)
     · exact fun D n d c u i=>zbe (v:=zI r6) (vs:=[.string (zbU s1 q1.From q1.To)]) rfl dc rfl (evL.cons (zaa (m:=15) u rfl (d 15 dc)) evL.nil) rfl zmf (zdU hq8) (zaf 16 u i rfl)
     · exact fun D n d c u i=>zb9 rfl dc (zaa (m:=14) u rfl (d 14 dc)) (zaa (m:=16) u rfl (d 16 dc)) (zaX (r:=q1.From+r6) (IntWalk.i64_in _ hg7)) (zaf 17 u i rfl)
     · exact fun D n d c u i=>zab zdY rfl dc (za4 (by rfl) rfl) (show _=1 from rfl) (zaf 18 u i rfl)
     · exact fun D n d c u i=>zam (k:=6) zbr rfl dc (zaa (m:=18) u rfl (d 18 dc)) rfl rfl (zaf 19 u i rfl)
     · exact fun D n d c u i=>za7 (v:=.agg #[zI (q1.From+r6),zI q1.To]) (ps:=[(0,.tmp 94),(1,.tmp 96)]) rfl dc (evP.cons (zaa (m:=17) u rfl (d 17 dc)) (evP.cons (zaa (m:=19) u rfl (d 19 dc)) evP.nil)) (fun _=>by kernel_rfl) (zaf 20 u i rfl)
     · exact fun D n d c u i=>za7 (v:=.agg #[.string (zbU (zbU s1 q1.From q1.To) r4 ((zbU s1 q1.From q1.To).size:Int)),zI r5,zI ((p15.length:Int) - 1),zI (x1.length:Int),zI (q1.From+r6),zI q1.To]) (ps:=[(0,.tmp 80),(1,.tmp 82),(2,.tmp 83),(3,.tmp 89),(4,.tmp 97)]) rfl dc (evP.cons (zaa (m:=3) u rfl (d 3 dc)) (evP.cons (zaa (m:=5) u rfl (d 5 dc)) (evP.cons (zaa (m:=6) u rfl (d 6 dc)) (evP.cons (zaa (m:=12) u rfl (d 12 dc)) (evP.cons (zaa (m:=20) u rfl (d 20 dc)) evP.nil))))) (fun _=>by kernel_rfl) (zaf 21 u i rfl)
     · exact fun D n d c u i=>zbe (v:=zI r4) (vs:=[.string (zbU s1 q1.From q1.To)]) rfl dc rfl (evL.cons (zaa (m:=1) u rfl (d 1 dc)) evL.nil) rfl zmf (zdU hq5) (zaf 2 u i rfl)
     · exact fun D n d c u i=>zeH rfl dc (zaa (m:=0) u rfl (d 0 dc)) (evO.some (zaa (m:=2) u rfl (d 2 dc))) zm8 (zci (i:=r4) (j:=((zbU s1 q1.From q1.To).size:Int)) Tryz.underlying9 (.inr rfl) (.inl ⟨rfl,rfl⟩) hg6) (zaf 3 u i rfl)
     · exact fun D n d c u i=>zbe (v:=zI r5) (vs:=[.string (zbU s1 q1.From q1.To)]) rfl dc rfl (evL.cons (zaa (m:=4) u rfl (d 4 dc)) evL.nil) rfl zmf (zdU hq6) (zaf 5 u i rfl)
     · exact fun D n d c u i=>zab zgX rfl dc (za4 (by rfl) rfl) (show _=1 from rfl) (zaf 7 u i rfl)
     · exact fun D n d c u i=>zam (k:=2) zl5 rfl dc (zaa (m:=7) u rfl (d 7 dc)) rfl rfl (zaf 8 u i rfl)
     · exact fun D n d c u i=>zar (k:=3) eq1 Tryz.underlying112 zqR rfl dc (zaa (m:=8) u rfl (d 8 dc)) (zaa (m:=9) u rfl (d 9 dc)) rfl rfl (zaf 10 u i rfl)
     · exact fun D n d c u i=>zaH (i:=((p15.length:Int) - 1:Int).toNat) (j:=0) (k:=3) (q:=(x1,eh1)) zuh zdZ rfl dc (zaa (m:=10) u rfl (d 10 dc)) rfl (zaG eq1) rfl dc rfl (zaf 11 u i rfl)
     · exact fun D n d c u i=>zbl (k:=8) rfl dc (zaa (m:=11) u rfl (d 11 dc)) rfl Tryz.underlying70 (zaf 12 u i rfl)
     · exact fun D n d c u i=>zab zdc rfl dc (za4 (by rfl) rfl) (show _=0 from rfl) (zaf 13 u i rfl)
     · exact fun D n d c u i=>zam (k:=6) zbr rfl dc (zaa (m:=13) u rfl (d 13 dc)) rfl rfl (zaf 14 u i rfl)
     · exact fun D n d c u i=>zbe (v:=zI r6) (vs:=[.string (zbU s1 q1.From q1.To)]) rfl dc rfl (evL.cons (zaa (m:=15) u rfl (d 15 dc)) evL.nil) rfl zmf (zdU hq8) (zaf 16 u i rfl)
     · exact fun D n d c u i=>zb9 rfl dc (zaa (m:=14) u rfl (d 14 dc)) (zaa (m:=16) u rfl (d 16 dc)) (zaX (r:=q1.From+r6) (IntWalk.i64_in _ hg7)) (zaf 17 u i rfl)
     · exact fun D n d c u i=>zab zdY rfl dc (za4 (by rfl) rfl) (show _=1 from rfl) (zaf 18 u i rfl)
     · exact fun D n d c u i=>zam (k:=6) zbr rfl dc (zaa (m:=18) u rfl (d 18 dc)) rfl rfl (zaf 19 u i rfl)
     · exact fun D n d c u i=>za7 (v:=.agg #[zI (q1.From+r6),zI q1.To]) (ps:=[(0,.tmp 94),(1,.tmp 96)]) rfl dc (evP.cons (zaa (m:=17) u rfl (d 17 dc)) (evP.cons (zaa (m:=19) u rfl (d 19 dc)) evP.nil)) (fun _=>by kernel_rfl) (zaf 20 u i rfl)
     · exact fun D n d c u i=>za7 (v:=.agg #[.string (zbU (zbU s1 q1.From q1.To) r4 ((zbU s1 q1.From q1.To).size:Int)),zI r5,zI ((p15.length:Int) - 1),zI (x1.length:Int),zI (q1.From+r6),zI q1.To]) (ps:=[(0,.tmp 80),(1,.tmp 82),(2,.tmp 83),(3,.tmp 89),(4,.tmp 97)]) rfl dc (evP.cons (zaa (m:=3) u rfl (d 3 dc)) (evP.cons (zaa (m:=5) u rfl (d 5 dc)) (evP.cons (zaa (m:=6) u rfl (d 6 dc)) (evP.cons (zaa (m:=12) u rfl (d 12 dc)) (evP.cons (zaa (m:=20) u rfl (d 20 dc)) evP.nil))))) (fun _=>by kernel_rfl) (zaf 21 u i rfl)
     ·
      intro D hn hd hcl
      refine zbc zt5 rfl dc (fun b6 => ?_)
      exact fun a w ha hw=>⟨b6,znm (by rfl) _ _ _ ha,hw⟩
     intro b6
     refine za0 (k:=9) (vs:=[.string (zbU (zbU s1 q1.From q1.To) r4 ((zbU s1 q1.From q1.To).size:Int)),zI r5,zI ((p15.length:Int) - 1),zI (x1.length:Int),zI (q1.From+r6),zI q1.To]) (l':=[.string (zbU (zbU s1 q1.From q1.To) r4 ((zbU s1 q1.From q1.To).size:Int)),zI r5,zI ((p15.length:Int) - 1),zI (x1.length:Int),zI (q1.From+r6),zI q1.To]) zqQ rfl rfl rfl rfl rfl (show _≤_ by simp) rfl rfl (zyH (zyR 1 rfl (zbb (k:=9) (cs:=[.string (zbU (zbU s1 q1.From q1.To) r4 ((zbU s1 q1.From q1.To).size:Int)),zI r5,zI ((p15.length:Int) - 1),zI (x1.length:Int),zI (q1.From+r6),zI q1.To]) zuk rfl dc rfl rfl rfl rfl ?_)))
     refine zaR (cs:=[.string (zbU (zbU s1 q1.From q1.To) r4 ((zbU s1 q1.From q1.To).size:Int)),zI r5,zI ((p15.length:Int) - 1),zI (x1.length:Int),zI (q1.From+r6),zI q1.To]) (te:=76) (ps:=[(0,.tmp 100)]) rfl dc rfl (fun _=>by kernel_rfl) (fun b7 => ?_)
     obtain ⟨hg8,h⟩:=zbn h
     refine za3 (k:=4) (k2:=10) (ys:=[(⟨zbU (zbU s1 q1.From q1.To) r4 ((zbU s1 q1.From q1.To).size:Int),r5,(p15.length:Int) - 1,(x1.length:Int),q1.From+r6,q1.To⟩:Gapi_Verse)]) Tryz.underlying26 zwF zes zgl rfl dc rfl rfl rfl rfl rfl rfl hg8 (fun v3 => ?_)
     refine zbu (k:=4) rfl (fun hd15 he3 => ?_)
     subst he3
     refine zyR 1 rfl (zyN (ztq (k:=7) rfl (zad [8] kr rfl) rfl (zvX (nest:=zbx) (zaG eq1) rfl) ?_))
     obtain ⟨x2,hq9,h⟩:=zbw h
     obtain ⟨eh2,eq2⟩:=zpy hz2 hq9
     obtain ⟨hg9,h⟩:=zbn h
     refine zjD (k:=7) rfl (zvY (zaG eq2)) (fun _ _ => ?_)
     refine zgs 1 ?_
     refine let vals1:(Nat×Hd)→List (Nat×Nat×Value):=fun b=>[(0,103,.pointer (some ⟨b3,1,none⟩)),(1,104,hd13.v),(2,105,zI ((p15.length:Int) - 1)),(3,106,.pointer (some ⟨b3,1,none⟩)),(4,107,hd13.v),(5,108,zI ((p15.length:Int) - 1)),(6,109,.pointer (some ⟨zcN hd13.v,((p15.length:Int) - 1:Int).toNat*1,none⟩)),(7,110,eh2.v),(8,111,.string (zbU s1 q1.From q1.To)),(9,112,.slice (some ⟨b.1,0,none⟩) 1 1),(10,113,b.2.v)]; let LL1:(Nat→Prop)→(Nat×Hd)→List Asn:=fun D b=>[cells b1 [.string ByteArray.empty,.slice none 0 0] 135,cells b2 [zI 0,zI 0] 60,cells b3 [.string p10,hd13.v] 135,vec zbz 70 1 hd13.v zs2,zv6 hd15.v (l4++[(⟨zbU (zbU s1 q1.From q1.To) r4 ((zbU s1 q1.From q1.To).size:Int),r5,(p15.length:Int) - 1,(x1.length:Int),q1.From+r6,q1.To⟩:Gapi_Verse)]),zv5 hd3.v r1,cells b4 (zr5 q1) 38,own zbx (zs2.eraseIdx (((p15.length:Int) - 1:Int).toNat)),emp,cells b6 [.string (zbU (zbU s1 q1.From q1.To) r4 ((zbU s1 q1.From q1.To).size:Int)),zI r5,zI ((p15.length:Int) - 1),zI (x1.length:Int),zI (q1.From+r6),zI q1.To] 76,cells b7 [.string (zbU (zbU s1 q1.From q1.To) r4 ((zbU s1 q1.From q1.To).size:Int)),zI r5,zI ((p15.length:Int) - 1),zI (x1.length:Int),zI (q1.From+r6),zI q1.To] 76,eD D (zv7 eh2.v x2) [(10,zv7 b.2.v (x2++[zbU s1 q1.From q1.To]))],eD D emp [(9,cells b.1 [.string (zbU s1 q1.From q1.To)] 9)]]; ?_
     have zhq:zyQ [9,10] LL1:=fun i h D b=>zac rfl (zac rfl (zac rfl (zac rfl (zac rfl (zac rfl (zac rfl (zac rfl (zac rfl (zac rfl (zac rfl (zac (zly rfl h) (zac (zly rfl h) rfl))))))))))))
     refine zd6 (β:=Nat×Hd) 11 ((0:Nat),Hd.nil) vals1 LL1 mixed kr kr dc (fun _=>rfl) (zlz (zac zb4 (zac zb4 rfl))) (zyq zhq rfl (fun _=>rfl) (fun _=>rfl) ?_ (zi5 zhq rfl (fun _=>rfl) (fun _=>rfl) ?_ (znp zhq (fun _=>rfl) (fun _=>rfl) 1 2 (fun _=>rfl) rfl (zyq zhq rfl (fun _=>rfl) (fun _=>rfl) ?_ (zi5 zhq rfl (fun _=>rfl) (fun _=>rfl) ?_ (znp zhq (fun _=>rfl) (fun _=>rfl) 1 5 (fun _=>rfl) rfl (zi5 zhq rfl (fun _=>rfl) (fun _=>rfl) ?_ (zi5 zhq rfl (fun _=>rfl) (fun _=>rfl) ?_ (znp zhq (fun _=>rfl) (fun _=>rfl) 1 8 (fun _=>rfl) rfl (zau ?_ (zau ?_ DrawG.nil))))))))))) ?_
     · exact fun D ⟨b8,hd16⟩ n d c u i=>zab zgX rfl dc (za4 (by rfl) rfl) (show _=1 from rfl) (zaf 0 u i rfl)
     · exact fun D ⟨b8,hd16⟩ n d c u i=>⟨_,(zac rfl (zt1 rfl)),zam (k:=2) zl5 rfl dc (zaa (m:=0) u rfl (d 0 dc)) rfl rfl (zaf 1 u i rfl)⟩
     · exact fun D ⟨b8,hd16⟩ n d c u i=>zab zgX rfl dc (za4 (by rfl) rfl) (show _=1 from rfl) (zaf 3 u i rfl)
     · exact fun D ⟨b8,hd16⟩ n d c u i=>⟨_,(zlz (zac (zah (fun hD=>n (c 6 _ rfl (c 7 _ rfl (c 10 _ rfl hD 7 dc) 6 dc) 4 dc)) zao) rfl)),zam (k:=2) zl5 rfl dc (zaa (m:=3) u rfl (d 3 dc)) rfl rfl (zaf 4 u i rfl)⟩
     · exact fun D ⟨b8,hd16⟩ n d c u i=>⟨_,(zlz (zac (zah (fun hD=>n (c 7 _ rfl (c 10 _ rfl hD 7 dc) 6 dc)) zao) rfl)),zar (k:=3) eq2 Tryz.underlying112 zqR rfl dc (zaa (m:=4) u rfl (d 4 dc)) (zaa (m:=5) u rfl (d 5 dc)) rfl rfl (zaf 6 u i rfl)⟩
     · exact fun D ⟨b8,hd16⟩ n d c u i=>⟨_,(zlz (zac (zah (fun hD=>n (c 10 _ rfl hD 7 dc)) zao) rfl)),zaH (i:=((p15.length:Int) - 1:Int).toNat) (j:=0) (k:=3) (q:=(x2,eh2)) zuh zdZ rfl dc (zaa (m:=6) u rfl (d 6 dc)) rfl (zaG eq2) rfl dc rfl (zaf 7 u i rfl)⟩
     ·
      intro D b hn hd hcl
      obtain ⟨zb0,hd16⟩:=b
      refine zaK (zlz (zac (zah (fun hD=>hn (hcl 10 _ rfl hD 9 dc)) zao) (zac (zah hn zao) rfl))) ?_
      refine zaR (cs:=[.string (zbU s1 q1.From q1.To)]) (te:=9) (ps:=[(0,.tmp 111)]) rfl dc (evP.cons (zaa (m:=8) rfl rfl (hd 8 dc)) evP.nil) (fun _=>by kernel_rfl) (fun b8 => ?_)
      refine zc5 12 rfl rfl ?_
      exact zaU (b:=(zb0,hd16)) (b8,hd16) 9 (by rfl) (by rfl) rfl (zyp (zap (fun hD=>absurd hD hn) (zap (fun _=>rfl) rfl))) (zlz (zac ((zan (by rfl)).trans (zah (fun hD=>hn (hcl 10 _ rfl hD 9 dc)) zao)) (zac (zaL (Or.inr rfl) rfl) rfl)))
     ·
      intro D b hn hd hcl
      obtain ⟨b8,zb1⟩:=b
      refine zaK (zlz (zac (zah hn zao) (zac (zaL (hd 9 dc) rfl) rfl))) ?_
      refine za3 (k:=11) (k2:=12) (ys:=[zbU s1 q1.From q1.To]) Tryz.underlying70 zyv zkh zpH rfl dc (zaa (m:=7) rfl rfl (hd 7 dc)) (zaa (m:=9) rfl rfl (hd 9 dc)) rfl rfl rfl rfl hg9 (fun v4 => ?_)
      refine zbu (k:=11) rfl (fun hd16 he4 => ?_)
      subst he4
      exact zaU (b:=(b8,zb1)) (b8,hd16) 10 (by rfl) (by rfl) rfl (zjT (zap (fun hD=>absurd hD hn) rfl)) (zlz (zac (zaL (Or.inr rfl) rfl) (zac ((zan (by rfl)).trans (zaL (hd 9 dc) rfl)) rfl)))
     intro D b hall
     obtain ⟨b8,hd16⟩:=b
     refine zaK (zlz (zac (zaL (hall 10 dc) rfl) (zac (zaL (hall 9 dc) rfl) rfl))) (zar (k:=3) eq2 Tryz.underlying112 zqR rfl dc rfl rfl rfl rfl ?_)
     refine zez (i:=((p15.length:Int) - 1:Int).toNat) (j:=0) (k:=3) (q:=(x2,eh2)) (q':=(x2++[zbU s1 q1.From q1.To],hd16)) zqR zdZ rfl rfl rfl rfl (zaG eq2) rfl dc rfl (fun _ _=>rfl) ?_
     refine zi3 (k:=7) rfl (zad [11] kr rfl) rfl (zvX (nest:=zbx) (zs:=zs2) (z:=(x2++[zbU s1 q1.From q1.To],hd16)) (zuf (zaG eq2)) zq0) ?_
     refine zaQ (zag (ztn (k:=3) rfl (zad [7] kr rfl) rfl (zr9 (enc:=zbz) (nest:=zbx) (zyD hz2)) ?_))
     exact zai (p10,p15.set ((p15.length:Int) - 1:Int).toNat (x2++[zbU s1 q1.From q1.To]),l4++[(⟨zbU (zbU s1 q1.From q1.To) r4 ((zbU s1 q1.From q1.To).size:Int),r5,(p15.length:Int) - 1,(x1.length:Int),q1.From+r6,q1.To⟩:Gapi_Verse)],false,true,hd13,hd15) h rfl (za5 rfl) (zad [0,1,2,3,4,5] kr rfl)
    rintro ⟨p12,p13,l5,first4,row4,hd11,hd12⟩ h
    rw [hj2] at h
    refine zat (zyR 1 rfl ?_)
    obtain ⟨hg10,h⟩:=zbn h
    refine zaW rfl (zaX (r:=i3+1) (IntWalk.i64_in _ hg10)) (zyR 1 rfl (zaQ ?_))
    subst hag1
    exact za8 (n1,p12,p13,l5,first4,row4,i3+1,hd11,hd12) h (Nat.lt_succ_self _) rfl (za5 rfl) (zad [0,1,2,3,4,5] kr rfl)
   refine za6 (zak (zak (zav ?_)))
   exact zai (p10,p11,l4,hd9,hd10) h rfl (za5 rfl) (zad [0,1,2,3,4] kr rfl)
 rintro ⟨p1,p2,l1,hd1,hd2⟩ h
 rw [hj1] at h
 refine zyG (zbb (k:=2) (cs:=[.string p1,hd1.v]) zl6 rfl dc rfl rfl rfl rfl (zyR 1 rfl ?_))
 refine za7 (v:=.agg #[zI 0,zI 0]) (ps:=[]) rfl dc rfl (fun _=>by kernel_rfl) ?_
 refine za0 (k:=0) (vs:=[.string p1,hd1.v]) (l':=[.string p1,hd1.v]) znv rfl rfl rfl rfl rfl (show _≤_ by simp) rfl rfl (zyR 1 rfl (za0 (k:=1) (vs:=[zI 0,zI 0]) (l':=[zI 0,zI 0]) zks rfl rfl rfl rfl rfl (show _≤_ by simp) rfl rfl ?_))
 refine zyN (zaE ?_)
 cases h
 exact zaS (rs:=[.cell 2 135,.tmp 3,.cell 4 60]) (hd1,hd2.v) (.inl rfl) Tryz.results68 (.cons (.cells zl6 (k:=0) rfl rfl rfl) (.cons (.tmp rfl) (.cons (.cells zmK (k:=1) rfl rfl rfl) .nil))) rfl (zad [3,4] kr rfl)
end Go.Proofs.YtbempdelckaccaaGreatDoor

namespace Go.Proofs.YtbempdelckaccaaGreatDoor
open Go.RowKit Go.Lib
set_option linter.unusedVariables false
set_option linter.unusedSimpArgs false
def mkB (l:List UInt8):ByteArray:=⟨l.toArray⟩
theorem zhJ (l:List UInt8):(mkB l).data.toList=l:=rfl
theorem zba (l:List UInt8):(mkB l).size=l.length:=by rw [← zml,zhJ]
theorem zrs (s:ByteArray):mkB s.data.toList=s:=rfl
theorem zkN {a b:List UInt8} (h:mkB a=mkB b):a=b:=by
 have:=congrArg (fun s:ByteArray=>s.data.toList) h
 exact this
theorem zwd (s:ByteArray):∃ l,s=mkB l:=⟨s.data.toList,rfl⟩
theorem zlf (l:List UInt8) (i j:Nat):zbU (mkB l) (i:Int) (j:Int)=mkB ((l.drop i).take (j - i)):=by
 unfold zbU
 have h:∀ a b:ByteArray,a.data.toList=b.data.toList→a=b:=fun a b h=>by
  have:mkB a.data.toList=mkB b.data.toList:=by rw [h]
  exact this
 apply h
 rw [zhJ]
 simp only [Int.toNat_natCast,ByteArray.data_extract,Array.toList_extract,List.extract,zhJ]
theorem zle (l:List UInt8) (i:Nat):zbU (mkB l) (i:Int) ((mkB l).size:Int)=mkB (l.drop i):=by
 rw [zlf,zba,List.take_of_length_le (by rw [List.length_drop]; omega)]
def isB (b:UInt8):Bool:=b==32||b==9
def zij (l:List UInt8):Bool:=l.all isB
theorem zh4 {p:UInt8→Bool}:∀ {l:List UInt8} {c:UInt8} {t:List UInt8},l.dropWhile p=c::t→p c=false
 | [],c,t,h=>by cases h
 | b::l,c,t,h=>by
  rw [List.dropWhile_cons] at h
  split at h
  ·exact zh4 h
  ·rename_i hb
   rw [← (List.cons.inj h).1]; simpa using hb
theorem zfT {p:UInt8→Bool}:∀ (l:List UInt8),l.dropWhile p=[]↔l.all p=true
 | []=>by simp
 | b::l=>by
  rw [List.dropWhile_cons,List.all_cons]
  split
  ·rename_i h; rw [zfT l,h,Bool.true_and]
  ·rename_i h; rw [Bool.not_eq_true] at h; rw [h]; simp
theorem zlW (l:List UInt8):Lib.trimS l [32,9]=[]↔zij l=true:=by
 have hc:(fun x=>([32,9]:List UInt8).contains x)=isB:=by
  funext x; unfold isB; simp only [List.contains_cons,List.contains_nil,Bool.or_false]
 unfold Lib.trimS Lib.trimLeftS Lib.trimRightS zij
 rw [hc]
 cases hd:l.reverse.dropWhile isB with
 | nil =>
  have:=(zfT l.reverse).1 hd
  rw [List.all_reverse] at this
  rw [this]; simp
 | cons c t =>
  have h1:=zh4 hd
  rw [zfT,List.all_reverse,List.all_cons,h1]
  have h2:l.all isB=false:=by
   cases h:l.all isB with
   | false=>rfl
   | true =>
    rw [← List.all_reverse,← zfT,hd] at h; cases h
  rw [h2]; simp
theorem zuR (l:List UInt8) (h:l.length≤9223372036854775807):ze8 (mkB l)=some (zij l):=by
 unfold ze8
 refine zbm (by rw [zba]; exact h) (congrArg some ?_)
 unfold zo9
 rw [zhJ]
 have:(⟨(Lib.trimS l [32,9]).toArray⟩:ByteArray)=mkB (Lib.trimS l [32,9]):=rfl
 rw [this,show (⟨#[]⟩:ByteArray)=mkB [] from rfl]
 cases hb:zij l with
 | true=>exact decide_eq_true (by rw [(zlW l).2 hb])
 | false=>exact decide_eq_false (fun e=>by have:=(zlW l).1 (zkN e); rw [hb] at this; cases this)
theorem zsd {R:Type} {F:(Int→Option R)→Int→Option R} {bot:Int→Option R} (l:List UInt8) (g:UInt8→Option (Option R)) (J:Option R)
  (hs:∀ ag (i:Nat) b t,l.drop i=b::t→F ag (i:Int)=(g b).getD (ag ((i+1:Nat):Int))) (he:∀ ag,F ag (l.length:Int)=J) :
  ∀ (n i:Nat),i≤l.length→l.length - i<n→zaF bot F n (i:Int)=((l.drop i).findSome? g).getD J:=by
 intro n
 induction n with
 | zero=>intro i h1 h2; omega
 | succ n ih =>
  intro i hi hn
  rw [zdx]
  cases hd:l.drop i with
  | nil =>
   have:l.length≤i:=List.drop_eq_nil_iff.1 hd
   obtain rfl:i=l.length:=by omega
   rw [he]; rfl
  | cons b t =>
   have hlt:i<l.length:=by
    rcases Nat.lt_or_ge i l.length with h | h
    ·exact h
    ·rw [List.drop_eq_nil_of_le h] at hd; cases hd
   rw [hs _ i b t hd,List.findSome?_cons]
   cases hg:g b with
   | some x=>rfl
   | none =>
    show zaF bot F n _=_
    rw [ih (i+1) (by omega) (by omega),zfL hd]
theorem zyf {l:List UInt8} (h:l.length≤1073741824):l.length - 0<zbT:=by unfold zbT; omega
theorem zp2 (l:List UInt8) (h:l.length≤1073741824):zeC (mkB l)=some (zij l):=by
 unfold zeC
 refine zby ?_
 refine (zsd l (fun b=>if isB b then none else some (some false)) (some true) (fun ag i b t hd => ?_) (fun ag => ?_) zbT 0 (Nat.zero_le _) (zyf h)).trans ?_
 ·unfold zdJ
  obtain ⟨hb,hlt⟩:=zfO (s:=mkB l) hd
  refine zaB (decide_eq_true (by omega)) (zby (zaO hb ?_))
  rw [zba] at hlt
  have go:(grd (I64 ((i:Int)+1))<|ag ((i:Int)+1))=ag ((i+1:Nat):Int):=zbm ⟨by omega,by omega⟩ (by rw [show (i:Int)+1=((i+1:Nat):Int) by omega])
  unfold isB
  by_cases h32:b=32
  ·refine zaz (by unfold bne; rw [n32,decide_eq_true h32]; rfl) ?_
   rw [h32]; exact go
  ·refine zaB (by unfold bne; rw [n32,decide_eq_false h32]; rfl) ?_
   rw [beq_eq_false_iff_ne.2 h32,Bool.false_or]
   by_cases h9:b=9
   ·refine zaz (by unfold bne; rw [n9,decide_eq_true h9]; rfl) ?_
    rw [h9]; exact go
   ·refine zaB (by unfold bne; rw [n9,decide_eq_false h9]; rfl) ?_
    rw [beq_eq_false_iff_ne.2 h9]; rfl
 ·unfold zdJ
  exact zaz (decide_eq_false (by rw [zba]; omega)) rfl
 ·rw [List.drop_zero]
  unfold zij
  clear h
  induction l with
  | nil=>rfl
  | cons b l ih =>
   rw [List.findSome?_cons,List.all_cons]
   cases hb:isB b with
   | true=>simpa using ih
   | false=>rfl
def zpV:List UInt8→Bool
 | []=>false
 | [b]=>b==35
 | b::c::_=>b==35&&c==32
theorem zvZ (l p:List UInt8):zbv (mkB l) (mkB p)=some (decide (p.length≤l.length)&&decide (l.take p.length=p)):=by
 unfold zbv
 rw [zba,zba]
 by_cases h:p.length≤l.length
 ·refine zaB (decide_eq_true (by omega)) (zbm ⟨by omega,by omega,by omega⟩ (congrArg some ?_))
  have:=zlf l 0 p.length
  rw [show ((0:Nat):Int)=0 from rfl] at this
  rw [this,List.drop_zero,Nat.sub_zero,decide_eq_true h,Bool.true_and]
  by_cases e:l.take p.length=p
  ·rw [decide_eq_true e,decide_eq_true (by rw [e])]
  ·rw [decide_eq_false e,decide_eq_false (fun x=>e (zkN x))]
 ·refine zaz (decide_eq_false (by omega)) ?_
  rw [decide_eq_false h]; rfl
theorem zpb (l:List UInt8):zeD (mkB l)=some (zpV l):=by
 unfold zeD zdn
 rw [show (⟨#[35]⟩:ByteArray)=mkB [35] from rfl,show (⟨#[35,32]⟩:ByteArray)=mkB [35,32] from rfl]
 by_cases h:l=[35]
 ·subst h; exact zaB (decide_eq_true rfl) rfl
 ·refine zaz (decide_eq_false (fun e=>h (zkN e))) (zaO (zaO (zvZ _ _) rfl) (congrArg some ?_))
  match l with
  | []=>rfl
  | [b] =>
   have hb:b≠35:=fun e=>h (by rw [e])
   show _=(b==35)
   rw [beq_eq_false_iff_ne.2 hb]; rfl
  | b::c::t =>
   show _=(b==35&&c==32)
   rw [decide_eq_true (by simp),Bool.true_and]
   show decide ([b,c]=[35,32])=_
   by_cases hb:b=35 <;> by_cases hc:c=32 <;> simp [hb,hc]
theorem zoE (l:List UInt8):zeL (mkB l)=some (zpV l):=by
 unfold zeL
 rw [show (⟨#[35]⟩:ByteArray)=mkB [35] from rfl]
 by_cases h:l=[35]
 ·subst h; exact zaB (decide_eq_true rfl) rfl
 ·refine zaz (decide_eq_false (fun e=>h (zkN e))) ?_
  match l with
  | []=>exact zaz (decide_eq_false (by rw [zba]; simp)) rfl
  | [b] =>
   have hb:b≠35:=fun e=>h (by rw [e])
   refine zaz (decide_eq_false (by rw [zba]; simp)) ?_
   show _=some (b==35)
   rw [beq_eq_false_iff_ne.2 hb]
  | b::c::t =>
   have h0:=(zfO (s:=mkB (b::c::t)) (i:=0) (b:=b) (t:=c::t) rfl).1
   have h1:=(zfO (s:=mkB (b::c::t)) (i:=1) (b:=c) (t:=t) rfl).1
   refine zaB (decide_eq_true (by rw [zba]; simp; omega)) (zaO h0 ?_)
   show _=some (b==35&&c==32)
   by_cases hb:b=35
   ·refine zaB (by rw [n35]; exact decide_eq_true hb) (zaO h1 (congrArg some ?_))
    rw [n32,beq_iff_eq.2 hb,Bool.true_and]
    by_cases hc:c=32
    ·rw [decide_eq_true hc,hc]; rfl
    ·rw [decide_eq_false hc,beq_eq_false_iff_ne.2 hc]
   ·refine zaz (by rw [n35]; exact decide_eq_false hb) ?_
    rw [beq_eq_false_iff_ne.2 hb]; rfl
theorem zub (l:List UInt8) (h:zpV l=true):zc9 (mkB (l.drop 1)) (mkB [32])=some (mkB (l.drop 2)):=by
 unfold zc9 zca
 refine zaO (zaO (zvZ _ _) (?_:_=some (mkB (l.drop 2)))) rfl
 match l with
 | []=>cases h
 | [b]=>exact zaz (by simp) rfl
 | b::c::t =>
  have hc:c=32:=by
   unfold zpV at h; rw [Bool.and_eq_true] at h; exact beq_iff_eq.1 h.2
  subst hc
  refine zaB (by simp) (zbm ⟨by omega,by rw [zba,zba,List.drop_one,List.tail_cons,List.length_cons]; simp only [List.length_cons,List.length_nil]; omega,by omega⟩ (congrArg some ?_))
  exact zle (32::t) 1
def ind (l:List UInt8):Nat:=(l.takeWhile (· == 32)).length
theorem zka (b:UInt8) (l:List UInt8):ind (b::l)=if b=32 then ind l+1 else 0:=by
 unfold ind
 rw [List.takeWhile_cons]
 by_cases h:b=32
 ·subst h; simp
 ·rw [if_neg h,beq_eq_false_iff_ne.2 h]; rfl
theorem zpv (l:List UInt8):ind l≤l.length:=by
 induction l with
 | nil=>exact Nat.le_refl _
 | cons b l ih=>rw [zka,List.length_cons]; split <;> omega
theorem zh6 (l:List UInt8) (h:l.length≤1073741824):zb5 (mkB l)=some (ind l:Int):=by
 unfold zb5
 refine zby ?_
 have key:∀ (n i:Nat),i≤l.length→l.length - i<n→zaF (fun _=>none) (zcU (mkB l) (fun (n1:Int)=>some n1)) n (i:Int)=some ((i+ind (l.drop i):Nat):Int):=by
  intro n
  induction n with
  | zero=>intro i h1 h2; omega
  | succ n ih =>
   intro i hi hn
   rw [zdx]
   obtain ⟨ag,hag⟩:∃ ag,ag=zaF (fun _=>none) (zcU (mkB l) (fun (n1:Int)=>some n1)) n:=⟨_,rfl⟩
   rw [← hag] at ih ⊢
   unfold zcU
   cases hd:l.drop i with
   | nil =>
    have:l.length≤i:=List.drop_eq_nil_iff.1 hd
    exact zaz (decide_eq_false (by rw [zba]; omega)) rfl
   | cons b t =>
    obtain ⟨hb,hlt⟩:=zfO (s:=mkB l) hd
    rw [zba] at hlt
    refine zaB (decide_eq_true (by rw [zba]; omega)) (zaO hb ?_)
    rw [zka]
    by_cases h32:b=32
    ·refine zaB (by rw [n32]; exact decide_eq_true h32) (zbm ⟨by omega,by omega⟩ ?_)
     have:=ih (i+1) (by omega) (by omega)
     rw [zfL hd] at this
     rw [if_pos h32,show (i:Int)+1=((i+1:Nat):Int) by omega,this]
     congr 1; omega
    ·refine zaz (by rw [n32]; exact decide_eq_false h32) ?_
     rw [if_neg h32]; rfl
 have:=key zbT 0 (Nat.zero_le _) (by unfold zbT; omega)
 rw [List.drop_zero,Nat.zero_add] at this
 exact this
theorem zs8 (l:List UInt8) (h:l.length≤1073741824):zd3 (mkB l)=some (ind l:Int):=by
 unfold zd3
 refine zby ?_
 have key:∀ (n i:Nat),i≤l.length→l.length - i<n→(pcs l).drop i=zdw i (l.drop i)→zaF (fun _ _=>none) (zdd (mkB l) (fun (n1:Int)=>some n1)) n (i:Int) i=some ((i+ind (l.drop i):Nat):Int):=by
  intro n
  induction n with
  | zero=>intro i h1 h2; omega
  | succ n ih =>
   intro i hi hn hp
   rw [zdx]
   obtain ⟨ag,hag⟩:∃ ag,ag=zaF (fun _ _=>none) (zdd (mkB l) (fun (n1:Int)=>some n1)) n:=⟨_,rfl⟩
   rw [← hag] at ih ⊢
   unfold zdd
   rw [zhJ]
   cases hd:l.drop i with
   | nil =>
    rw [hd,zc6] at hp
    have:=List.drop_eq_nil_iff.1 hp
    exact zaz (decide_eq_false (by omega)) rfl
   | cons b t =>
    obtain ⟨hb,hlt⟩:=zfO (s:=mkB l) hd
    rw [zba] at hlt
    rw [hd,zcw i (b::t) (by simp)] at hp
    have hlm:i<(pcs l).length:=by
     rcases Nat.lt_or_ge i (pcs l).length with h | h
     ·exact h
     ·rw [List.drop_eq_nil_of_le h] at hp; cases hp
    have hq:(pcs l)[i]?=some ⟨i,(decodeL (b::t)).2,(decodeL (b::t)).1⟩:=by
     have hp2:=hp
     rw [List.drop_eq_getElem_cons hlm] at hp2
     rw [List.getElem?_eq_getElem hlm,(List.cons.inj hp2).1]
    refine zaB (decide_eq_true hlm) (zaO hq ?_)
    rw [zka]
    by_cases h32:b=32
    ·subst h32
     have hdec:=decodeL_ascii 32 t (by decide)
     rw [hdec] at hp ⊢
     refine zaz rfl (zbm ⟨by omega,by omega⟩ ?_)
     have:=ih (i+1) (by omega) (by omega) (by
      rw [← List.drop_drop,hp,zfL hd]; rfl)
     rw [zfL hd] at this
     rw [if_pos rfl,show (i:Int)+1=((i+1:Nat):Int) by omega]
     refine this.trans ?_
     congr 2; omega
    ·refine zaB ?_ (by rw [if_neg h32]; rfl)
     show (((decodeL (b::t)).1:Int) != 32)=true
     refine bne_iff_ne.2 (fun e => ?_)
     by_cases hbig:128≤b.toNat
     ·have:=(zoj (t:=t) hbig).1; omega
     ·rw [decodeL_ascii b t (by omega)] at e
      exact h32 (UInt8.toNat.inj (by show b.toNat=32; have:((b.toNat:Nat):Int)=32:=e; omega))
 have:=key zbT 0 (Nat.zero_le _) (by unfold zbT; omega) (by rw [List.drop_zero,List.drop_zero]; rfl)
 rw [List.drop_zero,Nat.zero_add] at this
 exact this
end Go.Proofs.YtbempdelckaccaaGreatDoor

namespace Go.Proofs.YtbempdelckaccaaGreatDoor
open Go.RowKit Go.Lib
set_option linter.unusedVariables false
set_option linter.unusedSimpArgs false
theorem znw (T:List UInt8):∀ (l:List UInt8) (p:Bool) (f a:Nat),T.drop a=l→f≤a→(p=true→l.head?=some 10→f+1≤a) →
  (∀ b∈(T.drop f).take ((if p=true∧l.head?=some 10 then a - 1 else a) - f),isE b=false)→a≤T.length →
  ∀ x∈spP p f a l,x.1≤x.2∧x.2≤T.length∧∀ b∈(T.drop x.1).take (x.2 - x.1),isE b=false
 | [],p,f,a,hd,hf,hp,hb,ha=>by
  intro x hx
  rw [spP,List.mem_singleton] at hx
  subst hx
  have:T.length≤a:=List.drop_eq_nil_iff.1 hd
  refine ⟨hf,ha,?_⟩
  rw [if_neg (by simp)] at hb
  exact hb
 | b::t,p,f,a,hd,hf,hp,hb,ha=>by
  intro x hx
  have hlt:a<T.length:=by
   rcases Nat.lt_or_ge a T.length with h | h
   ·exact h
   ·rw [List.drop_eq_nil_of_le h] at hd; cases hd
  have hd1:=zfL hd
  have hsnoc:∀ f',f'≤a→(T.drop f').take (a+1 - f')=(T.drop f').take (a - f')++[b]:=fun f' hf'=>by
   rw [show a+1 - f'=(a - f')+1 by omega,List.take_add_one,List.getElem?_drop,show f'+(a - f')=a by omega]
   have:T[a]?=some b:=by
    have h0:(T.drop a)[0]?=some b:=by rw [hd]; rfl
    rw [List.getElem?_drop] at h0; exact h0
   rw [this]; rfl
  rw [spP] at hx
  by_cases h13:b=13
  ·rw [if_pos h13] at hx
   have hne:¬ (p=true∧(b::t).head?=some 10):=by rw [h13]; simp
   rw [if_neg hne] at hb
   by_cases ht:t.head?=some 10
   ·rw [if_pos ht] at hx
    refine znw T t true f (a+1) hd1 (by omega) (fun _ _=>by omega) ?_ (by omega) x hx
    rw [if_pos ⟨rfl,ht⟩]; exact hb
   ·rw [if_neg ht] at hx
    rcases List.mem_cons.1 hx with rfl | hx
    ·exact ⟨hf,ha,hb⟩
    ·refine znw T t true (a+1) (a+1) hd1 (Nat.le_refl _) (fun _ h=>absurd h ht) ?_ (by omega) x hx
     rw [if_neg (fun h=>ht h.2),Nat.sub_self,List.take_zero]
     intro y hy; cases hy
  ·rw [if_neg h13] at hx
   by_cases h10:b=10
   ·rw [if_pos h10] at hx
    rcases List.mem_cons.1 hx with rfl | hx
    ·cases p with
     | true =>
      have:=hp rfl (by rw [h10]; rfl)
      rw [if_pos ⟨rfl,by rw [h10]; rfl⟩] at hb
      exact ⟨by show f≤a - 1; omega,by show a - 1≤_; omega,hb⟩
     | false =>
      rw [if_neg (by simp)] at hb
      exact ⟨hf,ha,hb⟩
    ·refine znw T t false (a+1) (a+1) hd1 (Nat.le_refl _) (fun h=>by cases h) ?_ (by omega) x hx
     rw [if_neg (by simp),Nat.sub_self,List.take_zero]
     intro y hy; cases hy
   ·rw [if_neg h10] at hx
    refine znw T t false f (a+1) hd1 (by omega) (fun h=>by cases h) ?_ (by omega) x hx
    rw [if_neg (by simp),hsnoc f hf]
    have hne:¬ (p=true∧(b::t).head?=some 10):=fun h=>h10 (Option.some.inj h.2)
    rw [if_neg hne] at hb
    intro y hy
    rcases List.mem_append.1 hy with hy | hy
    ·exact hb y hy
    ·rw [List.mem_singleton] at hy
     subst hy
     unfold isE
     rw [beq_eq_false_iff_ne.2 h13,beq_eq_false_iff_ne.2 h10]; rfl
theorem zmF (T:List UInt8):∀ x∈zcL T,x.1≤x.2∧x.2≤T.length∧∀ b∈(T.drop x.1).take (x.2 - x.1),isE b=false :=
 znw T T false 0 0 (List.drop_zero) (Nat.le_refl _) (fun h=>by cases h) (by intro b hb; simp at hb) (Nat.zero_le _)
theorem zhm:∀ (l:List UInt8) (p:Bool) (f a:Nat),(spP p f a l).length≤l.length+1
 | [],p,f,a=>Nat.le_refl _
 | b::t,p,f,a=>by
  rw [spP,List.length_cons]
  split
  ·split
   ·have:=zhm t true f (a+1); omega
   ·rw [List.length_cons]; have:=zhm t true (a+1) (a+1); omega
  ·split
   ·rw [List.length_cons]; have:=zhm t false (a+1) (a+1); omega
   ·have:=zhm t false f (a+1); omega
def zha (T:List UInt8):List (Nat×List UInt8):=(zcL T).map fun x=>(x.1,(T.drop x.1).take (x.2 - x.1))
structure RS where
 t:List UInt8
 stz:List (List (List UInt8))
 vs:List Gapi_Verse
 first:Bool
 row:Bool
def zgv (z:List (List (List UInt8))):List (List UInt8):=z.getLastD []
def zc7 (st:RS):List (List (List UInt8)):=if st.row then st.stz else st.stz++[[]]
def zhg (f:Nat) (x:List UInt8) (z:List (List (List UInt8))):Gapi_Verse:=⟨mkB (x.drop (ind x)),ind x,(z.length:Int) - 1,(zgv z).length,(f:Int)+ind x,((f+x.length:Nat):Int)⟩
def zov (st:RS) (f:Nat) (x:List UInt8):RS :=
 ⟨st.t,(zc7 st).dropLast++[zgv (zc7 st)++[x]],st.vs++[zhg f x (zc7 st)],false,true⟩
def zf8 (st:RS) (x:Nat×List UInt8):Except Gapi_Spot RS :=
 if zij x.2=true then .ok { st with row:=false }
 else if 1024<x.2.length then .error ⟨3,(x.1:Int)+1024⟩
 else if st.first=true∧zpV x.2=true then .ok { st with first:=false,t:=x.2.drop 2 }
 else if st.vs.length=512 then .error ⟨3,x.1⟩
 else .ok (zov st x.1 x.2)
def zg5:RS→List (Nat×List UInt8)→Except Gapi_Spot RS
 | st,[]=>.ok st
 | st,x::xs=>match zf8 st x with
  | .ok st'=>zg5 st' xs
  | .error e=>.error e
def rs0:RS:=⟨[],[],[],true,false⟩
def rd (T:List UInt8):Except Gapi_Spot RS:=if 65536<T.length then .error ⟨3,65536⟩ else zg5 rs0 (zha T)
def tot (z:List (List (List UInt8))):Nat:=(z.map List.length).sum
def zjd:Nat→List (List (List UInt8))→List Gapi_Span
 | _,[]=>[]
 | n,r::rs=>⟨n,((n+r.length:Nat):Int)⟩::zjd (n+r.length) rs
theorem zj6:∀ (a b:List (List (List UInt8))) (n:Nat),zjd n (a++b)=zjd n a++zjd (n+tot a) b
 | [],b,n=>rfl
 | r::a,b,n=>by
  show _::zjd (n+r.length) (a++b)=_
  rw [zj6 a b]
  have:n+tot (r::a)=n+r.length+tot a:=by unfold tot; rw [List.map_cons,List.sum_cons]; omega
  rw [this]; rfl
theorem zhH:∀ (a:List (List (List UInt8))) (n:Nat),(zjd n a).length=a.length
 | [],n=>rfl
 | r::a,n=>by rw [zjd,List.length_cons,List.length_cons,zhH a]
theorem zkp (a b:List (List (List UInt8))):tot (a++b)=tot a+tot b:=by unfold tot; rw [List.map_append,List.sum_append]
theorem zko (r:List (List UInt8)):tot [r]=r.length:=by unfold tot; simp
theorem zkS {z:List (List (List UInt8))} (h:z≠[]):z=z.dropLast++[zgv z]:=by
 unfold zgv
 rw [List.getLastD_eq_getLast?,List.getLast?_eq_some_getLast h]
 exact (List.dropLast_concat_getLast h).symm
structure RInv (st:RS):Prop where
 tot:st.vs.length=tot st.stz
 row:st.row=true→st.stz≠[]
 most:st.vs.length≤512
 ne:∀ r∈st.stz,r≠[]
 t0:st.first=true→st.t=[]
theorem zqP:∀ (z:List (List (List UInt8))),(∀ r∈z,r≠[])→z.length≤tot z
 | [],h=>Nat.le_refl _
 | r::z,h=>by
  have h1:=zqP z fun y hy=>h y (by simp [hy])
  have h2:0<r.length:=List.length_pos_iff.2 (h r (by simp))
  have:tot (r::z)=r.length+tot z:=by unfold tot; rw [List.map_cons,List.sum_cons]
  rw [this,List.length_cons]; omega
theorem RInv.stzLen {st:RS} (h:RInv st):st.stz.length≤512:=Nat.le_trans (zqP _ h.ne) (h.tot ▸ h.most)
theorem zpq {st:RS} (h:RInv st):zc7 st≠[]:=by
 unfold zc7
 split
 ·rename_i hr; exact h.row hr
 ·simp
theorem znQ {st:RS} {n:Nat} (h:st.stz.length≤n):(zc7 st).length≤n+1:=by
 unfold zc7
 split
 ·omega
 ·rw [List.length_append,List.length_singleton]; omega
theorem zkM (st:RS):tot (zc7 st)=tot st.stz:=by
 unfold zc7
 split
 ·rfl
 ·rw [zkp,zko]; rfl
theorem RInv.step {st st':RS} {x:Nat×List UInt8} (h:RInv st) (hs:zf8 st x=.ok st'):RInv st':=by
 unfold zf8 at hs
 split at hs
 ·cases hs; exact ⟨h.tot,(fun e=>by cases e),h.most,h.ne,h.t0⟩
 ·split at hs
  ·cases hs
  ·split at hs
   ·cases hs; exact ⟨h.tot,h.row,h.most,h.ne,(fun e=>by cases e)⟩
   ·split at hs
    ·cases hs
    ·rename_i h512
     cases hs
     have e:=zkS (zpq h)
     refine ⟨?_,(fun _=>by simp [zov]),?_,?_,(fun e=>by cases e)⟩
     ·show (st.vs++[_]).length=Go.Proofs.YtbempdelckaccaaGreatDoor.tot ((zc7 st).dropLast++[zgv (zc7 st)++[x.2]])
      have h2:=zkM st
      rw [e,zkp,zko] at h2
      rw [zkp,zko,List.length_append,List.length_append,List.length_singleton,List.length_singleton,h.tot,← h2]
      omega
     ·show (st.vs++[_]).length≤512
      rw [List.length_append,List.length_singleton]
      have:=h.most; omega
     ·intro r hr
      rcases List.mem_append.1 hr with hr | hr
      ·have hm:r∈zc7 st:=(List.dropLast_sublist _).mem hr
       unfold zc7 at hm hr
       split at hm
       ·exact h.ne r hm
       ·rename_i hrow
        rw [if_neg hrow,List.dropLast_concat] at hr
        exact h.ne r hr
      ·rw [List.mem_singleton] at hr
       subst hr; simp
theorem zoC:RInv rs0:=⟨rfl,(fun e=>by cases e),Nat.zero_le _,(fun r hr=>by cases hr),(fun _=>rfl)⟩
theorem RInv.fold:∀ {xs:List (Nat×List UInt8)} {st st':RS},RInv st→zg5 st xs=.ok st'→RInv st'
 | [],st,st',h,hs=>by cases hs; exact h
 | x::xs,st,st',h,hs=>by
  unfold zg5 at hs
  cases he:zf8 st x with
  | ok s1=>rw [he] at hs; exact RInv.fold (h.step he) hs
  | error e=>rw [he] at hs; cases hs
theorem zit {α:Type} (a:List α) (x y:α):(a++[x]).set a.length y=a++[y]:=by simp
def mkZ (z:List (List (List UInt8))):List (List ByteArray):=z.map (·.map mkB)
section
variable {T:List UInt8} {st:RS} {sp:Nat×Nat} {k:Nat}
theorem zmZ {st:RS} (h:RInv st):∃ init r,zc7 st=init++[r]∧zgv (zc7 st)=r∧(zc7 st).dropLast=init∧tot init+r.length=st.vs.length∧zjd 0 (zc7 st)=zjd 0 init++[⟨(tot init:Int),(st.vs.length:Int)⟩]:=by
 have e:=zkS (zpq h)
 refine ⟨_,_,e,rfl,rfl,?_,?_⟩
 ·have h2:=zkM st
  rw [e,zkp,zko] at h2
  rw [h.tot]; exact h2
 ·have h2:=zkM st
  rw [e,zkp,zko] at h2
  conv=>lhs; rw [e]
  rw [zj6,Nat.zero_add]
  show _++[(⟨(tot (zc7 st).dropLast:Int),((tot (zc7 st).dropLast+(zgv (zc7 st)).length:Nat):Int)⟩:Gapi_Span)]=_
  rw [h2,h.tot]
theorem zrb {J:ByteArray→(List Gapi_Verse)→(List Gapi_Span)→Option ((Option Gpoem_Poem)×Gapi_Spot)} {m:Gplace_Map} {n:Int} {ag:ByteArray→(List Gapi_Verse)→(List Gapi_Span)→Bool→Bool→Int→Option ((Option Gpoem_Poem)×Gapi_Spot)}
  (hT:T.length≤65536) (hI:RInv st) (hk:(zcL T)[k]?=some sp) (hm:m.lines.map spE=(zcL T).map mkS) (hn:(k:Int)<n) :
  zde (mkB T) J m n ag (mkB st.t) st.vs (zjd 0 st.stz) st.first st.row (k:Int) =
   match zf8 st (sp.1,(T.drop sp.1).take (sp.2 - sp.1)) with
   | .error e=>some (none,e)
   | .ok st'=>ag (mkB st'.t) st'.vs (zjd 0 st'.stz) st'.first st'.row ((k+1:Nat):Int):=by
 obtain ⟨h1,h2,_⟩:=zmF T sp (List.mem_of_getElem? hk)
 have hkl:=(List.getElem?_eq_some_iff.1 hk).1
 have hkb:=zhm T false 0 0
 have hkb2:(zcL T).length≤T.length+1:=hkb
 obtain ⟨q,hq,hqs⟩:∃ q,m.lines[k]?=some q∧spE q=mkS sp:=by
  have h3:(m.lines.map spE)[k]?=some (mkS sp):=by rw [hm,List.getElem?_map,hk]; rfl
  rw [List.getElem?_map] at h3
  obtain ⟨q,a,b⟩:=Option.map_eq_some_iff.1 h3
  exact ⟨q,a,b⟩
 have hlen:m.lines.length=(zcL T).length:=by have:=congrArg List.length hm; simpa using this
 have hq1:q.span_From=(sp.1:Int):=congrArg Gapi_Span.From hqs
 have hq2:q.span_To=(sp.2:Int):=congrArg Gapi_Span.To hqs
 have hspan:zeb m (k:Int)=some ((⟨(sp.1:Int),(sp.2:Int)⟩:Gapi_Span),q.end_,0):=by
  unfold zeb
  refine zaz (decide_eq_false (by omega)) (zaz (decide_eq_false (by omega)) (zaO (zc4 hq) ?_))
  rw [hq1,hq2]
 have hcut:zbU (mkB T) (sp.1:Int) (sp.2:Int)=mkB ((T.drop sp.1).take (sp.2 - sp.1)):=zlf T sp.1 sp.2
 generalize hx:(T.drop sp.1).take (sp.2 - sp.1)=x at hcut ⊢
 have hxl:x.length=sp.2 - sp.1:=by rw [← hx,List.length_take,List.length_drop]; omega
 unfold zde
 refine zaB (decide_eq_true hn) (zby (zby (zaO hspan (zbm ⟨by show (0:Int)≤(sp.1:Int); omega,by show (sp.1:Int)≤sp.2; omega,by show (sp.2:Int)≤_; rw [zba]; omega⟩ ?_))))
 show zal (ze8 (zbU (mkB T) (sp.1:Int) (sp.2:Int))) _=_
 rw [hcut]
 refine zaO (zuR x (by omega)) ?_
 unfold zf8
 have goOn:∀ (a:ByteArray) (b:List Gapi_Verse) (c:List Gapi_Span) (d e:Bool),(grd (I64 ((k:Int)+1))<|ag a b c d e ((k:Int)+1))=ag a b c d e ((k+1:Nat):Int):=fun a b c d e=>zbm ⟨by omega,by omega⟩ (by rw [show (k:Int)+1=((k+1:Nat):Int) by omega])
 cases hb:zij x with
 | true =>
  rw [if_pos rfl]
  exact zaB rfl (goOn _ _ _ _ _)
 | false =>
  rw [if_neg (by decide)]
  refine zaz rfl ?_
  by_cases hbig:1024<x.length
  ·rw [if_pos hbig]
   exact zaB (decide_eq_true (by rw [zba]; omega)) (zbm ⟨by show _≤(sp.1:Int)+1024; omega,by show (sp.1:Int)+1024≤_; omega⟩ rfl)
  ·rw [if_neg hbig]
   refine zaz (decide_eq_false (by rw [zba]; omega)) ?_
   have h512:=hI.most
   have verse:¬ (st.first=true∧zpV x=true)→(zaw (((st.vs.length:Int):Int)==512) (some (none,(⟨3,(sp.1:Int)⟩:Gapi_Spot))) (zbi (fun (j4:(List Gapi_Span)→Option ((Option Gpoem_Poem)×Gapi_Spot)) =>
     zaw (!st.row) (grd ((zjd 0 st.stz).length+1≤2147483648)<|j4 (zjd 0 st.stz++[(⟨(st.vs.length:Int),(st.vs.length:Int)⟩:Gapi_Span)])) (j4 (zjd 0 st.stz))) (fun (p20:List Gapi_Span) =>
      grd (I64 ((p20.length:Int) - 1)) <|
      zal (zcb p20 ((p20.length:Int) - 1)) fun (q1:Gapi_Span) =>
      zal (zd3 (mkB x)) fun (r7:Int) =>
      grd (0≤(r7:Int)∧(r7:Int)≤((mkB x).size:Int)∧(((mkB x).size:Int):Int)≤((mkB x).size:Int)) <|
      grd (I64 ((p20.length:Int) - 1)) <|
      grd (I64 ((st.vs.length:Int) - q1.From)) <|
      grd (I64 ((sp.1:Int)+r7)) <|
      grd (st.vs.length+1≤2147483648) <|
      grd (I64 ((st.vs.length:Int)+1)) <|
      (grd (I64 ((k:Int)+1))<|ag (mkB st.t) (st.vs++[(⟨zbU (mkB x) r7 ((mkB x).size:Int),r7,(p20.length:Int) - 1,(st.vs.length:Int) - q1.From,(sp.1:Int)+r7,(sp.2:Int)⟩:Gapi_Verse)]) (p20.set ((p20.length:Int) - 1:Int).toNat (⟨q1.From,(st.vs.length:Int)+1⟩:Gapi_Span)) false true ((k:Int)+1))))) =
     match (if st.vs.length=512 then Except.error (⟨3,(sp.1:Int)⟩:Gapi_Spot) else Except.ok (zov st sp.1 x)) with
     | .error e=>some (none,e)
     | .ok st'=>ag (mkB st'.t) st'.vs (zjd 0 st'.stz) st'.first st'.row ((k+1:Nat):Int):=fun hnt=>by
    by_cases hfull:st.vs.length=512
    ·rw [if_pos hfull]; exact zaB (beq_iff_eq.2 (by omega)) rfl
    ·rw [if_neg hfull]
     refine zaz (beq_eq_false_iff_ne.2 (by omega)) (zby ?_)
     obtain ⟨init,r,he,hl,hdl,htot,hsp⟩:=zmZ hI
     have hzl:=hI.stzLen
     have hol:(zc7 st).length≤513:=znQ hzl
     have hil:init.length+1=(zc7 st).length:=by rw [he]; simp
     have tail:∀ p20:List Gapi_Span,p20=zjd 0 (zc7 st)→(grd (I64 ((p20.length:Int) - 1)) <|
      zal (zcb p20 ((p20.length:Int) - 1)) fun (q1:Gapi_Span) =>
      zal (zd3 (mkB x)) fun (r7:Int) =>
      grd (0≤(r7:Int)∧(r7:Int)≤((mkB x).size:Int)∧(((mkB x).size:Int):Int)≤((mkB x).size:Int)) <|
      grd (I64 ((p20.length:Int) - 1)) <|
      grd (I64 ((st.vs.length:Int) - q1.From)) <|
      grd (I64 ((sp.1:Int)+r7)) <|
      grd (st.vs.length+1≤2147483648) <|
      grd (I64 ((st.vs.length:Int)+1)) <|
      (grd (I64 ((k:Int)+1))<|ag (mkB st.t) (st.vs++[(⟨zbU (mkB x) r7 ((mkB x).size:Int),r7,(p20.length:Int) - 1,(st.vs.length:Int) - q1.From,(sp.1:Int)+r7,(sp.2:Int)⟩:Gapi_Verse)]) (p20.set ((p20.length:Int) - 1:Int).toNat (⟨q1.From,(st.vs.length:Int)+1⟩:Gapi_Span)) false true ((k:Int)+1))) =
       ag (mkB (zov st sp.1 x).t) (zov st sp.1 x).vs (zjd 0 (zov st sp.1 x).stz) (zov st sp.1 x).first (zov st sp.1 x).row ((k+1:Nat):Int):=fun p20 hp=>by
      have hpl:p20.length=(zc7 st).length:=by rw [hp,zhH]
      have hg:zcb p20 ((p20.length:Int) - 1)=some ⟨(tot init:Int),(st.vs.length:Int)⟩:=by
       refine zew (n:=init.length) (by omega) ?_
       rw [hp,hsp,List.getElem?_append_right (by rw [zhH]; exact Nat.le_refl _),zhH,Nat.sub_self]; rfl
      have hind:=zpv x
      refine zbm ⟨by omega,by omega⟩ (zaO hg (zaO (zs8 x (by omega)) (zbm ⟨by omega,by rw [zba]; omega,by omega⟩ (zbm ⟨by omega,by omega⟩ (zbm ⟨by show _≤(st.vs.length:Int) - (tot init:Int); omega,by show (st.vs.length:Int) - (tot init:Int)≤_; omega⟩ (zbm ⟨by omega,by omega⟩ (zbm (by omega) (zbm ⟨by omega,by omega⟩ ?_))))))))
      refine (goOn _ _ _ _ _).trans ?_
      have e1:(p20.set ((p20.length:Int) - 1:Int).toNat (⟨(tot init:Int),(st.vs.length:Int)+1⟩:Gapi_Span))=zjd 0 (zov st sp.1 x).stz:=by
       rw [show ((p20.length:Int) - 1:Int).toNat=(zjd 0 init).length by rw [zhH]; omega,hp,hsp,zit]
       show _=zjd 0 ((zc7 st).dropLast++[zgv (zc7 st)++[x]])
       rw [hdl,hl,zj6,Nat.zero_add]
       show _=_++[(⟨(tot init:Int),((tot init+(r++[x]).length:Nat):Int)⟩:Gapi_Span)]
       rw [List.length_append,List.length_singleton]
       congr 3
       omega
      have e2:(⟨zbU (mkB x) (ind x:Int) ((mkB x).size:Int),(ind x:Int),(p20.length:Int) - 1,(st.vs.length:Int) - (tot init:Int),(sp.1:Int)+(ind x:Int),(sp.2:Int)⟩:Gapi_Verse)=zhg sp.1 x (zc7 st):=by
       unfold zhg
       rw [zle,hpl,hl]
       congr 1
       ·omega
       ·omega
      show ag _ (st.vs++[_]) _ _ _ _=_
      rw [e2]
      show ag _ _ (p20.set _ _) _ _ _=_
      rw [e1]
      rfl
     cases hr:st.row with
     | true =>
      refine zaz rfl ?_
      exact tail _ (by unfold zc7; rw [hr]; rfl)
     | false =>
      refine zaB rfl (zbm (by rw [zhH]; omega) ?_)
      refine tail _ ?_
      unfold zc7; rw [hr,if_neg (by decide),zj6,Nat.zero_add,← hI.tot]
      rfl
   cases hf:st.first with
   | true =>
    refine zaB rfl (zaO (zpb x) ?_)
    cases ht:zpV x with
    | true =>
     rw [if_pos ⟨rfl,rfl⟩]
     have hx1:1≤x.length:=by
      cases x with
      | nil=>cases ht
      | cons b t=>simp
     refine zaB rfl (zbm ⟨by omega,by rw [zba]; omega,by omega⟩ (zaO (a:=mkB (x.drop 2)) ?_ (goOn _ _ _ _ _)))
     have:=zle x 1
     rw [show ((1:Nat):Int)=1 from rfl] at this
     rw [this]
     exact zub x ht
    | false =>
     rw [if_neg (by simp)]
     refine zaz rfl ?_
     exact verse (by rw [ht]; simp)
   | false =>
    rw [if_neg (by simp)]
    refine zaz rfl ?_
    exact verse (by rw [hf]; simp)
end
theorem zrc {T:List UInt8} {J:ByteArray→(List Gapi_Verse)→(List Gapi_Span)→Option ((Option Gpoem_Poem)×Gapi_Spot)} {m:Gplace_Map} (hT:T.length≤65536) (hm:m.lines.map spE=(zcL T).map mkS) :
  ∀ (n k:Nat) (st:RS),RInv st→k≤(zcL T).length→(zcL T).length - k<n →
   zaF (fun _ _ _ _ _ _=>none) (zde (mkB T) J m (m.lines.length:Int)) n (mkB st.t) st.vs (zjd 0 st.stz) st.first st.row (k:Int) =
    match zg5 st ((zha T).drop k) with
    | .error e=>some (none,e)
    | .ok st'=>J (mkB st'.t) st'.vs (zjd 0 st'.stz):=by
 have hlen:m.lines.length=(zcL T).length:=by have:=congrArg List.length hm; simpa using this
 intro n
 induction n with
 | zero=>intro k st h1 h2 h3; omega
 | succ n ih =>
  intro k st hI hk hn
  rw [zdx]
  obtain ⟨ag,hag⟩:∃ ag,ag=zaF (fun _ _ _ _ _ _=>none) (zde (mkB T) J m (m.lines.length:Int)) n:=⟨_,rfl⟩
  rw [← hag] at ih ⊢
  rcases Nat.lt_or_ge k (zcL T).length with h | h
  ·obtain ⟨sp,hsp⟩:∃ sp,(zcL T)[k]?=some sp:=⟨_,List.getElem?_eq_getElem h⟩
   rw [zrb hT hI hsp hm (by omega)]
   have hi:(zha T).drop k=(sp.1,(T.drop sp.1).take (sp.2 - sp.1))::(zha T).drop (k+1):=by
    have hl:k<(zha T).length:=by unfold zha; rw [List.length_map]; exact h
    rw [List.drop_eq_getElem_cons hl]
    congr 1
    have:(zha T)[k]?=some (sp.1,(T.drop sp.1).take (sp.2 - sp.1)):=by unfold zha; rw [List.getElem?_map,hsp]; rfl
    rw [List.getElem?_eq_getElem hl] at this
    exact Option.some.inj this
   rw [hi,zg5]
   cases hs:zf8 st (sp.1,(T.drop sp.1).take (sp.2 - sp.1)) with
   | error e=>rfl
   | ok st'=>exact ih (k+1) st' (hI.step hs) (by omega) (by omega)
  ·rw [List.drop_eq_nil_of_le (by unfold zha; rw [List.length_map]; exact h)]
   unfold zde
   exact zaz (decide_eq_false (by omega)) rfl
theorem zvS (T:List UInt8):zeY (mkB T)=match rd T with
  | .error e=>some (none,e)
  | .ok st=>some (some (⟨mkB st.t,st.vs,zjd 0 st.stz,mkB T⟩:Gpoem_Poem),(⟨0,0⟩:Gapi_Spot)):=by
 unfold zeY rd
 by_cases h:65536<T.length
 ·rw [if_pos h]
  exact zaO (zs3 _ (by rw [zba]; exact h)) (zaB rfl rfl)
 ·rw [if_neg h]
  obtain ⟨m,h1,h2,h3⟩:=zxq (mkB T) (by rw [zba]; omega)
  refine zaO h1 (zaz rfl (zby (zaO rfl (zaO rfl ?_))))
  have hl:=zhm T false 0 0
  have hl2:(zcL T).length≤T.length+1:=hl
  have:=zrc (J:=fun (p1:ByteArray) (p2:List Gapi_Verse) (p3:List Gapi_Span)=>some ((some (⟨p1,p2,p3,mkB T⟩:Gpoem_Poem)),(⟨0,0⟩:Gapi_Spot))) (T:=T) (m:=m) (by omega) h3 zbT 0 rs0 zoC (Nat.zero_le _) (by unfold zbT; omega)
  rw [List.drop_zero] at this
  exact this
end Go.Proofs.YtbempdelckaccaaGreatDoor

namespace Go.Proofs.YtbempdelckaccaaGreatDoor
open Go.RowKit Go.Lib
set_option linter.unusedVariables false
set_option linter.unusedSimpArgs false
theorem zht (a b:List (List (List UInt8))):mkZ (a++b)=mkZ a++mkZ b:=List.map_append
theorem zfs (a:List (List (List UInt8))):(mkZ a).length=a.length:=List.length_map ..
section
variable {T:List UInt8} {st:RS} {sp:Nat×Nat} {k:Nat}
theorem znH {J:ByteArray→(List (List ByteArray))→(List Gapi_Verse)→Option (Gref17_Poem×(List Gapi_Verse)×Gapi_Spot)} {ag:ByteArray→(List (List ByteArray))→(List Gapi_Verse)→Bool→Bool→Int→Option (Gref17_Poem×(List Gapi_Verse)×Gapi_Spot)}
  (hT:T.length≤65536) (hI:RInv st) (hk:(zcL T)[k]?=some sp) :
  zcQ (mkB T) J ((zcL T).map mkS) ag (mkB st.t) (mkZ st.stz) st.vs st.first st.row (k:Int) =
   match zf8 st (sp.1,(T.drop sp.1).take (sp.2 - sp.1)) with
   | .error e=>some ((⟨ByteArray.empty,([]:List (List ByteArray))⟩:Gref17_Poem),([]:List Gapi_Verse),e)
   | .ok st'=>ag (mkB st'.t) (mkZ st'.stz) st'.vs st'.first st'.row ((k+1:Nat):Int):=by
 obtain ⟨h1,h2,_⟩:=zmF T sp (List.mem_of_getElem? hk)
 have hkl:=(List.getElem?_eq_some_iff.1 hk).1
 have hkb:=zhm T false 0 0
 have hkb2:(zcL T).length≤T.length+1:=hkb
 have hq:zcb ((zcL T).map mkS) (k:Int)=some (mkS sp):=zc4 (by rw [List.getElem?_map,hk]; rfl)
 have hcut:zbU (mkB T) (sp.1:Int) (sp.2:Int)=mkB ((T.drop sp.1).take (sp.2 - sp.1)):=zlf T sp.1 sp.2
 generalize hx:(T.drop sp.1).take (sp.2 - sp.1)=x at hcut ⊢
 have hxl:x.length=sp.2 - sp.1:=by rw [← hx,List.length_take,List.length_drop]; omega
 unfold zcQ
 refine zaB (decide_eq_true (by rw [List.length_map]; omega)) (zby (zaO hq (zbm ⟨by show (0:Int)≤(sp.1:Int); omega,by show (sp.1:Int)≤sp.2; omega,by show (sp.2:Int)≤_; rw [zba]; omega⟩ ?_)))
 show zal (zeC (zbU (mkB T) (sp.1:Int) (sp.2:Int))) _=_
 have hcut2:zbU (mkB T) (mkS sp).From (mkS sp).To=mkB x:=hcut
 rw [hcut,hcut2]
 refine zaO (zp2 x (by omega)) ?_
 unfold zf8
 have goOn:∀ (a:ByteArray) (b:List (List ByteArray)) (c:List Gapi_Verse) (d e:Bool),(grd (I64 ((k:Int)+1))<|ag a b c d e ((k:Int)+1))=ag a b c d e ((k+1:Nat):Int):=fun a b c d e=>zbm ⟨by omega,by omega⟩ (by rw [show (k:Int)+1=((k+1:Nat):Int) by omega])
 cases hb:zij x with
 | true =>
  rw [if_pos rfl]
  exact zaB rfl (goOn _ _ _ _ _)
 | false =>
  rw [if_neg (by decide)]
  refine zaz rfl ?_
  by_cases hbig:1024<x.length
  ·rw [if_pos hbig]
   exact zaB (decide_eq_true (by rw [zba]; omega)) (zbm ⟨by show _≤(sp.1:Int)+1024; omega,by show (sp.1:Int)+1024≤_; omega⟩ rfl)
  ·rw [if_neg hbig]
   refine zaz (decide_eq_false (by rw [zba]; omega)) ?_
   have h512:=hI.most
   have verse:∀ Z:Option (Gref17_Poem×(List Gapi_Verse)×Gapi_Spot),Z=(zaw (((st.vs.length:Int):Int)==512) (some ((⟨ByteArray.empty,([]:List (List ByteArray))⟩:Gref17_Poem),([]:List Gapi_Verse),(⟨3,(mkS sp).From⟩:Gapi_Spot))) (zbi (fun (j5:(List (List ByteArray))→Option (Gref17_Poem×(List Gapi_Verse)×Gapi_Spot)) =>
     zaw (!st.row) (grd ((mkZ st.stz).length+1≤2147483648)<|j5 (mkZ st.stz++[([]:List ByteArray)])) (j5 (mkZ st.stz))) (fun (p15:List (List ByteArray)) =>
      grd (I64 ((p15.length:Int) - 1)) <|
      zal (zb5 (mkB x)) fun (r4:Int) =>
      grd (0≤(r4:Int)∧(r4:Int)≤((mkB x).size:Int)∧(((mkB x).size:Int):Int)≤((mkB x).size:Int)) <|
      zal (zb5 (mkB x)) fun (r5:Int) =>
      zal (zcb p15 ((p15.length:Int) - 1)) fun (x1:List ByteArray) =>
      zal (zb5 (mkB x)) fun (r6:Int) =>
      grd (I64 ((mkS sp).From+r6)) <|
      grd (st.vs.length+1≤2147483648) <|
      zal (zcb p15 ((p15.length:Int) - 1)) fun (x2:List ByteArray) =>
      grd (x2.length+1≤2147483648) <|
      (grd (I64 ((k:Int)+1))<|ag (mkB st.t) (p15.set ((p15.length:Int) - 1:Int).toNat (x2++[mkB x])) (st.vs++[(⟨zbU (mkB x) r4 ((mkB x).size:Int),r5,(p15.length:Int) - 1,(x1.length:Int),(mkS sp).From+r6,(mkS sp).To⟩:Gapi_Verse)]) false true ((k:Int)+1))))) →
     ¬ (st.first=true∧zpV x=true)→Z =
     match (if st.vs.length=512 then Except.error (⟨3,(sp.1:Int)⟩:Gapi_Spot) else Except.ok (zov st sp.1 x)) with
     | .error e=>some ((⟨ByteArray.empty,([]:List (List ByteArray))⟩:Gref17_Poem),([]:List Gapi_Verse),e)
     | .ok st'=>ag (mkB st'.t) (mkZ st'.stz) st'.vs st'.first st'.row ((k+1:Nat):Int):=fun Z hZ hnt=>by
    rw [hZ]
    by_cases hfull:st.vs.length=512
    ·rw [if_pos hfull]; exact zaB (beq_iff_eq.2 (by omega)) rfl
    ·rw [if_neg hfull]
     refine zaz (beq_eq_false_iff_ne.2 (by omega)) (zby ?_)
     obtain ⟨init,r,he,hl,hdl,htot,hsp⟩:=zmZ hI
     have hzl:=hI.stzLen
     have hol:(zc7 st).length≤513:=znQ hzl
     have hil:init.length+1=(zc7 st).length:=by rw [he]; simp
     have tail:∀ p15:List (List ByteArray),p15=mkZ (zc7 st)→(grd (I64 ((p15.length:Int) - 1)) <|
      zal (zb5 (mkB x)) fun (r4:Int) =>
      grd (0≤(r4:Int)∧(r4:Int)≤((mkB x).size:Int)∧(((mkB x).size:Int):Int)≤((mkB x).size:Int)) <|
      zal (zb5 (mkB x)) fun (r5:Int) =>
      zal (zcb p15 ((p15.length:Int) - 1)) fun (x1:List ByteArray) =>
      zal (zb5 (mkB x)) fun (r6:Int) =>
      grd (I64 ((mkS sp).From+r6)) <|
      grd (st.vs.length+1≤2147483648) <|
      zal (zcb p15 ((p15.length:Int) - 1)) fun (x2:List ByteArray) =>
      grd (x2.length+1≤2147483648) <|
      (grd (I64 ((k:Int)+1))<|ag (mkB st.t) (p15.set ((p15.length:Int) - 1:Int).toNat (x2++[mkB x])) (st.vs++[(⟨zbU (mkB x) r4 ((mkB x).size:Int),r5,(p15.length:Int) - 1,(x1.length:Int),(mkS sp).From+r6,(mkS sp).To⟩:Gapi_Verse)]) false true ((k:Int)+1))) =
       ag (mkB (zov st sp.1 x).t) (mkZ (zov st sp.1 x).stz) (zov st sp.1 x).vs (zov st sp.1 x).first (zov st sp.1 x).row ((k+1:Nat):Int):=fun p15 hp=>by
      have hpl:p15.length=(zc7 st).length:=by rw [hp,zfs]
      have hg:zcb p15 ((p15.length:Int) - 1)=some (r.map mkB):=by
       refine zew (n:=init.length) (by omega) ?_
       rw [hp,he,zht,List.getElem?_append_right (by rw [zfs]; exact Nat.le_refl _),zfs,Nat.sub_self]; rfl
      have hind:=zpv x
      refine zbm ⟨by omega,by omega⟩ (zaO (zh6 x (by omega)) (zbm ⟨by omega,by rw [zba]; omega,by omega⟩ (zaO (zh6 x (by omega)) (zaO hg (zaO (zh6 x (by omega)) (zbm ⟨by show _≤(sp.1:Int)+_; omega,by show (sp.1:Int)+_≤_; omega⟩ (zbm (by omega) (zaO hg (zbm (by rw [List.length_map]; omega) ?_)))))))))
      refine (goOn _ _ _ _ _).trans ?_
      have e1:(p15.set ((p15.length:Int) - 1:Int).toNat (r.map mkB++[mkB x]))=mkZ (zov st sp.1 x).stz:=by
       rw [show ((p15.length:Int) - 1:Int).toNat=(mkZ init).length by rw [zfs]; omega,hp,he,zht]
       show ((mkZ init++[r.map mkB]).set _ _)=mkZ ((zc7 st).dropLast++[zgv (zc7 st)++[x]])
       rw [zit,hdl,hl,zht]
       show _=_++[(r++[x]).map mkB]
       rw [List.map_append]; rfl
      have e2:(⟨zbU (mkB x) (ind x:Int) ((mkB x).size:Int),(ind x:Int),(p15.length:Int) - 1,((r.map mkB).length:Int),(mkS sp).From+(ind x:Int),(mkS sp).To⟩:Gapi_Verse)=zhg sp.1 x (zc7 st):=by
       unfold zhg
       rw [zle,hpl,hl,List.length_map]
       congr 1
       show (sp.2:Int)=_
       omega
      rw [e2,e1]
      rfl
     cases hr:st.row with
     | true =>
      refine zaz rfl ?_
      exact tail _ (by unfold zc7; rw [hr]; rfl)
     | false =>
      refine zaB rfl (zbm (by rw [zfs]; omega) ?_)
      refine tail _ ?_
      unfold zc7; rw [hr,if_neg (by decide),zht]
      rfl
   refine zby ?_
   cases hf:st.first with
   | true =>
    refine zaB rfl (zaO (zoE x) ?_)
    cases ht:zpV x with
    | true =>
     rw [if_pos ⟨rfl,rfl⟩]
     refine zaB rfl (zby ?_)
     by_cases h2l:2<x.length
     ·refine zaB (decide_eq_true (by rw [zba]; omega)) (zbm ⟨by omega,by rw [zba]; omega,by omega⟩ ?_)
      have:=zle x 2
      rw [show ((2:Nat):Int)=2 from rfl] at this
      rw [this]
      exact goOn _ _ _ _ _
     ·refine zaz (decide_eq_false (by rw [zba]; omega)) ?_
      rw [hI.t0 hf,List.drop_eq_nil_of_le (by show x.length≤2; omega)]
      exact goOn _ _ _ _ _
    | false =>
     rw [if_neg (by simp)]
     refine zaz rfl ?_
     exact verse _ rfl (by rw [ht]; simp)
   | false =>
    rw [if_neg (by simp)]
    refine zaz rfl ?_
    exact verse _ rfl (by rw [hf]; simp)
end
theorem znI {T:List UInt8} {J:ByteArray→(List (List ByteArray))→(List Gapi_Verse)→Option (Gref17_Poem×(List Gapi_Verse)×Gapi_Spot)} (hT:T.length≤65536) :
  ∀ (n k:Nat) (st:RS),RInv st→k≤(zcL T).length→(zcL T).length - k<n →
   zaF (fun _ _ _ _ _ _=>none) (zcQ (mkB T) J ((zcL T).map mkS)) n (mkB st.t) (mkZ st.stz) st.vs st.first st.row (k:Int) =
    match zg5 st ((zha T).drop k) with
    | .error e=>some ((⟨ByteArray.empty,([]:List (List ByteArray))⟩:Gref17_Poem),([]:List Gapi_Verse),e)
    | .ok st'=>J (mkB st'.t) (mkZ st'.stz) st'.vs:=by
 intro n
 induction n with
 | zero=>intro k st h1 h2 h3; omega
 | succ n ih =>
  intro k st hI hk hn
  rw [zdx]
  obtain ⟨ag,hag⟩:∃ ag,ag=zaF (fun _ _ _ _ _ _=>none) (zcQ (mkB T) J ((zcL T).map mkS)) n:=⟨_,rfl⟩
  rw [← hag] at ih ⊢
  rcases Nat.lt_or_ge k (zcL T).length with h | h
  ·obtain ⟨sp,hsp⟩:∃ sp,(zcL T)[k]?=some sp:=⟨_,List.getElem?_eq_getElem h⟩
   rw [znH hT hI hsp]
   have hi:(zha T).drop k=(sp.1,(T.drop sp.1).take (sp.2 - sp.1))::(zha T).drop (k+1):=by
    have hl:k<(zha T).length:=by unfold zha; rw [List.length_map]; exact h
    rw [List.drop_eq_getElem_cons hl]
    congr 1
    have:(zha T)[k]?=some (sp.1,(T.drop sp.1).take (sp.2 - sp.1)):=by unfold zha; rw [List.getElem?_map,hsp]; rfl
    rw [List.getElem?_eq_getElem hl] at this
    exact Option.some.inj this
   rw [hi,zg5]
   cases hs:zf8 st (sp.1,(T.drop sp.1).take (sp.2 - sp.1)) with
   | error e=>rfl
   | ok st'=>exact ih (k+1) st' (hI.step hs) (by omega) (by omega)
  ·rw [List.drop_eq_nil_of_le (by unfold zha; rw [List.length_map]; exact h)]
   unfold zcQ
   exact zaz (decide_eq_false (by rw [List.length_map]; omega)) rfl
theorem zra (T:List UInt8):zfJ (mkB T)=match rd T with
  | .error e=>some ((⟨ByteArray.empty,([]:List (List ByteArray))⟩:Gref17_Poem),([]:List Gapi_Verse),e)
  | .ok st=>some ((⟨mkB st.t,mkZ st.stz⟩:Gref17_Poem),st.vs,(⟨0,0⟩:Gapi_Spot)):=by
 unfold zfJ rd
 by_cases h:65536<T.length
 ·rw [if_pos h]
  exact zaB (decide_eq_true (by rw [zba]; omega)) rfl
 ·rw [if_neg h]
  refine zaz (decide_eq_false (by rw [zba]; omega)) (zby (zaO (zp1 _ (by rw [zba]; omega)) ?_))
  have hl:=zhm T false 0 0
  have hl2:(zcL T).length≤T.length+1:=hl
  have:=znI (J:=fun (p1:ByteArray) (p2:List (List ByteArray)) (l1:List Gapi_Verse)=>some ((⟨p1,p2⟩:Gref17_Poem),l1,(⟨0,0⟩:Gapi_Spot))) (T:=T) (by omega) zbT 0 rs0 zoC (Nat.zero_le _) (by unfold zbT; omega)
  rw [List.drop_zero] at this
  exact this
end Go.Proofs.YtbempdelckaccaaGreatDoor

namespace Go.Proofs.YtbempdelckaccaaGreatDoor
open Go.RowKit Go.Lib
set_option linter.unusedVariables false
set_option linter.unusedSimpArgs false
def zcf (c0:Gpoem_Poem) (ag1:Int→Option (List (Int×Gapi_Verse))) (x3:Int):Option (List (Int×Gapi_Verse)) :=
zaw (decide ((x3:Int)<(c0.told_lines.length:Int))) (
zal (zcb c0.told_lines x3) fun (q1:Gapi_Verse) =>
zhb (x3,q1) <|
grd (I64 (x3+1)) <|
ag1 (x3+1)
) (
some []
)
def zc2 (c0:Gpoem_Poem):Option (List (Int×Gapi_Verse)) :=
zaF (fun _=>none) (zcf c0) zbT 0
theorem zhS {b_c0 p_c0:Nat} {c0:Gpoem_Poem} {c0_h0 c0_h1:Hd} {xs:(List (Int×Gapi_Verse))} (h:zc2 c0=some xs):ItrR Tryz.prog 115 [zP b_c0] (fun q:Int×Gapi_Verse=>[zI q.1,.agg (zr4 q.2).toArray]) xs [cells b_c0 [zP p_c0] 58,cells p_c0 [.string c0.told_title,c0_h0.v,c0_h1.v,.string c0.source] 106,zv6 c0_h0.v c0.told_lines,zv5 c0_h1.v c0.told_stanzas]:=by
 unfold zc2 at h
 refine ItrR.intro Tryz.func115 rfl Tryz.ntmps115 (by simp) ?_
 intro l w0 K I X hrd hy
 obtain ⟨r0,hx0⟩:∃ r,xs=[]++r:=⟨xs,rfl⟩
 have hr0:xs=r0:=hx0
 rw [hr0] at h
 refine zaJ (zyG (zbk (i:=0) hrd rfl zvM rfl dc rfl rfl (zaW rfl (zdj Tryz.underlying58) (zyN (zaN rfl (zas (zaI (zyG (zbk (i:=0) hrd rfl zvM rfl dc rfl rfl (zay rfl dc rfl ?_))))))))))
 refine zab zeU rfl dc rfl (show _=0 from rfl) (zab zhM rfl dc rfl (show _=1 from rfl) (zbk (i:=1) hrd rfl zq4 rfl dc rfl rfl (zgr (hrd.vw (i:=2) rfl) rfl dc rfl Tryz.underlying26 (zyR 1 rfl (zyN (zaC ?_))))))
 refine zbq (β:=Nat×Int×(List (Int×Gapi_Verse))×(List (Int×Gapi_Verse))) (fun b=>zaF (fun _=>none) (zcf c0) b.1 b.2.1=some b.2.2.2∧xs=b.2.2.1++b.2.2.2) (fun b=>[]) (fun b=>[(0,.func (.yield l) #[] #[]),(11,c0_h0.v),(12,zI (c0.told_lines.length:Int)),(13,zI b.2.1)]) (fun b=>[I b.2.2.1]) (fun b=>b.1) (zbT,0,([]:List (Int×Gapi_Verse)),r0) ⟨h,hx0⟩ rfl (za5 rfl) (zad [0] kr rfl) ?_
 rintro ⟨n1,x3,acc3,rr3⟩ ⟨h,hx3⟩
 cases n1 with
 | zero=>exact zdM h
 | succ n1 =>
  obtain ⟨ag1,hag1⟩:∃ ag,ag=zaF (fun _=>none) (zcf c0) n1:=⟨_,rfl⟩
  have h:zcf c0 ag1 x3=some rr3:=by rw [hag1]; exact h
  unfold zcf at h
  refine zyG (zaW rfl zbC (zyN (zaJ ?_)))
  refine zyB rfl h (fun h => ?_) (fun h => ?_)
  ·
   refine zas (zaI (zaJ (zaC (zyG (zyR 1 rfl ?_)))))
   obtain ⟨q1,hq1,h⟩:=zbw h
   refine zbL (hrd.vw (i:=2) rfl) hq1 Tryz.underlying26 zqQ rfl dc rfl rfl rfl (zeI (m:=0+(x3:Int).toNat) (j:=0) (i:=2) (q:=q1) (cs:=(zr4 q1)) hrd rfl zuk zes rfl dc rfl (Vw.get (hrd.vw (i:=2) rfl) hq1) rfl rfl rfl ?_)
   refine zbc zt5 rfl dc (fun b1 => ?_)
   refine zyR 1 rfl (za0 (k:=1) (vs:=(zr4 q1)) (l':=(zr4 q1)) zqQ rfl rfl rfl rfl rfl (show _≤_ by simp) rfl rfl ?_)
   refine zyH (zyR 2 rfl (zbb (k:=1) (cs:=(zr4 q1)) zuk rfl dc rfl rfl rfl rfl ?_))
   obtain ⟨rr4,hr1,h⟩:=zj0 h
   have hx4:xs=acc3++(x3,q1)::rr4:=by rw [hx3,hr1]
   refine zeW hy rfl dc rfl hx4 rfl (k:=0) rfl ?_ ?_
   ·
    have hx5:xs=(acc3++[(x3,q1)])++rr4:=by rw [hx4]; simp
    refine zd2 rfl dc rfl zcB (zyN (zaN rfl (zas (zag (zaI (zat ?_))))))
    obtain ⟨hg1,h⟩:=zbn h
    refine zaW rfl (zaX (r:=x3+1) (IntWalk.i64_in _ hg1)) (zyR 1 rfl (zaQ ?_))
    subst hag1
    exact za8 (n1,x3+1,acc3++[(x3,q1)],rr4) ⟨h,hx5⟩ (Nat.lt_succ_self _) rfl (za5 rfl) (zad [0] kr rfl)
   refine zd2 rfl dc rfl zcB (zyN (za9 rfl (zaE (zaA (zaq (zaq (zaA ?_)))))))
   exact zlm (ds:=[]) acc3 (x3,q1) rr4 hx4 (.inl rfl) Splits.nil Tryz.results115 (zad [0] kr rfl)
  refine za6 (zak (zak (zav ?_)))
  cases h
  exact zll (ds:=[]) (.inr rfl) Splits.nil Tryz.results115 (congrArg I (hx3.trans (List.append_nil _))) (zad [0] kr rfl)
def zea (p1:Gpoem_Poem):Option Unit :=
some ()
theorem zjf {bp1:Nat} {p1:Gpoem_Poem} {p1_h0 p1_h1:Hd} {r:Unit} (h:zea p1=some r):FnR Tryz.prog 86 [zP bp1] [cells bp1 [.string p1.told_title,p1_h0.v,p1_h1.v,.string p1.source] 106,zv6 p1_h0.v p1.told_lines,zv5 p1_h1.v p1.told_stanzas] [] (fun v0:Nat=>.func (.func 115) #[] #[zP v0]) (fun v0=>[cells v0 [zP bp1] 58]):=by
 unfold zea at h
 refine FnR.intro Tryz.func86 rfl Tryz.ntmps86 (by simp) ?_
 intro w0 K hrd
 refine zyG ?_
 refine zdQ rfl dc rfl (fun b1 => ?_)
 refine zyR 1 rfl (zyH (zg3 (x1:=[]) (x2:=[.tmp 1]) rfl dc rfl rfl (zyR 1 rfl (zyN (zaE ?_)))))
 cases h
 exact zaS (rs:=[.tmp 2]) b1 (.inl rfl) Tryz.results86 (.cons (.tmp rfl) .nil) rfl (zad [0] kr rfl)
end Go.Proofs.YtbempdelckaccaaGreatDoor

namespace Go.Proofs.YtbempdelckaccaaGreatDoor
open Go.RowKit Go.Lib
set_option linter.unusedVariables false
set_option linter.unusedSimpArgs false
end Go.Proofs.YtbempdelckaccaaGreatDoor

namespace Go.Proofs.YtbempdelckaccaaGreatDoor
open Go.RowKit Go.Lib Go.Shelf
set_option linter.unusedVariables false
set_option linter.unusedSimpArgs false
end Go.Proofs.YtbempdelckaccaaGreatDoor

namespace Go.Proofs.YtbempdelckaccaaGreatDoor
open Go.RowKit Go.Lib
set_option linter.unusedVariables false
set_option linter.unusedSimpArgs false
end Go.Proofs.YtbempdelckaccaaGreatDoor

namespace Go.Proofs.YtbempdelckaccaaGreatDoor
open Go.RowKit Go.Lib
set_option linter.unusedVariables false
set_option linter.unusedSimpArgs false
def zfg (j3:ByteArray→Option ByteArray) (x5:List ByteArray) (ag2:ByteArray→Int→Option ByteArray) (b12:ByteArray) (x8:Int):Option ByteArray :=
zaw (decide ((x8:Int)<(x5.length:Int))) (
zal (zcb x5 x8) fun (q2:ByteArray) =>
grd (q2.size+(⟨#[10]⟩:ByteArray).size≤9223372036854775807) <|
grd (b12.size+(q2++(⟨#[10]⟩:ByteArray)).size≤140737488355328) <|
grd (I64 (x8+1)) <|
ag2 (b12++(q2++(⟨#[10]⟩:ByteArray))) (x8+1)
) (
j3 b12
)
def zdo (stanzas1:List (List ByteArray)) (j2:ByteArray→Option ByteArray) (ag1:ByteArray→Int→Option ByteArray) (b7:ByteArray) (x4:Int):Option ByteArray :=
zaw (decide ((x4:Int)<(stanzas1.length:Int))) (
zbi (fun (j3:ByteArray→Option ByteArray) =>
zal (zcb stanzas1 x4) fun (x5:List ByteArray) =>
zbi (fun (j4:ByteArray→Option ByteArray) =>
zaw (decide ((0:Int)<(b7.size:Int))) (
grd (b7.size+(⟨#[10]⟩:ByteArray).size≤140737488355328) <|
j4 (b7++(⟨#[10]⟩:ByteArray))
) (
j4 b7
)
) (fun (b9:ByteArray) =>
zaF (fun _ _=>none) (zfg j3 x5) zbT b9 0
)
) (fun (b8:ByteArray) =>
grd (I64 (x4+1)) <|
ag1 b8 (x4+1)
)
) (
j2 b7
)
def zgu (title1:ByteArray) (stanzas1:List (List ByteArray)):Option ByteArray :=
zbi (fun (j1:ByteArray→Option ByteArray) =>
zaw (!decide (title1=(⟨#[]⟩:ByteArray))) (
grd ((⟨#[35,32]⟩:ByteArray).size+title1.size≤9223372036854775807) <|
grd (((⟨#[35,32]⟩:ByteArray)++title1).size+(⟨#[10]⟩:ByteArray).size≤9223372036854775807) <|
grd ((⟨#[]⟩:ByteArray).size+(((⟨#[35,32]⟩:ByteArray)++title1)++(⟨#[10]⟩:ByteArray)).size≤140737488355328) <|
j1 ((⟨#[]⟩:ByteArray)++(((⟨#[35,32]⟩:ByteArray)++title1)++(⟨#[10]⟩:ByteArray)))
) (
zaw (decide ((0:Int)<(stanzas1.length:Int))) (
zal (zcb stanzas1 0) fun (x1:List ByteArray) =>
zal (zcb x1 0) fun (q1:ByteArray) =>
zal (zeD q1) fun (r1:Bool) =>
zaw (r1) (
grd ((⟨#[35,32]⟩:ByteArray).size+title1.size≤9223372036854775807) <|
grd (((⟨#[35,32]⟩:ByteArray)++title1).size+(⟨#[10]⟩:ByteArray).size≤9223372036854775807) <|
grd ((⟨#[]⟩:ByteArray).size+(((⟨#[35,32]⟩:ByteArray)++title1)++(⟨#[10]⟩:ByteArray)).size≤140737488355328) <|
j1 ((⟨#[]⟩:ByteArray)++(((⟨#[35,32]⟩:ByteArray)++title1)++(⟨#[10]⟩:ByteArray)))
) (
j1 (⟨#[]⟩:ByteArray)
)
) (
j1 (⟨#[]⟩:ByteArray)
)
)
) (fun (b2:ByteArray) =>
zbi (fun (j2:ByteArray→Option ByteArray) =>
zaF (fun _ _=>none) (zdo stanzas1 j2) zbT b2 0
) (fun (b4:ByteArray) =>
some b4
)
)
def zeE (from1:Int) (to1:Int) (x1:Int×Gapi_Verse) (ag1:(List (List ByteArray))→Int→Option (List (List ByteArray))) (out4:List (List ByteArray)) (stanza3:Int):Option (List (List ByteArray)) :=
zaw (decide ((x1.1:Int)<from1)) (
ag1 out4 stanza3
) (
zaw (decide ((to1:Int)≤x1.1)) (
ag1 out4 stanza3
) (
zbi (fun (j2:(List (List ByteArray))→Int→Option (List (List ByteArray))) =>
zaw ((x1.2.Stanza:Int) != stanza3) (
grd (out4.length+1≤2147483648) <|
j2 (out4++[([]:List ByteArray)]) x1.2.Stanza
) (
j2 out4 stanza3
)
) (fun (out5:List (List ByteArray)) (stanza4:Int) =>
grd (I64 ((out5.length:Int) - 1)) <|
zal (zcb out5 ((out5.length:Int) - 1)) fun (x2:List ByteArray) =>
grd (0≤x1.2.Indent∧x1.2.Indent≤140737488355328) <|
grd ((zbd x1.2.Indent).size+x1.2.Text.size≤9223372036854775807) <|
grd (x2.length+1≤2147483648) <|
ag1 (out5.set ((out5.length:Int) - 1:Int).toNat (x2++[(zbd x1.2.Indent)++x1.2.Text])) stanza4
)
)
)
def zeR (p1:Gpoem_Poem) (from1:Int) (to1:Int):Option (List (List ByteArray)) :=
zbi (fun (j1:(List (List ByteArray))→Option (List (List ByteArray))) =>
zal (zea p1) fun (r1:Unit) =>
zal (zc2 p1) fun (its1:(List (Int×Gapi_Verse))) =>
zbi (fun (dn1:(List (List ByteArray))→Int→Option (List (List ByteArray))) =>
zcu dn1 (zeE from1 to1) its1 ([]:List (List ByteArray)) (-1)
) (fun (out4:List (List ByteArray)) (stanza3:Int) =>
j1 out4
)
) (fun (out1:List (List ByteArray)) =>
some out1
)
def zgB (p1:Gpoem_Poem):Option ByteArray :=
zal (zeR p1 0 (p1.told_lines.length:Int)) fun (r1:(List (List ByteArray))) =>
zal (zgu p1.told_title r1) fun (r2:ByteArray) =>
some r2
end Go.Proofs.YtbempdelckaccaaGreatDoor

namespace Go.Proofs.YtbempdelckaccaaGreatDoor
open Go.RowKit Go.Lib
set_option linter.unusedVariables false
set_option linter.unusedSimpArgs false
theorem zic (a b:List UInt8):mkB a++mkB b=mkB (a++b):=by
 have h:∀ a b:ByteArray,a.data.toList=b.data.toList→a=b:=fun a b h=>by
  have:mkB a.data.toList=mkB b.data.toList:=by rw [h]
  exact this
 apply h
 rw [ByteArray.data_append,Array.toList_append]
 rfl
abbrev Row:=List (List UInt8)
def lnT (r:Row):List UInt8:=r.flatMap (· ++ [10])
def zug (a:List UInt8):List UInt8:=if a=[] then a else a++[10]
def zrr (t:List UInt8):List Row→Bool
 | (x::_)::_=>decide (t≠[])||zpV x
 | _=>decide (t≠[])
def zoN (t:List UInt8) (z:List Row):List UInt8:=if zrr t z then 35::32::t++[10] else []
def prF (a:List UInt8) (z:List Row):List UInt8:=z.foldl (fun a r=>zug a++lnT r) a
def prT (t:List UInt8) (z:List Row):List UInt8:=prF (zoN t z) z
def wtR (r:Row):Nat:=(r.map fun x=>x.length+1).sum
def wtZ (z:List Row):Nat:=(z.map fun r=>1+wtR r).sum
theorem zj5 (x:List UInt8) (r:Row):wtR (x::r)=x.length+1+wtR r:=by unfold wtR; rw [List.map_cons,List.sum_cons]
theorem zmu (r:Row) (z:List Row):wtZ (r::z)=1+wtR r+wtZ z:=by unfold wtZ; rw [List.map_cons,List.sum_cons]
theorem zpr (x:List UInt8) (r:Row):lnT (x::r)=x++[10]++lnT r:=List.flatMap_cons
theorem zuz (r:Row):(lnT r).length=wtR r:=by
 induction r with
 | nil=>rfl
 | cons x r ih=>rw [zpr,zj5,List.length_append,List.length_append,ih]; rfl
theorem zqF (r:Row):r.length≤wtR r:=by
 induction r with
 | nil=>exact Nat.le_refl _
 | cons x r ih=>rw [zj5,List.length_cons]; omega
theorem zqE (z:List Row):z.length≤wtZ z:=by
 induction z with
 | nil=>exact Nat.le_refl _
 | cons r z ih=>rw [zmu,List.length_cons]; omega
theorem zsK (a:List UInt8):(zug a).length≤a.length+1:=by
 unfold zug; split
 ·omega
 ·rw [List.length_append]; simp
theorem zrx (t:List UInt8) (z:List Row):(zoN t z).length≤t.length+3:=by
 unfold zoN; split
 ·simp
 ·simp
theorem zp6 (r:Row) (J:ByteArray→Option ByteArray) (a0:List UInt8) (hb:a0.length+wtR r≤140737488354000):∀ (n i:Nat) (a:List UInt8),i≤r.length→r.length - i<n→a.length+wtR (r.drop i)≤140737488354000 →
  zaF (fun _ _=>none) (zfg J (r.map mkB)) n (mkB a) (i:Int)=J (mkB (a++lnT (r.drop i))):=by
 intro n
 induction n with
 | zero=>intro i a h1 h2; omega
 | succ n ih =>
  intro i a hi hn ha
  rw [zdx]
  obtain ⟨ag,hag⟩:∃ ag,ag=zaF (fun _ _=>none) (zfg J (r.map mkB)) n:=⟨_,rfl⟩
  rw [← hag] at ih ⊢
  unfold zfg
  have hrl:=zqF r
  rcases Nat.lt_or_ge i r.length with h | h
  ·have hd:r.drop i=r[i]::r.drop (i+1):=List.drop_eq_getElem_cons h
   rw [hd,zj5] at ha
   have hg:zcb (r.map mkB) (i:Int)=some (mkB r[i]):=zc4 (by rw [List.getElem?_map,List.getElem?_eq_getElem h]; rfl)
   refine zaB (decide_eq_true (by rw [List.length_map]; omega)) (zaO hg ?_)
   rw [show (⟨#[10]⟩:ByteArray)=mkB [10] from rfl,zic,zic]
   refine zbm (by rw [zba,zba]; simp only [List.length_singleton]; omega) (zbm (by rw [zba,zba,List.length_append]; simp only [List.length_singleton]; omega) (zbm ⟨by omega,by omega⟩ ?_))
   rw [show (i:Int)+1=((i+1:Nat):Int) by omega,ih (i+1) _ (by omega) (by omega) (by rw [List.length_append,List.length_append]; simp only [List.length_singleton]; omega),hd,zpr]
   simp only [List.append_assoc]
  ·rw [List.drop_eq_nil_of_le h]
   refine zaz (decide_eq_false (by rw [List.length_map]; omega)) ?_
   show J (mkB a)=J (mkB (a++[]))
   rw [List.append_nil]
theorem zoG (z:List Row) (hz:z.length≤140737488354000) (J:ByteArray→Option ByteArray):∀ (n i:Nat) (a:List UInt8),i≤z.length→z.length - i<n→a.length+wtZ (z.drop i)≤140737488354000 →
  zaF (fun _ _=>none) (zdo (mkZ z) J) n (mkB a) (i:Int)=J (mkB (prF a (z.drop i))):=by
 intro n
 induction n with
 | zero=>intro i a h1 h2; omega
 | succ n ih =>
  intro i a hi hn ha
  rw [zdx]
  obtain ⟨ag,hag⟩:∃ ag,ag=zaF (fun _ _=>none) (zdo (mkZ z) J) n:=⟨_,rfl⟩
  rw [← hag] at ih ⊢
  unfold zdo
  rcases Nat.lt_or_ge i z.length with h | h
  ·have hd:z.drop i=z[i]::z.drop (i+1):=List.drop_eq_getElem_cons h
   have hdl:=zqE (z.drop i)
   rw [List.length_drop] at hdl
   rw [hd,zmu] at ha
   have hg:zcb (mkZ z) (i:Int)=some (z[i].map mkB):=zc4 (by unfold mkZ; rw [List.getElem?_map,List.getElem?_eq_getElem h]; rfl)
   have hsl:=zsK a
   refine zaB (decide_eq_true (by rw [zfs]; omega)) (zby (zaO hg (zby ?_)))
   have hin:=zp6 z[i] (fun (b8:ByteArray)=>grd (I64 ((i:Int)+1))<|ag b8 ((i:Int)+1)) (zug a) (by omega) zbT 0 (zug a) (Nat.zero_le _) (by have:=zqF z[i]; unfold zbT; omega) (by rw [List.drop_zero]; omega)
   have fin:(grd (I64 ((i:Int)+1))<|ag (mkB (zug a++lnT z[i])) ((i:Int)+1))=J (mkB (prF a (z.drop i))):=by
    rw [hd]
    refine zbm ⟨by omega,by omega⟩ ?_
    rw [show (i:Int)+1=((i+1:Nat):Int) by omega,ih (i+1) _ (by omega) (by omega) (by rw [List.length_append,zuz]; omega)]
    rfl
   by_cases ha0:a=[]
   ·subst ha0
    refine zaz (decide_eq_false (by rw [zba]; simp)) ?_
    refine hin.trans ?_
    rw [List.drop_zero]; exact fin
   ·have hpos:0<a.length:=List.length_pos_iff.2 ha0
    refine zaB (decide_eq_true (by rw [zba]; omega)) (zbm (by rw [zba]; show a.length+1≤_; omega) ?_)
    have e:zug a=a++[10]:=if_neg ha0
    rw [show (⟨#[10]⟩:ByteArray)=mkB [10] from rfl,zic,← e]
    refine hin.trans ?_
    rw [List.drop_zero]; exact fin
  ·rw [List.drop_eq_nil_of_le h]
   exact zaz (decide_eq_false (by rw [zfs]; omega)) rfl
theorem zrg (t:List UInt8) (z:List Row) (hne:∀ r∈z,r≠[]) (hw:t.length+3+wtZ z≤140737488354000):zgu (mkB t) (mkZ z)=some (mkB (prT t z)):=by
 have hzl:=zqE z
 unfold zgu
 refine zby ?_
 have tail:∀ b:List UInt8,b=zoN t z→(zbi (fun (j2:ByteArray→Option ByteArray)=>zaF (fun _ _=>none) (zdo (mkZ z) j2) zbT (mkB b) 0) (fun (b4:ByteArray)=>some b4))=some (mkB (prT t z)):=fun b hb=>by
  have hl:=zrx t z
  have:=zoG z (by omega) (fun (b4:ByteArray)=>some b4) zbT 0 b (Nat.zero_le _) (by unfold zbT; omega) (by rw [List.drop_zero,hb]; omega)
  rw [List.drop_zero] at this
  refine zby (this.trans ?_)
  rw [hb]; rfl
 have hd:(grd ((⟨#[35,32]⟩:ByteArray).size+(mkB t).size≤9223372036854775807)<|grd (((⟨#[35,32]⟩:ByteArray)++mkB t).size+(⟨#[10]⟩:ByteArray).size≤9223372036854775807) <|
   grd ((⟨#[]⟩:ByteArray).size+(((⟨#[35,32]⟩:ByteArray)++mkB t)++(⟨#[10]⟩:ByteArray)).size≤140737488355328) <|
   (zbi (fun (j2:ByteArray→Option ByteArray)=>zaF (fun _ _=>none) (zdo (mkZ z) j2) zbT ((⟨#[]⟩:ByteArray)++(((⟨#[35,32]⟩:ByteArray)++mkB t)++(⟨#[10]⟩:ByteArray))) 0) (fun (b4:ByteArray)=>some b4))) =
    (zbi (fun (j2:ByteArray→Option ByteArray)=>zaF (fun _ _=>none) (zdo (mkZ z) j2) zbT (mkB (35::32::t++[10])) 0) (fun (b4:ByteArray)=>some b4)):=by
  rw [show (⟨#[35,32]⟩:ByteArray)=mkB [35,32] from rfl,show (⟨#[10]⟩:ByteArray)=mkB [10] from rfl,show (⟨#[]⟩:ByteArray)=mkB [] from rfl,zic,zic,zic]
  refine zbm ?_ (zbm ?_ (zbm ?_ rfl))
  ·rw [zba,zba]; simp only [List.length_cons,List.length_nil]; omega
  ·rw [zba,zba,List.length_append]; simp only [List.length_cons,List.length_nil]; omega
  ·rw [zba,zba,List.length_append,List.length_append]; simp only [List.length_cons,List.length_nil]; omega
 by_cases ht:t=[]
 ·subst ht
  refine zaz (by rw [show (⟨#[]⟩:ByteArray)=mkB [] from rfl]; simp) ?_
  cases z with
  | nil=>exact zaz (decide_eq_false (by simp [mkZ])) (tail [] rfl)
  | cons r z =>
   have hr:=hne r (by simp)
   obtain ⟨x,r',rfl⟩:=List.exists_cons_of_ne_nil hr
   refine zaB (decide_eq_true (by rw [zfs,List.length_cons]; omega)) (zaO (a:=(x::r').map mkB) rfl (zaO (a:=mkB x) rfl (zaO (zpb x) ?_)))
   cases hti:zpV x with
   | true =>
    refine zaB rfl (hd.trans (tail _ ?_))
    have:zrr [] ((x::r')::z)=true:=by show (decide (([]:List UInt8)≠[])||zpV x)=true; rw [hti]; rfl
    unfold zoN; rw [this]; rfl
   | false =>
    refine zaz rfl (tail [] ?_)
    have:zrr [] ((x::r')::z)=false:=by show (decide (([]:List UInt8)≠[])||zpV x)=false; rw [hti]; rfl
    unfold zoN; rw [this]; rfl
 ·refine zaB (by rw [show (⟨#[]⟩:ByteArray)=mkB [] from rfl,decide_eq_false (fun e=>ht (zkN e))]; rfl) (hd.trans (tail _ ?_))
  unfold zoN
  have:zrr t z=true:=by
   unfold zrr
   split <;> simp [ht]
  rw [this]; rfl
end Go.Proofs.YtbempdelckaccaaGreatDoor

namespace Go.Proofs.YtbempdelckaccaaGreatDoor
open Go.RowKit Go.Lib
set_option linter.unusedVariables false
set_option linter.unusedSimpArgs false
theorem zmz (r:Row) (z:List Row):tot (r::z)=r.length+tot z:=by unfold tot; rw [List.map_cons,List.sum_cons]
end Go.Proofs.YtbempdelckaccaaGreatDoor

namespace Go.Proofs.YtbempdelckaccaaGreatDoor
open Go.RowKit Go.Lib
set_option linter.unusedVariables false
set_option linter.unusedSimpArgs false
def noE (x:List UInt8):Prop:=∀ b∈x,isE b=false
structure GLn (x:List UInt8):Prop where
 bl:zij x=false
 le:x.length≤1024
 ne:noE x
def zgH:Nat→Row→List (Nat×List UInt8)
 | _,[]=>[]
 | i,x::r=>(i,x)::zgH (i+1) r
def zfK:Nat→List Row→List (Nat×Nat×List UInt8)
 | _,[]=>[]
 | k,r::z=>(zgH 0 r).map (fun p=>(k,p))++zfK (k+1) z
def zpu (v:Gapi_Verse):ByteArray×Int×Int×Int:=(v.Text,v.Indent,v.Stanza,v.In)
def zqy (p:Nat×Nat×List UInt8):ByteArray×Int×Int×Int:=(mkB (p.2.2.drop (ind p.2.2)),(ind p.2.2:Int),(p.1:Int),(p.2.1:Int))
def VOk (vs:List Gapi_Verse) (z:List Row):Prop:=vs.map zpu=(zfK 0 z).map zqy
theorem zn3 (x:List UInt8):∀ (r:Row) (i:Nat),zgH i (r++[x])=zgH i r++[(i+r.length,x)]
 | [],i=>rfl
 | y::r,i=>by
  show (i,y)::zgH (i+1) (r++[x])=_
  rw [zn3 x r (i+1),List.length_cons,show i+1+r.length=i+(r.length+1) by omega]; rfl
theorem ziK:∀ (a b:List Row) (k:Nat),zfK k (a++b)=zfK k a++zfK (k+a.length) b
 | [],b,k=>rfl
 | r::a,b,k=>by
  show _++zfK (k+1) (a++b)=_
  rw [ziK a b (k+1),List.length_cons,show k+1+a.length=k+(a.length+1) by omega,← List.append_assoc]; rfl
theorem zk0 (r:Row) (k:Nat):zfK k [r]=(zgH 0 r).map (fun p=>(k,p)):=List.append_nil _
structure PInv (st:RS):Prop extends RInv st where
 vok:VOk st.vs st.stz
 tE:noE st.t
 tL:st.t.length≤1022
 ln:∀ r∈st.stz,∀ x∈r,GLn x
 fr:∀ v∈st.vs,0≤v.Span_From
theorem zqi (st:RS):zfK 0 (zc7 st)=zfK 0 st.stz:=by
 unfold zc7
 split
 ·rfl
 ·rw [ziK,zk0]; exact List.append_nil _
theorem PInv.step {st st':RS} {x:Nat×List UInt8} (h:PInv st) (hx:noE x.2) (hs:zf8 st x=.ok st'):PInv st':=by
 refine ⟨h.toRInv.step hs,?_,?_,?_,?_,?_⟩ <;> unfold zf8 at hs
 all_goals
  split at hs
  ·cases hs; first | exact h.vok | exact h.tE | exact h.tL | exact h.ln | exact h.fr
  split at hs
  ·cases hs
  split at hs
 ·cases hs; exact h.vok
 ·split at hs
  ·cases hs
  ·cases hs
   obtain ⟨init,r,he,hl,hdl,htot,hsp⟩:=zmZ h.toRInv
   show (st.vs++[zhg x.1 x.2 (zc7 st)]).map zpu=(zfK 0 ((zc7 st).dropLast++[zgv (zc7 st)++[x.2]])).map zqy
   rw [hdl,hl,ziK,zk0,zn3,List.map_append,List.map_append,List.map_append,List.map_append,← List.append_assoc]
   have h2:zfK 0 st.stz=zfK 0 init++(zgH 0 r).map (fun p=>(init.length,p)):=by
    rw [← zqi,he,ziK,zk0,Nat.zero_add]
   have h3:=h.vok
   unfold VOk at h3
   rw [h3,h2,List.map_append,Nat.zero_add]
   congr 1
   unfold zhg zpu
   rw [hl,he]
   simp [zqy]
 ·rename_i ht
  cases hs
  intro b hb
  exact hx b (List.mem_of_mem_drop hb)
 ·split at hs
  ·cases hs
  ·cases hs; exact h.tE
 ·rename_i hl ht
  cases hs
  show (x.2.drop 2).length≤1022
  rw [List.length_drop]; omega
 ·split at hs
  ·cases hs
  ·cases hs; exact h.tL
 ·cases hs; exact h.ln
 ·rename_i hb hl ht
  split at hs
  ·cases hs
  ·cases hs
   obtain ⟨init,r,he,hl2,hdl,htot,hsp⟩:=zmZ h.toRInv
   intro r' hr' y hy
   have hold:∀ r∈zc7 st,∀ x∈r,GLn x:=fun r hr x hx=>by
    unfold zc7 at hr
    split at hr
    ·exact h.ln r hr x hx
    ·rcases List.mem_append.1 hr with hr | hr
     ·exact h.ln r hr x hx
     ·rw [List.mem_singleton] at hr; subst hr; cases hx
   have hr2:r'∈(zc7 st).dropLast++[zgv (zc7 st)++[x.2]]:=hr'
   rw [hdl,hl2] at hr2
   rcases List.mem_append.1 hr2 with hr2 | hr2
   ·exact hold r' (by rw [he]; exact List.mem_append_left _ hr2) y hy
   ·rw [List.mem_singleton] at hr2
    subst hr2
    rcases List.mem_append.1 hy with hy | hy
    ·exact hold r (by rw [he]; simp) y hy
    ·rw [List.mem_singleton] at hy
     subst hy
     exact ⟨by simpa using hb,by omega,hx⟩
 ·cases hs; exact h.fr
 ·split at hs
  ·cases hs
  ·cases hs
   intro v hv
   rcases List.mem_append.1 (show v∈st.vs++[zhg x.1 x.2 (zc7 st)] from hv) with hv | hv
   ·exact h.fr v hv
   ·rw [List.mem_singleton] at hv; subst hv
    show (0:Int)≤(x.1:Int)+(ind x.2:Int)
    omega
theorem zxk:PInv rs0:=⟨zoC,rfl,(fun b hb=>by cases hb),Nat.zero_le _,(fun r hr=>by cases hr),(fun v hv=>by cases hv)⟩
theorem PInv.fold:∀ {xs:List (Nat×List UInt8)} {st st':RS},PInv st→(∀ x∈xs,noE x.2)→zg5 st xs=.ok st'→PInv st'
 | [],st,st',h,hx,hs=>by cases hs; exact h
 | x::xs,st,st',h,hx,hs=>by
  unfold zg5 at hs
  cases he:zf8 st x with
  | ok s1=>rw [he] at hs; exact PInv.fold (h.step (hx x (by simp)) he) (fun y hy=>hx y (by simp [hy])) hs
  | error e=>rw [he] at hs; cases hs
theorem zrv (T:List UInt8):∀ x∈zha T,noE x.2:=by
 intro x hx
 obtain ⟨y,hy,rfl⟩:=List.mem_map.1 hx
 exact (zmF T y hy).2.2
theorem zxm {T:List UInt8} {st:RS} (h:rd T=.ok st):PInv st∧T.length≤65536:=by
 unfold rd at h
 split at h
 ·cases h
 ·exact ⟨PInv.fold zxk (zrv T) h,by omega⟩
structure GoodP (t:List UInt8) (z:List Row):Prop where
 tE:noE t
 tL:t.length≤1022
 ne:∀ r∈z,r≠[]
 ln:∀ r∈z,∀ x∈r,GLn x
theorem PInv.good {st:RS} (h:PInv st):GoodP st.t st.stz:=⟨h.tE,h.tL,h.ne,h.ln⟩
end Go.Proofs.YtbempdelckaccaaGreatDoor

namespace Go.Proofs.YtbempdelckaccaaGreatDoor
open Go.RowKit Go.Lib
set_option linter.unusedVariables false
set_option linter.unusedSimpArgs false
theorem zh5 (n:Nat):Lib.repeatL [32] n=List.replicate n 32:=by
 induction n with
 | zero=>rfl
 | succ n ih=>rw [Lib.repeatL,ih,List.replicate_succ]; rfl
theorem zkT:∀ x:List UInt8,List.replicate (ind x) 32++x.drop (ind x)=x
 | []=>rfl
 | b::x=>by
  rw [zka]
  by_cases h:b=32
  ·rw [if_pos h,List.replicate_succ,List.drop_succ_cons,List.cons_append,zkT x,h]
  ·rw [if_neg h]; rfl
theorem ztK (x:List UInt8):zbd (ind x:Int)++mkB (x.drop (ind x))=mkB x:=by
 unfold zbd
 rw [Int.toNat_natCast,zh5]
 have:(⟨(List.replicate (ind x) (32:UInt8)).toArray⟩:ByteArray)=mkB (List.replicate (ind x) 32):=rfl
 rw [this,zic,zkT]
def zlQ:Nat→List Gapi_Verse→List (Int×Gapi_Verse)
 | _,[]=>[]
 | i,v::vs=>((i:Int),v)::zlQ (i+1) vs
theorem zrh (p:Gpoem_Poem) (h:p.told_lines.length≤4611686018427387904):zc2 p=some (zlQ 0 p.told_lines):=by
 unfold zc2
 have key:∀ (n i:Nat),i≤p.told_lines.length→p.told_lines.length - i<n→zaF (fun _=>none) (zcf p) n (i:Int)=some (zlQ i (p.told_lines.drop i)):=by
  intro n
  induction n with
  | zero=>intro i h1 h2; omega
  | succ n ih =>
   intro i hi hn
   rw [zdx]
   obtain ⟨ag,hag⟩:∃ ag,ag=zaF (fun _=>none) (zcf p) n:=⟨_,rfl⟩
   rw [← hag] at ih ⊢
   unfold zcf
   rcases Nat.lt_or_ge i p.told_lines.length with hl | hl
   ·have hd:=List.drop_eq_getElem_cons hl
    refine zaB (decide_eq_true (by omega)) (zaO (zc4 (List.getElem?_eq_getElem hl)) ?_)
    have h1:(grd (I64 ((i:Int)+1))<|ag ((i:Int)+1))=some (zlQ (i+1) (p.told_lines.drop (i+1))):=zbm ⟨by omega,by omega⟩ (by rw [show (i:Int)+1=((i+1:Nat):Int) by omega]; exact ih (i+1) (by omega) (by omega))
    rw [h1,hd]; rfl
   ·rw [List.drop_eq_nil_of_le hl]
    exact zaz (decide_eq_false (by omega)) rfl
 have:=key zbT 0 (Nat.zero_le _) (by unfold zbT; omega)
 rw [List.drop_zero] at this
 exact this
abbrev LnE:=Nat×Nat×List UInt8
def zgh (from_ to_:Nat):Nat→List LnE→List Row×Int→List Row×Int
 | _,[],a=>a
 | i,p::L,a =>
  if i<from_∨to_≤i then zgh from_ to_ (i+1) L a
  else if (p.1:Int)≠a.2 then zgh from_ to_ (i+1) L (a.1++[[p.2.2]],(p.1:Int))
  else zgh from_ to_ (i+1) L (a.1.dropLast++[zgv a.1++[p.2.2]],a.2)
theorem zq6 (from_ to_:Nat) (d:(List (List ByteArray))→Int→Option (List (List ByteArray))):∀ (L:List LnE) (vs:List Gapi_Verse) (i:Nat) (out:List Row) (s:Int),vs.map zpu=L.map zqy→(∀ p∈L,p.2.2.length≤1024)→i+L.length≤1000000 →
  out.length≤i→(∀ r∈out,r.length≤i)→(s≠-1→out≠[])→zcu d (zeE from_ to_) (zlQ i vs) (mkZ out) s=d (mkZ (zgh from_ to_ i L (out,s)).1) (zgh from_ to_ i L (out,s)).2
 | [],vs,i,out,s,hk,hx,hi,ho,hr,hs=>by
  have:vs=[]:=by cases vs with | nil=>rfl | cons v vs=>cases hk
  subst this; rfl
 | p::L,vs,i,out,s,hk,hx,hi,ho,hr,hs=>by
  cases vs with
  | nil=>cases hk
  | cons v vs =>
   rw [List.map_cons,List.map_cons] at hk
   obtain ⟨hv,hk⟩:=List.cons.inj hk
   rw [List.length_cons] at hi
   have hv1:v.Text=mkB (p.2.2.drop (ind p.2.2)):=congrArg (fun q=>q.1) hv
   have hv2:v.Indent=(ind p.2.2:Int):=congrArg (fun q=>q.2.1) hv
   have hv3:v.Stanza=(p.1:Int):=congrArg (fun q=>q.2.2.1) hv
   have hxl:=hx p (by simp)
   have hil:=zpv p.2.2
   show zcu d _ (((i:Int),v)::zlQ (i+1) vs) _ _=_
   rw [zgS]
   have ih:=fun out s h1 h2 h3=>zq6 from_ to_ d L vs (i+1) out s hk (fun q hq=>hx q (by simp [hq])) (by omega) h1 h2 h3
   obtain ⟨ag,hag⟩:∃ ag,ag=zcu d (zeE from_ to_) (zlQ (i+1) vs):=⟨_,rfl⟩
   rw [← hag] at ih ⊢
   unfold zeE zgh
   by_cases h1:i<from_
   ·rw [if_pos (.inl h1)]
    exact zaB (decide_eq_true (by show (i:Int)<_; omega)) (ih out s (by omega) (fun r h=>by have:=hr r h; omega) hs)
   ·refine zaz (decide_eq_false (by show ¬ (i:Int)<_; omega)) ?_
    by_cases h2:to_≤i
    ·rw [if_pos (.inr h2)]
     exact zaB (decide_eq_true (by show _≤(i:Int); omega)) (ih out s (by omega) (fun r h=>by have:=hr r h; omega) hs)
    ·rw [if_neg (by omega)]
     refine zaz (decide_eq_false (by show ¬ _≤(i:Int); omega)) (zby ?_)
     have tail:∀ (z:List Row) (s':Int),z≠[]→z.length≤i+1→(∀ r∈z,r.length≤i)→s'≠-1→(grd (I64 (((mkZ z).length:Int) - 1)) <|
       zal (zcb (mkZ z) (((mkZ z).length:Int) - 1)) fun (x2:List ByteArray) =>
       grd (0≤v.Indent∧v.Indent≤140737488355328) <|
       grd ((zbd v.Indent).size+v.Text.size≤9223372036854775807) <|
       grd (x2.length+1≤2147483648) <|
       ag ((mkZ z).set (((mkZ z).length:Int) - 1:Int).toNat (x2++[(zbd v.Indent)++v.Text])) s')=d (mkZ (zgh from_ to_ (i+1) L (z.dropLast++[zgv z++[p.2.2]],s')).1) (zgh from_ to_ (i+1) L (z.dropLast++[zgv z++[p.2.2]],s')).2:=fun z s' hz hzl hzr hs'=>by
      obtain ⟨w,r,rfl⟩:∃ w r,z=w++[r]:=⟨_,_,zkS hz⟩
      have hl9:zgv (w++[r])=r:=by unfold zgv; rw [List.getLastD_concat]
      rw [List.dropLast_concat,hl9]
      rw [List.length_append,List.length_singleton] at hzl
      have hlen:(mkZ (w++[r])).length=w.length+1:=by rw [zfs,List.length_append,List.length_singleton]
      have hg:zcb (mkZ (w++[r])) (((mkZ (w++[r])).length:Int) - 1)=some (r.map mkB):=by
       refine zew (n:=w.length) (by rw [hlen]; omega) ?_
       rw [zht,List.getElem?_append_right (by rw [zfs]; exact Nat.le_refl _),zfs,Nat.sub_self]; rfl
      have hll:r.length≤i:=hzr _ (by simp)
      refine zbm ⟨by omega,by rw [hlen]; omega⟩ (zaO hg (zbm ⟨by rw [hv2]; omega,by rw [hv2]; omega⟩ ?_))
      rw [hv1,hv2,ztK]
      have hsz:(zbd (ind p.2.2:Int)).size+(mkB (p.2.2.drop (ind p.2.2))).size≤9223372036854775807:=by
       have:(zbd (ind p.2.2:Int)++mkB (p.2.2.drop (ind p.2.2))).size=(mkB p.2.2).size:=by rw [ztK]
       rw [ByteArray.size_append,zba p.2.2] at this
       omega
      refine zbm hsz (zbm (by rw [List.length_map]; omega) ?_)
      have es:(mkZ (w++[r])).set (((mkZ (w++[r])).length:Int) - 1:Int).toNat (r.map mkB++[mkB p.2.2])=mkZ (w++[r++[p.2.2]]):=by
       rw [show (((mkZ (w++[r])).length:Int) - 1:Int).toNat=(mkZ w).length by rw [hlen,zfs]; omega,zht]
       show ((mkZ w++[r.map mkB]).set _ _)=_
       rw [zit,zht]
       show _=_++[(r++[p.2.2]).map mkB]
       rw [List.map_append]; rfl
      rw [es]
      refine ih _ s' (by rw [List.length_append,List.length_singleton]; omega) (fun r' h => ?_) (fun _=>by simp)
      rcases List.mem_append.1 h with h | h
      ·have:=hzr r' (by simp [h]); omega
      ·rw [List.mem_singleton] at h; subst h; rw [List.length_append,List.length_singleton]; omega
     by_cases h3:(p.1:Int)=s
     ·rw [if_neg (by simpa using h3)]
      refine zaz (by rw [hv3,h3]; exact bne_self_eq_false _) ?_
      refine tail out s (hs (by omega)) (by omega) (fun r h=>by have:=hr r h; omega) (by omega)
     ·rw [if_pos h3]
      refine zaB (by rw [hv3]; exact bne_iff_ne.2 h3) (zbm (by rw [zfs]; omega) ?_)
      have h5:=tail (out++[[]]) (p.1:Int) (by simp) (by rw [List.length_append,List.length_singleton]; omega) (fun r h=>by
       rcases List.mem_append.1 h with h | h
       ·exact hr r h
       ·rw [List.mem_singleton] at h; subst h; exact Nat.zero_le _) (by omega)
      have h6:zgv (out++[[]])=[]:=by unfold zgv; rw [List.getLastD_concat]
      rw [List.dropLast_concat,h6,zht] at h5
      refine Eq.trans ?_ h5
      rw [hv3]; rfl
def zqz (from_ to_:Nat):Nat→Row→Row
 | _,[]=>[]
 | at_,x::r=>if from_≤at_∧at_<to_ then x::zqz from_ to_ (at_+1) r else zqz from_ to_ (at_+1) r
def zvg (from_ to_:Nat):Nat→List Row→List Row
 | _,[]=>[]
 | at_,r::z=>(if zqz from_ to_ at_ r=[] then [] else [zqz from_ to_ at_ r])++zvg from_ to_ (at_+r.length) z
theorem zn2:∀ (r:Row) (j:Nat),(zgH j r).length=r.length
 | [],j=>rfl
 | x::r,j=>by show (zgH (j+1) r).length+1=_; rw [zn2 r]; rfl
theorem zk1:∀ (z:List Row) (k:Nat),(zfK k z).length=tot z
 | [],k=>rfl
 | r::z,k=>by
  show ((zgH 0 r).map _++zfK (k+1) z).length=_
  rw [List.length_append,List.length_map,zn2,zk1 z,zmz]
theorem zmP (from_ to_ k:Nat) (out:List Row):∀ (r:Row) (j at_:Nat) (acc:Row) (L:List LnE),zgh from_ to_ at_ ((zgH j r).map (fun p=>(k,p))++L) (out++[acc],(k:Int))=zgh from_ to_ (at_+r.length) L (out++[acc++zqz from_ to_ at_ r],(k:Int))
 | [],j,at_,acc,L=>by
  show zgh from_ to_ at_ L _=zgh from_ to_ at_ L (out++[acc++[]],_)
  rw [List.append_nil]
 | x::r,j,at_,acc,L=>by
  show zgh from_ to_ at_ ((k,j,x)::((zgH (j+1) r).map (fun p=>(k,p))++L)) _=_
  rw [zgh,zqz,List.length_cons,show at_+(r.length+1)=at_+1+r.length by omega]
  by_cases h:from_≤at_∧at_<to_
  ·rw [if_neg (by omega),if_neg (by simp),if_pos h]
   show zgh from_ to_ (at_+1) _ ((out++[acc]).dropLast++[zgv (out++[acc])++[x]],(k:Int))=_
   have h6:zgv (out++[acc])=acc:=by unfold zgv; rw [List.getLastD_concat]
   rw [List.dropLast_concat,h6,zmP from_ to_ k out r (j+1) (at_+1) (acc++[x]) L,List.append_assoc]; rfl
  ·rw [if_pos (by omega),if_neg h,zmP from_ to_ k out r (j+1) (at_+1) acc L]
theorem znD (from_ to_ k:Nat) (out:List Row) (s:Int) (hs:s≠(k:Int)):∀ (r:Row) (j at_:Nat) (L:List LnE),zgh from_ to_ at_ ((zgH j r).map (fun p=>(k,p))++L) (out,s) =
  if zqz from_ to_ at_ r=[] then zgh from_ to_ (at_+r.length) L (out,s) else zgh from_ to_ (at_+r.length) L (out++[zqz from_ to_ at_ r],(k:Int))
 | [],j,at_,L=>by rw [show zqz from_ to_ at_ []=[] from rfl,if_pos rfl]; rfl
 | x::r,j,at_,L=>by
  show zgh from_ to_ at_ ((k,j,x)::((zgH (j+1) r).map (fun p=>(k,p))++L)) _=_
  rw [zgh,zqz,List.length_cons,show at_+(r.length+1)=at_+1+r.length by omega]
  by_cases h:from_≤at_∧at_<to_
  ·rw [if_neg (by omega),if_pos (by show (k:Int)≠s; omega),if_pos h,if_neg (by simp)]
   exact zmP from_ to_ k out r (j+1) (at_+1) [x] L
  ·rw [if_pos (by omega),if_neg h,znD from_ to_ k out s hs r (j+1) (at_+1) L]
theorem zkC (from_ to_:Nat):∀ (z:List Row) (k at_:Nat) (out:List Row) (s:Int),s<(k:Int)→(zgh from_ to_ at_ (zfK k z) (out,s)).1=out++zvg from_ to_ at_ z
 | [],k,at_,out,s,hs=>(List.append_nil _).symm
 | r::z,k,at_,out,s,hs=>by
  show (zgh from_ to_ at_ ((zgH 0 r).map (fun p=>(k,p))++zfK (k+1) z) (out,s)).1=_
  rw [znD from_ to_ k out s (by omega),zvg]
  split
  ·rw [zkC from_ to_ z (k+1) _ out s (by omega)]; rfl
  ·rw [zkC from_ to_ z (k+1) _ _ (k:Int) (by omega),List.append_assoc]
theorem zob (to_:Nat):∀ (r:Row) (at_:Nat),at_+r.length≤to_→zqz 0 to_ at_ r=r
 | [],at_,h=>rfl
 | x::r,at_,h=>by
  rw [List.length_cons] at h
  rw [zqz,if_pos ⟨Nat.zero_le _,by omega⟩,zob to_ r (at_+1) (by omega)]
theorem zoa (to_:Nat):∀ (z:List Row) (at_:Nat),(∀ r∈z,r≠[])→at_+tot z≤to_→zvg 0 to_ at_ z=z
 | [],at_,hne,h=>rfl
 | r::z,at_,hne,h=>by
  rw [zmz] at h
  rw [zvg,zob to_ r at_ (by omega),if_neg (hne r (by simp)),zoa to_ z (at_+r.length) (fun y hy=>hne y (by simp [hy])) (by omega)]
  rfl
structure OkP (p:Gpoem_Poem) (t:List UInt8) (z:List Row):Prop extends GoodP t z where
 title:p.told_title=mkB t
 vok:VOk p.told_lines z
 sp:p.told_stanzas=zjd 0 z
 most:tot z≤512
theorem OkP.len {p:Gpoem_Poem} {t:List UInt8} {z:List Row} (h:OkP p t z):p.told_lines.length=tot z:=by
 have:=congrArg List.length h.vok
 rw [List.length_map,List.length_map,zk1] at this
 exact this
theorem PInv.ok {st:RS} (h:PInv st) (src:ByteArray):OkP (⟨mkB st.t,st.vs,zjd 0 st.stz,src⟩:Gpoem_Poem) st.t st.stz:=⟨h.good,rfl,h.vok,rfl,by have:=h.tot; have:=h.most; omega⟩
theorem znT:∀ (r:Row) (j:Nat) (p:Nat×List UInt8),p∈zgH j r→p.2∈r
 | [],j,p,h=>by cases h
 | x::r,j,p,h=>by
  rcases List.mem_cons.1 h with rfl | h
  ·simp
  ·exact List.mem_cons_of_mem _ (znT r _ p h)
theorem zkO:∀ (z:List Row) (k:Nat) (p:LnE),p∈zfK k z→∃ r∈z,p.2.2∈r
 | [],k,p,h=>by cases h
 | r::z,k,p,h=>by
  rcases List.mem_append.1 (show p∈(zgH 0 r).map (fun p=>(k,p))++zfK (k+1) z from h) with h | h
  ·obtain ⟨q,hq,rfl⟩:=List.mem_map.1 h
   exact ⟨r,by simp,znT r 0 q hq⟩
  ·obtain ⟨r',h1,h2⟩:=zkO z _ p h
   exact ⟨r',by simp [h1],h2⟩
theorem zvP {p:Gpoem_Poem} {t:List UInt8} {z:List Row} (h:OkP p t z) (from_ to_:Nat):zeR p (from_:Int) (to_:Int)=some (mkZ (zvg from_ to_ 0 z)):=by
 unfold zeR
 have hm:=h.most
 refine zby (zaO rfl (zaO (zrh p (by rw [h.len]; omega)) (zby ?_)))
 have:=zq6 from_ to_ (fun (out4:List (List ByteArray)) (stanza3:Int)=>some out4) (zfK 0 z) p.told_lines 0 [] (-1) h.vok (fun q hq=>by
  obtain ⟨r,h1,h2⟩:=zkO z 0 q hq
  exact (h.ln r h1 _ h2).le) (by rw [zk1]; omega) (Nat.zero_le _) (fun r h=>by cases h) (fun h=>absurd rfl h)
 refine this.trans ?_
 rw [zkC from_ to_ z 0 0 [] (-1) (by omega)]
 rfl
theorem ztx:∀ (r:Row),(∀ x∈r,x.length≤1024)→wtR r≤r.length*1025
 | [],h=>Nat.zero_le _
 | x::r,h=>by
  have h1:=ztx r fun y hy=>h y (by simp [hy])
  have h2:=h x (by simp)
  rw [zj5,List.length_cons]; omega
theorem ztw:∀ (z:List Row),(∀ r∈z,∀ x∈r,x.length≤1024)→wtZ z≤z.length+tot z*1025
 | [],h=>Nat.zero_le _
 | r::z,h=>by
  have h1:=ztw z fun y hy=>h y (by simp [hy])
  have h2:=ztx r (h r (by simp))
  rw [zmu,zmz,List.length_cons]; omega
theorem OkP.wt {p:Gpoem_Poem} {t:List UInt8} {z:List Row} (h:OkP p t z):t.length+3+wtZ z≤1000000:=by
 have h1:=ztw z fun r hr x hx=>(h.ln r hr x hx).le
 have h2:=zqP z h.ne
 have h3:=h.most
 have h4:=h.tL
 omega
theorem OkP.full {p:Gpoem_Poem} {t:List UInt8} {z:List Row} (h:OkP p t z):zeR p 0 (p.told_lines.length:Int)=some (mkZ z):=by
 have:=zvP h 0 p.told_lines.length
 rw [zoa _ z 0 h.ne (by rw [h.len]; omega)] at this
 exact this
theorem zwP {p:Gpoem_Poem} {t:List UInt8} {z:List Row} (h:OkP p t z):zgB p=some (mkB (prT t z)):=by
 unfold zgB
 have:=h.wt
 refine zaO h.full (zaO ?_ rfl)
 rw [h.title]
 exact zrg t z h.ne (by omega)
end Go.Proofs.YtbempdelckaccaaGreatDoor

namespace Go.Proofs.YtbempdelckaccaaGreatDoor
open Go.RowKit Go.Lib
set_option linter.unusedVariables false
set_option linter.unusedSimpArgs false
end Go.Proofs.YtbempdelckaccaaGreatDoor

namespace Go.Proofs.YtbempdelckaccaaGreatDoor
open Go.RowKit Go.Lib
set_option linter.unusedVariables false
set_option linter.unusedSimpArgs false
def zc3 (p1:Gpage_parter) (from1:Int) (to1:Int):Option Int :=
grd (I64 (to1 - from1)) <|
grd (I64 (to1 - 1)) <|
zal (zcb p1.blanks (to1 - 1)) fun (q1:Int) =>
grd (I64 ((to1 - from1)+q1)) <|
zal (zcb p1.blanks from1) fun (q2:Int) =>
grd (I64 (((to1 - from1)+q1) - q2)) <|
some (((to1 - from1)+q1) - q2)
theorem zgb {bp1:Nat} {p1:Gpage_parter} {p1_h0 p1_h1 p1_h2 p1_h3:Hd} {from1:Int} {to1:Int} {r:Int} (h:zc3 p1 from1 to1=some r):FnR Tryz.prog 93 [zP bp1,zI from1,zI to1] [cells bp1 [p1_h0.v,p1_h1.v,p1_h2.v,p1_h3.v,zI p1.heights] 131,zv1 p1_h0.v p1.rows,zv0 p1_h1.v p1.blanks,zv0 p1_h2.v p1.firsts,zv0 p1_h3.v p1.lasts] [] (fun _:Unit=>(zI r)) (fun _=>[]):=by
 unfold zc3 at h
 refine FnR.intro Tryz.func93 rfl Tryz.ntmps93 (by simp) ?_
 intro w0 K hrd
 refine zyG (zyR 1 rfl (zyN (zaJ ?_)))
 obtain ⟨hg1,h⟩:=zbn h
 obtain ⟨hg2,h⟩:=zbn h
 obtain ⟨q1,hq1,h⟩:=zbw h
 obtain ⟨hg3,h⟩:=zbn h
 obtain ⟨q2,hq2,h⟩:=zbw h
 obtain ⟨hg4,h⟩:=zbn h
 refine zbK 19 [(0,7,zI to1),(1,8,zI from1),(2,9,zI (to1 - from1)),(3,10,zP bp1),(4,11,zP bp1),(5,12,.pointer (some ⟨bp1,1,none⟩)),(6,13,p1_h1.v),(7,14,zI to1),(8,15,zI (to1 - 1)),(9,16,.pointer (some ⟨zcN p1_h1.v,(0+(to1 - 1:Int).toNat)*1,none⟩)),(10,17,zI q1),(11,18,zI ((to1 - from1)+q1)),(12,19,zP bp1),(13,20,zP bp1),(14,21,.pointer (some ⟨bp1,1,none⟩)),(15,22,p1_h1.v),(16,23,zI from1),(17,24,.pointer (some ⟨zcN p1_h1.v,(0+(from1:Int).toNat)*1,none⟩)),(18,25,zI q2)] mixed kr kr dc (by rfl) kr kr (zyP 2 0 rfl (zae ?_ (zyP 1 3 rfl (zae ?_ (zae ?_ (zae ?_ (zyP 1 7 rfl (zae ?_ (zae ?_ (zae ?_ (zae ?_ (zyP 1 12 rfl (zae ?_ (zae ?_ (zae ?_ (zyP 1 16 rfl (zae ?_ (zae ?_ DrawPre.nil)))))))))))))))))) ?_
 · exact fun D n d c u i=>zb9 rfl dc (zaa (m:=0) u rfl (d 0 dc)) (zaa (m:=1) u rfl (d 1 dc)) (zbG (r:=to1 - from1) (IntWalk.i64_in _ hg1)) (zaf 2 u i rfl)
 · exact fun D n d c u i=>zay rfl dc (zaa (m:=3) u rfl (d 3 dc)) (zaf 4 u i rfl)
 · exact fun D n d c u i=>zab zkg rfl dc (zaa (m:=4) u rfl (d 4 dc)) (show _=1 from rfl) (zaf 5 u i rfl)
 · exact fun D n d c u i=>zbk (i:=0) hrd rfl zgA rfl dc (zaa (m:=5) u rfl (d 5 dc)) rfl (zaf 6 u i rfl)
 · exact fun D n d c u i=>zb9 rfl dc (zaa (m:=7) u rfl (d 7 dc)) rfl (zbG (r:=to1 - 1) (IntWalk.i64_in _ hg2)) (zaf 8 u i rfl)
 · exact fun D n d c u i=>zbL (hrd.vw (i:=2) rfl) hq1 Tryz.underlying49 zeA rfl dc (zaa (m:=6) u rfl (d 6 dc)) (zaa (m:=8) u rfl (d 8 dc)) rfl (zaf 9 u i rfl)
 · exact fun D n d c u i=>zcy (n:=0+(to1 - 1:Int).toNat) (j:=0) (i:=2) (q:=q1) hrd rfl zbr zbO rfl dc (zaa (m:=9) u rfl (d 9 dc)) (Vw.get (hrd.vw (i:=2) rfl) hq1) rfl dc rfl (zaf 10 u i rfl)
 · exact fun D n d c u i=>zb9 rfl dc (zaa (m:=2) u rfl (d 2 dc)) (zaa (m:=10) u rfl (d 10 dc)) (zaX (r:=(to1 - from1)+q1) (IntWalk.i64_in _ hg3)) (zaf 11 u i rfl)
 · exact fun D n d c u i=>zay rfl dc (zaa (m:=12) u rfl (d 12 dc)) (zaf 13 u i rfl)
 · exact fun D n d c u i=>zab zkg rfl dc (zaa (m:=13) u rfl (d 13 dc)) (show _=1 from rfl) (zaf 14 u i rfl)
 · exact fun D n d c u i=>zbk (i:=0) hrd rfl zgA rfl dc (zaa (m:=14) u rfl (d 14 dc)) rfl (zaf 15 u i rfl)
 · exact fun D n d c u i=>zbL (hrd.vw (i:=2) rfl) hq2 Tryz.underlying49 zeA rfl dc (zaa (m:=15) u rfl (d 15 dc)) (zaa (m:=16) u rfl (d 16 dc)) rfl (zaf 17 u i rfl)
 · exact fun D n d c u i=>zcy (n:=0+(from1:Int).toNat) (j:=0) (i:=2) (q:=q2) hrd rfl zbr zbO rfl dc (zaa (m:=17) u rfl (d 17 dc)) (Vw.get (hrd.vw (i:=2) rfl) hq2) rfl dc rfl (zaf 18 u i rfl)
 refine zaW rfl (zbG (r:=((to1 - from1)+q1) - q2) (IntWalk.i64_in _ hg4)) (zyR 1 rfl (zyN (zaE ?_)))
 cases h
 exact zaS (rs:=[.tmp 6]) () (.inl rfl) Tryz.results93 (.cons (.tmp rfl) .nil) rfl Splits.nil
def zdW (p1:Gpage_parter) (k1:Int):Option Int :=
grd (I64 (k1 - 1)) <|
zal (zcb p1.rows (k1 - 1)) fun (q1:Gapi_Row) =>
zal (zcb p1.rows k1) fun (q2:Gapi_Row) =>
zaw ((q1.Stanza:Int) != q2.Stanza) (
some 0
) (
zaw ((q1.Line:Int)==q2.Line) (
some 100
) (
zal (zcb p1.firsts q1.Stanza) fun (q3:Int) =>
zaw ((q1.Line:Int)==q3) (
some 50
) (
zal (zcb p1.lasts q2.Stanza) fun (q4:Int) =>
zaw ((q2.Line:Int)==q4) (
some 50
) (
some 10
)
)
)
)
theorem ziD {bp1:Nat} {p1:Gpage_parter} {p1_h0 p1_h1 p1_h2 p1_h3:Hd} {k1:Int} {r:Int} (h:zdW p1 k1=some r):FnR Tryz.prog 94 [zP bp1,zI k1] [cells bp1 [p1_h0.v,p1_h1.v,p1_h2.v,p1_h3.v,zI p1.heights] 131,zv1 p1_h0.v p1.rows,zv0 p1_h1.v p1.blanks,zv0 p1_h2.v p1.firsts,zv0 p1_h3.v p1.lasts] [] (fun _:Unit=>(zI r)) (fun _=>[]):=by
 unfold zdW at h
 refine FnR.intro Tryz.func94 rfl Tryz.ntmps94 (by simp) ?_
 intro w0 K hrd
 refine zyG (zyR 1 rfl (zyN (zaJ ?_)))
 obtain ⟨hg1,h⟩:=zbn h
 obtain ⟨q1,hq1,h⟩:=zbw h
 obtain ⟨q2,hq2,h⟩:=zbw h
 refine zgs 2 ?_
 refine let vals1:(Nat×Nat)→List (Nat×Nat×Value):=fun b=>[(0,7,zP bp1),(1,8,zP bp1),(2,9,zP bp1),(3,10,p1_h0.v),(4,11,zI k1),(5,12,zI (k1 - 1)),(6,13,.pointer (some ⟨zcN p1_h0.v,(0+(k1 - 1:Int).toNat)*6,none⟩)),(7,14,.agg (zr2 q1).toArray),(8,15,zP bp1),(9,16,zP bp1),(10,17,zP bp1),(11,18,p1_h0.v),(12,19,zI k1),(13,20,.pointer (some ⟨zcN p1_h0.v,(0+(k1:Int).toNat)*6,none⟩)),(14,21,.agg (zr2 q2).toArray),(15,5,zP b.1),(16,6,zP b.2)]; let LL1:(Nat→Prop)→(Nat×Nat)→List Asn:=fun D b=>[eD D emp [(17,cells b.1 (zr2 q1) 33),(15,cells b.1 [zI 0,zI 0,zI 0,zI 0,zI 0,.string ByteArray.empty] 33)],eD D emp [(16,cells b.2 [zI 0,zI 0,zI 0,zI 0,zI 0,.string ByteArray.empty] 33)]]; ?_
 have zhq:zyQ [15,16,17] LL1:=fun i h D b=>zac (zly rfl h) (zac (zly rfl h) rfl)
 refine zd6 (β:=Nat×Nat) 18 ((0:Nat),(0:Nat)) vals1 LL1 mixed kr kr dc (fun _=>rfl) (zac zb4 (zac zb4 rfl)) (znp zhq (fun _=>rfl) (fun _=>rfl) 1 0 (fun _=>rfl) rfl (zyq zhq rfl (fun _=>rfl) (fun _=>rfl) ?_ (zyq zhq rfl (fun _=>rfl) (fun _=>rfl) ?_ (zyq zhq rfl (fun _=>rfl) (fun _=>rfl) ?_ (znp zhq (fun _=>rfl) (fun _=>rfl) 1 4 (fun _=>rfl) rfl (zyq zhq rfl (fun _=>rfl) (fun _=>rfl) ?_ (zyq zhq rfl (fun _=>rfl) (fun _=>rfl) ?_ (zi5 zhq rfl (fun _=>rfl) (fun _=>rfl) ?_ (znp zhq (fun _=>rfl) (fun _=>rfl) 1 8 (fun _=>rfl) rfl (zyq zhq rfl (fun _=>rfl) (fun _=>rfl) ?_ (zyq zhq rfl (fun _=>rfl) (fun _=>rfl) ?_ (zyq zhq rfl (fun _=>rfl) (fun _=>rfl) ?_ (znp zhq (fun _=>rfl) (fun _=>rfl) 1 12 (fun _=>rfl) rfl (zyq zhq rfl (fun _=>rfl) (fun _=>rfl) ?_ (zi5 zhq rfl (fun _=>rfl) (fun _=>rfl) ?_ (zau ?_ (zau ?_ (zau ?_ DrawG.nil)))))))))))))))))) ?_
 · exact fun D ⟨b1,b2⟩ n d c u i=>zay rfl dc (zaa (m:=0) u rfl (d 0 dc)) (zaf 1 u i rfl)
 · exact fun D ⟨b1,b2⟩ n d c u i=>zab zgj rfl dc (zaa (m:=1) u rfl (d 1 dc)) (show _=0 from rfl) (zaf 2 u i rfl)
 · exact fun D ⟨b1,b2⟩ n d c u i=>zbk (i:=0) hrd rfl zhn rfl dc (zaa (m:=2) u rfl (d 2 dc)) rfl (zaf 3 u i rfl)
 · exact fun D ⟨b1,b2⟩ n d c u i=>zb9 rfl dc (zaa (m:=4) u rfl (d 4 dc)) rfl (zbG (r:=k1 - 1) (IntWalk.i64_in _ hg1)) (zaf 5 u i rfl)
 · exact fun D ⟨b1,b2⟩ n d c u i=>zbL (hrd.vw (i:=1) rfl) hq1 Tryz.underlying43 zhj rfl dc (zaa (m:=3) u rfl (d 3 dc)) (zaa (m:=5) u rfl (d 5 dc)) rfl (zaf 6 u i rfl)
 · exact fun D ⟨b1,b2⟩ n d c u i=>⟨_,(zac (zah (fun hD=>n (c 17 _ rfl hD 7 dc)) rfl) rfl),zeI (m:=0+(k1 - 1:Int).toNat) (j:=0) (i:=1) (q:=q1) (cs:=(zr2 q1)) hrd rfl zje zbj rfl dc (zaa (m:=6) u rfl (d 6 dc)) (Vw.get (hrd.vw (i:=1) rfl) hq1) rfl rfl rfl (zaf 7 u i rfl)⟩
 · exact fun D ⟨b1,b2⟩ n d c u i=>zay rfl dc (zaa (m:=8) u rfl (d 8 dc)) (zaf 9 u i rfl)
 · exact fun D ⟨b1,b2⟩ n d c u i=>zab zgj rfl dc (zaa (m:=9) u rfl (d 9 dc)) (show _=0 from rfl) (zaf 10 u i rfl)
 · exact fun D ⟨b1,b2⟩ n d c u i=>zbk (i:=0) hrd rfl zhn rfl dc (zaa (m:=10) u rfl (d 10 dc)) rfl (zaf 11 u i rfl)
 · exact fun D ⟨b1,b2⟩ n d c u i=>zbL (hrd.vw (i:=1) rfl) hq2 Tryz.underlying43 zhj rfl dc (zaa (m:=11) u rfl (d 11 dc)) (zaa (m:=12) u rfl (d 12 dc)) rfl (zaf 13 u i rfl)
 · exact fun D ⟨b1,b2⟩ n d c u i=>⟨_,(zeo rfl),zeI (m:=0+(k1:Int).toNat) (j:=0) (i:=1) (q:=q2) (cs:=(zr2 q2)) hrd rfl zje zbj rfl dc (zaa (m:=13) u rfl (d 13 dc)) (Vw.get (hrd.vw (i:=1) rfl) hq2) rfl rfl rfl (zaf 14 u i rfl)⟩
 ·
  intro D b hn hd hcl
  obtain ⟨zb0,b2⟩:=b
  refine zaK (zac (zah (fun hD=>hn (hcl 17 _ rfl hD 15 dc)) (zah hn zao)) rfl) ?_
  refine zbc zpS rfl dc (fun b1 => ?_)
  refine zc5 0 rfl rfl ?_
  exact zaU (b:=(zb0,b2)) (b1,b2) 15 (by rfl) (by rfl) rfl (zvd (zdv (zap (fun hD=>absurd hD hn) (zap (fun _=>rfl) rfl)))) (zac (zah (fun h=>h.elim (fun hD=>hn (hcl 17 _ rfl hD 15 dc)) (fun h=>absurd h dc)) (zaL (Or.inr rfl) rfl)) (zac (zan (by rfl)) rfl))
 ·
  intro D b hn hd hcl
  obtain ⟨b1,zb1⟩:=b
  refine zaK (zac (zah (fun hD=>hn (hcl 17 _ rfl hD 16 dc)) rfl) (zac (zah hn zao) rfl)) ?_
  refine zbc zpS rfl dc (fun b2 => ?_)
  refine zc5 1 rfl rfl ?_
  exact zaU (b:=(b1,zb1)) (b1,b2) 16 (by rfl) (by rfl) rfl (zw8 (zdv (zap (fun hD=>absurd hD hn) rfl))) (zac ((zan (by rfl)).trans (zah (fun hD=>hn (hcl 17 _ rfl hD 16 dc)) rfl)) (zac (zaL (Or.inr rfl) rfl) rfl))
 ·
  intro D b hn hd hcl
  obtain ⟨b1,b2⟩:=b
  refine zaK (zac (zah hn (zaL (hd 15 dc) rfl)) (zac (zaL (hd 16 dc) rfl) rfl)) (za0 (k:=0) (vs:=(zr2 q1)) (l':=(zr2 q1)) zhj rfl (zaa (m:=15) rfl rfl (hd 15 dc)) (zaa (m:=7) rfl rfl (hd 7 dc)) rfl rfl (show _≤_ by simp) rfl rfl ?_)
  exact zi2 (b:=(b1,b2)) (b1,b2) (by rfl) (znq (zdv rfl)) (zac (zaL (Or.inr rfl) rfl) (zac ((zan (by rfl)).trans (zaL (hd 16 dc) rfl)) rfl))
 intro D b hall
 obtain ⟨b1,b2⟩:=b
 refine zaK (zac (zaL (hall 17 dc) rfl) (zac (zaL (hall 16 dc) rfl) rfl)) (za0 (k:=1) (vs:=(zr2 q2)) (l':=(zr2 q2)) zhj rfl rfl rfl rfl rfl (show _≤_ by simp) rfl rfl (zyN (zaJ (zaC (zyG (zab zid rfl dc rfl (show _=1 from rfl) (zam (k:=0) zbr rfl dc rfl rfl rfl (zab zid rfl dc rfl (show _=1 from rfl) (zam (k:=1) zbr rfl dc rfl rfl rfl (zaW rfl zcc (zyR 1 rfl ?_)))))))))))
 refine zyN ?_
 refine zyB rfl h (fun h => ?_) (fun h => ?_)
 ·
  refine zyG (zyR 1 rfl (zyN (zaE (zaA (zaq ?_)))))
  cases h
  exact zaS (rs:=[.tmp 4]) () (.inl rfl) Tryz.results94 (.cons (.tmp rfl) .nil) rfl Splits.nil
 refine zyG (zab zie rfl dc rfl (show _=0 from rfl) (zam (k:=0) zbr rfl dc rfl rfl rfl (zab zie rfl dc rfl (show _=0 from rfl) (zam (k:=1) zbr rfl dc rfl rfl rfl (zaW rfl zaT (zyR 1 rfl (zyN ?_)))))))
 refine zyB rfl h (fun h => ?_) (fun h => ?_)
 ·
  refine zyG (zyR 1 rfl (zyN (zaE (zaA (zaq ?_)))))
  cases h
  exact zaS (rs:=[.tmp 4]) () (.inl rfl) Tryz.results94 (.cons (.tmp rfl) .nil) rfl Splits.nil
 refine zaJ ?_
 obtain ⟨q3,hq3,h⟩:=zbw h
 refine zfC (b:=(q1.Line:Int)==q3) (fun hb3 => ?_) (fun hb3 => ?_)
 ·
  have h:=zhY hb3 h
  refine zbK 22 [(0,35,zP b1),(1,36,zI q1.Line),(2,37,zP bp1),(3,38,zP bp1),(4,39,.pointer (some ⟨bp1,2,none⟩)),(5,40,p1_h2.v),(6,41,.pointer (some ⟨b1,1,none⟩)),(7,42,zI q1.Stanza),(8,43,.pointer (some ⟨zcN p1_h2.v,(0+(q1.Stanza:Int).toNat)*1,none⟩)),(9,44,zI q3),(10,45,.bool true),(11,46,.bool true),(12,47,undef),(13,48,undef),(14,49,undef),(15,50,undef),(16,51,undef),(17,52,undef),(18,53,undef),(19,54,undef),(20,55,undef),(21,56,undef)] mixed kr kr dc (by rfl) kr kr (zae ?_ (zae ?_ (zyP 1 2 rfl (zae ?_ (zae ?_ (zae ?_ (zae ?_ (zae ?_ (zae ?_ (zae ?_ (zae ?_ (zyP 11 11 rfl DrawPre.nil)))))))))))) ?_
  · exact fun D n d c u i=>zab zie rfl dc (za4 (by rfl) rfl) (show _=0 from rfl) (zaf 0 u i rfl)
  · exact fun D n d c u i=>zam (k:=0) zbr rfl dc (zaa (m:=0) u rfl (d 0 dc)) rfl rfl (zaf 1 u i rfl)
  · exact fun D n d c u i=>zay rfl dc (zaa (m:=2) u rfl (d 2 dc)) (zaf 3 u i rfl)
  · exact fun D n d c u i=>zab ziP rfl dc (zaa (m:=3) u rfl (d 3 dc)) (show _=2 from rfl) (zaf 4 u i rfl)
  · exact fun D n d c u i=>zbk (i:=0) hrd rfl zgA rfl dc (zaa (m:=4) u rfl (d 4 dc)) rfl (zaf 5 u i rfl)
  · exact fun D n d c u i=>zab zid rfl dc (za4 (by rfl) rfl) (show _=1 from rfl) (zaf 6 u i rfl)
  · exact fun D n d c u i=>zam (k:=0) zbr rfl dc (zaa (m:=6) u rfl (d 6 dc)) rfl rfl (zaf 7 u i rfl)
  · exact fun D n d c u i=>zbL (hrd.vw (i:=3) rfl) hq3 Tryz.underlying49 zeA rfl dc (zaa (m:=5) u rfl (d 5 dc)) (zaa (m:=7) u rfl (d 7 dc)) rfl (zaf 8 u i rfl)
  · exact fun D n d c u i=>zcy (n:=0+(q1.Stanza:Int).toNat) (j:=0) (i:=3) (q:=q3) hrd rfl zbr zbO rfl dc (zaa (m:=8) u rfl (d 8 dc)) (Vw.get (hrd.vw (i:=3) rfl) hq3) rfl dc rfl (zaf 9 u i rfl)
  · exact fun D n d c u i=>zb9 rfl dc (zaa (m:=1) u rfl (d 1 dc)) (zaa (m:=9) u rfl (d 9 dc)) zaT (zfy (show Value.bool ((q1.Line:Int)==q3)=Value.bool true from congrArg Value.bool hb3) (zaf 10 u i rfl))
  refine zyR 3 rfl (zyN (za9 rfl (zyG (zyR 1 rfl (zyN (zaE (zaA (zaq ?_))))))))
  cases h
  exact zaS (rs:=[.tmp 4]) () (.inl rfl) Tryz.results94 (.cons (.tmp rfl) .nil) rfl Splits.nil
 have h:=zhZ hb3 h
 obtain ⟨q4,hq4,h⟩:=zbw h
 refine zbK 22 [(0,35,zP b1),(1,36,zI q1.Line),(2,37,zP bp1),(3,38,zP bp1),(4,39,.pointer (some ⟨bp1,2,none⟩)),(5,40,p1_h2.v),(6,41,.pointer (some ⟨b1,1,none⟩)),(7,42,zI q1.Stanza),(8,43,.pointer (some ⟨zcN p1_h2.v,(0+(q1.Stanza:Int).toNat)*1,none⟩)),(9,44,zI q3),(10,45,.bool false),(11,46,.bool false),(12,47,zP b2),(13,48,zI q2.Line),(14,49,zP bp1),(15,50,zP bp1),(16,51,.pointer (some ⟨bp1,3,none⟩)),(17,52,p1_h3.v),(18,53,.pointer (some ⟨b2,1,none⟩)),(19,54,zI q2.Stanza),(20,55,.pointer (some ⟨zcN p1_h3.v,(0+(q2.Stanza:Int).toNat)*1,none⟩)),(21,56,zI q4)] mixed kr kr dc (by rfl) kr kr (zae ?_ (zae ?_ (zyP 1 2 rfl (zae ?_ (zae ?_ (zae ?_ (zae ?_ (zae ?_ (zae ?_ (zae ?_ (zae ?_ (zyP 1 11 rfl (zae ?_ (zae ?_ (zyP 1 14 rfl (zae ?_ (zae ?_ (zae ?_ (zae ?_ (zae ?_ (zae ?_ (zae ?_ DrawPre.nil)))))))))))))))))))))) ?_
 · exact fun D n d c u i=>zab zie rfl dc (za4 (by rfl) rfl) (show _=0 from rfl) (zaf 0 u i rfl)
 · exact fun D n d c u i=>zam (k:=0) zbr rfl dc (zaa (m:=0) u rfl (d 0 dc)) rfl rfl (zaf 1 u i rfl)
 · exact fun D n d c u i=>zay rfl dc (zaa (m:=2) u rfl (d 2 dc)) (zaf 3 u i rfl)
 · exact fun D n d c u i=>zab ziP rfl dc (zaa (m:=3) u rfl (d 3 dc)) (show _=2 from rfl) (zaf 4 u i rfl)
 · exact fun D n d c u i=>zbk (i:=0) hrd rfl zgA rfl dc (zaa (m:=4) u rfl (d 4 dc)) rfl (zaf 5 u i rfl)
 · exact fun D n d c u i=>zab zid rfl dc (za4 (by rfl) rfl) (show _=1 from rfl) (zaf 6 u i rfl)
 · exact fun D n d c u i=>zam (k:=0) zbr rfl dc (zaa (m:=6) u rfl (d 6 dc)) rfl rfl (zaf 7 u i rfl)
 · exact fun D n d c u i=>zbL (hrd.vw (i:=3) rfl) hq3 Tryz.underlying49 zeA rfl dc (zaa (m:=5) u rfl (d 5 dc)) (zaa (m:=7) u rfl (d 7 dc)) rfl (zaf 8 u i rfl)
 · exact fun D n d c u i=>zcy (n:=0+(q1.Stanza:Int).toNat) (j:=0) (i:=3) (q:=q3) hrd rfl zbr zbO rfl dc (zaa (m:=8) u rfl (d 8 dc)) (Vw.get (hrd.vw (i:=3) rfl) hq3) rfl dc rfl (zaf 9 u i rfl)
 · exact fun D n d c u i=>zb9 rfl dc (zaa (m:=1) u rfl (d 1 dc)) (zaa (m:=9) u rfl (d 9 dc)) zaT (zfy (show Value.bool ((q1.Line:Int)==q3)=Value.bool false from congrArg Value.bool hb3) (zaf 10 u i rfl))
 · exact fun D n d c u i=>zab zie (zgd rfl (zaa (m:=11) u rfl (d 11 dc))) dc (za4 (by rfl) rfl) (show _=0 from rfl) (zaf 12 u i rfl)
 · exact fun D n d c u i=>zam (k:=1) zbr (zgd rfl (zaa (m:=11) u rfl (d 11 dc))) dc (zaa (m:=12) u rfl (d 12 dc)) rfl rfl (zaf 13 u i rfl)
 · exact fun D n d c u i=>zay (zgd rfl (zaa (m:=11) u rfl (d 11 dc))) dc (zaa (m:=14) u rfl (d 14 dc)) (zaf 15 u i rfl)
 · exact fun D n d c u i=>zab zkf (zgd rfl (zaa (m:=11) u rfl (d 11 dc))) dc (zaa (m:=15) u rfl (d 15 dc)) (show _=3 from rfl) (zaf 16 u i rfl)
 · exact fun D n d c u i=>zbk (i:=0) hrd rfl zgA (zgd rfl (zaa (m:=11) u rfl (d 11 dc))) dc (zaa (m:=16) u rfl (d 16 dc)) rfl (zaf 17 u i rfl)
 · exact fun D n d c u i=>zab zid (zgd rfl (zaa (m:=11) u rfl (d 11 dc))) dc (za4 (by rfl) rfl) (show _=1 from rfl) (zaf 18 u i rfl)
 · exact fun D n d c u i=>zam (k:=1) zbr (zgd rfl (zaa (m:=11) u rfl (d 11 dc))) dc (zaa (m:=18) u rfl (d 18 dc)) rfl rfl (zaf 19 u i rfl)
 · exact fun D n d c u i=>zbL (hrd.vw (i:=4) rfl) hq4 Tryz.underlying49 zeA (zgd rfl (zaa (m:=11) u rfl (d 11 dc))) dc (zaa (m:=17) u rfl (d 17 dc)) (zaa (m:=19) u rfl (d 19 dc)) rfl (zaf 20 u i rfl)
 · exact fun D n d c u i=>zcy (n:=0+(q2.Stanza:Int).toNat) (j:=0) (i:=4) (q:=q4) hrd rfl zbr zbO (zgd rfl (zaa (m:=11) u rfl (d 11 dc))) dc (zaa (m:=20) u rfl (d 20 dc)) (Vw.get (hrd.vw (i:=4) rfl) hq4) rfl dc rfl (zaf 21 u i rfl)
 refine zaW rfl zaT (zyR 2 rfl (zyN ?_))
 refine zyB rfl h (fun h => ?_) (fun h => ?_)
 ·
  refine zyG (zyR 1 rfl (zyN (zaE (zaA (zaq ?_)))))
  cases h
  exact zaS (rs:=[.tmp 4]) () (.inl rfl) Tryz.results94 (.cons (.tmp rfl) .nil) rfl Splits.nil
 refine zas (zag (zaI (zyG (zyR 1 rfl (zyN (zaE ?_))))))
 cases h
 exact zaS (rs:=[.tmp 4]) () (.inl rfl) Tryz.results94 (.cons (.tmp rfl) .nil) rfl Splits.nil
def zbH (p1:Gpage_parter) (from3:Int) (j2:(List Gpage_best)→Option ((List Int)×Int)) (ag2:(List Gpage_best)→Int→Option ((List Int)×Int)) (all8:List Gpage_best) (to3:Int):Option ((List Int)×Int) :=
zaw (decide ((to3:Int)≤(p1.rows.length:Int))) (
zal (zc3 p1 from3 to3) fun (r1:Int) =>
zaw (decide ((r1:Int)≤p1.heights)) (
zbi (fun (j3:(List Gpage_best)→Option ((List Int)×Int)) =>
zbi (fun (j4:Int→Int→Option ((List Int)×Int)) =>
zaw (decide ((to3:Int)<(p1.rows.length:Int))) (
zal (zc3 p1 from3 to3) fun (r2:Int) =>
grd (I64 (p1.heights - r2)) <|
grd (I64 ((p1.heights - r2)*(p1.heights - r2))) <|
zal (zdW p1 to3) fun (r3:Int) =>
grd (I64 (((p1.heights - r2)*(p1.heights - r2))+r3)) <|
zal (zcb all8 to3) fun (q2:Gpage_best) =>
grd (I64 ((((p1.heights - r2)*(p1.heights - r2))+r3)+q2.cost)) <|
grd (I64 (q2.rows+1)) <|
j4 ((((p1.heights - r2)*(p1.heights - r2))+r3)+q2.cost) (q2.rows+1)
) (
j4 0 1
)
) (fun (b2:Int) (b3:Int) =>
zal (zcb all8 from3) fun (q3:Gpage_best) =>
zaw (decide ((q3.rows:Int)<0)) (
zal (zcb all8 from3) fun (q4:Gpage_best) =>
j3 (all8.set (from3:Int).toNat (⟨b2,b3,to3⟩:Gpage_best))
) (
zaw (decide ((b2:Int)<q3.cost)) (
zal (zcb all8 from3) fun (q5:Gpage_best) =>
j3 (all8.set (from3:Int).toNat (⟨b2,b3,to3⟩:Gpage_best))
) (
zaw ((b2:Int)==q3.cost) (
zaw (decide ((b3:Int)≤q3.rows)) (
zal (zcb all8 from3) fun (q6:Gpage_best) =>
j3 (all8.set (from3:Int).toNat (⟨b2,b3,to3⟩:Gpage_best))
) (
j3 all8
)
) (
j3 all8
)
)
)
)
) (fun (all9:List Gpage_best) =>
grd (I64 (to3+1)) <|
ag2 all9 (to3+1)
)
) (
j2 all8
)
) (
j2 all8
)
def zbI (p1:Gpage_parter) (j1:(List Gpage_best)→Option ((List Int)×Int)) (ag1:(List Gpage_best)→Int→Option ((List Int)×Int)) (all4:List Gpage_best) (from3:Int):Option ((List Int)×Int) :=
zaw (decide ((0:Int)≤from3)) (
zbi (fun (j2:(List Gpage_best)→Option ((List Int)×Int)) =>
zal (zcb all4 from3) fun (q1:Gpage_best) =>
grd (I64 (from3+1)) <|
zaF (fun _ _=>none) (zbH p1 from3 j2) zbT (all4.set (from3:Int).toNat (⟨q1.cost,(-1),q1.to_⟩:Gpage_best)) (from3+1)
) (fun (all5:List Gpage_best) =>
grd (I64 (from3 - 1)) <|
ag1 all5 (from3 - 1)
)
) (
j1 all4
)
def zbs (p1:Gpage_parter) (all1:List Gpage_best) (j5:(List Int)→Option ((List Int)×Int)) (ag3:(List Int)→Int→Option ((List Int)×Int)) (out4:List Int) (from6:Int):Option ((List Int)×Int) :=
zaw (decide ((from6:Int)<(p1.rows.length:Int))) (
zal (zcb all1 from6) fun (q7:Gpage_best) =>
grd (out4.length+1≤2147483648) <|
zal (zcb all1 from6) fun (q8:Gpage_best) =>
ag3 (out4++[q7.to_]) q8.to_
) (
j5 out4
)
def zdp (p1:Gpage_parter):Option ((List Int)×Int) :=
zbi (fun (j1:(List Gpage_best)→Option ((List Int)×Int)) =>
grd (I64 ((p1.rows.length:Int)+1)) <|
grd (0≤((p1.rows.length:Int)+1)∧((p1.rows.length:Int)+1)≤2147483648) <|
grd (I64 ((p1.rows.length:Int) - 1)) <|
zaF (fun _ _=>none) (zbI p1 j1) zbT (List.replicate ((p1.rows.length:Int)+1:Int).toNat (⟨0,0,0⟩:Gpage_best):List Gpage_best) ((p1.rows.length:Int) - 1)
) (fun (all1:List Gpage_best) =>
zbi (fun (j5:(List Int)→Option ((List Int)×Int)) =>
zaF (fun _ _=>none) (zbs p1 all1 j5) zbT ([]:List Int) 0
) (fun (out1:List Int) =>
zal (zcb all1 0) fun (q9:Gpage_best) =>
some (out1,q9.cost)
)
)
theorem zhT {bp1:Nat} {p1:Gpage_parter} {p1_h0 p1_h1 p1_h2 p1_h3:Hd} {r:((List Int)×Int)} (h:zdp p1=some r):FnR Tryz.prog 66 [zP bp1] [cells bp1 [p1_h0.v,p1_h1.v,p1_h2.v,p1_h3.v,zI p1.heights] 131,zv1 p1_h0.v p1.rows,zv0 p1_h1.v p1.blanks,zv0 p1_h2.v p1.firsts,zv0 p1_h3.v p1.lasts] [] (fun v0:Value=>.tuple #[v0,zI r.2]) (fun v0=>[zv0 v0 r.1]):=by
 unfold zdp at h
 refine FnR.intro Tryz.func66 rfl Tryz.ntmps66 (by simp) ?_
 intro w0 K hrd
 obtain ⟨j1,hj1,h⟩:=zbF h
 refine za1 (β:=(List Gpage_best)×Value) 3 rfl (fun b=>j1 b.1=some r) (fun b=>[]) (fun b=>[(4,zI (p1.rows.length:Int)),(5,b.2)]) (fun b=>[zv8 b.2 b.1]) (fun cut => ?_) ?_
 ·
  refine zyG (zyR 2 rfl (zyH (zyR 1 rfl (zay rfl dc rfl (zab zgj rfl dc rfl (show _=0 from rfl) (zbk (i:=0) hrd rfl zhn rfl dc rfl rfl (zgr (hrd.vw (i:=1) rfl) rfl dc rfl Tryz.underlying43 (zyR 1 rfl ?_))))))))
  refine zyH (zyR 1 rfl ?_)
  obtain ⟨hg1,h⟩:=zbn h
  refine zaW rfl (zaX (r:=(p1.rows.length:Int)+1) (IntWalk.i64_in _ hg1)) ?_
  obtain ⟨hg2,h⟩:=zbn h
  refine zjC (z:=(⟨0,0,0⟩:Gpage_best)) Tryz.underlying174 ztS zlT zaZ rfl dc rfl hg2 (fun v2 => ?_)
  refine zyR 1 rfl (zyN (cut (zyG (zyR 1 rfl ?_))))
  obtain ⟨hg3,h⟩:=zbn h
  refine zaW rfl (zbG (r:=(p1.rows.length:Int) - 1) (IntWalk.i64_in _ hg3)) (zyR 1 rfl (zyN (zaC ?_)))
  refine zbq (β:=Nat×(List Gpage_best)×Int) (fun b=>zaF (fun _ _=>none) (zbI p1 j1) b.1 b.2.1 b.2.2=some r) (fun b=>[]) (fun b=>[(0,zP bp1),(4,zI (p1.rows.length:Int)),(5,v2),(6,zI b.2.2)]) (fun b=>[zv8 v2 b.2.1]) (fun b=>b.1) (zbT,(List.replicate ((p1.rows.length:Int)+1:Int).toNat (⟨0,0,0⟩:Gpage_best):List Gpage_best),(p1.rows.length:Int) - 1) h rfl (za5 rfl) (zad [0] kr rfl) ?_
  rintro ⟨n1,all4,from3⟩ h
  cases n1 with
  | zero=>exact zdM h
  | succ n1 =>
   obtain ⟨ag1,hag1⟩:∃ ag,ag=zaF (fun _ _=>none) (zbI p1 j1) n1:=⟨_,rfl⟩
   have h:zbI p1 j1 ag1 all4 from3=some r:=by rw [hag1]; exact h
   unfold zbI at h
   refine zaJ (zyG (zyR 1 rfl (zaW rfl zeq (zyN ?_))))
   refine zyB rfl h (fun h => ?_) (fun h => ?_)
   ·
    refine zas (zaI ?_)
    obtain ⟨j2,hj2,h⟩:=zbF h
    refine za1 (β:=(List Gpage_best)) 0 rfl (fun b=>j2 b=some r) (fun b=>[]) (fun b=>[(0,zP bp1),(4,zI (p1.rows.length:Int)),(5,v2),(6,zI from3)]) (fun b=>[zv8 v2 b]) (fun cut => ?_) ?_
    ·
     refine cut (zaC (zyG (zyR 2 rfl ?_)))
     obtain ⟨q1,hq1,h⟩:=zbw h
     refine zar (k:=0) hq1 Tryz.underlying174 zc8 rfl dc rfl rfl rfl rfl (zab zfi rfl dc rfl (show _=((from3:Int).toNat)*3+1 from rfl) ?_)
     refine zez (i:=(from3:Int).toNat) (j:=1) (k:=0) (q:=q1) (q':=(⟨q1.cost,(-1),q1.to_⟩:Gpage_best)) zeA zaZ rfl rfl rfl rfl (zaG hq1) rfl dc rfl (fun _ _=>rfl) ?_
     refine zyH (zyR 1 rfl ?_)
     obtain ⟨hg4,h⟩:=zbn h
     refine zaW rfl (zaX (r:=from3+1) (IntWalk.i64_in _ hg4)) (zyR 1 rfl (zyN (zaC ?_)))
     refine zbq (β:=Nat×(List Gpage_best)×Int) (fun b=>zaF (fun _ _=>none) (zbH p1 from3 j2) b.1 b.2.1 b.2.2=some r) (fun b=>[]) (fun b=>[(0,zP bp1),(4,zI (p1.rows.length:Int)),(5,v2),(6,zI from3),(7,zI b.2.2)]) (fun b=>[zv8 v2 b.2.1]) (fun b=>b.1) (zbT,all4.set (from3:Int).toNat (⟨q1.cost,(-1),q1.to_⟩:Gpage_best),from3+1) h rfl (za5 rfl) (zad [0] kr rfl) ?_
     rintro ⟨n2,all8,to3⟩ h
     cases n2 with
     | zero=>exact zdM h
     | succ n2 =>
      obtain ⟨ag2,hag2⟩:∃ ag,ag=zaF (fun _ _=>none) (zbH p1 from3 j2) n2:=⟨_,rfl⟩
      have h:zbH p1 from3 j2 ag2 all8 to3=some r:=by rw [hag2]; exact h
      unfold zbH at h
      refine zaJ (zaJ ?_)
      refine zfC (b:=decide ((to3:Int)≤(p1.rows.length:Int))) (fun hb2 => ?_) (fun hb2 => ?_)
      ·
       have h:=zhY hb2 h
       obtain ⟨r1,hq2,h⟩:=zbw h
       refine zbK 12 [(0,33,zI to3),(1,34,zI (p1.rows.length:Int)),(2,35,.bool true),(3,36,.bool true),(4,37,zP bp1),(5,38,zI from3),(6,39,zI to3),(7,40,zI r1),(8,41,zP bp1),(9,42,zP bp1),(10,43,.pointer (some ⟨bp1,4,none⟩)),(11,44,zI p1.heights)] mixed kr kr dc (by rfl) kr kr (zyP 2 0 rfl (zae ?_ (zyP 4 3 rfl (zae ?_ (zyP 1 8 rfl (zae ?_ (zae ?_ (zae ?_ DrawPre.nil)))))))) ?_
       · exact fun D n d c u i=>zb9 rfl dc (zaa (m:=0) u rfl (d 0 dc)) (zaa (m:=1) u rfl (d 1 dc)) zdO (zfy (show Value.bool (decide ((to3:Int)≤(p1.rows.length:Int)))=Value.bool true from congrArg Value.bool hb2) (zaf 2 u i rfl))
       · exact fun D n d c u i=>zcH (v:=zI r1) (vs:=[zP bp1,zI from3,zI to3]) hrd (zgd rfl (zaa (m:=3) u rfl (d 3 dc))) dc rfl (evL.cons (zaa (m:=4) u rfl (d 4 dc)) (evL.cons (zaa (m:=5) u rfl (d 5 dc)) (evL.cons (zaa (m:=6) u rfl (d 6 dc)) evL.nil))) rfl zwj (zgb (bp1:=bp1) (p1:=p1) (p1_h0:=p1_h0) (p1_h1:=p1_h1) (p1_h2:=p1_h2) (p1_h3:=p1_h3) hq2) (.ro 0 rfl (.ro 1 rfl (.ro 2 rfl (.ro 3 rfl (.ro 4 rfl .nil))))) (zaf 7 u i rfl)
       · exact fun D n d c u i=>zay (zgd rfl (zaa (m:=3) u rfl (d 3 dc))) dc (zaa (m:=8) u rfl (d 8 dc)) (zaf 9 u i rfl)
       · exact fun D n d c u i=>zab zpE (zgd rfl (zaa (m:=3) u rfl (d 3 dc))) dc (zaa (m:=9) u rfl (d 9 dc)) (show _=4 from rfl) (zaf 10 u i rfl)
       · exact fun D n d c u i=>zbk (i:=0) hrd rfl zbr (zgd rfl (zaa (m:=3) u rfl (d 3 dc))) dc (zaa (m:=10) u rfl (d 10 dc)) rfl (zaf 11 u i rfl)
       refine zaW rfl zdO (zyR 1 rfl (zyN ?_))
       refine zyB rfl h (fun h => ?_) (fun h => ?_)
       ·
        refine zas (zaI ?_)
        obtain ⟨j3,hj3,h⟩:=zbF h
        refine za1 (β:=(List Gpage_best)) 0 rfl (fun b=>j3 b=some r) (fun b=>[]) (fun b=>[(0,zP bp1),(4,zI (p1.rows.length:Int)),(5,v2),(6,zI from3),(7,zI to3),(37,zP bp1),(38,zI from3),(39,zI to3),(40,zI r1),(41,zP bp1),(42,zP bp1),(43,.pointer (some ⟨bp1,4,none⟩)),(44,zI p1.heights),(45,.bool (decide ((r1:Int)≤p1.heights)))]) (fun b=>[zv8 v2 b]) (fun cut => ?_) ?_
        ·
         refine cut (zaC ?_)
         obtain ⟨j4,hj4,h⟩:=zbF h
         refine za1 (β:=Int×Int×Nat) 1 rfl (fun b=>j4 b.1 b.2.1=some r) (fun b=>[]) (fun b=>[(0,zP bp1),(4,zI (p1.rows.length:Int)),(5,v2),(6,zI from3),(7,zI to3),(8,zP b.2.2),(37,zP bp1),(38,zI from3),(39,zI to3),(40,zI r1),(41,zP bp1),(42,zP bp1),(43,.pointer (some ⟨bp1,4,none⟩)),(44,zI p1.heights),(45,.bool (decide ((r1:Int)≤p1.heights)))]) (fun b=>[zv8 v2 all8,cells b.2.2 [zI b.1,zI b.2.1,zI to3] 176]) (fun cut => ?_) ?_
         ·
          refine zyG (zyR 1 rfl ?_)
          refine za7 (v:=.agg #[zI 0,zI 1,zI to3]) (ps:=[(1,.const (zI 1)),(2,.tmp 49)]) rfl dc rfl (fun _=>by kernel_rfl) ?_
          refine zbc zlT rfl dc (fun b4 => ?_)
          refine za0 (k:=1) (vs:=[zI 0,zI 1,zI to3]) (l':=[zI 0,zI 1,zI to3]) zc8 rfl rfl rfl rfl rfl (show _≤_ by simp) rfl rfl ?_
          refine zyN (cut (zyG (zyR 2 rfl (zaW rfl zbC (zyN ?_)))))
          refine zyB rfl h (fun h => ?_) (fun h => ?_)
          ·
           refine zaJ ?_
           obtain ⟨r2,hq3,h⟩:=zbw h
           obtain ⟨hg5,h⟩:=zbn h
           refine zbK 8 [(0,54,zP bp1),(1,55,zP bp1),(2,56,.pointer (some ⟨bp1,4,none⟩)),(3,57,zI p1.heights),(4,58,zP bp1),(5,59,zI from3),(6,60,zI to3),(7,61,zI r2)] mixed kr kr dc (by rfl) kr kr (zyP 1 0 rfl (zae ?_ (zae ?_ (zae ?_ (zyP 3 4 rfl (zae ?_ DrawPre.nil)))))) ?_
           · exact fun D n d c u i=>zay rfl dc (zaa (m:=0) u rfl (d 0 dc)) (zaf 1 u i rfl)
           · exact fun D n d c u i=>zab zpE rfl dc (zaa (m:=1) u rfl (d 1 dc)) (show _=4 from rfl) (zaf 2 u i rfl)
           · exact fun D n d c u i=>zbk (i:=0) hrd rfl zbr rfl dc (zaa (m:=2) u rfl (d 2 dc)) rfl (zaf 3 u i rfl)
           · exact fun D n d c u i=>zcH (v:=zI r2) (vs:=[zP bp1,zI from3,zI to3]) hrd rfl dc rfl (evL.cons (zaa (m:=4) u rfl (d 4 dc)) (evL.cons (zaa (m:=5) u rfl (d 5 dc)) (evL.cons (zaa (m:=6) u rfl (d 6 dc)) evL.nil))) rfl zwj (zgb (bp1:=bp1) (p1:=p1) (p1_h0:=p1_h0) (p1_h1:=p1_h1) (p1_h2:=p1_h2) (p1_h3:=p1_h3) hq3) (.ro 0 rfl (.ro 1 rfl (.ro 2 rfl (.ro 3 rfl (.ro 4 rfl .nil))))) (zaf 7 u i rfl)
           refine zaW rfl (zbG (r:=p1.heights - r2) (IntWalk.i64_in _ hg5)) (zyR 1 rfl (zyN ?_))
           obtain ⟨hg6,h⟩:=zbn h
           obtain ⟨r3,hq4,h⟩:=zbw h
           obtain ⟨hg7,h⟩:=zbn h
           obtain ⟨q2,hq5,h⟩:=zbw h
           obtain ⟨hg8,h⟩:=zbn h
           obtain ⟨hg9,h⟩:=zbn h
           refine zbK 20 [(0,63,zI (p1.heights - r2)),(1,64,zI (p1.heights - r2)),(2,65,zI ((p1.heights - r2)*(p1.heights - r2))),(3,66,zP bp1),(4,67,zI to3),(5,68,zI r3),(6,69,zI (((p1.heights - r2)*(p1.heights - r2))+r3)),(7,70,v2),(8,71,zI to3),(9,72,.pointer (some ⟨zcN v2,(to3:Int).toNat*3,none⟩)),(10,73,.pointer (some ⟨zcN v2,((to3:Int).toNat)*3,none⟩)),(11,74,zI q2.cost),(12,75,zI ((((p1.heights - r2)*(p1.heights - r2))+r3)+q2.cost)),(13,76,v2),(14,77,zI to3),(15,78,.pointer (some ⟨zcN v2,(to3:Int).toNat*3,none⟩)),(16,79,.pointer (some ⟨zcN v2,((to3:Int).toNat)*3+1,none⟩)),(17,80,zI q2.rows),(18,81,zI (q2.rows+1)),(19,82,zI to3)] mixed kr kr dc (by rfl) kr kr (zyP 2 0 rfl (zae ?_ (zyP 2 3 rfl (zae ?_ (zae ?_ (zyP 2 7 rfl (zae ?_ (zae ?_ (zae ?_ (zae ?_ (zyP 2 13 rfl (zae ?_ (zae ?_ (zae ?_ (zae ?_ (zyP 1 19 rfl DrawPre.nil)))))))))))))))) ?_
           · exact fun D n d c u i=>zb9 rfl dc (zaa (m:=0) u rfl (d 0 dc)) (zaa (m:=1) u rfl (d 1 dc)) (zsj (r:=(p1.heights - r2)*(p1.heights - r2)) (IntWalk.i64_in _ hg6)) (zaf 2 u i rfl)
           · exact fun D n d c u i=>zcH (v:=zI r3) (vs:=[zP bp1,zI to3]) hrd rfl dc rfl (evL.cons (zaa (m:=3) u rfl (d 3 dc)) (evL.cons (zaa (m:=4) u rfl (d 4 dc)) evL.nil)) rfl zxy (ziD (bp1:=bp1) (p1:=p1) (p1_h0:=p1_h0) (p1_h1:=p1_h1) (p1_h2:=p1_h2) (p1_h3:=p1_h3) hq4) (.ro 0 rfl (.ro 1 rfl (.ro 2 rfl (.ro 3 rfl (.ro 4 rfl .nil))))) (zaf 5 u i rfl)
           · exact fun D n d c u i=>zb9 rfl dc (zaa (m:=2) u rfl (d 2 dc)) (zaa (m:=5) u rfl (d 5 dc)) (zaX (r:=((p1.heights - r2)*(p1.heights - r2))+r3) (IntWalk.i64_in _ hg7)) (zaf 6 u i rfl)
           · exact fun D n d c u i=>zar (k:=0) hq5 Tryz.underlying174 zc8 rfl dc (zaa (m:=7) u rfl (d 7 dc)) (zaa (m:=8) u rfl (d 8 dc)) rfl rfl (zaf 9 u i rfl)
           · exact fun D n d c u i=>zab zeT rfl dc (zaa (m:=9) u rfl (d 9 dc)) (show _=((to3:Int).toNat)*3 from rfl) (zaf 10 u i rfl)
           · exact fun D n d c u i=>zaH (i:=(to3:Int).toNat) (j:=0) (k:=0) (q:=q2) zbr zaZ rfl dc (zaa (m:=10) u rfl (d 10 dc)) rfl (zaG hq5) rfl dc rfl (zaf 11 u i rfl)
           · exact fun D n d c u i=>zb9 rfl dc (zaa (m:=6) u rfl (d 6 dc)) (zaa (m:=11) u rfl (d 11 dc)) (zaX (r:=(((p1.heights - r2)*(p1.heights - r2))+r3)+q2.cost) (IntWalk.i64_in _ hg8)) (zaf 12 u i rfl)
           · exact fun D n d c u i=>zar (k:=0) hq5 Tryz.underlying174 zc8 rfl dc (zaa (m:=13) u rfl (d 13 dc)) (zaa (m:=14) u rfl (d 14 dc)) rfl rfl (zaf 15 u i rfl)
           · exact fun D n d c u i=>zab zfi rfl dc (zaa (m:=15) u rfl (d 15 dc)) (show _=((to3:Int).toNat)*3+1 from rfl) (zaf 16 u i rfl)
           · exact fun D n d c u i=>zaH (i:=(to3:Int).toNat) (j:=1) (k:=0) (q:=q2) zbr zaZ rfl dc (zaa (m:=16) u rfl (d 16 dc)) rfl (zaG hq5) rfl dc rfl (zaf 17 u i rfl)
           · exact fun D n d c u i=>zb9 rfl dc (zaa (m:=17) u rfl (d 17 dc)) rfl (zaX (r:=q2.rows+1) (IntWalk.i64_in _ hg9)) (zaf 18 u i rfl)
           refine za7 (v:=.agg #[zI ((((p1.heights - r2)*(p1.heights - r2))+r3)+q2.cost),zI (q2.rows+1),zI to3]) (ps:=[(0,.tmp 75),(1,.tmp 81),(2,.tmp 82)]) rfl dc rfl (fun _=>by kernel_rfl) ?_
           refine za0 (k:=1) (vs:=[zI ((((p1.heights - r2)*(p1.heights - r2))+r3)+q2.cost),zI (q2.rows+1),zI to3]) (l':=[zI ((((p1.heights - r2)*(p1.heights - r2))+r3)+q2.cost),zI (q2.rows+1),zI to3]) zc8 rfl rfl rfl rfl rfl (show _≤_ by simp) rfl rfl (zaQ ?_)
           exact zai ((((p1.heights - r2)*(p1.heights - r2))+r3)+q2.cost,q2.rows+1,b4) h rfl (za5 rfl) (zad [0,1] kr rfl)
          refine zas ?_
          exact zai (0,1,b4) h rfl (za5 rfl) (zad [0,1] kr rfl)
         rintro ⟨b2,b3,b1⟩ h
         rw [hj4] at h
         refine zyG (zyR 2 rfl ?_)
         obtain ⟨q3,hq6,h⟩:=zbw h
         refine zar (k:=0) hq6 Tryz.underlying174 zc8 rfl dc rfl rfl rfl rfl (zdP (i:=(from3:Int).toNat) (j:=0) (k:=0) (q:=q3) (cs:=(zr7 q3)) zjJ zaZ rfl dc rfl rfl (zaG hq6) rfl rfl rfl ?_)
         refine zbc zlT rfl dc (fun b5 => ?_)
         refine za0 (k:=2) (vs:=(zr7 q3)) (l':=(zr7 q3)) zc8 rfl rfl rfl rfl rfl (show _≤_ by simp) rfl rfl ?_
         refine zyH (zab zfi rfl dc rfl (show _=1 from rfl) (zam (k:=2) zbr rfl dc rfl rfl rfl (zaW rfl zbC (zyR 1 rfl ?_))))
         refine zyS (s:=91) rfl h (fun h => ?_) (fun h => ?_)
         ·
          refine zyR 14 rfl ?_
          refine zyR 6 rfl (zyN (za9 rfl (zat (zyR 2 rfl (zbb (k:=1) (cs:=[zI b2,zI b3,zI to3]) zjJ rfl dc rfl rfl rfl rfl ?_)))))
          obtain ⟨q4,hq7,h⟩:=zbw h
          refine zar (k:=0) hq7 Tryz.underlying174 zc8 rfl dc rfl rfl rfl rfl ?_
          refine ze9 (i:=(from3:Int).toNat) (j:=0) (k:=0) (q:=q4) (q':=(⟨b2,b3,to3⟩:Gpage_best)) (vs:=[zI b2,zI b3,zI to3]) zc8 zaZ rfl rfl rfl rfl (zaG hq7) rfl dc rfl rfl (fun m=>[q4,(⟨b2,q4.rows,q4.to_⟩:Gpage_best),(⟨b2,b3,q4.to_⟩:Gpage_best),(⟨b2,b3,to3⟩:Gpage_best)].getD m q4) rfl rfl (by intro m hm; rcases m with _ | _ | _ | m <;> first | rfl | (exfalso; omega)) ?_
          refine zaQ (zag ?_)
          exact zai (all8.set (from3:Int).toNat (⟨b2,b3,to3⟩:Gpage_best)) h rfl (za5 rfl) (zad [0] kr rfl)
         refine zab zeT rfl dc rfl (show _=0 from rfl) (zam (k:=1) zbr rfl dc rfl rfl rfl (zab zeT rfl dc rfl (show _=0 from rfl) (zam (k:=2) zbr rfl dc rfl rfl rfl (zaW rfl zbC (zyR 2 rfl ?_)))))
         refine zyS (s:=98) rfl h (fun h => ?_) (fun h => ?_)
         ·
          refine zyR 13 rfl (zaQ ?_)
          refine zaI (za9 rfl (zat (zyR 2 rfl (zbb (k:=1) (cs:=[zI b2,zI b3,zI to3]) zjJ rfl dc rfl rfl rfl rfl ?_))))
          obtain ⟨q5,hq8,h⟩:=zbw h
          refine zar (k:=0) hq8 Tryz.underlying174 zc8 rfl dc rfl rfl rfl rfl ?_
          refine ze9 (i:=(from3:Int).toNat) (j:=0) (k:=0) (q:=q5) (q':=(⟨b2,b3,to3⟩:Gpage_best)) (vs:=[zI b2,zI b3,zI to3]) zc8 zaZ rfl rfl rfl rfl (zaG hq8) rfl dc rfl rfl (fun m=>[q5,(⟨b2,q5.rows,q5.to_⟩:Gpage_best),(⟨b2,b3,q5.to_⟩:Gpage_best),(⟨b2,b3,to3⟩:Gpage_best)].getD m q5) rfl rfl (by intro m hm; rcases m with _ | _ | _ | m <;> first | rfl | (exfalso; omega)) ?_
          refine zaQ (zag ?_)
          exact zai (all8.set (from3:Int).toNat (⟨b2,b3,to3⟩:Gpage_best)) h rfl (za5 rfl) (zad [0] kr rfl)
         refine zab zeT rfl dc rfl (show _=0 from rfl) (zam (k:=1) zbr rfl dc rfl rfl rfl (zab zeT rfl dc rfl (show _=0 from rfl) (zam (k:=2) zbr rfl dc rfl rfl rfl (zaW rfl zaT (zyR 1 rfl ?_)))))
         refine zyS (s:=104) rfl h (fun h => ?_) (fun h => ?_)
         ·
          refine zab zfi rfl dc rfl (show _=1 from rfl) (zam (k:=1) zbr rfl dc rfl rfl rfl (zab zfi rfl dc rfl (show _=1 from rfl) (zam (k:=2) zbr rfl dc rfl rfl rfl (zaW rfl zdO (zyR 2 rfl (zyN ?_))))))
          refine zyB rfl h (fun h => ?_) (fun h => ?_)
          ·
           refine zat (zyR 2 rfl (zbb (k:=1) (cs:=[zI b2,zI b3,zI to3]) zjJ rfl dc rfl rfl rfl rfl ?_))
           obtain ⟨q6,hq9,h⟩:=zbw h
           refine zar (k:=0) hq9 Tryz.underlying174 zc8 rfl dc rfl rfl rfl rfl ?_
           refine ze9 (i:=(from3:Int).toNat) (j:=0) (k:=0) (q:=q6) (q':=(⟨b2,b3,to3⟩:Gpage_best)) (vs:=[zI b2,zI b3,zI to3]) zc8 zaZ rfl rfl rfl rfl (zaG hq9) rfl dc rfl rfl (fun m=>[q6,(⟨b2,q6.rows,q6.to_⟩:Gpage_best),(⟨b2,b3,q6.to_⟩:Gpage_best),(⟨b2,b3,to3⟩:Gpage_best)].getD m q6) rfl rfl (by intro m hm; rcases m with _ | _ | _ | m <;> first | rfl | (exfalso; omega)) ?_
           refine zaQ (zag ?_)
           exact zai (all8.set (from3:Int).toNat (⟨b2,b3,to3⟩:Gpage_best)) h rfl (za5 rfl) (zad [0] kr rfl)
          refine zas (zag ?_)
          exact zai all8 h rfl (za5 rfl) (zad [0] kr rfl)
         refine zyR 7 rfl (zyN (zaN rfl (zas (zag ?_))))
         exact zai all8 h rfl (za5 rfl) (zad [0] kr rfl)
        rintro all9 h
        rw [hj3] at h
        refine zat (zyR 1 rfl ?_)
        obtain ⟨hg10,h⟩:=zbn h
        refine zaW rfl (zaX (r:=to3+1) (IntWalk.i64_in _ hg10)) (zyR 1 rfl (zaQ ?_))
        subst hag2
        exact za8 (n2,all9,to3+1) h (Nat.lt_succ_self _) rfl (za5 rfl) (zad [0] kr rfl)
       refine za6 (zak (zak (zav (zag ?_))))
       exact zai all8 h rfl (za5 rfl) (zad [0] kr rfl)
      have h:=zhZ hb2 h
      refine zbK 12 [(0,33,zI to3),(1,34,zI (p1.rows.length:Int)),(2,35,.bool false),(3,36,.bool false),(4,37,undef),(5,38,undef),(6,39,undef),(7,40,undef),(8,41,undef),(9,42,undef),(10,43,undef),(11,44,undef)] mixed kr kr dc (by rfl) kr kr (zyP 2 0 rfl (zae ?_ (zyP 9 3 rfl DrawPre.nil))) ?_
      · exact fun D n d c u i=>zb9 rfl dc (zaa (m:=0) u rfl (d 0 dc)) (zaa (m:=1) u rfl (d 1 dc)) zdO (zfy (show Value.bool (decide ((to3:Int)≤(p1.rows.length:Int)))=Value.bool false from congrArg Value.bool hb2) (zaf 2 u i rfl))
      refine zyR 2 rfl (zyN (zaN rfl (za6 (zak (zak (zav (zag ?_)))))))
      exact zai all8 h rfl (za5 rfl) (zad [0] kr rfl)
    rintro all5 h
    rw [hj2] at h
    refine zat (zyR 1 rfl ?_)
    obtain ⟨hg11,h⟩:=zbn h
    refine zaW rfl (zbG (r:=from3 - 1) (IntWalk.i64_in _ hg11)) (zyR 1 rfl (zaQ ?_))
    subst hag1
    exact za8 (n1,all5,from3 - 1) h (Nat.lt_succ_self _) rfl (za5 rfl) (zad [0] kr rfl)
   refine za6 (zak (zak (zav ?_)))
   exact zai (all4,v2) h rfl (za5 rfl) (zad [0] kr rfl)
 rintro ⟨all1,v1⟩ h
 rw [hj1] at h
 obtain ⟨j5,hj5,h⟩:=zbF h
 refine za1 (β:=(List Int)×Hd) 1 rfl (fun b=>j5 b.1=some r) (fun b=>[]) (fun b=>[(5,v1),(11,b.2.v)]) (fun b=>[zv8 v1 all1,zv0 b.2.v b.1]) (fun cut => ?_) ?_
 ·
  refine zyG (zyR 1 rfl (zyN (cut (zyG (zyR 1 rfl (zyN (zaC (zc1 (enc:=(zm9 (.i64))) (e:=3) (size:=1) ?_))))))))
  refine zbq (β:=Nat×(List Int)×Int×Hd) (fun b=>zaF (fun _ _=>none) (zbs p1 all1 j5) b.1 b.2.1 b.2.2.1=some r) (fun b=>[]) (fun b=>[(4,zI (p1.rows.length:Int)),(5,v1),(11,b.2.2.2.v),(12,zI b.2.2.1)]) (fun b=>[zv8 v1 all1,zv0 b.2.2.2.v b.2.1]) (fun b=>b.1) (zbT,([]:List Int),0,Hd.nil) h rfl (za5 rfl) (zad [0,1] kr rfl) ?_
  rintro ⟨n3,out4,from6,hd4⟩ h
  cases n3 with
  | zero=>exact zdM h
  | succ n3 =>
   obtain ⟨ag3,hag3⟩:∃ ag,ag=zaF (fun _ _=>none) (zbs p1 all1 j5) n3:=⟨_,rfl⟩
   have h:zbs p1 all1 j5 ag3 out4 from6=some r:=by rw [hag3]; exact h
   unfold zbs at h
   refine zaJ (zyG (zyR 2 rfl (zaW rfl zbC (zyN ?_))))
   refine zyB rfl h (fun h => ?_) (fun h => ?_)
   ·
    refine zas (zaI (zaJ (zaC (zat (zyR 3 rfl ?_)))))
    obtain ⟨q7,hq10,h⟩:=zbw h
    refine zar (k:=0) hq10 Tryz.underlying174 zc8 rfl dc rfl rfl rfl rfl (zab zkc rfl dc rfl (show _=((from6:Int).toNat)*3+2 from rfl) (zaH (i:=(from6:Int).toNat) (j:=2) (k:=0) (q:=q7) zbr zaZ rfl dc rfl rfl (zaG hq10) rfl dc rfl ?_))
    refine zaR (cs:=[zI q7.to_]) (te:=3) (ps:=[(0,.tmp 129)]) rfl dc rfl (fun _=>by kernel_rfl) (fun b6 => ?_)
    obtain ⟨hg12,h⟩:=zbn h
    refine za3 (k:=1) (k2:=2) (ys:=[q7.to_]) Tryz.underlying49 ztR zbO zgo rfl dc rfl rfl rfl rfl rfl rfl hg12 (fun v3 => ?_)
    refine zbu (k:=1) rfl (fun hd5 he1 => ?_)
    subst he1
    refine zyR 1 rfl (zaQ (zag (zaI (zat (zyR 2 rfl ?_)))))
    obtain ⟨q8,hq11,h⟩:=zbw h
    refine zar (k:=0) hq11 Tryz.underlying174 zc8 rfl dc rfl rfl rfl rfl (zab zkc rfl dc rfl (show _=((from6:Int).toNat)*3+2 from rfl) (zaH (i:=(from6:Int).toNat) (j:=2) (k:=0) (q:=q8) zbr zaZ rfl dc rfl rfl (zaG hq11) rfl dc rfl (zyR 1 rfl (zaQ ?_))))
    subst hag3
    exact za8 (n3,out4++[q7.to_],q8.to_,hd5) h (Nat.lt_succ_self _) rfl (za5 rfl) (zad [0,1] kr rfl)
   refine za6 (zak (zak (zav ?_)))
   exact zai (out4,hd4) h rfl (za5 rfl) (zad [0,1] kr rfl)
 rintro ⟨out1,hd1⟩ h
 rw [hj5] at h
 refine zaJ ?_
 obtain ⟨q9,hq12,h⟩:=zbw h
 refine zbK 6 [(0,132,hd1.v),(1,133,v1),(2,134,.pointer (some ⟨zcN v1,(0:Int).toNat*3,none⟩)),(3,135,.pointer (some ⟨zcN v1,((0:Int).toNat)*3,none⟩)),(4,136,zI q9.cost),(5,2,hd1.v)] mixed kr kr dc (by rfl) kr kr (zyP 2 0 rfl (zae ?_ (zae ?_ (zae ?_ (zyP 1 5 rfl DrawPre.nil))))) ?_
 · exact fun D n d c u i=>zar (k:=0) hq12 Tryz.underlying174 zc8 rfl dc (zaa (m:=1) u rfl (d 1 dc)) rfl rfl rfl (zaf 2 u i rfl)
 · exact fun D n d c u i=>zab zeT rfl dc (zaa (m:=2) u rfl (d 2 dc)) (show _=((0:Int).toNat)*3 from rfl) (zaf 3 u i rfl)
 · exact fun D n d c u i=>zaH (i:=(0:Int).toNat) (j:=0) (k:=0) (q:=q9) zbr zaZ rfl dc (zaa (m:=3) u rfl (d 3 dc)) rfl (zaG hq12) rfl dc rfl (zaf 4 u i rfl)
 refine zyR 1 rfl (zyN (zaE ?_))
 cases h
 exact zaS (rs:=[.tmp 2,.tmp 3]) hd1.v (.inl rfl) Tryz.results66 (.cons (.tmp rfl) (.cons (.tmp rfl) .nil)) rfl (zad [1] kr rfl)
def zbt (l1:Gapi_Layout) (x2:Int×Gapi_Verse) (ag1:(List Gapi_Row)→(List Int)→(List Int)→(List Int)→Int→Option (Int×Gpage_parter)) (cost4:Int) (l18:List Int) (l19:List Int) (r2:((List ByteArray)×Int)) (ag2:(List Gapi_Row)→(List Int)→Int→Option (Int×Gpage_parter)) (l24:List Gapi_Row) (l25:List Int) (x5:Int):Option (Int×Gpage_parter) :=
zaw (decide ((x5:Int)<(r2.1.length:Int))) (
zbi (fun (j3:Int→Int→ByteArray→Option (Int×Gpage_parter)) =>
zal (zcb r2.1 x5) fun (q2:ByteArray) =>
zaw ((x5:Int)==0) (
zaw (decide ((0:Int)<l1.Every)) (
grd (I64 (x2.1+1)) <|
grd (l1.Every≠0) <|
zaw (((Int.tmod (x2.1+1) l1.Every):Int)==0) (
grd (I64 (x2.1+1)) <|
j3 x2.2.Indent (x2.1+1) q2
) (
j3 x2.2.Indent 0 q2
)
) (
j3 x2.2.Indent 0 q2
)
) (
j3 l1.Turn 0 q2
)
) (fun (r3:Int) (r4:Int) (r5:ByteArray) =>
grd (l24.length+1≤2147483648) <|
grd (l25.length+1≤2147483648) <|
grd (I64 (x5+1)) <|
ag2 (l24++[(⟨x2.1,x2.2.Stanza,x5,r3,r4,r5⟩:Gapi_Row)]) (l25++[x2.2.Stanza]) (x5+1)
)
) (
ag1 l24 l25 l18 (l19.set (x2.2.Stanza:Int).toNat x2.1) (cost4+r2.2)
)
def zbJ (l1:Gapi_Layout) (x2:Int×Gapi_Verse) (ag1:(List Gapi_Row)→(List Int)→(List Int)→(List Int)→Int→Option (Int×Gpage_parter)) (l14:List Gapi_Row) (l15:List Int) (l16:List Int) (l17:List Int) (cost4:Int):Option (Int×Gpage_parter) :=
zbi (fun (j2:(List Int)→(List Int)→Option (Int×Gpage_parter)) =>
zaw ((x2.2.Stanza:Int)==(l16.length:Int)) (
grd (l16.length+1≤2147483648) <|
grd (l17.length+1≤2147483648) <|
j2 (l16++[x2.1]) (l17++[x2.1])
) (
j2 l16 l17
)
) (fun (l18:List Int) (l19:List Int) =>
zal (zcb l19 x2.2.Stanza) fun (q1:Int) =>
zal (ze1 x2.2.Text x2.2.Indent l1) fun (r2:((List ByteArray)×Int)) =>
grd (I64 (cost4+r2.2)) <|
zaF (fun _ _ _=>none) (zbt l1 x2 ag1 cost4 l18 l19 r2) zbT l14 l15 0
)
def zdq (p1:Gpage_parter) (x1:Gpoem_Poem) (l1:Gapi_Layout):Option (Int×Gpage_parter) :=
zbi (fun (j1:(List Gapi_Row)→(List Int)→(List Int)→(List Int)→Int→Option (Int×Gpage_parter)) =>
zal (zea x1) fun (r1:Unit) =>
zal (zc2 x1) fun (its1:(List (Int×Gapi_Verse))) =>
zbi (fun (dn1:(List Gapi_Row)→(List Int)→(List Int)→(List Int)→Int→Option (Int×Gpage_parter)) =>
zcu dn1 (zbJ l1) its1 p1.rows p1.blanks p1.firsts p1.lasts 0
) (fun (l14:List Gapi_Row) (l15:List Int) (l16:List Int) (l17:List Int) (cost4:Int) =>
j1 l14 l15 l16 l17 cost4
)
) (fun (l2:List Gapi_Row) (l3:List Int) (l4:List Int) (l5:List Int) (cost1:Int) =>
some (cost1,(⟨l2,l3,l4,l5,p1.heights⟩:Gpage_parter))
)
theorem zhU {bp1:Nat} {p1:Gpage_parter} {p1_h0 p1_h1 p1_h2 p1_h3:Hd} {bx1:Nat} {x1:Gpoem_Poem} {x1_h0 x1_h1:Hd} {l1:Gapi_Layout} {r:(Int×Gpage_parter)} (h:zdq p1 x1 l1=some r):FnR Tryz.prog 65 [zP bp1,zP bx1,.agg (zr0 l1).toArray] [cells bx1 [.string x1.told_title,x1_h0.v,x1_h1.v,.string x1.source] 106,zv6 x1_h0.v x1.told_lines,zv5 x1_h1.v x1.told_stanzas] [cells bp1 [p1_h0.v,p1_h1.v,p1_h2.v,p1_h3.v,zI p1.heights] 131,zv1 p1_h0.v p1.rows,zv0 p1_h1.v p1.blanks,zv0 p1_h2.v p1.firsts,zv0 p1_h3.v p1.lasts] (fun b:Hd×Hd×Hd×Hd=>zI r.1) (fun b=>[cells bp1 [b.1.v,b.2.1.v,b.2.2.1.v,b.2.2.2.v,zI r.2.heights] 131,zv1 b.1.v r.2.rows,zv0 b.2.1.v r.2.blanks,zv0 b.2.2.1.v r.2.firsts,zv0 b.2.2.2.v r.2.lasts]):=by
 unfold zdq at h
 refine FnR.intro Tryz.func65 rfl Tryz.ntmps65 (by simp) ?_
 intro w0 K hrd
 refine zhQ ?_
 obtain ⟨j1,hj1,h⟩:=zbF h
 refine za1 (β:=(List Gapi_Row)×(List Int)×(List Int)×(List Int)×Int×Hd×Hd×Hd×Hd×Nat×(List Nat)) 2 rfl (fun b=>j1 b.1 b.2.1 b.2.2.1 b.2.2.2.1 b.2.2.2.2.1=some r) (fun b=>zd4 b.2.2.2.2.2.2.2.2.2.2) (fun b=>[(7,zP b.2.2.2.2.2.2.2.2.2.1)]) (fun b=>[cells bp1 [b.2.2.2.2.2.1.v,b.2.2.2.2.2.2.1.v,b.2.2.2.2.2.2.2.1.v,b.2.2.2.2.2.2.2.2.1.v,zI p1.heights] 131,zv1 b.2.2.2.2.2.1.v b.1,zv0 b.2.2.2.2.2.2.1.v b.2.1,zv0 b.2.2.2.2.2.2.2.1.v b.2.2.1,zv0 b.2.2.2.2.2.2.2.2.1.v b.2.2.2.1,cells b.2.2.2.2.2.2.2.2.2.1 [zI b.2.2.2.2.1] 3,zhe ((b.2.2.2.2.2.2.2.2.2.2:List Nat).map zi7)]) (fun cut => ?_) ?_
 ·
  refine zyG ?_
  refine zdQ rfl dc rfl (fun b2 => ?_)
  refine zdQ rfl dc rfl (fun b3 => ?_)
  refine zyR 1 rfl (zyH ?_)
  refine zbc zt6 rfl dc (fun b4 => ?_)
  refine zaM (k:=8) (l':=[zI 0]) zeA rfl rfl rfl rfl rfl (fun _ _=>rfl) rfl ?_
  refine zyN (cut (zyG (zyR 1 rfl ?_)))
  obtain ⟨r1,hq1,h⟩:=zbw h
  refine zfY (vs:=[zP bx1]) hrd rfl dc rfl rfl rfl zxA (zjf (bp1:=bx1) (p1:=x1) (p1_h0:=x1_h0) (p1_h1:=x1_h1) hq1) Splits.nil (.ro 0 rfl (.ro 1 rfl (.ro 2 rfl .nil))) ?_
  rintro b5
  refine zdA (L':=[cells bp1 [p1_h0.v,p1_h1.v,p1_h2.v,p1_h3.v,zI p1.heights] 131,zv1 p1_h0.v p1.rows,zv0 p1_h1.v p1.blanks,zv0 p1_h2.v p1.firsts,zv0 p1_h3.v p1.lasts,zhe ((([]:List Nat):List Nat).map zi7),cells b2 [zP bp1] 129,cells b3 (zr0 l1) 23,cells b4 [zI 0] 3,cells b5 [zP bx1] 58]) (zad [0,1,2,3,4,5,6,7,8,9] kr rfl) (zyN (zaC ?_))
  obtain ⟨its1,hq2,h⟩:=zbw h
  obtain ⟨dn1,hdn1,h⟩:=zbF h
  refine zlu (α:=Int×Gapi_Verse) (β:=(List Gapi_Row)×(List Int)×(List Int)×(List Int)×Int×Hd×Hd×Hd×Hd) (γ:=Unit) (δ:=Nat) (ps:=[17,18]) hrd Ro.nil rfl zwy (zhS hq2) (fun pre b=>∀ post,its1=pre++post→zcu dn1 (zbJ l1) post b.1 b.2.1 b.2.2.1 b.2.2.2.1 b.2.2.2.2.1=some r) (fun pre b=>[cells bp1 [b.2.2.2.2.2.1.v,b.2.2.2.2.2.2.1.v,b.2.2.2.2.2.2.2.1.v,b.2.2.2.2.2.2.2.2.v,zI p1.heights] 131,zv1 b.2.2.2.2.2.1.v b.1,zv0 b.2.2.2.2.2.2.1.v b.2.1,zv0 b.2.2.2.2.2.2.2.1.v b.2.2.1,zv0 b.2.2.2.2.2.2.2.2.v b.2.2.2.1,cells b2 [zP bp1] 129,cells b3 (zr0 l1) 23,cells b4 [zI b.2.2.2.2.1] 3]) (fun c pre g=>False) (fun c pre g=>[]) (fun pre x b j=>[(3,zP b2),(5,zP b3),(6,zI 0),(7,zP b4),(16,.func (.func 115) #[] #[zP b5]),(8,zI x.1),(9,zP j)]) (fun pre x b j=>[cells bp1 [b.2.2.2.2.2.1.v,b.2.2.2.2.2.2.1.v,b.2.2.2.2.2.2.2.1.v,b.2.2.2.2.2.2.2.2.v,zI p1.heights] 131,zv1 b.2.2.2.2.2.1.v b.1,zv0 b.2.2.2.2.2.2.1.v b.2.1,zv0 b.2.2.2.2.2.2.2.1.v b.2.2.1,zv0 b.2.2.2.2.2.2.2.2.v b.2.2.2.1,cells b2 [zP bp1] 129,cells b3 (zr0 l1) 23,cells b4 [zI b.2.2.2.2.1] 3,cells j (zr4 x.2) 76]) (p1.rows,p1.blanks,p1.firsts,p1.lasts,0,p1_h0,p1_h1,p1_h2,p1_h3) (fun post e=>by rw [List.nil_append] at e; subst e; exact h) (zad [0,1,2,3,4,6,7,8] kr rfl) (.own (As:=[cells b5 [zP bx1] 58]) (zad [9] (by kernel_rfl) rfl) (fun _ _ h=>sepL.one1.1 h) (.ro 0 rfl (.ro 1 rfl (.ro 2 rfl .nil)))) (fun _=>rfl) dc ?_ ?_ ?_ ?_
  ·
   rintro lp rc pre x2 post ⟨l14,l15,l16,l17,cost4,hd13,hd14,hd15,hd16⟩ w1 K1 hxs1 hext hro hinv
   have hrd:=hrd.ext hext
   refine zyG (zyR 1 rfl (zyN (zat ?_)))
   refine zbc zt5 rfl dc (fun b6 => ?_)
   refine za0 (k:=8) (vs:=(zr4 x2.2)) (l':=(zr4 x2.2)) zqQ rfl rfl rfl rfl rfl (show _≤_ by simp) rfl rfl ?_
   refine zaQ ?_
   exact fun a w ha hw=>⟨b6,(za5 rfl) _ _ _ ha,hw.weaken (zad [0,1,2,3,4,5,6,7,8] kr rfl)⟩
  ·
   rintro lp rc pre x2 post1 ⟨l14,l15,l16,l17,cost4,hd13,hd14,hd15,hd16⟩ jb1 w1 K1 hxs1 hext hro hinv
   have hrd:=hrd.ext hext
   have h:=hinv (x2::post1) hxs1
   obtain ⟨ag1,hag1⟩:∃ ag,ag=zcu dn1 (zbJ l1) post1:=⟨_,rfl⟩
   have h:zbJ l1 x2 ag1 l14 l15 l16 l17 cost4=some r:=by rw [hag1]; exact h
   unfold zbJ at h
   refine zaC ?_
   obtain ⟨j2,hj2,h⟩:=zbF h
   refine za1 (β:=(List Int)×(List Int)×Hd×Hd) 0 rfl (fun b=>j2 b.1 b.2.1=some r) (fun b=>[]) (fun b=>[(3,zP b2),(5,zP b3),(6,zI 0),(7,zP b4),(8,zI x2.1),(9,zP jb1),(16,.func (.func 115) #[] #[zP b5])]) (fun b=>[cells bp1 [hd13.v,hd14.v,b.2.2.1.v,b.2.2.2.v,zI p1.heights] 131,zv1 hd13.v l14,zv0 hd14.v l15,zv0 b.2.2.1.v b.1,zv0 b.2.2.2.v b.2.1,cells b2 [zP bp1] 129,cells b3 (zr0 l1) 23,cells b4 [zI cost4] 3,cells jb1 (zr4 x2.2) 76]) (fun cut => ?_) ?_
   ·
    refine cut (zaJ ?_)
    refine zbK 7 [(0,19,.pointer (some ⟨jb1,2,none⟩)),(1,20,zI x2.2.Stanza),(2,21,zP bp1),(3,22,zP bp1),(4,23,.pointer (some ⟨bp1,2,none⟩)),(5,24,hd15.v),(6,25,zI (l16.length:Int))] mixed kr kr dc (by rfl) kr kr (zae ?_ (zae ?_ (zae ?_ (zae ?_ (zae ?_ (zae ?_ (zae ?_ DrawPre.nil))))))) ?_
    · exact fun D n d c u i=>zab zm5 rfl dc (za4 (by rfl) rfl) (show _=2 from rfl) (zaf 0 u i rfl)
    · exact fun D n d c u i=>zam (k:=8) zbr rfl dc (zaa (m:=0) u rfl (d 0 dc)) rfl rfl (zaf 1 u i rfl)
    · exact fun D n d c u i=>zam (k:=5) zh0 rfl dc (za4 (by rfl) rfl) rfl rfl (zaf 2 u i rfl)
    · exact fun D n d c u i=>zay rfl dc (zaa (m:=2) u rfl (d 2 dc)) (zaf 3 u i rfl)
    · exact fun D n d c u i=>zab ziP rfl dc (zaa (m:=3) u rfl (d 3 dc)) (show _=2 from rfl) (zaf 4 u i rfl)
    · exact fun D n d c u i=>zam (k:=0) zgA rfl dc (zaa (m:=4) u rfl (d 4 dc)) rfl rfl (zaf 5 u i rfl)
    · exact fun D n d c u i=>zbl (k:=3) rfl dc (zaa (m:=5) u rfl (d 5 dc)) rfl Tryz.underlying49 (zaf 6 u i rfl)
    refine zaW rfl zaT (zyN ?_)
    refine zyB rfl h (fun h => ?_) (fun h => ?_)
    ·
     obtain ⟨hg1,h⟩:=zbn h
     obtain ⟨hg2,h⟩:=zbn h
     refine zgs 2 ?_
     refine let vals1:(Nat×Hd×Nat×Hd)→List (Nat×Nat×Value):=fun b=>[(0,27,zP bp1),(1,28,zP bp1),(2,29,zP bp1),(3,30,zP bp1),(4,31,.pointer (some ⟨bp1,2,none⟩)),(5,32,hd15.v),(6,33,zI x2.1),(7,34,.slice (some ⟨b.1,0,none⟩) 1 1),(8,35,b.2.1.v),(9,36,zP bp1),(10,37,zP bp1),(11,38,.pointer (some ⟨bp1,3,none⟩)),(12,39,hd16.v),(13,40,zI x2.1),(14,41,.slice (some ⟨b.2.2.1,0,none⟩) 1 1),(15,42,b.2.2.2.v),(16,43,zP bp1),(17,44,.pointer (some ⟨bp1,2,none⟩))]; let LL1:(Nat→Prop)→(Nat×Hd×Nat×Hd)→List Asn:=fun D b=>[eD D (cells bp1 [hd13.v,hd14.v,hd15.v,hd16.v,zI p1.heights] 131) [(18,cells bp1 [hd13.v,hd14.v,b.2.1.v,hd16.v,zI p1.heights] 131)],zv1 hd13.v l14,zv0 hd14.v l15,eD D (zv0 hd15.v l16) [(8,zv0 b.2.1.v (l16++[x2.1]))],eD D (zv0 hd16.v l17) [(15,zv0 b.2.2.2.v (l17++[x2.1]))],cells b2 [zP bp1] 129,cells b3 (zr0 l1) 23,cells b4 [zI cost4] 3,cells jb1 (zr4 x2.2) 76,eD D emp [(7,cells b.1 [zI x2.1] 3)],eD D emp [(14,cells b.2.2.1 [zI x2.1] 3)]]; ?_
     have zhq:zyQ [7,8,14,15,18] LL1:=fun i h D b=>zac (zly rfl h) (zac rfl (zac rfl (zac (zly rfl h) (zac (zly rfl h) (zac rfl (zac rfl (zac rfl (zac rfl (zac (zly rfl h) (zac (zly rfl h) rfl))))))))))
     refine zd6 (β:=Nat×Hd×Nat×Hd) 19 ((0:Nat),Hd.nil,(0:Nat),Hd.nil) vals1 LL1 mixed kr kr dc (fun _=>rfl) (zac zb4 (zeo (zac zb4 (zac zb4 (zfH (zac zb4 (zac zb4 rfl))))))) (zi5 zhq rfl (fun _=>rfl) (fun _=>rfl) ?_ (zi5 zhq rfl (fun _=>rfl) (fun _=>rfl) ?_ (zi5 zhq rfl (fun _=>rfl) (fun _=>rfl) ?_ (zyq zhq rfl (fun _=>rfl) (fun _=>rfl) ?_ (zyq zhq rfl (fun _=>rfl) (fun _=>rfl) ?_ (zi5 zhq rfl (fun _=>rfl) (fun _=>rfl) ?_ (znp zhq (fun _=>rfl) (fun _=>rfl) 1 6 (fun _=>rfl) rfl (zau ?_ (zau ?_ (zi5 zhq rfl (fun _=>rfl) (fun _=>rfl) ?_ (zyq zhq rfl (fun _=>rfl) (fun _=>rfl) ?_ (zyq zhq rfl (fun _=>rfl) (fun _=>rfl) ?_ (zi5 zhq rfl (fun _=>rfl) (fun _=>rfl) ?_ (znp zhq (fun _=>rfl) (fun _=>rfl) 1 13 (fun _=>rfl) rfl (zau ?_ (zau ?_ (zyq zhq rfl (fun _=>rfl) (fun _=>rfl) ?_ (zyq zhq rfl (fun _=>rfl) (fun _=>rfl) ?_ (zau ?_ DrawG.nil))))))))))))))))))) ?_
     · exact fun D ⟨b7,hd19,b8,hd20⟩ n d c u i=>⟨_,(zac (zah (fun hD=>n (c 18 _ rfl hD 0 dc)) zao) (zmr rfl)),zam (k:=5) zh0 rfl dc (za4 (by rfl) rfl) rfl rfl (zaf 0 u i rfl)⟩
     · exact fun D ⟨b7,hd19,b8,hd20⟩ n d c u i=>⟨_,(zlz rfl),zam (k:=5) zh0 rfl dc (za4 (by rfl) rfl) rfl rfl (zaf 1 u i rfl)⟩
     · exact fun D ⟨b7,hd19,b8,hd20⟩ n d c u i=>⟨_,(zac (zah (fun hD=>n (c 18 _ rfl hD 2 dc)) zao) (zeo (zac (zah (fun hD=>n (c 3 _ rfl (c 4 _ rfl (c 5 _ rfl (c 8 _ rfl hD 5 dc) 4 dc) 3 dc) 2 dc)) zao) (zac (zah (fun hD=>n (c 3 _ rfl (c 4 _ rfl (c 5 _ rfl (c 8 _ rfl (c 15 _ rfl hD 8 dc) 5 dc) 4 dc) 3 dc) 2 dc)) zao) (zt0 rfl))))),zam (k:=5) zh0 rfl dc (za4 (by rfl) rfl) rfl rfl (zaf 2 u i rfl)⟩
     · exact fun D ⟨b7,hd19,b8,hd20⟩ n d c u i=>zay rfl dc (zaa (m:=2) u rfl (d 2 dc)) (zaf 3 u i rfl)
     · exact fun D ⟨b7,hd19,b8,hd20⟩ n d c u i=>zab ziP rfl dc (zaa (m:=3) u rfl (d 3 dc)) (show _=2 from rfl) (zaf 4 u i rfl)
     · exact fun D ⟨b7,hd19,b8,hd20⟩ n d c u i=>⟨_,(zac (zah (fun hD=>n (c 18 _ rfl hD 5 dc)) zao) (zeo (zac (zah (fun hD=>n (c 8 _ rfl hD 5 dc)) zao) (zac (zah (fun hD=>n (c 8 _ rfl (c 15 _ rfl hD 8 dc) 5 dc)) zao) (zt0 rfl))))),zam (k:=0) zgA rfl dc (zaa (m:=4) u rfl (d 4 dc)) rfl rfl (zaf 5 u i rfl)⟩
     ·
      intro D b hn hd hcl
      obtain ⟨zb0,hd19,b8,hd20⟩:=b
      refine zaK (zac (zah (fun hD=>hn (hcl 18 _ rfl hD 7 dc)) zao) (zeo (zac (zah (fun hD=>hn (hcl 8 _ rfl hD 7 dc)) zao) (zac (zah (fun hD=>hn (hcl 8 _ rfl (hcl 15 _ rfl hD 8 dc) 7 dc)) zao) (zfH (zac (zah hn zao) rfl)))))) ?_
      refine zaR (cs:=[zI x2.1]) (te:=3) (ps:=[(0,.tmp 33)]) rfl dc (evP.cons (zaa (m:=6) rfl rfl (hd 6 dc)) evP.nil) (fun _=>by kernel_rfl) (fun b7 => ?_)
      refine zc5 9 rfl rfl ?_
      exact zaU (b:=(zb0,hd19,b8,hd20)) (b7,hd19,b8,hd20) 7 (by rfl) (by rfl) rfl (zjS (zap (fun hD=>absurd hD hn) (zjT rfl))) (zac ((zan (by rfl)).trans (zah (fun hD=>hn (hcl 18 _ rfl hD 7 dc)) zao)) (zeo (zac ((zan (by rfl)).trans (zah (fun hD=>hn (hcl 8 _ rfl hD 7 dc)) zao)) (zac ((zan (by rfl)).trans (zah (fun hD=>hn (hcl 8 _ rfl (hcl 15 _ rfl hD 8 dc) 7 dc)) zao)) (zfH (zac (zaL (Or.inr rfl) rfl) (zac (zan (by rfl)) rfl)))))))
     ·
      intro D b hn hd hcl
      obtain ⟨b7,zb1,b8,hd20⟩:=b
      refine zaK (zac (zah (fun hD=>hn (hcl 18 _ rfl hD 8 dc)) zao) (zeo (zac (zah hn zao) (zac (zah (fun hD=>hn (hcl 15 _ rfl hD 8 dc)) zao) (zfH (zac (zaL (hd 7 dc) rfl) rfl)))))) ?_
      refine za3 (k:=3) (k2:=9) (ys:=[x2.1]) Tryz.underlying49 ztR zbO zgo rfl dc (zaa (m:=5) rfl rfl (hd 5 dc)) (zaa (m:=7) rfl rfl (hd 7 dc)) rfl rfl rfl rfl hg1 (fun v1 => ?_)
      refine zbu (k:=3) rfl (fun hd19 he1 => ?_)
      subst he1
      exact zaU (b:=(b7,zb1,b8,hd20)) (b7,hd19,b8,hd20) 8 (by rfl) (by rfl) rfl (zi6 (zap (fun hD=>absurd hD hn) (zyp rfl))) (zac ((zan (by rfl)).trans (zah (fun hD=>hn (hcl 18 _ rfl hD 8 dc)) zao)) (zeo (zac (zaL (Or.inr rfl) rfl) (zac ((zan (by rfl)).trans (zah (fun hD=>hn (hcl 15 _ rfl hD 8 dc)) zao)) (zfH (zac ((zan (by rfl)).trans (zaL (hd 7 dc) rfl)) (zac (zan (by rfl)) rfl)))))))
     · exact fun D ⟨b7,hd19,b8,hd20⟩ n d c u i=>⟨_,(zac (zah (fun hD=>n (c 10 _ rfl (c 11 _ rfl (c 12 _ rfl (c 18 _ rfl hD 12 dc) 11 dc) 10 dc) 9 dc)) zao) (zcA (zac (zah (fun hD=>n (c 10 _ rfl (c 11 _ rfl (c 12 _ rfl (c 15 _ rfl hD 12 dc) 11 dc) 10 dc) 9 dc)) zao) (zt0 rfl)))),zam (k:=5) zh0 rfl dc (za4 (by rfl) rfl) rfl rfl (zaf 9 u i rfl)⟩
     · exact fun D ⟨b7,hd19,b8,hd20⟩ n d c u i=>zay rfl dc (zaa (m:=9) u rfl (d 9 dc)) (zaf 10 u i rfl)
     · exact fun D ⟨b7,hd19,b8,hd20⟩ n d c u i=>zab zkf rfl dc (zaa (m:=10) u rfl (d 10 dc)) (show _=3 from rfl) (zaf 11 u i rfl)
     · exact fun D ⟨b7,hd19,b8,hd20⟩ n d c u i=>⟨_,(zac (zah (fun hD=>n (c 18 _ rfl hD 12 dc)) zao) (zcA (zac (zah (fun hD=>n (c 15 _ rfl hD 12 dc)) zao) (zt0 rfl)))),zam (k:=0) zgA rfl dc (zaa (m:=11) u rfl (d 11 dc)) rfl rfl (zaf 12 u i rfl)⟩
     ·
      intro D b hn hd hcl
      obtain ⟨b7,hd19,zb2,hd20⟩:=b
      refine zaK (zac (zah (fun hD=>hn (hcl 15 _ rfl (hcl 18 _ rfl hD 15 dc) 14 dc)) zao) (zcA (zac (zah (fun hD=>hn (hcl 15 _ rfl hD 14 dc)) zao) (zow (zac (zah hn zao) rfl))))) ?_
      refine zaR (cs:=[zI x2.1]) (te:=3) (ps:=[(0,.tmp 40)]) rfl dc (evP.cons (zaa (m:=13) rfl rfl (hd 13 dc)) evP.nil) (fun _=>by kernel_rfl) (fun b8 => ?_)
      refine zc5 10 rfl rfl ?_
      exact zaU (b:=(b7,hd19,zb2,hd20)) (b7,hd19,b8,hd20) 14 (by rfl) (by rfl) rfl (zvl (zdv (zap (fun hD=>absurd hD hn) (zvd rfl)))) (zac ((zan (by rfl)).trans (zah (fun hD=>hn (hcl 15 _ rfl (hcl 18 _ rfl hD 15 dc) 14 dc)) zao)) (zeo (zac (zan (by rfl)) (zac ((zan (by rfl)).trans (zah (fun hD=>hn (hcl 15 _ rfl hD 14 dc)) zao)) (zfH (zac (zan (by rfl)) (zac (zaL (Or.inr rfl) rfl) rfl)))))))
     ·
      intro D b hn hd hcl
      obtain ⟨b7,hd19,b8,zb3⟩:=b
      refine zaK (zac (zah (fun hD=>hn (hcl 18 _ rfl hD 15 dc)) zao) (zeo (zac (zaL (hd 8 dc) rfl) (zac (zah hn zao) (zfH (zac (zaL (hcl 8 _ rfl (hd 8 dc) 7 dc) rfl) (zac (zaL (hd 14 dc) rfl) rfl))))))) ?_
      refine za3 (k:=4) (k2:=10) (ys:=[x2.1]) Tryz.underlying49 ztR zbO zgo rfl dc (zaa (m:=12) rfl rfl (hd 12 dc)) (zaa (m:=14) rfl rfl (hd 14 dc)) rfl rfl rfl rfl hg2 (fun v2 => ?_)
      refine zbu (k:=4) rfl (fun hd20 he2 => ?_)
      subst he2
      exact zaU (b:=(b7,hd19,b8,zb3)) (b7,hd19,b8,hd20) 15 (by rfl) (by rfl) rfl (zvd (zdv (zap (fun hD=>absurd hD hn) (zvl rfl)))) (zac ((zan (by rfl)).trans (zah (fun hD=>hn (hcl 18 _ rfl hD 15 dc)) zao)) (zeo (zac ((zan (by rfl)).trans (zaL (hd 8 dc) rfl)) (zac (zaL (Or.inr rfl) rfl) (zfH (zac ((zan (by rfl)).trans (zaL (hcl 8 _ rfl (hd 8 dc) 7 dc) rfl)) (zac ((zan (by rfl)).trans (zaL (hd 14 dc) rfl)) rfl)))))))
     · exact fun D ⟨b7,hd19,b8,hd20⟩ n d c u i=>zay rfl dc (zaa (m:=0) u rfl (d 0 dc)) (zaf 16 u i rfl)
     · exact fun D ⟨b7,hd19,b8,hd20⟩ n d c u i=>zab ziP rfl dc (zaa (m:=16) u rfl (d 16 dc)) (show _=2 from rfl) (zaf 17 u i rfl)
     ·
      intro D b hn hd hcl
      obtain ⟨b7,hd19,b8,hd20⟩:=b
      refine zaK (zac (zah hn zao) (zeo (zac (zaL (hd 8 dc) rfl) (zac (zaL (hd 15 dc) rfl) (zfH (zac (zaL (hd 7 dc) rfl) (zac (zaL (hcl 15 _ rfl (hd 15 dc) 14 dc) rfl) rfl))))))) ?_
      refine zaM (k:=0) (l':=[hd13.v,hd14.v,hd19.v,hd16.v,zI p1.heights]) zpW rfl (zaa (m:=17) rfl rfl (hd 17 dc)) (zaa (m:=8) rfl rfl (hd 8 dc)) rfl rfl (fun _ _=>rfl) rfl ?_
      exact zi2 (b:=(b7,hd19,b8,hd20)) (b7,hd19,b8,hd20) (by rfl) (zt2 (zdv rfl)) (zac (zaL (Or.inr rfl) rfl) (zeo (zac ((zan (by rfl)).trans (zaL (hd 8 dc) rfl)) (zac ((zan (by rfl)).trans (zaL (hd 15 dc) rfl)) (zfH (zac ((zan (by rfl)).trans (zaL (hd 7 dc) rfl)) (zac ((zan (by rfl)).trans (zaL (hcl 15 _ rfl (hd 15 dc) 14 dc) rfl)) rfl)))))))
     intro D b hall
     obtain ⟨b7,hd19,b8,hd20⟩:=b
     refine zaK (zac (zaL (hall 18 dc) rfl) (zeo (zac (zaL (hall 8 dc) rfl) (zac (zaL (hall 15 dc) rfl) (zfH (zac (zaL (hall 7 dc) rfl) (zac (zaL (hall 14 dc) rfl) rfl))))))) (zay rfl dc rfl (zab zkf rfl dc rfl (show _=3 from rfl) ?_))
     refine zaM (k:=0) (l':=[hd13.v,hd14.v,hd19.v,hd20.v,zI p1.heights]) zpW rfl rfl rfl rfl rfl (fun _ _=>rfl) rfl ?_
     refine zaQ ?_
     exact zai (l16++[x2.1],l17++[x2.1],hd19,hd20) h rfl (za5 rfl) (zad [0,1,2,3,4,5,6,7,8] kr rfl)
    refine zas ?_
    exact zai (l16,l17,hd15,hd16) h rfl (za5 rfl) (zad [0,1,2,3,4,5,6,7,8] kr rfl)
   rintro ⟨l18,l19,hd17,hd18⟩ h
   rw [hj2] at h
   refine zaJ ?_
   obtain ⟨q1,hq3,h⟩:=zbw h
   refine zbK 7 [(0,47,zP bp1),(1,48,zP bp1),(2,49,.pointer (some ⟨bp1,3,none⟩)),(3,50,hd18.v),(4,51,.pointer (some ⟨jb1,2,none⟩)),(5,52,zI x2.2.Stanza),(6,53,zI x2.1)] mixed kr kr dc (by rfl) kr kr (zae ?_ (zae ?_ (zae ?_ (zae ?_ (zae ?_ (zae ?_ (zyP 1 6 rfl DrawPre.nil))))))) ?_
   · exact fun D n d c u i=>zam (k:=5) zh0 rfl dc (za4 (by rfl) rfl) rfl rfl (zaf 0 u i rfl)
   · exact fun D n d c u i=>zay rfl dc (zaa (m:=0) u rfl (d 0 dc)) (zaf 1 u i rfl)
   · exact fun D n d c u i=>zab zkf rfl dc (zaa (m:=1) u rfl (d 1 dc)) (show _=3 from rfl) (zaf 2 u i rfl)
   · exact fun D n d c u i=>zam (k:=0) zgA rfl dc (zaa (m:=2) u rfl (d 2 dc)) rfl rfl (zaf 3 u i rfl)
   · exact fun D n d c u i=>zab zm5 rfl dc (za4 (by rfl) rfl) (show _=2 from rfl) (zaf 4 u i rfl)
   · exact fun D n d c u i=>zam (k:=8) zbr rfl dc (zaa (m:=4) u rfl (d 4 dc)) rfl rfl (zaf 5 u i rfl)
   refine zar (k:=4) hq3 Tryz.underlying49 zeA rfl dc rfl rfl rfl rfl ?_
   refine zez (i:=(x2.2.Stanza:Int).toNat) (j:=0) (k:=4) (q:=q1) (q':=x2.1) zeA zbO rfl rfl rfl rfl (zaG hq3) rfl dc rfl (fun _ _=>rfl) ?_
   refine zyH (zab zrG rfl dc rfl (show _=0 from rfl) (zam (k:=8) zou rfl dc rfl rfl rfl (zab zrF rfl dc rfl (show _=1 from rfl) (zam (k:=8) zbr rfl dc rfl rfl rfl (zbb (k:=6) (cs:=(zr0 l1)) zlD rfl dc rfl rfl rfl rfl ?_)))))
   obtain ⟨r2,hq4,h⟩:=zbw h
   refine zdu (vs:=[.string x2.2.Text,zI x2.2.Indent,.agg (zr0 l1).toArray]) rfl dc rfl rfl rfl zwl (zjK (l1:=l1) hq4) Splits.nil ?_
   rintro v3
   refine zbu (k:=9) rfl (fun hd21 he3 => ?_)
   subst he3
   refine zyR 1 rfl (zaY rfl dc rfl rfl (zaY rfl dc rfl rfl (zyR 2 rfl (zyH (zam (k:=7) zbr rfl dc rfl rfl rfl (zyR 1 rfl ?_))))))
   obtain ⟨hg3,h⟩:=zbn h
   refine zaW rfl (zaX (r:=cost4+r2.2) (IntWalk.i64_in _ hg3)) ?_
   refine zaM (k:=7) (l':=[zI (cost4+r2.2)]) zeA rfl rfl rfl rfl rfl (fun _ _=>rfl) rfl ?_
   refine zyH (zyR 1 rfl (zbl (k:=9) rfl dc rfl rfl Tryz.underlying70 (zyR 1 rfl (zyN (zaC ?_)))))
   refine zbq (β:=Nat×(List Gapi_Row)×(List Int)×Int×Hd×Hd) (fun b=>zaF (fun _ _ _=>none) (zbt l1 x2 ag1 cost4 l18 l19 r2) b.1 b.2.1 b.2.2.1 b.2.2.2.1=some r) (fun b=>[]) (fun b=>[(3,zP b2),(5,zP b3),(6,zI 0),(7,zP b4),(8,zI x2.1),(9,zP jb1),(16,.func (.func 115) #[] #[zP b5]),(67,hd21.v),(68,zI (r2.1.length:Int)),(69,zI b.2.2.2.1)]) (fun b=>[cells bp1 [b.2.2.2.2.1.v,b.2.2.2.2.2.v,hd17.v,hd18.v,zI p1.heights] 131,zv1 b.2.2.2.2.1.v b.2.1,zv0 b.2.2.2.2.2.v b.2.2.1,zv0 hd17.v l18,zv0 hd18.v (l19.set (x2.2.Stanza:Int).toNat x2.1),cells b2 [zP bp1] 129,cells b3 (zr0 l1) 23,cells b4 [zI (cost4+r2.2)] 3,cells jb1 (zr4 x2.2) 76,zv7 hd21.v r2.1]) (fun b=>b.1) (zbT,l14,l15,0,hd13,hd14) h rfl (za5 rfl) (zad [0,1,2,3,4,5,6,7,8,9] kr rfl) ?_
   rintro ⟨n1,l24,l25,x5,hd26,hd27⟩ h
   cases n1 with
   | zero=>exact zdM h
   | succ n1 =>
    obtain ⟨ag2,hag2⟩:∃ ag,ag=zaF (fun _ _ _=>none) (zbt l1 x2 ag1 cost4 l18 l19 r2) n1:=⟨_,rfl⟩
    have h:zbt l1 x2 ag1 cost4 l18 l19 r2 ag2 l24 l25 x5=some r:=by rw [hag2]; exact h
    unfold zbt at h
    refine zyG (zaW rfl zbC (zyN (zaJ ?_)))
    refine zyB rfl h (fun h => ?_) (fun h => ?_)
    ·
     refine zas (zaI (zaJ (zaC ?_)))
     obtain ⟨j3,hj3,h⟩:=zbF h
     refine za1 (β:=Int×Int×ByteArray×Nat) 2 rfl (fun b=>j3 b.1 b.2.1 b.2.2.1=some r) (fun b=>[]) (fun b=>[(3,zP b2),(5,zP b3),(6,zI 0),(7,zP b4),(8,zI x2.1),(9,zP jb1),(14,zP b.2.2.2),(16,.func (.func 115) #[] #[zP b5]),(67,hd21.v),(68,zI (r2.1.length:Int)),(69,zI x5)]) (fun b=>[cells bp1 [hd26.v,hd27.v,hd17.v,hd18.v,zI p1.heights] 131,zv1 hd26.v l24,zv0 hd27.v l25,zv0 hd17.v l18,zv0 hd18.v (l19.set (x2.2.Stanza:Int).toNat x2.1),cells b2 [zP bp1] 129,cells b3 (zr0 l1) 23,cells b4 [zI (cost4+r2.2)] 3,cells jb1 (zr4 x2.2) 76,cells b.2.2.2 [zI x2.1,zI x2.2.Stanza,zI x5,zI b.1,zI b.2.1,.string b.2.2.1] 33,zv7 hd21.v r2.1]) (fun cut => ?_) ?_
     ·
      refine zyG (zyR 1 rfl ?_)
      obtain ⟨q2,hq5,h⟩:=zbw h
      refine zar (k:=9) hq5 Tryz.underlying70 zwX rfl dc rfl rfl rfl rfl (zaH (i:=(x5:Int).toNat) (j:=0) (k:=9) (q:=q2) zou zkh rfl dc rfl rfl (zaG hq5) rfl dc rfl (zyR 2 rfl (zyH (zyR 1 rfl (zab zm5 rfl dc rfl (show _=2 from rfl) (zam (k:=8) zbr rfl dc rfl rfl rfl (zyR 1 rfl (zab zjo rfl dc rfl (show _=2 from rfl) (zam (k:=6) zbr rfl dc rfl rfl rfl ?_)))))))))
      refine zyR 1 rfl ?_
      refine za7 (v:=.agg #[zI x2.1,zI x2.2.Stanza,zI x5,zI l1.Turn,zI 0,.string q2]) (ps:=[(0,.tmp 74),(1,.tmp 76),(2,.tmp 77),(3,.tmp 79),(5,.tmp 80)]) rfl dc rfl (fun _=>by kernel_rfl) ?_
      refine zbc zpS rfl dc (fun b10 => ?_)
      refine za0 (k:=10) (vs:=[zI x2.1,zI x2.2.Stanza,zI x5,zI l1.Turn,zI 0,.string q2]) (l':=[zI x2.1,zI x2.2.Stanza,zI x5,zI l1.Turn,zI 0,.string q2]) zhj rfl rfl rfl rfl rfl (show _≤_ by simp) rfl rfl ?_
      refine zyN (cut (zyG (zyR 1 rfl (zaW rfl zaT (zyN ?_)))))
      refine zyB rfl h (fun h => ?_) (fun h => ?_)
      ·
       refine zyG (zab zrF rfl dc rfl (show _=1 from rfl) (zam (k:=8) zbr rfl dc rfl rfl rfl (zab zk6 rfl dc rfl (show _=3 from rfl) ?_)))
       refine zaM (k:=10) (l':=[zI x2.1,zI x2.2.Stanza,zI x5,zI x2.2.Indent,zI 0,.string q2]) zeA rfl rfl rfl rfl rfl (fun _ _=>rfl) rfl ?_
       refine zyH (zab zjn rfl dc rfl (show _=3 from rfl) (zam (k:=6) zbr rfl dc rfl rfl rfl (zaW rfl zcK (zyR 1 rfl ?_))))
       refine zyS (s:=90) rfl h (fun h => ?_) (fun h => ?_)
       ·
        refine zyR 1 rfl ?_
        obtain ⟨hg4,h⟩:=zbn h
        refine zaW rfl (zaX (r:=x2.1+1) (IntWalk.i64_in _ hg4)) (zab zjn rfl dc rfl (show _=3 from rfl) (zam (k:=6) zbr rfl dc rfl rfl rfl ?_))
        obtain ⟨hg5,h⟩:=zbn h
        refine zaW rfl (zoW hg5 rfl) (zaW rfl zaT (zyR 1 rfl (zyN ?_)))
        refine zyB rfl h (fun h => ?_) (fun h => ?_)
        ·
         refine zat (zyR 1 rfl ?_)
         obtain ⟨hg6,h⟩:=zbn h
         refine zaW rfl (zaX (r:=x2.1+1) (IntWalk.i64_in _ hg6)) (zab zk5 rfl dc rfl (show _=4 from rfl) ?_)
         refine zaM (k:=10) (l':=[zI x2.1,zI x2.2.Stanza,zI x5,zI x2.2.Indent,zI (x2.1+1),.string q2]) zeA rfl rfl rfl rfl rfl (fun _ _=>rfl) rfl ?_
         refine zaQ ?_
         exact zai (x2.2.Indent,x2.1+1,q2,b10) h rfl (za5 rfl) (zad [0,1,2,3,4,5,6,7,8,10,9] kr rfl)
        refine zas ?_
        exact zai (x2.2.Indent,0,q2,b10) h rfl (za5 rfl) (zad [0,1,2,3,4,5,6,7,8,10,9] kr rfl)
       refine zyR 7 rfl (zyN (zaN rfl (zas ?_)))
       exact zai (x2.2.Indent,0,q2,b10) h rfl (za5 rfl) (zad [0,1,2,3,4,5,6,7,8,10,9] kr rfl)
      refine zas ?_
      exact zai (l1.Turn,0,q2,b10) h rfl (za5 rfl) (zad [0,1,2,3,4,5,6,7,8,10,9] kr rfl)
     rintro ⟨r3,r4,r5,b9⟩ h
     rw [hj3] at h
     obtain ⟨hg7,h⟩:=zbn h
     obtain ⟨hg8,h⟩:=zbn h
     refine zgs 2 ?_
     refine let vals2:(Nat×Hd×Nat×Hd)→List (Nat×Nat×Value):=fun b=>[(0,101,zP bp1),(1,102,zP bp1),(2,103,zP bp1),(3,104,zP bp1),(4,105,zP bp1),(5,106,hd26.v),(6,107,.agg #[zI x2.1,zI x2.2.Stanza,zI x5,zI r3,zI r4,.string r5]),(7,108,.slice (some ⟨b.1,0,none⟩) 1 1),(8,109,b.2.1.v),(9,110,zP bp1),(10,111,zP bp1),(11,112,.pointer (some ⟨bp1,1,none⟩)),(12,113,hd27.v),(13,114,.pointer (some ⟨jb1,2,none⟩)),(14,115,zI x2.2.Stanza),(15,116,.slice (some ⟨b.2.2.1,0,none⟩) 1 1),(16,117,b.2.2.2.v),(17,118,zP bp1),(18,119,zP bp1)]; let LL2:(Nat→Prop)→(Nat×Hd×Nat×Hd)→List Asn:=fun D b=>[eD D (cells bp1 [hd26.v,hd27.v,hd17.v,hd18.v,zI p1.heights] 131) [(19,cells bp1 [b.2.1.v,hd27.v,hd17.v,hd18.v,zI p1.heights] 131)],eD D (zv1 hd26.v l24) [(8,zv1 b.2.1.v (l24++[(⟨x2.1,x2.2.Stanza,x5,r3,r4,r5⟩:Gapi_Row)]))],eD D (zv0 hd27.v l25) [(16,zv0 b.2.2.2.v (l25++[x2.2.Stanza]))],zv0 hd17.v l18,zv0 hd18.v (l19.set (x2.2.Stanza:Int).toNat x2.1),cells b2 [zP bp1] 129,cells b3 (zr0 l1) 23,cells b4 [zI (cost4+r2.2)] 3,cells jb1 (zr4 x2.2) 76,cells b9 [zI x2.1,zI x2.2.Stanza,zI x5,zI r3,zI r4,.string r5] 33,zv7 hd21.v r2.1,eD D emp [(7,cells b.1 [zI x2.1,zI x2.2.Stanza,zI x5,zI r3,zI r4,.string r5] 33)],eD D emp [(15,cells b.2.2.1 [zI x2.2.Stanza] 3)]]; ?_
     refine zd6 (β:=Nat×Hd×Nat×Hd) 20 ((0:Nat),Hd.nil,(0:Nat),Hd.nil) vals2 LL2 mixed kr kr dc (fun _=>rfl) (zac zb4 (zac zb4 (zac zb4 (zim (zac zb4 (zac zb4 rfl)))))) (zau ?_ (zau ?_ (zau ?_ (zau ?_ (zau ?_ (zau ?_ (zau ?_ (zau ?_ (zau ?_ (zau ?_ (zau ?_ (zau ?_ (zau ?_ (zau ?_ (zau ?_ (zau ?_ (zau ?_ (zau ?_ (zau ?_ (zau ?_ DrawG.nil)))))))))))))))))))) ?_
     ·
      intro D b hn hd hcl
      obtain ⟨b11,hd28,b12,hd29⟩:=b
      refine zaK (zac (zah (fun hD=>hn (hcl 19 _ rfl hD 0 dc)) zao) (zt1 rfl)) ?_
      refine zam (k:=5) zh0 rfl dc (za4 (by rfl) rfl) rfl rfl ?_
      exact zaU (b:=(b11,hd28,b12,hd29)) (b11,hd28,b12,hd29) 0 (by rfl) (by rfl) rfl (zjS (zdv rfl)) (zac ((zan (by rfl)).trans (zah (fun hD=>hn (hcl 19 _ rfl hD 0 dc)) zao)) (zac (zan (by rfl)) (zac (zan (by rfl)) (zim (zac (zan (by rfl)) (zac (zan (by rfl)) rfl))))))
     ·
      intro D b hn hd hcl
      obtain ⟨b11,hd28,b12,hd29⟩:=b
      refine zaK (zac rfl (zt1 rfl)) (zam (k:=5) zh0 rfl dc (za4 (by rfl) rfl) rfl rfl ?_)
      exact zaU (b:=(b11,hd28,b12,hd29)) (b11,hd28,b12,hd29) 1 (by rfl) (by rfl) rfl (zjS (zdv rfl)) (zac (zan (by rfl)) (zac (zan (by rfl)) (zac (zan (by rfl)) (zim (zac (zan (by rfl)) (zac (zan (by rfl)) rfl))))))
     ·
      intro D b hn hd hcl
      obtain ⟨b11,hd28,b12,hd29⟩:=b
      refine zaK (zac (zah (fun hD=>hn (hcl 19 _ rfl hD 2 dc)) zao) (zac (zah (fun hD=>hn (hcl 3 _ rfl (hcl 4 _ rfl (hcl 5 _ rfl (hcl 8 _ rfl hD 5 dc) 4 dc) 3 dc) 2 dc)) zao) (zac (zah (fun hD=>hn (hcl 3 _ rfl (hcl 4 _ rfl (hcl 5 _ rfl (hcl 8 _ rfl (hcl 16 _ rfl hD 8 dc) 5 dc) 4 dc) 3 dc) 2 dc)) zao) (zmr rfl)))) ?_
      refine zam (k:=5) zh0 rfl dc (za4 (by rfl) rfl) rfl rfl ?_
      exact zaU (b:=(b11,hd28,b12,hd29)) (b11,hd28,b12,hd29) 2 (by rfl) (by rfl) rfl (zjS (zdv rfl)) (zac ((zan (by rfl)).trans (zah (fun hD=>hn (hcl 19 _ rfl hD 2 dc)) zao)) (zac ((zan (by rfl)).trans (zah (fun hD=>hn (hcl 3 _ rfl (hcl 4 _ rfl (hcl 5 _ rfl (hcl 8 _ rfl hD 5 dc) 4 dc) 3 dc) 2 dc)) zao)) (zac ((zan (by rfl)).trans (zah (fun hD=>hn (hcl 3 _ rfl (hcl 4 _ rfl (hcl 5 _ rfl (hcl 8 _ rfl (hcl 16 _ rfl hD 8 dc) 5 dc) 4 dc) 3 dc) 2 dc)) zao)) (zim (zac (zan (by rfl)) (zac (zan (by rfl)) rfl))))))
     ·
      intro D b hn hd hcl
      obtain ⟨b11,hd28,b12,hd29⟩:=b
      refine zaK (zac (zah (fun hD=>hn (hcl 19 _ rfl hD 3 dc)) zao) (zac (zah (fun hD=>hn (hcl 4 _ rfl (hcl 5 _ rfl (hcl 8 _ rfl hD 5 dc) 4 dc) 3 dc)) zao) (zac (zah (fun hD=>hn (hcl 4 _ rfl (hcl 5 _ rfl (hcl 8 _ rfl (hcl 16 _ rfl hD 8 dc) 5 dc) 4 dc) 3 dc)) zao) (zmr rfl)))) ?_
      refine zay rfl dc (zaa (m:=2) rfl rfl (hd 2 dc)) ?_
      exact zaU (b:=(b11,hd28,b12,hd29)) (b11,hd28,b12,hd29) 3 (by rfl) (by rfl) rfl (zjS (zdv rfl)) (zac ((zan (by rfl)).trans (zah (fun hD=>hn (hcl 19 _ rfl hD 3 dc)) zao)) (zac ((zan (by rfl)).trans (zah (fun hD=>hn (hcl 4 _ rfl (hcl 5 _ rfl (hcl 8 _ rfl hD 5 dc) 4 dc) 3 dc)) zao)) (zac ((zan (by rfl)).trans (zah (fun hD=>hn (hcl 4 _ rfl (hcl 5 _ rfl (hcl 8 _ rfl (hcl 16 _ rfl hD 8 dc) 5 dc) 4 dc) 3 dc)) zao)) (zim (zac (zan (by rfl)) (zac (zan (by rfl)) rfl))))))
     ·
      intro D b hn hd hcl
      obtain ⟨b11,hd28,b12,hd29⟩:=b
      refine zaK (zac (zah (fun hD=>hn (hcl 19 _ rfl hD 4 dc)) zao) (zac (zah (fun hD=>hn (hcl 5 _ rfl (hcl 8 _ rfl hD 5 dc) 4 dc)) zao) (zac (zah (fun hD=>hn (hcl 5 _ rfl (hcl 8 _ rfl (hcl 16 _ rfl hD 8 dc) 5 dc) 4 dc)) zao) (zmr rfl)))) ?_
      refine zab zgj rfl dc (zaa (m:=3) rfl rfl (hd 3 dc)) (show _=0 from rfl) ?_
      exact zaU (b:=(b11,hd28,b12,hd29)) (b11,hd28,b12,hd29) 4 (by rfl) (by rfl) rfl (zjS (zdv rfl)) (zac ((zan (by rfl)).trans (zah (fun hD=>hn (hcl 19 _ rfl hD 4 dc)) zao)) (zac ((zan (by rfl)).trans (zah (fun hD=>hn (hcl 5 _ rfl (hcl 8 _ rfl hD 5 dc) 4 dc)) zao)) (zac ((zan (by rfl)).trans (zah (fun hD=>hn (hcl 5 _ rfl (hcl 8 _ rfl (hcl 16 _ rfl hD 8 dc) 5 dc) 4 dc)) zao)) (zim (zac (zan (by rfl)) (zac (zan (by rfl)) rfl))))))
     ·
      intro D b hn hd hcl
      obtain ⟨b11,hd28,b12,hd29⟩:=b
      refine zaK (zac (zah (fun hD=>hn (hcl 19 _ rfl hD 5 dc)) zao) (zac (zah (fun hD=>hn (hcl 8 _ rfl hD 5 dc)) zao) (zac (zah (fun hD=>hn (hcl 8 _ rfl (hcl 16 _ rfl hD 8 dc) 5 dc)) zao) (zmr rfl)))) ?_
      refine zam (k:=0) zhn rfl dc (zaa (m:=4) rfl rfl (hd 4 dc)) rfl rfl ?_
      exact zaU (b:=(b11,hd28,b12,hd29)) (b11,hd28,b12,hd29) 5 (by rfl) (by rfl) rfl (zjS (zdv rfl)) (zac ((zan (by rfl)).trans (zah (fun hD=>hn (hcl 19 _ rfl hD 5 dc)) zao)) (zac ((zan (by rfl)).trans (zah (fun hD=>hn (hcl 8 _ rfl hD 5 dc)) zao)) (zac ((zan (by rfl)).trans (zah (fun hD=>hn (hcl 8 _ rfl (hcl 16 _ rfl hD 8 dc) 5 dc)) zao)) (zim (zac (zan (by rfl)) (zac (zan (by rfl)) rfl))))))
     ·
      intro D b hn hd hcl
      obtain ⟨b11,hd28,b12,hd29⟩:=b
      refine zaK (zac (zah (fun hD=>hn (hcl 19 _ rfl hD 6 dc)) zao) (zac (zah (fun hD=>hn (hcl 7 _ rfl (hcl 8 _ rfl hD 7 dc) 6 dc)) zao) (zac (zah (fun hD=>hn (hcl 7 _ rfl (hcl 8 _ rfl (hcl 16 _ rfl hD 8 dc) 7 dc) 6 dc)) zao) (zim (zac (zah (fun hD=>hn (hcl 7 _ rfl hD 6 dc)) zao) rfl))))) ?_
      refine zbb (k:=9) (cs:=[zI x2.1,zI x2.2.Stanza,zI x5,zI r3,zI r4,.string r5]) zje rfl dc (za4 (by rfl) rfl) rfl rfl rfl ?_
      exact zaU (b:=(b11,hd28,b12,hd29)) (b11,hd28,b12,hd29) 6 (by rfl) (by rfl) rfl (zjS (zdv rfl)) (zac ((zan (by rfl)).trans (zah (fun hD=>hn (hcl 19 _ rfl hD 6 dc)) zao)) (zac ((zan (by rfl)).trans (zah (fun hD=>hn (hcl 7 _ rfl (hcl 8 _ rfl hD 7 dc) 6 dc)) zao)) (zac ((zan (by rfl)).trans (zah (fun hD=>hn (hcl 7 _ rfl (hcl 8 _ rfl (hcl 16 _ rfl hD 8 dc) 7 dc) 6 dc)) zao)) (zim (zac ((zan (by rfl)).trans (zah (fun hD=>hn (hcl 7 _ rfl hD 6 dc)) zao)) (zac (zan (by rfl)) rfl))))))
     ·
      intro D b hn hd hcl
      obtain ⟨zb0,hd28,b12,hd29⟩:=b
      refine zaK (zac (zah (fun hD=>hn (hcl 19 _ rfl hD 7 dc)) zao) (zac (zah (fun hD=>hn (hcl 8 _ rfl hD 7 dc)) zao) (zac (zah (fun hD=>hn (hcl 8 _ rfl (hcl 16 _ rfl hD 8 dc) 7 dc)) zao) (zim (zac (zah hn zao) rfl))))) ?_
      refine zaR (cs:=[zI x2.1,zI x2.2.Stanza,zI x5,zI r3,zI r4,.string r5]) (te:=33) (ps:=[(0,.tmp 107)]) rfl dc (evP.cons (zaa (m:=6) rfl rfl (hd 6 dc)) evP.nil) (fun _=>by kernel_rfl) (fun b11 => ?_)
      refine zc5 11 rfl rfl ?_
      exact zaU (b:=(zb0,hd28,b12,hd29)) (b11,hd28,b12,hd29) 7 (by rfl) (by rfl) rfl (zjS (zap (fun hD=>absurd hD hn) (zw9 rfl))) (zac ((zan (by rfl)).trans (zah (fun hD=>hn (hcl 19 _ rfl hD 7 dc)) zao)) (zac ((zan (by rfl)).trans (zah (fun hD=>hn (hcl 8 _ rfl hD 7 dc)) zao)) (zac ((zan (by rfl)).trans (zah (fun hD=>hn (hcl 8 _ rfl (hcl 16 _ rfl hD 8 dc) 7 dc)) zao)) (zim (zac (zaL (Or.inr rfl) rfl) (zac (zan (by rfl)) rfl))))))
     ·
      intro D b hn hd hcl
      obtain ⟨b11,zb1,b12,hd29⟩:=b
      refine zaK (zac (zah (fun hD=>hn (hcl 19 _ rfl hD 8 dc)) zao) (zac (zah hn zao) (zac (zah (fun hD=>hn (hcl 16 _ rfl hD 8 dc)) zao) (zim (zac (zaL (hd 7 dc) rfl) rfl))))) ?_
      refine za3 (k:=1) (k2:=11) (ys:=[(⟨x2.1,x2.2.Stanza,x5,r3,r4,r5⟩:Gapi_Row)]) Tryz.underlying43 zrT zbj zeh rfl dc (zaa (m:=5) rfl rfl (hd 5 dc)) (zaa (m:=7) rfl rfl (hd 7 dc)) rfl rfl rfl rfl hg7 (fun v4 => ?_)
      refine zbu (k:=1) rfl (fun hd28 he4 => ?_)
      subst he4
      exact zaU (b:=(b11,zb1,b12,hd29)) (b11,hd28,b12,hd29) 8 (by rfl) (by rfl) rfl (zi6 (zap (fun hD=>absurd hD hn) (zjT rfl))) (zac ((zan (by rfl)).trans (zah (fun hD=>hn (hcl 19 _ rfl hD 8 dc)) zao)) (zac (zaL (Or.inr rfl) rfl) (zac ((zan (by rfl)).trans (zah (fun hD=>hn (hcl 16 _ rfl hD 8 dc)) zao)) (zim (zac ((zan (by rfl)).trans (zaL (hd 7 dc) rfl)) (zac (zan (by rfl)) rfl))))))
     ·
      intro D b hn hd hcl
      obtain ⟨b11,hd28,b12,hd29⟩:=b
      refine zaK (zac (zah (fun hD=>hn (hcl 10 _ rfl (hcl 11 _ rfl (hcl 12 _ rfl (hcl 19 _ rfl hD 12 dc) 11 dc) 10 dc) 9 dc)) zao) (zac rfl (zac (zah (fun hD=>hn (hcl 10 _ rfl (hcl 11 _ rfl (hcl 12 _ rfl (hcl 16 _ rfl hD 12 dc) 11 dc) 10 dc) 9 dc)) zao) (zmr rfl)))) ?_
      refine zam (k:=5) zh0 rfl dc (za4 (by rfl) rfl) rfl rfl ?_
      exact zaU (b:=(b11,hd28,b12,hd29)) (b11,hd28,b12,hd29) 9 (by rfl) (by rfl) rfl (zjS (zdv rfl)) (zac ((zan (by rfl)).trans (zah (fun hD=>hn (hcl 10 _ rfl (hcl 11 _ rfl (hcl 12 _ rfl (hcl 19 _ rfl hD 12 dc) 11 dc) 10 dc) 9 dc)) zao)) (zac (zan (by rfl)) (zac ((zan (by rfl)).trans (zah (fun hD=>hn (hcl 10 _ rfl (hcl 11 _ rfl (hcl 12 _ rfl (hcl 16 _ rfl hD 12 dc) 11 dc) 10 dc) 9 dc)) zao)) (zim (zac (zan (by rfl)) (zac (zan (by rfl)) rfl))))))
     ·
      intro D b hn hd hcl
      obtain ⟨b11,hd28,b12,hd29⟩:=b
      refine zaK (zac (zah (fun hD=>hn (hcl 11 _ rfl (hcl 12 _ rfl (hcl 19 _ rfl hD 12 dc) 11 dc) 10 dc)) zao) (zac rfl (zac (zah (fun hD=>hn (hcl 11 _ rfl (hcl 12 _ rfl (hcl 16 _ rfl hD 12 dc) 11 dc) 10 dc)) zao) (zmr rfl)))) ?_
      refine zay rfl dc (zaa (m:=9) rfl rfl (hd 9 dc)) ?_
      exact zaU (b:=(b11,hd28,b12,hd29)) (b11,hd28,b12,hd29) 10 (by rfl) (by rfl) rfl (zjS (zdv rfl)) (zac ((zan (by rfl)).trans (zah (fun hD=>hn (hcl 11 _ rfl (hcl 12 _ rfl (hcl 19 _ rfl hD 12 dc) 11 dc) 10 dc)) zao)) (zac (zan (by rfl)) (zac ((zan (by rfl)).trans (zah (fun hD=>hn (hcl 11 _ rfl (hcl 12 _ rfl (hcl 16 _ rfl hD 12 dc) 11 dc) 10 dc)) zao)) (zim (zac (zan (by rfl)) (zac (zan (by rfl)) rfl))))))
     ·
      intro D b hn hd hcl
      obtain ⟨b11,hd28,b12,hd29⟩:=b
      refine zaK (zac (zah (fun hD=>hn (hcl 12 _ rfl (hcl 19 _ rfl hD 12 dc) 11 dc)) zao) (zac rfl (zac (zah (fun hD=>hn (hcl 12 _ rfl (hcl 16 _ rfl hD 12 dc) 11 dc)) zao) (zmr rfl)))) ?_
      refine zab zkg rfl dc (zaa (m:=10) rfl rfl (hd 10 dc)) (show _=1 from rfl) ?_
      exact zaU (b:=(b11,hd28,b12,hd29)) (b11,hd28,b12,hd29) 11 (by rfl) (by rfl) rfl (zjS (zdv rfl)) (zac ((zan (by rfl)).trans (zah (fun hD=>hn (hcl 12 _ rfl (hcl 19 _ rfl hD 12 dc) 11 dc)) zao)) (zac (zan (by rfl)) (zac ((zan (by rfl)).trans (zah (fun hD=>hn (hcl 12 _ rfl (hcl 16 _ rfl hD 12 dc) 11 dc)) zao)) (zim (zac (zan (by rfl)) (zac (zan (by rfl)) rfl))))))
     ·
      intro D b hn hd hcl
      obtain ⟨b11,hd28,b12,hd29⟩:=b
      refine zaK (zac (zah (fun hD=>hn (hcl 19 _ rfl hD 12 dc)) zao) (zac rfl (zac (zah (fun hD=>hn (hcl 16 _ rfl hD 12 dc)) zao) (zmr rfl)))) ?_
      refine zam (k:=0) zgA rfl dc (zaa (m:=11) rfl rfl (hd 11 dc)) rfl rfl ?_
      exact zaU (b:=(b11,hd28,b12,hd29)) (b11,hd28,b12,hd29) 12 (by rfl) (by rfl) rfl (zjS (zdv rfl)) (zac ((zan (by rfl)).trans (zah (fun hD=>hn (hcl 19 _ rfl hD 12 dc)) zao)) (zac (zan (by rfl)) (zac ((zan (by rfl)).trans (zah (fun hD=>hn (hcl 16 _ rfl hD 12 dc)) zao)) (zim (zac (zan (by rfl)) (zac (zan (by rfl)) rfl))))))
     ·
      intro D b hn hd hcl
      obtain ⟨b11,hd28,b12,hd29⟩:=b
      refine zaK (zac (zah (fun hD=>hn (hcl 14 _ rfl (hcl 15 _ rfl (hcl 16 _ rfl (hcl 19 _ rfl hD 16 dc) 15 dc) 14 dc) 13 dc)) zao) (zac rfl (zac (zah (fun hD=>hn (hcl 14 _ rfl (hcl 15 _ rfl (hcl 16 _ rfl hD 15 dc) 14 dc) 13 dc)) zao) (zw7 (zac (zah (fun hD=>hn (hcl 14 _ rfl (hcl 15 _ rfl hD 14 dc) 13 dc)) zao) rfl))))) ?_
      refine zab zm5 rfl dc (za4 (by rfl) rfl) (show _=2 from rfl) ?_
      exact zaU (b:=(b11,hd28,b12,hd29)) (b11,hd28,b12,hd29) 13 (by rfl) (by rfl) rfl (zjS (zdv rfl)) (zac ((zan (by rfl)).trans (zah (fun hD=>hn (hcl 14 _ rfl (hcl 15 _ rfl (hcl 16 _ rfl (hcl 19 _ rfl hD 16 dc) 15 dc) 14 dc) 13 dc)) zao)) (zac (zan (by rfl)) (zac ((zan (by rfl)).trans (zah (fun hD=>hn (hcl 14 _ rfl (hcl 15 _ rfl (hcl 16 _ rfl hD 15 dc) 14 dc) 13 dc)) zao)) (zim (zac (zan (by rfl)) (zac ((zan (by rfl)).trans (zah (fun hD=>hn (hcl 14 _ rfl (hcl 15 _ rfl hD 14 dc) 13 dc)) zao)) rfl))))))
     ·
      intro D b hn hd hcl
      obtain ⟨b11,hd28,b12,hd29⟩:=b
      refine zaK (zac (zah (fun hD=>hn (hcl 15 _ rfl (hcl 16 _ rfl (hcl 19 _ rfl hD 16 dc) 15 dc) 14 dc)) zao) (zac rfl (zac (zah (fun hD=>hn (hcl 15 _ rfl (hcl 16 _ rfl hD 15 dc) 14 dc)) zao) (zw7 (zac (zah (fun hD=>hn (hcl 15 _ rfl hD 14 dc)) zao) rfl))))) ?_
      refine zam (k:=8) zbr rfl dc (zaa (m:=13) rfl rfl (hd 13 dc)) rfl rfl ?_
      exact zaU (b:=(b11,hd28,b12,hd29)) (b11,hd28,b12,hd29) 14 (by rfl) (by rfl) rfl (zjS (zdv rfl)) (zac ((zan (by rfl)).trans (zah (fun hD=>hn (hcl 15 _ rfl (hcl 16 _ rfl (hcl 19 _ rfl hD 16 dc) 15 dc) 14 dc)) zao)) (zac (zan (by rfl)) (zac ((zan (by rfl)).trans (zah (fun hD=>hn (hcl 15 _ rfl (hcl 16 _ rfl hD 15 dc) 14 dc)) zao)) (zim (zac (zan (by rfl)) (zac ((zan (by rfl)).trans (zah (fun hD=>hn (hcl 15 _ rfl hD 14 dc)) zao)) rfl))))))
     ·
      intro D b hn hd hcl
      obtain ⟨b11,hd28,zb2,hd29⟩:=b
      refine zaK (zac (zah (fun hD=>hn (hcl 16 _ rfl (hcl 19 _ rfl hD 16 dc) 15 dc)) zao) (zac rfl (zac (zah (fun hD=>hn (hcl 16 _ rfl hD 15 dc)) zao) (zw7 (zac (zah hn zao) rfl))))) ?_
      refine zaR (cs:=[zI x2.2.Stanza]) (te:=3) (ps:=[(0,.tmp 115)]) rfl dc (evP.cons (zaa (m:=14) rfl rfl (hd 14 dc)) evP.nil) (fun _=>by kernel_rfl) (fun b12 => ?_)
      refine zc5 12 rfl rfl ?_
      exact zaU (b:=(b11,hd28,zb2,hd29)) (b11,hd28,b12,hd29) 15 (by rfl) (by rfl) rfl (zvd (zdv (zap (fun hD=>absurd hD hn) (zvd rfl)))) (zac ((zan (by rfl)).trans (zah (fun hD=>hn (hcl 16 _ rfl (hcl 19 _ rfl hD 16 dc) 15 dc)) zao)) (zac (zan (by rfl)) (zac ((zan (by rfl)).trans (zah (fun hD=>hn (hcl 16 _ rfl hD 15 dc)) zao)) (zim (zac (zan (by rfl)) (zac (zaL (Or.inr rfl) rfl) rfl))))))
     ·
      intro D b hn hd hcl
      obtain ⟨b11,hd28,b12,zb3⟩:=b
      refine zaK (zac (zah (fun hD=>hn (hcl 19 _ rfl hD 16 dc)) zao) (zac (zaL (hd 8 dc) rfl) (zac (zah hn zao) (zim (zac (zaL (hcl 8 _ rfl (hd 8 dc) 7 dc) rfl) (zac (zaL (hd 15 dc) rfl) rfl)))))) ?_
      refine za3 (k:=2) (k2:=12) (ys:=[x2.2.Stanza]) Tryz.underlying49 ztR zbO zgo rfl dc (zaa (m:=12) rfl rfl (hd 12 dc)) (zaa (m:=15) rfl rfl (hd 15 dc)) rfl rfl rfl rfl hg8 (fun v5 => ?_)
      refine zbu (k:=2) rfl (fun hd29 he5 => ?_)
      subst he5
      exact zaU (b:=(b11,hd28,b12,zb3)) (b11,hd28,b12,hd29) 16 (by rfl) (by rfl) rfl (zw8 (zdv (zap (fun hD=>absurd hD hn) (zvl rfl)))) (zac ((zan (by rfl)).trans (zah (fun hD=>hn (hcl 19 _ rfl hD 16 dc)) zao)) (zac ((zan (by rfl)).trans (zaL (hd 8 dc) rfl)) (zac (zaL (Or.inr rfl) rfl) (zim (zac ((zan (by rfl)).trans (zaL (hcl 8 _ rfl (hd 8 dc) 7 dc) rfl)) (zac ((zan (by rfl)).trans (zaL (hd 15 dc) rfl)) rfl))))))
     ·
      intro D b hn hd hcl
      obtain ⟨b11,hd28,b12,hd29⟩:=b
      refine zaK (zac (zah (fun hD=>hn (hcl 18 _ rfl (hcl 19 _ rfl hD 18 dc) 17 dc)) zao) (zac (zaL (hd 8 dc) rfl) (zac (zaL (hd 16 dc) rfl) (zim (zac (zaL (hd 7 dc) rfl) (zac (zaL (hcl 16 _ rfl (hd 16 dc) 15 dc) rfl) rfl)))))) ?_
      refine zay rfl dc (zaa (m:=0) rfl rfl (hd 0 dc)) ?_
      exact zaU (b:=(b11,hd28,b12,hd29)) (b11,hd28,b12,hd29) 17 (by rfl) (by rfl) rfl (zjS (zdv rfl)) (zac ((zan (by rfl)).trans (zah (fun hD=>hn (hcl 18 _ rfl (hcl 19 _ rfl hD 18 dc) 17 dc)) zao)) (zac ((zan (by rfl)).trans (zaL (hd 8 dc) rfl)) (zac ((zan (by rfl)).trans (zaL (hd 16 dc) rfl)) (zim (zac ((zan (by rfl)).trans (zaL (hd 7 dc) rfl)) (zac ((zan (by rfl)).trans (zaL (hcl 16 _ rfl (hd 16 dc) 15 dc) rfl)) rfl))))))
     ·
      intro D b hn hd hcl
      obtain ⟨b11,hd28,b12,hd29⟩:=b
      refine zaK (zac (zah (fun hD=>hn (hcl 19 _ rfl hD 18 dc)) zao) (zac (zaL (hd 8 dc) rfl) (zac (zaL (hd 16 dc) rfl) (zim (zac (zaL (hd 7 dc) rfl) (zac (zaL (hcl 16 _ rfl (hd 16 dc) 15 dc) rfl) rfl)))))) ?_
      refine zab zgj rfl dc (zaa (m:=17) rfl rfl (hd 17 dc)) (show _=0 from rfl) ?_
      exact zaU (b:=(b11,hd28,b12,hd29)) (b11,hd28,b12,hd29) 18 (by rfl) (by rfl) rfl (zjS (zdv rfl)) (zac ((zan (by rfl)).trans (zah (fun hD=>hn (hcl 19 _ rfl hD 18 dc)) zao)) (zac ((zan (by rfl)).trans (zaL (hd 8 dc) rfl)) (zac ((zan (by rfl)).trans (zaL (hd 16 dc) rfl)) (zim (zac ((zan (by rfl)).trans (zaL (hd 7 dc) rfl)) (zac ((zan (by rfl)).trans (zaL (hcl 16 _ rfl (hd 16 dc) 15 dc) rfl)) rfl))))))
     ·
      intro D b hn hd hcl
      obtain ⟨b11,hd28,b12,hd29⟩:=b
      refine zaK (zac (zah hn zao) (zac (zaL (hd 8 dc) rfl) (zac (zaL (hd 16 dc) rfl) (zim (zac (zaL (hd 7 dc) rfl) (zac (zaL (hcl 16 _ rfl (hd 16 dc) 15 dc) rfl) rfl)))))) ?_
      refine zaM (k:=0) (l':=[hd28.v,hd27.v,hd17.v,hd18.v,zI p1.heights]) zsG rfl (zaa (m:=18) rfl rfl (hd 18 dc)) (zaa (m:=8) rfl rfl (hd 8 dc)) rfl rfl (fun _ _=>rfl) rfl ?_
      exact zi2 (b:=(b11,hd28,b12,hd29)) (b11,hd28,b12,hd29) (by rfl) (zjS (zdv rfl)) (zac (zaL (Or.inr rfl) rfl) (zac ((zan (by rfl)).trans (zaL (hd 8 dc) rfl)) (zac ((zan (by rfl)).trans (zaL (hd 16 dc) rfl)) (zim (zac ((zan (by rfl)).trans (zaL (hd 7 dc) rfl)) (zac ((zan (by rfl)).trans (zaL (hcl 16 _ rfl (hd 16 dc) 15 dc) rfl)) rfl))))))
     intro D b hall
     obtain ⟨b11,hd28,b12,hd29⟩:=b
     refine zaK (zac (zaL (hall 19 dc) rfl) (zac (zaL (hall 8 dc) rfl) (zac (zaL (hall 16 dc) rfl) (zim (zac (zaL (hall 7 dc) rfl) (zac (zaL (hall 15 dc) rfl) rfl)))))) (zay rfl dc rfl (zab zkg rfl dc rfl (show _=1 from rfl) ?_))
     refine zaM (k:=0) (l':=[hd28.v,hd29.v,hd17.v,hd18.v,zI p1.heights]) zpW rfl rfl rfl rfl rfl (fun _ _=>rfl) rfl ?_
     refine zaQ (zag (zaI (zat ?_)))
     obtain ⟨hg9,h⟩:=zbn h
     refine zaW rfl (zaX (r:=x5+1) (IntWalk.i64_in _ hg9)) (zyR 1 rfl (zaQ ?_))
     subst hag2
     exact za8 (n1,l24++[(⟨x2.1,x2.2.Stanza,x5,r3,r4,r5⟩:Gapi_Row)],l25++[x2.2.Stanza],x5+1,hd28,hd29) h (Nat.lt_succ_self _) rfl (za5 rfl) (zad [0,1,2,3,4,5,6,7,8,10] kr rfl)
    refine za6 (zak (zak (zav (zag ?_))))
    exact zeV (l24,l25,l18,l19.set (x2.2.Stanza:Int).toNat x2.1,cost4+r2.2,hd26,hd27,hd17,hd18) (fun post2 e2=>by have e9:=zd7 hxs1 e2; subst e9; subst hag1; exact h) (zad [0,1,2,3,4,5,6,7] kr rfl)
  ·
   rintro dm1 ⟨l14,l15,l16,l17,cost4,hd13,hd14,hd15,hd16⟩ hinv
   have h:dn1 l14 l15 l16 l17 cost4=some r:=hinv [] (List.append_nil _).symm
   rw [hdn1] at h
   refine zfw (k:=18) (j:=5) rfl rfl dc ?_
   refine zag ?_
   exact zai (l14,l15,l16,l17,cost4,hd13,hd14,hd15,hd16,b4,dm1::([]:List Nat)) h rfl (za5 rfl) (zad [10,11,12,13,14,17,5] kr rfl)
  rintro dm1 c pre x2 post g hxs hX
  exact (show False from hX).elim
 rintro ⟨l2,l3,l4,l5,cost1,hd1,hd2,hd3,hd4,b1,ds1⟩ h
 rw [hj1] at h
 refine zyG (zam (k:=5) zbr rfl dc rfl rfl rfl (zyR 1 rfl (zyN (zaE ?_))))
 cases h
 exact zfx (rs:=[.tmp 6]) ds1 (hd1,hd2,hd3,hd4) (.inl rfl) (zbW (k:=6) rfl) Tryz.results65 (.cons (.tmp rfl) .nil) rfl (zad [0,1,2,3,4] kr rfl)
end Go.Proofs.YtbempdelckaccaaGreatDoor

namespace Go.Proofs.YtbempdelckaccaaGreatDoor
open Go.RowKit Go.Lib
set_option linter.unusedVariables false
set_option linter.unusedSimpArgs false
def zo8 (l:Gapi_Layout) (v:Gapi_Verse):List ByteArray:=zhi v.Text 0 (zlR v.Text (zrB v.Indent l) (zro l))
def zuT (l:Gapi_Layout) (v:Gapi_Verse):Int:=(TT v.Text (zrB v.Indent l) (zro l) 0).cost
def zwb (l:Gapi_Layout) (k:Int):Int:=if 0<l.Every then (if Int.tmod (k+1) l.Every=0 then k+1 else 0) else 0
def zvR (l:Gapi_Layout) (k:Int) (v:Gapi_Verse) (p:Int) (t:ByteArray):Gapi_Row:=⟨k,v.Stanza,p,if p=0 then v.Indent else l.Turn,if p=0 then zwb l k else 0,t⟩
def zhr (l:Gapi_Layout) (k:Int) (v:Gapi_Verse):Int→List ByteArray→List Gapi_Row
 | _,[]=>[]
 | p,t::ts=>zvR l k v p t::zhr l k v (p+1) ts
def zdk (l:Gapi_Layout):Int→List Gapi_Verse→List Gapi_Row
 | _,[]=>[]
 | k,v::vs=>zhr l k v 0 (zo8 l v)++zdk l (k+1) vs
def zjx (l:Gapi_Layout):List Gapi_Verse→Int
 | []=>0
 | v::vs=>zuT l v+zjx l vs
theorem zkD (l:Gapi_Layout) (k:Int) (v:Gapi_Verse):∀ (ts:List ByteArray) (p:Int),(zhr l k v p ts).length=ts.length
 | [],_=>rfl
 | t::ts,p=>by show (zhr l k v (p+1) ts).length+1=_; rw [zkD l k v ts]; rfl
structure OkV (v:Gapi_Verse):Prop where
 sz:v.Text.size≤1024
 ne:0<v.Text.size
 i0:0≤v.Indent∧v.Indent≤1024
section
variable {l:Gapi_Layout} (hm:zj9 l=true)
include hm
theorem zqN {v:Gapi_Verse} (h:OkV v):(zo8 l v).length≤1024:=by
 obtain ⟨h1,h2,h3⟩:=zqK hm h.i0
 have hs:v.Text.size≤100000:=by have:=h.sz; omega
 have hr:=ziX hs h2 h3 (zax v.Text).length 0 (zrK hs h2 h3) (Nat.zero_le _)
 have hl:0+(zlR v.Text (zrB v.Indent l) (zro l)).length≤max (zax v.Text).length 0:=zmQ hr
 have hc:=zfu v.Text
 have ht:∀ (ts:List Nat) (f:Nat),(zhi v.Text f ts).length=ts.length:=by
  intro ts
  induction ts with
  | nil=>intro f; rfl
  | cons t ts ih=>intro f; show (zhi v.Text t ts).length+1=_; rw [ih]; rfl
 unfold zo8
 rw [ht]
 have:=h.sz
 omega
theorem zrY {v:Gapi_Verse} (h:OkV v):0≤zuT l v∧zuT l v≤2000000000000*1024:=by
 obtain ⟨h1,h2,h3⟩:=zqK hm h.i0
 have hs:v.Text.size≤100000:=by have:=h.sz; omega
 have hok:=zot (R:=Rs v.Text (zrB v.Indent l) (zro l)) (K:=Ks v.Text (zrB v.Indent l) (zro l)) (n:=(zax v.Text).length) (zhB hs h2 h3) (zax v.Text).length 0
 obtain ⟨a,b,_⟩:=hok
 have hc:=zfu v.Text
 have hz:=h.sz
 refine ⟨a,?_⟩
 show (Bf (Rs v.Text (zrB v.Indent l) (zro l)) (Ks v.Text (zrB v.Indent l) (zro l)) (zax v.Text).length (zax v.Text).length 0).cost≤_
 omega
theorem zoc:∀ (vs:List Gapi_Verse),(∀ v∈vs,OkV v)→0≤zjx l vs∧zjx l vs≤2000000000000*1024*vs.length
 | [],_=>⟨Int.le_refl _,Int.le_refl _⟩
 | v::vs,h=>by
  have h1:=zrY hm (h v (List.mem_cons_self ..))
  have h2:=zoc vs fun w hw=>h w (List.mem_cons_of_mem _ hw)
  have e:zjx l (v::vs)=zuT l v+zjx l vs:=rfl
  rw [e,List.length_cons]; push_cast; omega
theorem zkB:∀ (vs:List Gapi_Verse) (k:Int),(∀ v∈vs,OkV v)→(zdk l k vs).length≤1024*vs.length
 | [],_,_=>Nat.le_refl _
 | v::vs,k,h=>by
  have h1:=zqN hm (h v (List.mem_cons_self ..))
  have h2:=zkB vs (k+1) fun w hw=>h w (List.mem_cons_of_mem _ hw)
  show (zhr l k v 0 (zo8 l v)++zdk l (k+1) vs).length≤_
  rw [List.length_append,zkD,List.length_cons]; omega
end
def Stp:Int→List Gapi_Verse→Prop
 | _,[]=>True
 | c,v::vs=>(v.Stanza=c∨(0<c∧v.Stanza=c - 1))∧Stp (v.Stanza+1) vs
def flS:Int→List Int×List Int→List Gapi_Verse→List Int×List Int
 | _,a,[]=>a
 | k,a,v::vs=>flS (k+1) (if v.Stanza=(a.1.length:Int) then (a.1++[k],a.2++[k]) else (a.1,a.2.set v.Stanza.toNat k)) vs
theorem zs5 (l:Gapi_Layout) (k:Int) (hk:0≤k∧k≤1000000) (v:Gapi_Verse) (ag1:(List Gapi_Row)→(List Int)→(List Int)→(List Int)→Int→Option (Int×Gpage_parter)) (cost:Int) (F L:List Int) (ts:List ByteArray) (hts:ts.length≤1000000) (c:Int) :
  ∀ (d p m:Nat) (out:List Gapi_Row) (bl:List Int),p+d=ts.length→d<m→out.length+d≤2147483648→bl.length=out.length→zaF (fun _ _ _=>none) (zbt l (k,v) ag1 cost F L (ts,c)) m out bl (p:Int) =
   ag1 (out++zhr l k v p (ts.drop p)) (bl++(zhr l k v p (ts.drop p)).map (·.Stanza)) F (L.set v.Stanza.toNat k) (cost+c):=by
 intro d
 induction d with
 | zero =>
  intro p m out bl hp hm ho hb
  obtain ⟨m,rfl⟩:∃ q,m=q+1:=⟨m - 1,by omega⟩
  rw [zcJ]
  generalize zaF (fun _ _ _=>none) (zbt l (k,v) ag1 cost F L (ts,c)) m=ag
  unfold zbt
  refine zaz (decide_eq_false (by show ¬ (p:Int)<(ts.length:Int); omega)) ?_
  rw [List.drop_of_length_le (by omega)]
  show ag1 out bl F (L.set v.Stanza.toNat k) (cost+c)=ag1 (out++[]) (bl++[]) F (L.set v.Stanza.toNat k) (cost+c)
  rw [List.append_nil,List.append_nil]
 | succ d ih =>
  intro p m out bl hp hm ho hb
  obtain ⟨m,rfl⟩:∃ q,m=q+1:=⟨m - 1,by omega⟩
  rw [zcJ]
  have ih':=fun out' bl' (h:out'.length=out.length+1) (h2:bl'.length=out'.length)=>ih (p+1) m out' bl' (by omega) (by omega) (by omega) h2
  generalize zaF (fun _ _ _=>none) (zbt l (k,v) ag1 cost F L (ts,c)) m=ag at ih' ⊢
  have ht:ts[p]?=some ts[p]:=List.getElem?_eq_getElem (by omega)
  rw [show ((p+1:Nat):Int)=(p:Int)+1 by omega] at ih'
  have go:∀ (i n:Int),i=(zvR l k v p ts[p]).Indent→n=(zvR l k v p ts[p]).Number→(grd (out.length+1≤2147483648)<|grd (bl.length+1≤2147483648)<|grd (I64 ((p:Int)+1))<|ag (out++[(⟨k,v.Stanza,(p:Int),i,n,ts[p]⟩:Gapi_Row)]) (bl++[v.Stanza]) ((p:Int)+1)) =
    ag1 (out++zhr l k v p (ts.drop p)) (bl++(zhr l k v p (ts.drop p)).map (·.Stanza)) F (L.set v.Stanza.toNat k) (cost+c):=by
   intro i n hi hn
   refine zbm (by omega) (zbm (by omega) (zbm ⟨by omega,by omega⟩ ?_))
   subst hi; subst hn
   rw [ih' _ _ (by simp) (by simp; omega),List.drop_eq_getElem_cons (show p<ts.length by omega),List.append_assoc,List.append_assoc]; rfl
  unfold zbt
  refine zaB (decide_eq_true (by show (p:Int)<(ts.length:Int); omega)) (zby (zaO (zdG ht) ?_))
  by_cases h0:(p:Int)=0
  ·refine zaB (zgg h0) ?_
   by_cases he:0<l.Every
   ·refine zaB (decide_eq_true he) (zbm ?_ (zbm (by omega) ?_))
    ·show I64 (k+1); exact ⟨by omega,by omega⟩
    by_cases ht2:Int.tmod (k+1) l.Every=0
    ·exact zaB (zgg ht2) (zbm (show I64 (k+1) from ⟨by omega,by omega⟩) (go _ _ (if_pos h0).symm ((if_pos h0).trans ((if_pos he).trans (if_pos ht2))).symm))
    ·exact zaz (zgy ht2) (go _ _ (if_pos h0).symm ((if_pos h0).trans ((if_pos he).trans (if_neg ht2))).symm)
   ·exact zaz (decide_eq_false he) (go _ _ (if_pos h0).symm ((if_pos h0).trans (if_neg he)).symm)
  ·exact zaz (zgy h0) (go _ _ (if_neg h0).symm (if_neg h0).symm)
theorem znV (l:Gapi_Layout) (hm:zj9 l=true) (dn:(List Gapi_Row)→(List Int)→(List Int)→(List Int)→Int→Option (Int×Gpage_parter)) :
  ∀ (vs:List Gapi_Verse) (k:Nat) (out:List Gapi_Row) (bl F L:List Int) (cost:Int),(∀ v∈vs,OkV v)→k+vs.length≤512→out.length≤1024*k→bl.length=out.length→0≤cost∧cost≤2000000000000*1024*k→F.length≤k→L.length=F.length→Stp F.length vs →
  zcu dn (zbJ l) (zlQ k vs) out bl F L cost=dn (out++zdk l k vs) (bl++(zdk l k vs).map (·.Stanza)) (flS k (F,L) vs).1 (flS k (F,L) vs).2 (cost+zjx l vs)
 | [],k,out,bl,F,L,cost,_,_,_,_,_,_,_,_=>by
  show dn out bl F L cost=dn (out++[]) (bl++[]) F L (cost+0)
  rw [List.append_nil,List.append_nil,Int.add_zero]
 | v::vs,k,out,bl,F,L,cost,hv,hk,ho,hb,hc,hF,hL,hst=>by
  obtain ⟨s1,s2⟩:=hst
  have hok:OkV v:=hv v (List.mem_cons_self ..)
  have h1:=zqN hm hok
  have h2:=zrY hm hok
  obtain ⟨w1,w2,w3⟩:=zqK hm hok.i0
  have hsz:v.Text.size≤100000:=by have:=hok.sz; omega
  rw [List.length_cons] at hk
  have ih:=fun out bl F L cost h3 h4 h5 h6 h7 h8=>znV l hm dn vs (k+1) out bl F L cost (fun w hw=>hv w (List.mem_cons_of_mem _ hw)) (by omega) h3 h4 h5 h6 h7 h8
  show zbJ l (((k:Nat):Int),v) (zcu dn (zbJ l) (zlQ (k+1) vs)) out bl F L cost=_
  generalize zcu dn (zbJ l) (zlQ (k+1) vs)=ag at ih ⊢
  have e1:((k+1:Nat):Int)=(k:Int)+1:=by omega
  rw [e1] at ih
  have rest:∀ (F' L':List Int),F'.length≤k+1→L'.length=F'.length→0≤v.Stanza→v.Stanza.toNat<L'.length→Stp F'.length vs→(F',L'.set v.Stanza.toNat (k:Int))=(if v.Stanza=(F.length:Int) then (F++[(k:Int)],L++[(k:Int)]) else (F,L.set v.Stanza.toNat (k:Int))) →
    (zal (zcb L' v.Stanza) fun (q1:Int)=>zal (ze1 v.Text v.Indent l) fun (r2:((List ByteArray)×Int))=>grd (I64 (cost+r2.2))<|zaF (fun _ _ _=>none) (zbt l ((k:Int),v) ag cost F' L' r2) zbT out bl 0) =
    dn (out++zdk l k (v::vs)) (bl++(zdk l k (v::vs)).map (·.Stanza)) (flS k (F,L) (v::vs)).1 (flS k (F,L) (v::vs)).2 (cost+zjx l (v::vs)):=by
   intro F' L' q1 q2 q3 q4 q5 q6
   refine zaO (zew (n:=v.Stanza.toNat) (by omega) (List.getElem?_eq_getElem q4)) (zaO (zvy v.Text hsz v.Indent l w1 w2 w3) (zbm ?_ ?_))
   ·show I64 (cost+zuT l v)
    exact ⟨by omega,by omega⟩
   ·have hin:=zs5 l k ⟨by omega,by omega⟩ v ag cost F' L' (zo8 l v) (by omega) (zuT l v) (zo8 l v).length 0 zbT out bl (by omega) (zcm (by omega)) (by omega) hb
    refine hin.trans ?_
    rw [List.drop_zero]
    refine (ih _ _ F' (L'.set v.Stanza.toNat (k:Int)) _ (by rw [List.length_append,zkD]; omega) (by rw [List.length_append,List.length_append,List.length_map,hb]) (by push_cast; omega) q1 (by rw [List.length_set]; exact q2) q5).trans ?_
    have e2:flS k (F,L) (v::vs)=flS ((k:Int)+1) (F',L'.set v.Stanza.toNat (k:Int)) vs:=by rw [q6]; rfl
    have e3:zdk l k (v::vs)=zhr l k v 0 (zo8 l v)++zdk l ((k:Int)+1) vs:=rfl
    have e4:zjx l (v::vs)=zuT l v+zjx l vs:=rfl
    rw [e2,e3,e4,List.append_assoc,List.append_assoc,List.map_append,Int.add_assoc]; rfl
  unfold zbJ
  refine zby ?_
  rcases s1 with s1 | ⟨s1,s3⟩
  ·refine zaB (zgg s1) (zbm (by omega) (zbm (by omega) (rest _ _ (by simp; omega) (by simp; omega) (by omega) (by simp; omega) ?_ ?_)))
   ·rw [List.length_append,List.length_singleton]; rw [s1] at s2; push_cast; exact s2
   ·have e:v.Stanza.toNat=L.length:=by omega
    rw [if_pos s1,e,zit]
  ·have hne:v.Stanza≠(F.length:Int):=by omega
   refine zaz (zgy hne) (rest F L (by omega) hL (by omega) (by omega) ?_ ?_)
   ·rw [s3] at s2; rw [show (F.length:Int) - 1+1=F.length by omega] at s2; exact s2
   ·rw [if_neg hne]
theorem zuA (l:Gapi_Layout) (hm:zj9 l=true) (p:Gpoem_Poem) (H:Int) (hv:∀ v∈p.told_lines,OkV v) (hl:p.told_lines.length≤512) (hst:Stp 0 p.told_lines) :
  zdq (⟨([]:List Gapi_Row),([]:List Int),([]:List Int),([]:List Int),H⟩:Gpage_parter) p l=some (zjx l p.told_lines,(⟨zdk l 0 p.told_lines,(zdk l 0 p.told_lines).map (·.Stanza),(flS 0 (([]:List Int),([]:List Int)) p.told_lines).1,(flS 0 (([]:List Int),([]:List Int)) p.told_lines).2,H⟩:Gpage_parter)):=by
 unfold zdq
 refine zby (zaO (show zea p=some () from rfl) (zaO (zrh p (by omega)) (zby ?_)))
 refine (znV l hm _ p.told_lines 0 [] [] [] [] 0 hv (by omega) (Nat.zero_le _) rfl ⟨Int.le_refl _,by omega⟩ (Nat.zero_le _) rfl hst).trans ?_
 rw [List.nil_append,List.nil_append,Int.zero_add]; rfl
end Go.Proofs.YtbempdelckaccaaGreatDoor

namespace Go.Proofs.YtbempdelckaccaaGreatDoor
open Go.RowKit Go.Lib
set_option linter.unusedVariables false
set_option linter.unusedSimpArgs false
theorem zfh {α:Type} {l:List α} {x y:α} {i:Nat} (h:(l++[x])[i]?=some y):l[i]?=some y∨(i=l.length∧y=x):=by
 rcases Nat.lt_or_ge i l.length with hi | hi
 ·rw [List.getElem?_append_left hi] at h; exact .inl h
 ·rw [List.getElem?_append_right hi] at h
  rcases Nat.eq_zero_or_pos (i - l.length) with e | e
  ·rw [e] at h
   exact .inr ⟨by omega,(Option.some.inj h).symm⟩
  ·rw [List.getElem?_eq_none (by simp; omega)] at h; cases h
theorem zkW {α:Type} {l:List α} {x:α} {i:Nat} (h:l[i]?=some x):i<l.length:=(List.getElem?_eq_some_iff.1 h).1
structure FL (pre:List Gapi_Verse) (F L:List Int):Prop where
 len:L.length=F.length
 fst:∀ (s:Nat) (f:Int),F[s]?=some f→∃ j:Nat,f=j∧(∃ v:Gapi_Verse,pre[j]?=some v∧v.Stanza=(s:Int))∧∀ (i:Nat) (w:Gapi_Verse),pre[i]?=some w→w.Stanza=(s:Int)→j≤i
 lst:∀ (s:Nat) (f:Int),L[s]?=some f→∃ j:Nat,f=j∧(∃ v:Gapi_Verse,pre[j]?=some v∧v.Stanza=(s:Int))∧∀ (i:Nat) (w:Gapi_Verse),pre[i]?=some w→w.Stanza=(s:Int)→i≤j
 all:∀ (i:Nat) (w:Gapi_Verse),pre[i]?=some w→0≤w.Stanza∧w.Stanza<F.length
theorem FL.new {pre:List Gapi_Verse} {F L:List Int} (h:FL pre F L) {v:Gapi_Verse} (hv:v.Stanza=F.length):FL (pre++[v]) (F++[(pre.length:Int)]) (L++[(pre.length:Int)]):=by
 have hlast:(pre++[v])[pre.length]?=some v:=by simp
 have hle:∀ {i:Nat} {w:Gapi_Verse},pre[i]?=some w→(pre++[v])[i]?=some w:=fun h=>by rw [List.getElem?_append_left (zkW h)]; exact h
 refine ⟨by simp [h.len],fun s f hs => ?_,fun s f hs => ?_,fun i w hw => ?_⟩
 ·rcases zfh hs with hs | ⟨rfl,rfl⟩
  ·obtain ⟨j,e,⟨u,hu,hus⟩,hm⟩:=h.fst s f hs
   refine ⟨j,e,⟨u,hle hu,hus⟩,fun i w hw hws => ?_⟩
   rcases zfh hw with hw | ⟨rfl,rfl⟩
   ·exact hm i w hw hws
   ·have:=zkW hu; omega
  ·refine ⟨pre.length,rfl,⟨v,hlast,hv⟩,fun i w hw hws => ?_⟩
   rcases zfh hw with hw | ⟨rfl,rfl⟩
   ·have:=(h.all i w hw).2; omega
   ·exact Nat.le_refl _
 ·rcases zfh hs with hs | ⟨e0,rfl⟩
  ·obtain ⟨j,e,⟨u,hu,hus⟩,hm⟩:=h.lst s f hs
   refine ⟨j,e,⟨u,hle hu,hus⟩,fun i w hw hws => ?_⟩
   rcases zfh hw with hw | ⟨rfl,rfl⟩
   ·exact hm i w hw hws
   ·have:=zkW hs; have:=h.len; omega
  ·refine ⟨pre.length,rfl,⟨v,hlast,by have:=h.len; omega⟩,fun i w hw hws => ?_⟩
   rcases zfh hw with hw | ⟨rfl,rfl⟩
   ·have:=zkW hw; omega
   ·exact Nat.le_refl _
 ·rw [List.length_append,List.length_singleton]; push_cast
  rcases zfh hw with hw | ⟨rfl,rfl⟩
  ·have:=h.all i w hw; omega
  ·omega
theorem FL.old {pre:List Gapi_Verse} {F L:List Int} (h:FL pre F L) {v:Gapi_Verse} (h0:0<F.length) (hv:v.Stanza=(F.length:Int) - 1):FL (pre++[v]) F (L.set v.Stanza.toNat (pre.length:Int)):=by
 have hlast:(pre++[v])[pre.length]?=some v:=by simp
 have hle:∀ {i:Nat} {w:Gapi_Verse},pre[i]?=some w→(pre++[v])[i]?=some w:=fun h=>by rw [List.getElem?_append_left (zkW h)]; exact h
 refine ⟨by simp [h.len],fun s f hs => ?_,fun s f hs => ?_,fun i w hw => ?_⟩
 ·obtain ⟨j,e,⟨u,hu,hus⟩,hm⟩:=h.fst s f hs
  refine ⟨j,e,⟨u,hle hu,hus⟩,fun i w hw hws => ?_⟩
  rcases zfh hw with hw | ⟨rfl,rfl⟩
  ·exact hm i w hw hws
  ·have:=zkW hu; omega
 ·by_cases e:v.Stanza.toNat=s
  ·subst e
   rw [List.getElem?_set_self (by have:=h.len; omega)] at hs
   obtain rfl:=Option.some.inj hs
   refine ⟨pre.length,rfl,⟨v,hlast,by omega⟩,fun i w hw hws => ?_⟩
   rcases zfh hw with hw | ⟨rfl,rfl⟩
   ·have:=zkW hw; omega
   ·exact Nat.le_refl _
  ·rw [List.getElem?_set_ne e] at hs
   obtain ⟨j,e,⟨u,hu,hus⟩,hm⟩:=h.lst s f hs
   refine ⟨j,e,⟨u,hle hu,hus⟩,fun i w hw hws => ?_⟩
   rcases zfh hw with hw | ⟨rfl,rfl⟩
   ·exact hm i w hw hws
   ·omega
 ·rcases zfh hw with hw | ⟨rfl,rfl⟩
  ·exact h.all i w hw
  ·omega
theorem FL.fold:∀ (vs pre:List Gapi_Verse) (F L:List Int),FL pre F L→Stp F.length vs→FL (pre++vs) (flS (pre.length:Int) (F,L) vs).1 (flS (pre.length:Int) (F,L) vs).2
 | [],pre,F,L,h,_=>by rw [List.append_nil]; exact h
 | v::vs,pre,F,L,h,hs=>by
  obtain ⟨s1,s2⟩:=hs
  have e:pre++v::vs=(pre++[v])++vs:=by simp
  have e1:(((pre++[v]).length:Nat):Int)=(pre.length:Int)+1:=by simp
  have e2:flS (pre.length:Int) (F,L) (v::vs)=flS ((pre.length:Int)+1) (if v.Stanza=(F.length:Int) then (F++[(pre.length:Int)],L++[(pre.length:Int)]) else (F,L.set v.Stanza.toNat (pre.length:Int))) vs:=rfl
  rw [e,e2,← e1]
  rcases s1 with s1 | ⟨s1,s3⟩
  ·rw [if_pos s1]
   exact FL.fold vs (pre++[v]) _ _ (h.new s1) (by rw [List.length_append,List.length_singleton]; rw [s1] at s2; push_cast; exact s2)
  ·rw [if_neg (by omega)]
   refine FL.fold vs (pre++[v]) _ _ (h.old (by omega) s3) ?_
   rw [s3,show (F.length:Int) - 1+1=F.length by omega] at s2
   exact s2
theorem FL.nil:FL [] [] []:=⟨rfl,fun s f h=>by simp at h,fun s f h=>by simp at h,fun i w h=>by simp at h⟩
theorem znE {l:Gapi_Layout} {k:Int} {v:Gapi_Verse}:∀ {ts:List ByteArray} {p:Int} {r:Gapi_Row},r∈zhr l k v p ts→r.Line=k∧r.Stanza=v.Stanza
 | [],_,r,h=>by cases h
 | t::ts,p,r,h=>by
  rcases List.mem_cons.1 h with rfl | h
  ·exact ⟨rfl,rfl⟩
  ·exact znE h
theorem zhI {l:Gapi_Layout}:∀ {vs:List Gapi_Verse} {k:Int} {r:Gapi_Row},r∈zdk l k vs→∃ (j:Nat) (v:Gapi_Verse),vs[j]?=some v∧r.Line=k+j∧r.Stanza=v.Stanza
 | [],_,r,h=>by cases h
 | v::vs,k,r,h=>by
  rcases List.mem_append.1 h with h | h
  ·obtain ⟨h1,h2⟩:=znE h
   exact ⟨0,v,rfl,by omega,h2⟩
  ·obtain ⟨j,w,h1,h2,h3⟩:=zhI h
   exact ⟨j+1,w,h1,by omega,h3⟩
theorem zty {l:Gapi_Layout} (hm:zj9 l=true) {v:Gapi_Verse} (h:OkV v):zo8 l v≠[]:=by
 obtain ⟨h1,h2,h3⟩:=zqK hm h.i0
 have hc:=zpM (s:=v.Text) (by have:=h.sz; omega) h2 h3
 intro e
 have e':zhi v.Text 0 (zlR v.Text (zrB v.Indent l) (zro l))=[]:=e
 rw [e'] at hc
 have:=h.ne
 rw [← hc] at this
 exact absurd this (by decide)
theorem zmO {l:Gapi_Layout} (hm:zj9 l=true):∀ {vs:List Gapi_Verse} {k:Int} {j:Nat} {v:Gapi_Verse},(∀ w∈vs,OkV w)→vs[j]?=some v→∃ r∈zdk l k vs,r.Line=k+j∧r.Stanza=v.Stanza
 | [],_,_,_,_,h=>by simp at h
 | w::vs,k,0,v,hv,h=>by
  obtain rfl:=Option.some.inj h
  have hne:=zty hm (hv w (List.mem_cons_self ..))
  cases ht:zo8 l w with
  | nil=>exact absurd ht hne
  | cons t ts=>exact ⟨zvR l k w 0 t,by show _∈zhr l k w 0 (zo8 l w)++_; rw [ht]; exact List.mem_append_left _ (List.mem_cons_self ..),by show k=_; omega,rfl⟩
 | w::vs,k,j+1,v,hv,h=>by
  obtain ⟨r,h1,h2,h3⟩:=zmO hm (k:=k+1) (fun u hu=>hv u (List.mem_cons_of_mem _ hu)) h
  exact ⟨r,List.mem_append_right _ h1,by omega,h3⟩
def RCh:Int→List Gapi_Row→Prop
 | _,[]=>True
 | s,r::rs=>(r.Stanza=s∨r.Stanza=s+1)∧RCh r.Stanza rs
theorem zpl {l:Gapi_Layout} {k:Int} {v:Gapi_Verse} {rest:List Gapi_Row} (hr:RCh v.Stanza rest):∀ (ts:List ByteArray) (p:Int),RCh v.Stanza (zhr l k v p ts++rest)
 | [],_=>hr
 | t::ts,p=>⟨.inl rfl,zpl hr ts (p+1)⟩
theorem zq7 {l:Gapi_Layout} (hm:zj9 l=true):∀ (vs:List Gapi_Verse) (c k:Int),(∀ w∈vs,OkV w)→Stp c vs→RCh (c - 1) (zdk l k vs)
 | [],_,_,_,_=>trivial
 | v::vs,c,k,hv,⟨s1,s2⟩=>by
  have ih:=zq7 hm vs (v.Stanza+1) (k+1) (fun w hw=>hv w (List.mem_cons_of_mem _ hw)) s2
  rw [show v.Stanza+1 - 1=v.Stanza by omega] at ih
  show RCh (c - 1) (zhr l k v 0 (zo8 l v)++zdk l (k+1) vs)
  have hne:=zty hm (hv v (List.mem_cons_self ..))
  cases ht:zo8 l v with
  | nil=>exact absurd ht hne
  | cons t ts=>exact ⟨by show v.Stanza=_∨v.Stanza=_; omega,zpl ih ts (0+1)⟩
theorem RCh.step:∀ {rs:List Gapi_Row} {s:Int} {i:Nat} {a b:Gapi_Row},RCh s rs→rs[i]?=some a→rs[i+1]?=some b→b.Stanza=a.Stanza∨b.Stanza=a.Stanza+1
 | [],_,_,_,_,_,h,_=>by simp at h
 | r::rs,s,0,a,b,⟨h1,h2⟩,ha,hb=>by
  obtain rfl:=Option.some.inj ha
  cases rs with
  | nil=>simp at hb
  | cons q qs=>obtain rfl:=Option.some.inj hb; exact h2.1
 | r::rs,s,i+1,a,b,⟨h1,h2⟩,ha,hb=>h2.step ha hb
structure RowsOk (rows:List Gapi_Row) (F L:List Int):Prop where
 n:rows.length≤1000000
 ch:∀ (i:Nat) (a b:Gapi_Row),rows[i]?=some a→rows[i+1]?=some b→b.Stanza=a.Stanza∨b.Stanza=a.Stanza+1
 rg:∀ r∈rows,0≤r.Stanza∧r.Stanza≤1000000
 fst:∀ r∈rows,∃ f,F[r.Stanza.toNat]?=some f∧(r.Line=f↔∀ x∈rows,x.Stanza=r.Stanza→r.Line≤x.Line)
 lst:∀ r∈rows,∃ f,L[r.Stanza.toNat]?=some f∧(r.Line=f↔∀ x∈rows,x.Stanza=r.Stanza→x.Line≤r.Line)
theorem zmN {l:Gapi_Layout} (hm:zj9 l=true) (vs:List Gapi_Verse) (hv:∀ w∈vs,OkV w) (hl:vs.length≤512) (hs:Stp 0 vs):RowsOk (zdk l 0 vs) (flS 0 (([]:List Int),([]:List Int)) vs).1 (flS 0 (([]:List Int),([]:List Int)) vs).2:=by
 have hf:=FL.fold vs [] [] [] FL.nil hs
 rw [List.nil_append,show ((([]:List Gapi_Verse).length:Nat):Int)=0 from rfl] at hf
 have hlen:=zkB hm vs 0 hv
 have hch:=zq7 hm vs 0 0 hv hs
 have hFl:∀ (pre ws:List Gapi_Verse) (F L:List Int) (k:Int),F.length≤pre.length→(flS k (F,L) ws).1.length≤pre.length+ws.length:=by
  intro pre ws
  induction ws generalizing pre with
  | nil=>intro F L k h; exact h
  | cons w ws ih =>
   intro F L k h
   have e2:flS k (F,L) (w::ws)=flS (k+1) (if w.Stanza=(F.length:Int) then (F++[k],L++[k]) else (F,L.set w.Stanza.toNat k)) ws:=rfl
   rw [e2]
   split
   ·have:=ih (pre++[w]) (F++[k]) (L++[k]) (k+1) (by simp; omega)
    simp at this ⊢; omega
   ·have:=ih (pre++[w]) F (L.set w.Stanza.toNat k) (k+1) (by simp; omega)
    simp at this ⊢; omega
 have hF2:=hFl [] vs [] [] 0 (Nat.le_refl _)
 refine ⟨by omega,fun i a b ha hb=>hch.step ha hb,fun r hr => ?_,fun r hr => ?_,fun r hr => ?_⟩
 ·obtain ⟨j,v,h1,h2,h3⟩:=zhI hr
  have:=hf.all j v h1
  simp at hF2
  omega
 ·obtain ⟨j,v,h1,h2,h3⟩:=zhI hr
  have ha:=hf.all j v h1
  have hg:(flS 0 (([]:List Int),([]:List Int)) vs).1[r.Stanza.toNat]?=some _:=List.getElem?_eq_getElem (by omega)
  refine ⟨_,hg,?_⟩
  obtain ⟨j2,e,⟨u,hu,hus⟩,hmin⟩:=hf.fst _ _ hg
  rw [e]
  constructor
  ·intro he x hx hxs
   obtain ⟨j3,v3,g1,g2,g3⟩:=zhI hx
   have:=hmin j3 v3 g1 (by omega)
   omega
  ·intro hall
   obtain ⟨x,hx,x1,x2⟩:=zmO hm (l:=l) (k:=0) hv hu
   have h4:=hall x hx (by omega)
   have h5:=hmin j v h1 (by omega)
   omega
 ·obtain ⟨j,v,h1,h2,h3⟩:=zhI hr
  have ha:=hf.all j v h1
  have hg:(flS 0 (([]:List Int),([]:List Int)) vs).2[r.Stanza.toNat]?=some _:=List.getElem?_eq_getElem (by have:=hf.len; omega)
  refine ⟨_,hg,?_⟩
  obtain ⟨j2,e,⟨u,hu,hus⟩,hmax⟩:=hf.lst _ _ hg
  rw [e]
  constructor
  ·intro he x hx hxs
   obtain ⟨j3,v3,g1,g2,g3⟩:=zhI hx
   have:=hmax j3 v3 g1 (by omega)
   omega
  ·intro hall
   obtain ⟨x,hx,x1,x2⟩:=zmO hm (l:=l) (k:=0) hv hu
   have h4:=hall x hx (by omega)
   have h5:=hmax j v h1 (by omega)
   omega
def stz (rows:List Gapi_Row) (i:Nat):Int:=match rows[i]? with | some r=>r.Stanza | none=>0
def ze2 (rows:List Gapi_Row) (f t:Nat):Int:=((t:Int) - f)+stz rows (t - 1) - stz rows f
theorem zku {rows:List Gapi_Row} {i:Nat} {r:Gapi_Row} (h:rows[i]?=some r):stz rows i=r.Stanza:=by unfold stz; rw [h]
section
variable {rows:List Gapi_Row} {F L:List Int} (hR:RowsOk rows F L)
include hR
theorem zmC (i:Nat):0≤stz rows i∧stz rows i≤1000000:=by
 unfold stz
 split
 ·rename_i r h
  exact hR.rg r (List.mem_of_getElem? h)
 ·omega
theorem zsH {i:Nat} (h:i+1<rows.length):stz rows (i+1)=stz rows i∨stz rows (i+1)=stz rows i+1:=by
 have h1:rows[i]?=some rows[i]:=List.getElem?_eq_getElem (by omega)
 have h2:rows[i+1]?=some rows[i+1]:=List.getElem?_eq_getElem h
 rw [zku h1,zku h2]
 exact hR.ch i _ _ h1 h2
theorem zmD:∀ (d i:Nat),i+d<rows.length→stz rows i≤stz rows (i+d)
 | 0,i,_=>Int.le_refl _
 | d+1,i,h=>by
  have h1:=zmD d i (by omega)
  have h2:=zsH hR (i:=i+d) (by omega)
  rw [show i+(d+1)=i+d+1 by omega]; omega
theorem zpw {f t:Nat} (h1:f<t) (h2:t≤rows.length):(t:Int) - f≤ze2 rows f t∧ze2 rows f t≤3000000:=by
 have:=zmD hR (t - 1 - f) f (by omega)
 rw [show f+(t - 1 - f)=t - 1 by omega] at this
 have a:=zmC hR f
 have b:=zmC hR (t - 1)
 have c:=hR.n
 unfold ze2; omega
theorem ztM (H:Int) (f t:Nat) (h1:f<t) (h2:t≤rows.length):zc3 (⟨rows,rows.map (·.Stanza),F,L,H⟩:Gpage_parter) (f:Int) (t:Int)=some (ze2 rows f t):=by
 have hn:=hR.n
 have a:=zmC hR f
 have b:=zmC hR (t - 1)
 have g:∀ i:Nat,i<rows.length→(rows.map (·.Stanza))[i]?=some (stz rows i):=fun i hi=>by
  rw [List.getElem?_map,List.getElem?_eq_getElem hi,zku (List.getElem?_eq_getElem hi)]; rfl
 unfold zc3
 refine zbm ⟨by omega,by omega⟩ (zbm ⟨by omega,by omega⟩ (zaO (zew (n:=t - 1) (by omega) (g (t - 1) (by omega))) (zbm ⟨by omega,by omega⟩ (zaO (zdG (g f (by omega))) (zbm ⟨by omega,by omega⟩ ?_)))))
 rfl
end
def zsw (rows:List Gapi_Row) (k:Nat):Int :=
 match rows[k - 1]?,rows[k]? with
 | some a,some b=>if a.Stanza≠b.Stanza then 0 else if a.Line=b.Line then 100 else if (rows.all fun r=>!(r.Stanza==a.Stanza&&decide (r.Line<a.Line)))=true∨(rows.all fun r=>!(r.Stanza==a.Stanza&&decide (b.Line<r.Line)))=true then 50 else 10
 | _,_=>0
theorem zpI (rows:List Gapi_Row) (k:Nat):0≤zsw rows k∧zsw rows k≤100:=by
 unfold zsw
 split
 ·split
  ·omega
  ·split
   ·omega
   ·split <;> omega
 ·omega
theorem zyd {rows:List Gapi_Row} {F L:List Int} (hR:RowsOk rows F L) (H:Int) (k:Nat) (h0:0<k) (hk:k<rows.length):zdW (⟨rows,rows.map (·.Stanza),F,L,H⟩:Gpage_parter) (k:Int)=some (zsw rows k):=by
 have hn:=hR.n
 have ha:rows[k - 1]?=some rows[k - 1]:=List.getElem?_eq_getElem (by omega)
 have hb:rows[k]?=some rows[k]:=List.getElem?_eq_getElem hk
 unfold zdW zsw
 rw [ha,hb]
 have ma:=List.mem_of_getElem? ha
 have mb:=List.mem_of_getElem? hb
 generalize rows[k - 1]=a at ha ma
 generalize rows[k]=b at hb mb
 simp only
 refine zbm ⟨by omega,by omega⟩ (zaO (zew (n:=k - 1) (by omega) ha) (zaO (zdG hb) ?_))
 have ra:=hR.rg a ma
 have rb:=hR.rg b mb
 by_cases h1:a.Stanza=b.Stanza
 ·refine zaz (zvf h1) ?_
  rw [if_neg (by simp [h1])]
  by_cases h2:a.Line=b.Line
  ·rw [if_pos h2]; exact zaB (zgg h2) rfl
  ·rw [if_neg h2]
   refine zaz (zgy h2) ?_
   obtain ⟨f,f1,f2⟩:=hR.fst a ma
   obtain ⟨g,g1,g2⟩:=hR.lst b mb
   have p1:(a.Line=f)↔(rows.all fun r=>!(r.Stanza==a.Stanza&&decide (r.Line<a.Line)))=true:=by
    rw [f2,List.all_eq_true]
    constructor
    ·intro h x hx
     by_cases e:x.Stanza=a.Stanza
     ·have:=h x hx e
      simp [e]; omega
     ·simp [e]
    ·intro h x hx e
     have:=h x hx
     simp [e] at this; omega
   have p2:(b.Line=g)↔(rows.all fun r=>!(r.Stanza==a.Stanza&&decide (b.Line<r.Line)))=true:=by
    rw [g2,List.all_eq_true]
    constructor
    ·intro h x hx
     by_cases e:x.Stanza=a.Stanza
     ·have:=h x hx (by omega)
      simp [e]; omega
     ·simp [e]
    ·intro h x hx e
     have:=h x hx
     simp [show x.Stanza=a.Stanza by omega] at this; omega
   refine zaO (zew (n:=a.Stanza.toNat) (by omega) f1) ?_
   by_cases h3:a.Line=f
   ·rw [if_pos (.inl (p1.1 h3))]; exact zaB (zgg h3) rfl
   ·refine zaz (zgy h3) (zaO (zew (n:=b.Stanza.toNat) (by omega) g1) ?_)
    by_cases h4:b.Line=g
    ·rw [if_pos (.inr (p2.1 h4))]; exact zaB (zgg h4) rfl
    ·rw [if_neg (fun h=>h.elim (fun h=>h3 (p1.2 h)) (fun h=>h4 (p2.2 h)))]; exact zaz (zgy h4) rfl
 ·rw [if_pos h1]
  exact zaB (zuy h1) rfl
end Go.Proofs.YtbempdelckaccaaGreatDoor

namespace Go.Proofs.YtbempdelckaccaaGreatDoor
open Go.RowKit Go.Lib
set_option linter.unusedVariables false
set_option linter.unusedSimpArgs false
def Rp (rows:List Gapi_Row) (H:Int) (f t:Nat):Bool:=decide (ze2 rows f t≤H)
def Kp (rows:List Gapi_Row) (H:Int) (f t:Nat):Int:=if f<t∧t<rows.length∧ze2 rows f t≤H then (H - ze2 rows f t)*(H - ze2 rows f t)+zsw rows t else 0
abbrev Tp (rows:List Gapi_Row) (H:Int) (k:Nat):Nat→Bst:=Bf (Rp rows H) (Kp rows H) rows.length k
abbrev Tt (rows:List Gapi_Row) (H:Int):Nat→Bst:=BB (Rp rows H) (Kp rows H) rows.length
abbrev zk9 (rows:List Gapi_Row) (H:Int):List Nat:=zqk (Tt rows H) rows.length rows.length 0
theorem zor {rows:List Gapi_Row} {H:Int} (hH:4≤H∧H≤200):∀ f,f<rows.length→Rp rows H f (f+1)=true:=by
 intro f hf
 unfold Rp ze2
 rw [show f+1 - 1=f by omega]
 exact decide_eq_true (by omega)
theorem zrw {rows:List Gapi_Row} {F L:List Int} (hR:RowsOk rows F L) {f t:Nat} (d:Nat) (h1:f<t) (h2:t+d≤rows.length):ze2 rows f t≤ze2 rows f (t+d):=by
 have:=zmD hR d (t - 1) (by omega)
 rw [show t - 1+d=t+d - 1 by omega] at this
 unfold ze2; omega
section
variable {rows:List Gapi_Row} {F L:List Int} {H:Int} (hR:RowsOk rows F L) (hH:4≤H∧H≤200)
include hR hH
theorem ztE {f t:Nat} (h1:f<t) (h2:t≤rows.length) (h3:ze2 rows f t≤H):0≤(H - ze2 rows f t)*(H - ze2 rows f t)∧(H - ze2 rows f t)*(H - ze2 rows f t)≤40000:=by
 have:=zpw hR h1 h2
 have a:0≤H - ze2 rows f t:=by omega
 have b:H - ze2 rows f t≤200:=by omega
 exact ⟨Int.mul_nonneg a a,Int.le_trans (Int.mul_le_mul b b a (by decide)) (by decide)⟩
theorem zmq:∀ f t,0≤Kp rows H f t∧Kp rows H f t≤2000000000000:=by
 intro f t
 unfold Kp
 split
 ·rename_i h
  have h1:=ztE hR hH h.1 (by omega) h.2.2
  have h2:=zpI rows t
  omega
 ·omega
theorem zsW (k f:Nat) (hf:f+(k+1)=rows.length) (j2:List Bst→Option ((List Int)×Int)) :
  ∀ (d t m:Nat) (x:Bst),f<t→t+d=rows.length+1→d<m→okB (k+1) x→zaF (fun _ _=>none) (zbH (⟨rows,rows.map (·.Stanza),F,L,H⟩:Gpage_parter) (f:Int) j2) m ((zf7 (Tp rows H k) rows.length).set f x) (t:Int) =
   j2 ((zf7 (Tp rows H k) rows.length).set f (zfb (Rp rows H) (Kp rows H) rows.length (Tp rows H k) f d t x)):=by
 have hn:=hR.n
 have hK:=zmq hR hH
 have hok:∀ t,okB k (Tp rows H k t):=zot (R:=Rp rows H) (K:=Kp rows H) (n:=rows.length) hK k
 intro d
 induction d with
 | zero =>
  intro t m x hft htd hm hx
  obtain ⟨m,rfl⟩:∃ q,m=q+1:=⟨m - 1,by omega⟩
  rw [zcJ]
  generalize zaF (fun _ _=>none) (zbH (⟨rows,rows.map (·.Stanza),F,L,H⟩:Gpage_parter) (f:Int) j2) m=ag
  unfold zbH
  exact zaz (decide_eq_false (by show ¬ ((t:Int)≤(rows.length:Int)); omega)) rfl
 | succ d ih =>
  intro t m x hft htd hm hx
  obtain ⟨m,rfl⟩:∃ q,m=q+1:=⟨m - 1,by omega⟩
  have ih':=fun y hy=>ih (t+1) m y (by omega) (by omega) (by omega) hy
  rw [zcJ]
  generalize zaF (fun _ _=>none) (zbH (⟨rows,rows.map (·.Stanza),F,L,H⟩:Gpage_parter) (f:Int) j2) m=ag at ih' ⊢
  rw [show ((t+1:Nat):Int)=(t:Int)+1 by omega] at ih'
  have htl:=zgP (Tp rows H k) rows.length
  have hgt:∀ y:Bst,zcb ((zf7 (Tp rows H k) rows.length).set f y) (t:Int)=some (Tp rows H k t):=fun y=>zdG (by rw [List.getElem?_set_ne (by omega)]; exact zeQ _ _ _ (by omega))
  have hgf:∀ y:Bst,zcb ((zf7 (Tp rows H k) rows.length).set f y) (f:Int)=some y:=fun y=>zdG (by rw [List.getElem?_set_self (by omega)])
  have hnext:∀ y,okB (k+1) y→(grd (I64 ((t:Int)+1))<|ag ((zf7 (Tp rows H k) rows.length).set f y) ((t:Int)+1))=j2 ((zf7 (Tp rows H k) rows.length).set f (zfb (Rp rows H) (Kp rows H) rows.length (Tp rows H k) f d (t+1) y)):=fun y hy=>zbm ⟨by omega,by omega⟩ (ih' y hy)
  unfold zbH
  refine zaB (decide_eq_true (by show (t:Int)≤(rows.length:Int); omega)) (zaO (ztM hR H f t hft (by omega)) ?_)
  unfold zfb
  by_cases hRt:ze2 rows f t≤H
  ·have hRb:Rp rows H f t=true:=decide_eq_true hRt
   refine zaB (decide_eq_true hRt) (zby (zwf (fun j4=>∀ y:Bst,okB (k+1) y→y.to_=(t:Int)→j4 y.cost y.rows=j2 ((zf7 (Tp rows H k) rows.length).set f (zfb (Rp rows H) (Kp rows H) rows.length (Tp rows H k) f d (t+1) (zpT x (some y))))) ?_ ?_))
   ·intro y hy hto
    have ey:(⟨y.cost,y.rows,(t:Int)⟩:Gpage_best)=y:=by rw [← hto]
    have hput:(grd (I64 ((t:Int)+1))<|ag (((zf7 (Tp rows H k) rows.length).set f x).set (f:Int).toNat (⟨y.cost,y.rows,(t:Int)⟩:Gpage_best)) ((t:Int)+1))=j2 ((zf7 (Tp rows H k) rows.length).set f (zfb (Rp rows H) (Kp rows H) rows.length (Tp rows H k) f d (t+1) y)):=by
     rw [ey,Int.toNat_natCast,List.set_set]; exact hnext y hy
    have hkeep:=hnext x hx
    refine zaO (hgf x) ?_
    rw [zhh]
    by_cases h1:x.rows<0
    ·rw [if_pos (.inl h1)]; exact zaB (decide_eq_true h1) (zaO (hgf x) hput)
    refine zaz (decide_eq_false h1) ?_
    by_cases h2:y.cost<x.cost
    ·rw [if_pos (.inr (.inl h2))]; exact zaB (decide_eq_true h2) (zaO (hgf x) hput)
    refine zaz (decide_eq_false h2) ?_
    by_cases h3:y.cost=x.cost
    ·refine zaB (zgg h3) ?_
     by_cases h4:y.rows≤x.rows
     ·rw [if_pos (.inr (.inr ⟨h3,h4⟩))]; exact zaB (decide_eq_true h4) (zaO (hgf x) hput)
     ·rw [if_neg (by omega)]; exact zaz (decide_eq_false h4) hkeep
    ·rw [if_neg (by omega)]; exact zaz (zgy h3) hkeep
   intro j4 held
   by_cases ht:t<rows.length
   ·obtain ⟨o1,o2,o3,o4⟩:=hok t
    have hk2:=hK f t
    have hsq:=ztE hR hH hft (by omega) hRt
    have hcs:=zpI rows t
    have hhr:=zpw hR hft (t:=t) (by omega)
    have hkp:Kp rows H f t=(H - ze2 rows f t)*(H - ze2 rows f t)+zsw rows t:=if_pos ⟨hft,ht,hRt⟩
    have hfe:0≤(Tp rows H k t).rows:=zno hK (zor hH) k t (by omega) (by omega)
    have hc:zgN (Rp rows H) (Kp rows H) rows.length (Tp rows H k) f t=some ⟨Kp rows H f t+(Tp rows H k t).cost,(Tp rows H k t).rows+1,(t:Int)⟩:=by unfold zgN; rw [if_pos hRb,if_pos ht,if_neg (by omega)]
    have hyok:=(zii hK hok hc).1
    rw [hc]
    refine zaB (decide_eq_true (by show (t:Int)<(rows.length:Int); omega)) (zaO (ztM hR H f t hft (by omega)) (zbm ?_ (zbm ?_ (zaO (zyd hR H t (by omega) ht) (zbm ?_ (zaO (hgt x) (zbm ?_ (zbm ⟨by omega,by omega⟩ ?_))))))))
    ·show I64 (H - ze2 rows f t); exact ⟨by omega,by omega⟩
    ·show I64 ((H - ze2 rows f t)*(H - ze2 rows f t)); exact ⟨by omega,by omega⟩
    ·show I64 ((H - ze2 rows f t)*(H - ze2 rows f t)+zsw rows t); exact ⟨by omega,by omega⟩
    ·show I64 ((H - ze2 rows f t)*(H - ze2 rows f t)+zsw rows t+(Tp rows H k t).cost); rw [← hkp]; exact ⟨by omega,by omega⟩
    ·have:=held _ hyok rfl
     refine Eq.trans ?_ this
     show j4 ((H - ze2 rows f t)*(H - ze2 rows f t)+zsw rows t+(Tp rows H k t).cost) ((Tp rows H k t).rows+1)=j4 (Kp rows H f t+(Tp rows H k t).cost) ((Tp rows H k t).rows+1)
     rw [hkp]
   ·have hc:zgN (Rp rows H) (Kp rows H) rows.length (Tp rows H k) f t=some ⟨0,1,(t:Int)⟩:=by unfold zgN; rw [if_pos hRb,if_neg ht]
    have hyok:=(zii hK hok hc).1
    rw [hc]
    refine zaz (decide_eq_false (by show ¬ ((t:Int)<(rows.length:Int)); omega)) ?_
    exact held _ hyok rfl
  ·refine zaz (decide_eq_false hRt) ?_
   have hc:zgN (Rp rows H) (Kp rows H) rows.length (Tp rows H k) f t=none:=by unfold zgN; rw [if_neg (by unfold Rp; rw [decide_eq_false hRt]; decide)]
   rw [hc,zjl d (t+1) (zpT x none) (fun t' h1 h2=>by
    have:=zrw hR (t' - t) hft (by omega)
    rw [show t+(t' - t)=t' by omega] at this
    unfold zgN Rp
    rw [if_neg (by rw [decide_eq_false (by omega)]; decide)])]
   rfl
theorem zrk (j1:List Bst→Option ((List Int)×Int)):∀ (d k m:Nat),k+d=rows.length→d<m→zaF (fun _ _=>none) (zbI (⟨rows,rows.map (·.Stanza),F,L,H⟩:Gpage_parter) j1) m (zf7 (Tp rows H k) rows.length) ((rows.length:Int) - 1 - (k:Int))=j1 (zf7 (Tt rows H) rows.length):=by
 have hle:=hR.n
 intro d
 induction d with
 | zero =>
  intro k m hk hm
  obtain ⟨m,rfl⟩:∃ q,m=q+1:=⟨m - 1,by omega⟩
  rw [zcJ]
  generalize zaF (fun _ _=>none) (zbI (⟨rows,rows.map (·.Stanza),F,L,H⟩:Gpage_parter) j1) m=ag
  unfold zbI
  refine zaz (decide_eq_false (by omega)) ?_
  rw [show k=rows.length by omega]; rfl
 | succ d ih =>
  intro k m hk hm
  obtain ⟨m,rfl⟩:∃ q,m=q+1:=⟨m - 1,by omega⟩
  have ih':=ih (k+1) m (by omega) (by omega)
  rw [zcJ]
  generalize zaF (fun _ _=>none) (zbI (⟨rows,rows.map (·.Stanza),F,L,H⟩:Gpage_parter) j1) m=ag at ih' ⊢
  obtain ⟨f,hf⟩:∃ f:Nat,f+(k+1)=rows.length:=⟨d,by omega⟩
  rw [show (rows.length:Int) - 1 - (k:Int)=(f:Int) by omega]
  rw [show (rows.length:Int) - 1 - ((k+1:Nat):Int)=(f:Int) - 1 by omega] at ih'
  unfold zbI
  have hg:zcb (zf7 (Tp rows H k) rows.length) (f:Int)=some b0:=by
   have e0:Tp rows H k f=b0:=zva k f (by omega)
   rw [zdG (zeQ _ _ f (by omega)),e0]
  refine zaB (decide_eq_true (by omega)) (zby (zaO hg (zbm ⟨by omega,by omega⟩ ?_)))
  have hin:=zsW hR hH k f hf (fun (all5:List Gpage_best)=>grd (I64 ((f:Int) - 1))<|ag all5 ((f:Int) - 1)) (rows.length - f) (f+1) zbT bm (by omega) (by omega) (zcm (by omega)) (zrn _)
  rw [show ((f+1:Nat):Int)=(f:Int)+1 by omega] at hin
  have et:(zf7 (Tp rows H k) rows.length).set f (zfb (Rp rows H) (Kp rows H) rows.length (Tp rows H k) f (rows.length - f) (f+1) bm)=zf7 (Tp rows H (k+1)) rows.length:=by
   have e1:Tp rows H (k+1) f=zfb (Rp rows H) (Kp rows H) rows.length (Tp rows H k) f (rows.length - f) (f+1) bm:=by
    show Bf (Rp rows H) (Kp rows H) rows.length (k+1) f=_
    rw [zg4,if_pos hf]
   rw [← e1]
   exact zpc (by omega) fun j hj=>by
    show Bf (Rp rows H) (Kp rows H) rows.length (k+1) j=_
    rw [zg4,if_neg (by omega)]
  rw [et] at hin
  refine hin.trans (zbm ⟨by omega,by omega⟩ ih')
theorem zrl (j5:List Int→Option ((List Int)×Int)):∀ (m f N:Nat) (out:List Int),rows.length≤f+m→m<N→out.length≤f→f≤rows.length→zaF (fun _ _=>none) (zbs (⟨rows,rows.map (·.Stanza),F,L,H⟩:Gpage_parter) (zf7 (Tt rows H) rows.length) j5) N out (f:Int)=j5 (out++(zqk (Tt rows H) rows.length m f).map (fun t=>((t:Nat):Int))):=by
 have hle:=hR.n
 intro m
 induction m with
 | zero =>
  intro f N out hm hN ho hf
  obtain ⟨N,rfl⟩:∃ q,N=q+1:=⟨N - 1,by omega⟩
  rw [zcJ]
  generalize zaF (fun _ _=>none) (zbs (⟨rows,rows.map (·.Stanza),F,L,H⟩:Gpage_parter) (zf7 (Tt rows H) rows.length) j5) N=ag
  unfold zbs
  refine zaz (decide_eq_false (by show ¬ ((f:Int)<(rows.length:Int)); omega)) ?_
  show j5 out=j5 (out++[])
  rw [List.append_nil]
 | succ m ih =>
  intro f N out hm hN ho hf
  obtain ⟨N,rfl⟩:∃ q,N=q+1:=⟨N - 1,by omega⟩
  rw [zcJ]
  have ih':=fun t out=>ih t N out
  generalize zaF (fun _ _=>none) (zbs (⟨rows,rows.map (·.Stanza),F,L,H⟩:Gpage_parter) (zf7 (Tt rows H) rows.length) j5) N=ag at ih' ⊢
  unfold zbs zqk
  by_cases h:f<rows.length
  ·obtain ⟨t,h1,h2,h3,h4⟩:=zss (zmq hR hH) (zor hH) h
   have hg:zcb (zf7 (Tt rows H) rows.length) (f:Int)=some (Tt rows H f):=zdG (zeQ _ _ f (by omega))
   rw [if_pos h,h1,Int.toNat_natCast]
   refine zaB (decide_eq_true (by show (f:Int)<(rows.length:Int); omega)) (zaO hg (zbm (by omega) (zaO hg ?_)))
   rw [h1]
   rw [ih' t (out++[(t:Int)]) (by omega) (by omega) (by rw [List.length_append]; simp; omega) h3,List.append_assoc]; rfl
  ·rw [if_neg h]
   refine zaz (decide_eq_false (by show ¬ ((f:Int)<(rows.length:Int)); omega)) ?_
   show j5 out=j5 (out++[])
   rw [List.append_nil]
theorem zuw:zdp (⟨rows,rows.map (·.Stanza),F,L,H⟩:Gpage_parter)=some ((zk9 rows H).map (fun t=>((t:Nat):Int)),(Tt rows H 0).cost):=by
 have hle:=hR.n
 unfold zdp
 refine zby (zbm ⟨by show _≤(rows.length:Int)+1; omega,by show (rows.length:Int)+1≤_; omega⟩ (zbm ⟨by show _≤(rows.length:Int)+1; omega,by show (rows.length:Int)+1≤_; omega⟩ (zbm ⟨by show _≤(rows.length:Int) - 1; omega,by show (rows.length:Int) - 1≤_; omega⟩ ?_)))
 have e0:List.replicate ((rows.length:Int)+1:Int).toNat (⟨0,0,0⟩:Gpage_best)=zf7 (Tp rows H 0) rows.length:=by
  show List.replicate ((rows.length:Int)+1:Int).toNat b0=_
  rw [show ((rows.length:Int)+1:Int).toNat=rows.length+1 by omega,zvC]
 show zaF (fun _ _=>none) _ zbT (List.replicate ((rows.length:Int)+1:Int).toNat (⟨0,0,0⟩:Gpage_best)) ((rows.length:Int) - 1)=_
 rw [e0]
 have ho:=zrk hR hH (fun (all1:List Gpage_best)=>zbi (fun (j5:(List Int)→Option ((List Int)×Int))=>zaF (fun _ _=>none) (zbs (⟨rows,rows.map (·.Stanza),F,L,H⟩:Gpage_parter) all1 j5) zbT ([]:List Int) 0) (fun (out1:List Int)=>zal (zcb all1 0) fun (q10:Gpage_best)=>some (out1,q10.cost))) rows.length 0 zbT (by omega) (zcm (by omega))
 rw [show (rows.length:Int) - 1 - ((0:Nat):Int)=(rows.length:Int) - 1 by omega] at ho
 refine ho.trans (zby ?_)
 have he:=zrl hR hH (fun (out1:List Int)=>zal (zcb (zf7 (Tt rows H) rows.length) 0) fun (q10:Gpage_best)=>some (out1,q10.cost)) rows.length 0 zbT [] (by omega) (zcm (by omega)) (Nat.zero_le _) (Nat.zero_le _)
 rw [show ((0:Nat):Int)=0 from rfl,List.nil_append] at he
 refine he.trans (zaO (zew (n:=0) rfl (zeQ _ _ 0 (Nat.zero_le _))) rfl)
end
end Go.Proofs.YtbempdelckaccaaGreatDoor

namespace Go.Proofs.YtbempdelckaccaaGreatDoor
open Go.RowKit Go.Lib
set_option linter.unusedVariables false
set_option linter.unusedSimpArgs false
def zdK (r2:(Int×Gpage_parter)) (from3:Int) (j3:Int→(List Gapi_Row)→Option ((Option Gpage_Book)×Int)) (q1:Int) (ag2:(List Gapi_Row)→Int→Option ((Option Gpage_Book)×Int)) (page4:List Gapi_Row) (k3:Int):Option ((Option Gpage_Book)×Int) :=
zaw (decide ((k3:Int)<q1)) (
zbi (fun (j4:(List Gapi_Row)→Option ((Option Gpage_Book)×Int)) =>
zaw (decide ((from3:Int)<k3)) (
zal (zcb r2.2.rows k3) fun (q2:Gapi_Row) =>
grd (I64 (k3 - 1)) <|
zal (zcb r2.2.rows (k3 - 1)) fun (q3:Gapi_Row) =>
zaw ((q2.Stanza:Int) != q3.Stanza) (
grd (page4.length+1≤2147483648) <|
j4 (page4++[(⟨(-1),0,0,0,0,ByteArray.empty⟩:Gapi_Row)])
) (
j4 page4
)
) (
j4 page4
)
) (fun (page5:List Gapi_Row) =>
zal (zcb r2.2.rows k3) fun (q4:Gapi_Row) =>
grd (page5.length+1≤2147483648) <|
grd (I64 (k3+1)) <|
ag2 (page5++[q4]) (k3+1)
)
) (
j3 q1 page4
)
def zdL (j1:(List (List Gapi_Row))→Int→Option ((Option Gpage_Book)×Int)) (r2:(Int×Gpage_parter)) (r3:((List Int)×Int)) (ag1:(List (List Gapi_Row))→Int→Int→Option ((Option Gpage_Book)×Int)) (b9:List (List Gapi_Row)) (from3:Int) (x4:Int):Option ((Option Gpage_Book)×Int) :=
zaw (decide ((x4:Int)<(r3.1.length:Int))) (
zbi (fun (j2:(List (List Gapi_Row))→Int→Option ((Option Gpage_Book)×Int)) =>
zbi (fun (j3:Int→(List Gapi_Row)→Option ((Option Gpage_Book)×Int)) =>
zal (zcb r3.1 x4) fun (q1:Int) =>
zaF (fun _ _=>none) (zdK r2 from3 j3 q1) zbT ([]:List Gapi_Row) from3
) (fun (to1:Int) (page1:List Gapi_Row) =>
grd (b9.length+1≤2147483648) <|
j2 (b9++[page1]) to1
)
) (fun (b10:List (List Gapi_Row)) (from4:Int) =>
grd (I64 (x4+1)) <|
ag1 b10 from4 (x4+1)
)
) (
j1 b9 (r2.1+r3.2)
)
def zf0 (x1:Gpoem_Poem) (l1:Gapi_Layout):Option ((Option Gpage_Book)×Int) :=
zal (zfZ l1) fun (r1:Bool) =>
zaw (!r1) (
some (none,2)
) (
zbi (fun (j1:(List (List Gapi_Row))→Int→Option ((Option Gpage_Book)×Int)) =>
zal (zdq (⟨([]:List Gapi_Row),([]:List Int),([]:List Int),([]:List Int),l1.Height⟩:Gpage_parter) x1 l1) fun (r2:(Int×Gpage_parter)) =>
zal (zdp r2.2) fun (r3:((List Int)×Int)) =>
grd (I64 (r2.1+r3.2)) <|
zaF (fun _ _ _=>none) (zdL j1 r2 r3) zbT ([]:List (List Gapi_Row)) 0 0
) (fun (b3:List (List Gapi_Row)) (b4:Int) =>
some ((some (⟨l1.Width,l1.Height,l1.Turn,l1.Every,b3,b4⟩:Gpage_Book)),0)
)
)
theorem zoJ {bx1:Nat} {x1:Gpoem_Poem} {x1_h0 x1_h1:Hd} {l1:Gapi_Layout} {r:((Option Gpage_Book)×Int)} (h:zf0 x1 l1=some r):FnR Tryz.prog 28 [zP bx1,.agg (zr0 l1).toArray] [cells bx1 [.string x1.told_title,x1_h0.v,x1_h1.v,.string x1.source] 106,zv6 x1_h0.v x1.told_lines,zv5 x1_h1.v x1.told_stanzas] [] (fun v0:Value=>.tuple #[v0,zI r.2]) (fun v0=>[zmV zbR zbQ 81 v0 r.1]):=by
 unfold zf0 at h
 refine FnR.intro Tryz.func28 rfl Tryz.ntmps28 (by simp) ?_
 intro w0 K hrd
 refine zyG ?_
 refine zdQ rfl dc rfl (fun b1 => ?_)
 refine zyR 2 rfl (zyN (zaJ (zaC (zyG (zyR 1 rfl (zaW rfl (zdj Tryz.underlying58) (zyR 1 rfl (zyN (zaN rfl ?_)))))))))
 refine zyG (zbb (k:=0) (cs:=(zr0 l1)) zlD rfl dc rfl rfl rfl rfl ?_)
 obtain ⟨r1,hq1,h⟩:=zbw h
 refine zbe (v:=.bool r1) (vs:=[.agg (zr0 l1).toArray]) rfl dc rfl rfl rfl zwm (zkK (l1:=l1) hq1) (zd2 rfl dc rfl zcB (zyR 1 rfl (zyN ?_)))
 refine zyB rfl h (fun h => ?_) (fun h => ?_)
 ·
  refine zyG (zyR 2 rfl (zyN (zaE (zaA (zaq (zd0 zbR zbQ 81 ?_))))))
  cases h
  exact zaS (rs:=[.tmp 4,.tmp 5]) (.pointer none) (.inl rfl) Tryz.results28 (.cons (.tmp rfl) (.cons (.tmp rfl) .nil)) rfl (zad [1] kr rfl)
 refine zas (zag (zaI ?_))
 obtain ⟨j1,hj1,h⟩:=zbF h
 refine za1 (β:=(List (List Gapi_Row))×Int×Nat×Hd) 5 rfl (fun b=>j1 b.1 b.2.1=some r) (fun b=>[]) (fun b=>[(7,zP b.2.2.1)]) (fun b=>[cells b.2.2.1 [zI l1.Width,zI l1.Height,zI l1.Turn,zI l1.Every,b.2.2.2.v,zI b.2.1] 81,zfM zaD zaP 43 1 b.2.2.2.v b.1]) (fun cut => ?_) ?_
 ·
  refine zyG (zab zk7 rfl dc rfl (show _=1 from rfl) (zam (k:=0) zbr rfl dc rfl rfl rfl ?_))
  refine za7 (v:=.agg #[.slice none 0 0,.slice none 0 0,.slice none 0 0,.slice none 0 0,zI l1.Height]) (ps:=[(4,.tmp 23)]) rfl dc rfl (fun _=>by kernel_rfl) ?_
  refine zdQ rfl dc rfl (fun b5 => ?_)
  refine zyR 1 rfl (zyN (zaJ ?_))
  obtain ⟨r2,hq2,h⟩:=zbw h
  refine zgs 4 ?_
  refine let vals1:(Hd×Hd×Hd×Hd)→List (Nat×Nat×Value):=fun b=>[(0,26,.agg (zr0 l1).toArray),(1,27,zP b5),(2,28,zP bx1),(3,29,.agg (zr0 l1).toArray),(4,30,zI r2.1)]; let LL1:(Nat→Prop)→(Hd×Hd×Hd×Hd)→List Asn:=fun D b=>[cells b1 (zr0 l1) 23,eD D (cells b5 [.slice none 0 0,.slice none 0 0,.slice none 0 0,.slice none 0 0,zI l1.Height] 131) [(4,cells b5 [b.1.v,b.2.1.v,b.2.2.1.v,b.2.2.2.v,zI r2.2.heights] 131)],eD D emp [(4,zv1 b.1.v r2.2.rows)],eD D emp [(4,zv0 b.2.1.v r2.2.blanks)],eD D emp [(4,zv0 b.2.2.1.v r2.2.firsts)],eD D emp [(4,zv0 b.2.2.2.v r2.2.lasts)]]; ?_
  have zhq:zyQ [4] LL1:=fun i h D b=>zac rfl (zac (zly rfl h) (zac (zly rfl h) (zac (zly rfl h) (zac (zly rfl h) (zac (zly rfl h) rfl)))))
  refine zd6 (β:=Hd×Hd×Hd×Hd) 5 (Hd.nil,Hd.nil,Hd.nil,Hd.nil) vals1 LL1 mixed kr kr dc (fun _=>rfl) (zac rfl (zac zb4 (zac zb4 (zac zb4 (zac zb4 (zac zb4 rfl)))))) (zi5 zhq rfl (fun _=>rfl) (fun _=>rfl) ?_ (znp zhq (fun _=>rfl) (fun _=>rfl) 2 1 (fun _=>rfl) rfl (zi5 zhq rfl (fun _=>rfl) (fun _=>rfl) ?_ (zau ?_ DrawG.nil)))) ?_
  · exact fun D ⟨hd2,hd3,hd4,hd5⟩ n d c u i=>⟨_,(zt0 rfl),zbb (k:=0) (cs:=(zr0 l1)) zlD rfl dc (za4 (by rfl) rfl) rfl rfl rfl (zaf 0 u i rfl)⟩
  · exact fun D ⟨hd2,hd3,hd4,hd5⟩ n d c u i=>⟨_,(zac rfl (zac (zah (fun hD=>n (c 4 _ rfl hD 3 dc)) zao) (zac (zah (fun hD=>n (c 4 _ rfl hD 3 dc)) zao) (zac (zah (fun hD=>n (c 4 _ rfl hD 3 dc)) zao) (zac (zah (fun hD=>n (c 4 _ rfl hD 3 dc)) zao) (zac (zah (fun hD=>n (c 4 _ rfl hD 3 dc)) zao) rfl)))))),zbb (k:=0) (cs:=(zr0 l1)) zlD rfl dc (za4 (by rfl) rfl) rfl rfl rfl (zaf 3 u i rfl)⟩
  ·
   intro D b hn hd hcl
   obtain ⟨zb0,zb1,zb2,zb3⟩:=b
   refine zaK (zac rfl (zac (zah hn zao) (zac (zah hn zao) (zac (zah hn zao) (zac (zah hn zao) (zac (zah hn zao) rfl)))))) (zgL (enc:=zbo) (e:=33) (size:=6) ?_)
   refine zgL (enc:=(zm9 (.i64))) (e:=3) (size:=1) ?_
   refine zgL (enc:=(zm9 (.i64))) (e:=3) (size:=1) ?_
   refine zgL (enc:=(zm9 (.i64))) (e:=3) (size:=1) ?_
   refine zfY (vs:=[zP b5,zP bx1,.agg (zr0 l1).toArray]) hrd rfl dc rfl (evL.cons (zaa (m:=1) rfl rfl (hd 1 dc)) (evL.cons (zaa (m:=2) rfl rfl (hd 2 dc)) (evL.cons (zaa (m:=3) rfl rfl (hd 3 dc)) evL.nil))) rfl zxK (zhU (bp1:=b5) (p1:=(⟨([]:List Gapi_Row),([]:List Int),([]:List Int),([]:List Int),l1.Height⟩:Gpage_parter)) (p1_h0:=Hd.nil) (p1_h1:=Hd.nil) (p1_h2:=Hd.nil) (p1_h3:=Hd.nil) (bx1:=bx1) (x1:=x1) (x1_h0:=x1_h0) (x1_h1:=x1_h1) (l1:=l1) hq2) (zad [1,6,7,8,9] kr rfl) (.ro 0 rfl (.ro 1 rfl (.ro 2 rfl .nil))) ?_
   rintro ⟨hd2,hd3,hd4,hd5⟩
   refine zdA (L':=[cells b1 (zr0 l1) 23,cells b5 [hd2.v,hd3.v,hd4.v,hd5.v,zI r2.2.heights] 131,emp,emp,emp,emp,zv1 hd2.v r2.2.rows,zv0 hd3.v r2.2.blanks,zv0 hd4.v r2.2.firsts,zv0 hd5.v r2.2.lasts]) (zad [0,10,2,3,4,5,11,12,13,14] kr rfl) (zc5 5 rfl rfl ?_)
   refine zc5 4 rfl rfl ?_
   refine zc5 3 rfl rfl ?_
   refine zc5 2 rfl rfl ?_
   exact zaU (b:=(zb0,zb1,zb2,zb3)) (hd2,hd3,hd4,hd5) 4 (by rfl) (by rfl) rfl (znq rfl) (zac rfl (zac (zaL (Or.inr rfl) rfl) (zac (zaL (Or.inr rfl) rfl) (zac (zaL (Or.inr rfl) rfl) (zac (zaL (Or.inr rfl) rfl) (zac (zaL (Or.inr rfl) rfl) rfl))))))
  intro D b hall
  obtain ⟨hd2,hd3,hd4,hd5⟩:=b
  refine zaK (zac rfl (zac (zaL (hall 4 dc) rfl) (zac (zaL (hall 4 dc) rfl) (zac (zaL (hall 4 dc) rfl) (zac (zaL (hall 4 dc) rfl) (zac (zaL (hall 4 dc) rfl) rfl)))))) ?_
  refine za7 (v:=.agg #[zI l1.Width,zI l1.Height,zI l1.Turn,zI l1.Every,.slice none 0 0,zI r2.1]) (ps:=[(0,.tmp 26),(2,.tmp 30)]) rfl dc rfl (fun _=>by kernel_rfl) ?_
  refine zdQ rfl dc rfl (fun b6 => ?_)
  refine zyR 1 rfl (zyH (zyR 1 rfl ?_))
  obtain ⟨r3,hq3,h⟩:=zbw h
  refine zfY (vs:=[zP b5]) hrd rfl dc rfl rfl rfl zxJ (zhT (bp1:=b5) (p1:=r2.2) (p1_h0:=hd2) (p1_h1:=hd3) (p1_h2:=hd4) (p1_h3:=hd5) hq3) Splits.nil (.own (zad [1] (by kernel_rfl) rfl) (fun _ _ h=>sepL.one1.1 h) (.own (zad [2] (by kernel_rfl) rfl) (fun _ _ h=>sepL.one1.1 h) (.own (zad [3] (by kernel_rfl) rfl) (fun _ _ h=>sepL.one1.1 h) (.own (zad [4] (by kernel_rfl) rfl) (fun _ _ h=>sepL.one1.1 h) (.own (zad [5] (by kernel_rfl) rfl) (fun _ _ h=>sepL.one1.1 h) .nil))))) ?_
  rintro v1
  refine zbu (k:=7) rfl (fun hd6 he1 => ?_)
  subst he1
  refine zyR 1 rfl (zaY rfl dc rfl rfl (zaY rfl dc rfl rfl (zyR 2 rfl (zyH (zyR 1 rfl (zay rfl dc rfl (zab zrE rfl dc rfl (show _=5 from rfl) (zam (k:=6) zbr rfl dc rfl rfl rfl (zyR 1 rfl ?_)))))))))
  obtain ⟨hg1,h⟩:=zbn h
  refine zaW rfl (zaX (r:=r2.1+r3.2) (IntWalk.i64_in _ hg1)) (zay rfl dc rfl (zab zrE rfl dc rfl (show _=5 from rfl) ?_))
  refine zaM (k:=6) (l':=[zI l1.Width,zI l1.Height,zI l1.Turn,zI l1.Every,.slice none 0 0,zI (r2.1+r3.2)]) zeA rfl rfl rfl rfl rfl (fun _ _=>rfl) rfl ?_
  refine zyH (zyR 1 rfl (zyN (cut (zyG (zyR 1 rfl (zbl (k:=7) rfl dc rfl rfl Tryz.underlying49 (zyR 1 rfl (zaQ ?_))))))))
  refine zaI (zaC (zsp (enc:=zaD) (nest:=zaP) (e:=43) (size:=1) ?_))
  refine zbq (β:=Nat×(List (List Gapi_Row))×Int×Int×Hd) (fun b=>zaF (fun _ _ _=>none) (zdL j1 r2 r3) b.1 b.2.1 b.2.2.1 b.2.2.2.1=some r) (fun b=>[]) (fun b=>[(6,zP b5),(7,zP b6),(10,zI b.2.2.1),(46,hd6.v),(47,zI (r3.1.length:Int)),(48,zI b.2.2.2.1)]) (fun b=>[cells b5 [hd2.v,hd3.v,hd4.v,hd5.v,zI r2.2.heights] 131,zv1 hd2.v r2.2.rows,zv0 hd3.v r2.2.blanks,zv0 hd4.v r2.2.firsts,zv0 hd5.v r2.2.lasts,cells b6 [zI l1.Width,zI l1.Height,zI l1.Turn,zI l1.Every,b.2.2.2.2.v,zI (r2.1+r3.2)] 81,zfM zaD zaP 43 1 b.2.2.2.2.v b.2.1,zv0 hd6.v r3.1]) (fun b=>b.1) (zbT,([]:List (List Gapi_Row)),0,0,Hd.nil) h rfl (za5 rfl) (zad [1,2,3,4,5,6,8,7] kr rfl) ?_
  rintro ⟨n1,b9,from3,x4,hd9⟩ h
  cases n1 with
  | zero=>exact zdM h
  | succ n1 =>
   obtain ⟨ag1,hag1⟩:∃ ag,ag=zaF (fun _ _ _=>none) (zdL j1 r2 r3) n1:=⟨_,rfl⟩
   have h:zdL j1 r2 r3 ag1 b9 from3 x4=some r:=by rw [hag1]; exact h
   unfold zdL at h
   refine zyG (zaW rfl zbC (zyN (zaJ ?_)))
   refine zyB rfl h (fun h => ?_) (fun h => ?_)
   ·
    refine zas (zaI ?_)
    obtain ⟨j2,hj2,h⟩:=zbF h
    refine za1 (β:=(List (List Gapi_Row))×Int×Hd) 0 rfl (fun b=>j2 b.1 b.2.1=some r) (fun b=>[]) (fun b=>[(6,zP b5),(7,zP b6),(10,zI b.2.1),(46,hd6.v),(47,zI (r3.1.length:Int)),(48,zI x4)]) (fun b=>[cells b5 [hd2.v,hd3.v,hd4.v,hd5.v,zI r2.2.heights] 131,zv1 hd2.v r2.2.rows,zv0 hd3.v r2.2.blanks,zv0 hd4.v r2.2.firsts,zv0 hd5.v r2.2.lasts,cells b6 [zI l1.Width,zI l1.Height,zI l1.Turn,zI l1.Every,b.2.2.v,zI (r2.1+r3.2)] 81,zfM zaD zaP 43 1 b.2.2.v b.1,zv0 hd6.v r3.1]) (fun cut => ?_) ?_
    ·
     refine cut (zaC ?_)
     obtain ⟨j3,hj3,h⟩:=zbF h
     refine za1 (β:=Int×(List Gapi_Row)×Hd) 2 rfl (fun b=>j3 b.1 b.2.1=some r) (fun b=>[]) (fun b=>[(6,zP b5),(7,zP b6),(12,zI b.1),(13,b.2.2.v),(46,hd6.v),(47,zI (r3.1.length:Int)),(48,zI x4)]) (fun b=>[cells b5 [hd2.v,hd3.v,hd4.v,hd5.v,zI r2.2.heights] 131,zv1 hd2.v r2.2.rows,zv0 hd3.v r2.2.blanks,zv0 hd4.v r2.2.firsts,zv0 hd5.v r2.2.lasts,cells b6 [zI l1.Width,zI l1.Height,zI l1.Turn,zI l1.Every,hd9.v,zI (r2.1+r3.2)] 81,zfM zaD zaP 43 1 hd9.v b9,zv1 b.2.2.v b.2.1,zv0 hd6.v r3.1]) (fun cut => ?_) ?_
     ·
      refine zyG ?_
      obtain ⟨q1,hq4,h⟩:=zbw h
      refine zar (k:=7) hq4 Tryz.underlying49 zeA rfl dc rfl rfl rfl rfl (zaH (i:=(x4:Int).toNat) (j:=0) (k:=7) (q:=q1) zbr zbO rfl dc rfl rfl (zaG hq4) rfl dc rfl (zyR 1 rfl (zyH (zyR 1 rfl (zyN (cut (zyG (zyR 1 rfl ?_))))))))
      refine zyR 1 rfl (zyN (zaC (zc1 (enc:=zbo) (e:=33) (size:=6) ?_)))
      refine zbq (β:=Nat×(List Gapi_Row)×Int×Hd) (fun b=>zaF (fun _ _=>none) (zdK r2 from3 j3 q1) b.1 b.2.1 b.2.2.1=some r) (fun b=>[]) (fun b=>[(6,zP b5),(7,zP b6),(10,zI from3),(12,zI q1),(13,b.2.2.2.v),(14,zI b.2.2.1),(46,hd6.v),(47,zI (r3.1.length:Int)),(48,zI x4)]) (fun b=>[cells b5 [hd2.v,hd3.v,hd4.v,hd5.v,zI r2.2.heights] 131,zv1 hd2.v r2.2.rows,zv0 hd3.v r2.2.blanks,zv0 hd4.v r2.2.firsts,zv0 hd5.v r2.2.lasts,cells b6 [zI l1.Width,zI l1.Height,zI l1.Turn,zI l1.Every,hd9.v,zI (r2.1+r3.2)] 81,zfM zaD zaP 43 1 hd9.v b9,zv1 b.2.2.2.v b.2.1,zv0 hd6.v r3.1]) (fun b=>b.1) (zbT,([]:List Gapi_Row),from3,Hd.nil) h rfl (za5 rfl) (zad [0,1,2,3,4,5,6,8,7] kr rfl) ?_
      rintro ⟨n2,page4,k3,hd14⟩ h
      cases n2 with
      | zero=>exact zdM h
      | succ n2 =>
       obtain ⟨ag2,hag2⟩:∃ ag,ag=zaF (fun _ _=>none) (zdK r2 from3 j3 q1) n2:=⟨_,rfl⟩
       have h:zdK r2 from3 j3 q1 ag2 page4 k3=some r:=by rw [hag2]; exact h
       unfold zdK at h
       refine zaJ (zyG (zyR 2 rfl (zaW rfl zbC (zyN ?_))))
       refine zyB rfl h (fun h => ?_) (fun h => ?_)
       ·
        refine zas (zaI (zaJ (zaC ?_)))
        obtain ⟨j4,hj4,h⟩:=zbF h
        refine za1 (β:=(List Gapi_Row)×Hd) 0 rfl (fun b=>j4 b.1=some r) (fun b=>[]) (fun b=>[(6,zP b5),(7,zP b6),(10,zI from3),(12,zI q1),(13,b.2.v),(14,zI k3),(46,hd6.v),(47,zI (r3.1.length:Int)),(48,zI x4)]) (fun b=>[cells b5 [hd2.v,hd3.v,hd4.v,hd5.v,zI r2.2.heights] 131,zv1 hd2.v r2.2.rows,zv0 hd3.v r2.2.blanks,zv0 hd4.v r2.2.firsts,zv0 hd5.v r2.2.lasts,cells b6 [zI l1.Width,zI l1.Height,zI l1.Turn,zI l1.Every,hd9.v,zI (r2.1+r3.2)] 81,zfM zaD zaP 43 1 hd9.v b9,zv1 b.2.v b.1,zv0 hd6.v r3.1]) (fun cut => ?_) ?_
        ·
         refine cut (zaJ ?_)
         refine zfC (b:=decide ((from3:Int)<k3)) (fun hb4 => ?_) (fun hb4 => ?_)
         ·
          have h:=zhY hb4 h
          obtain ⟨q2,hq5,h⟩:=zbw h
          obtain ⟨hg2,h⟩:=zbn h
          obtain ⟨q3,hq6,h⟩:=zbw h
          refine zbK 21 [(0,58,zI k3),(1,59,zI from3),(2,60,.bool true),(3,61,.bool true),(4,62,zP b5),(5,63,zP b5),(6,64,zP b5),(7,65,hd2.v),(8,66,zI k3),(9,67,.pointer (some ⟨zcN hd2.v,(k3:Int).toNat*6,none⟩)),(10,68,.pointer (some ⟨zcN hd2.v,((k3:Int).toNat)*6+1,none⟩)),(11,69,zI q2.Stanza),(12,70,zP b5),(13,71,zP b5),(14,72,zP b5),(15,73,hd2.v),(16,74,zI k3),(17,75,zI (k3 - 1)),(18,76,.pointer (some ⟨zcN hd2.v,(k3 - 1:Int).toNat*6,none⟩)),(19,77,.pointer (some ⟨zcN hd2.v,((k3 - 1:Int).toNat)*6+1,none⟩)),(20,78,zI q3.Stanza)] mixed kr kr dc (by rfl) kr kr (zyP 2 0 rfl (zae ?_ (zyP 2 3 rfl (zae ?_ (zae ?_ (zae ?_ (zyP 1 8 rfl (zae ?_ (zae ?_ (zae ?_ (zyP 1 12 rfl (zae ?_ (zae ?_ (zae ?_ (zyP 1 16 rfl (zae ?_ (zae ?_ (zae ?_ (zae ?_ DrawPre.nil))))))))))))))))))) ?_
          · exact fun D n d c u i=>zb9 rfl dc (zaa (m:=0) u rfl (d 0 dc)) (zaa (m:=1) u rfl (d 1 dc)) zcK (zfy (show Value.bool (decide ((from3:Int)<k3))=Value.bool true from congrArg Value.bool hb4) (zaf 2 u i rfl))
          · exact fun D n d c u i=>zay (zgd rfl (zaa (m:=3) u rfl (d 3 dc))) dc (zaa (m:=4) u rfl (d 4 dc)) (zaf 5 u i rfl)
          · exact fun D n d c u i=>zab zgj (zgd rfl (zaa (m:=3) u rfl (d 3 dc))) dc (zaa (m:=5) u rfl (d 5 dc)) (show _=0 from rfl) (zaf 6 u i rfl)
          · exact fun D n d c u i=>zam (k:=0) zhn (zgd rfl (zaa (m:=3) u rfl (d 3 dc))) dc (zaa (m:=6) u rfl (d 6 dc)) rfl rfl (zaf 7 u i rfl)
          · exact fun D n d c u i=>zar (k:=1) hq5 Tryz.underlying43 zhj (zgd rfl (zaa (m:=3) u rfl (d 3 dc))) dc (zaa (m:=7) u rfl (d 7 dc)) (zaa (m:=8) u rfl (d 8 dc)) rfl rfl (zaf 9 u i rfl)
          · exact fun D n d c u i=>zab zid (zgd rfl (zaa (m:=3) u rfl (d 3 dc))) dc (zaa (m:=9) u rfl (d 9 dc)) (show _=((k3:Int).toNat)*6+1 from rfl) (zaf 10 u i rfl)
          · exact fun D n d c u i=>zaH (i:=(k3:Int).toNat) (j:=1) (k:=1) (q:=q2) zbr zbj (zgd rfl (zaa (m:=3) u rfl (d 3 dc))) dc (zaa (m:=10) u rfl (d 10 dc)) rfl (zaG hq5) rfl dc rfl (zaf 11 u i rfl)
          · exact fun D n d c u i=>zay (zgd rfl (zaa (m:=3) u rfl (d 3 dc))) dc (zaa (m:=12) u rfl (d 12 dc)) (zaf 13 u i rfl)
          · exact fun D n d c u i=>zab zgj (zgd rfl (zaa (m:=3) u rfl (d 3 dc))) dc (zaa (m:=13) u rfl (d 13 dc)) (show _=0 from rfl) (zaf 14 u i rfl)
          · exact fun D n d c u i=>zam (k:=0) zhn (zgd rfl (zaa (m:=3) u rfl (d 3 dc))) dc (zaa (m:=14) u rfl (d 14 dc)) rfl rfl (zaf 15 u i rfl)
          · exact fun D n d c u i=>zb9 (zgd rfl (zaa (m:=3) u rfl (d 3 dc))) dc (zaa (m:=16) u rfl (d 16 dc)) rfl (zbG (r:=k3 - 1) (IntWalk.i64_in _ hg2)) (zaf 17 u i rfl)
          · exact fun D n d c u i=>zar (k:=1) hq6 Tryz.underlying43 zhj (zgd rfl (zaa (m:=3) u rfl (d 3 dc))) dc (zaa (m:=15) u rfl (d 15 dc)) (zaa (m:=17) u rfl (d 17 dc)) rfl rfl (zaf 18 u i rfl)
          · exact fun D n d c u i=>zab zid (zgd rfl (zaa (m:=3) u rfl (d 3 dc))) dc (zaa (m:=18) u rfl (d 18 dc)) (show _=((k3 - 1:Int).toNat)*6+1 from rfl) (zaf 19 u i rfl)
          · exact fun D n d c u i=>zaH (i:=(k3 - 1:Int).toNat) (j:=1) (k:=1) (q:=q3) zbr zbj (zgd rfl (zaa (m:=3) u rfl (d 3 dc))) dc (zaa (m:=19) u rfl (d 19 dc)) rfl (zaG hq6) rfl dc rfl (zaf 20 u i rfl)
          refine zaW rfl zcc (zyR 1 rfl (zyN ?_))
          refine zyB rfl h (fun h => ?_) (fun h => ?_)
          ·
           refine zat (zyR 1 rfl ?_)
           refine za7 (v:=.agg #[zI (-1),zI 0,zI 0,zI 0,zI 0,.string ByteArray.empty]) (ps:=[(0,.const (zI (-1)))]) rfl dc rfl (fun _=>by kernel_rfl) ?_
           refine zaR (cs:=[zI (-1),zI 0,zI 0,zI 0,zI 0,.string ByteArray.empty]) (te:=33) (ps:=[(0,.tmp 82)]) rfl dc rfl (fun _=>by kernel_rfl) (fun b11 => ?_)
           obtain ⟨hg3,h⟩:=zbn h
           refine za3 (k:=7) (k2:=9) (ys:=[(⟨(-1),0,0,0,0,ByteArray.empty⟩:Gapi_Row)]) Tryz.underlying43 zrT zbj zeh rfl dc rfl rfl rfl rfl rfl rfl hg3 (fun v2 => ?_)
           refine zbu (k:=7) rfl (fun hd16 he2 => ?_)
           subst he2
           refine zyR 1 rfl (zaQ ?_)
           exact zai (page4++[(⟨(-1),0,0,0,0,ByteArray.empty⟩:Gapi_Row)],hd16) h rfl (za5 rfl) (zad [0,1,2,3,4,5,6,7,8] kr rfl)
          refine zas ?_
          exact zai (page4,hd14) h rfl (za5 rfl) (zad [0,1,2,3,4,5,6,7,8] kr rfl)
         have h:=zhZ hb4 h
         refine zbK 21 [(0,58,zI k3),(1,59,zI from3),(2,60,.bool false),(3,61,.bool false),(4,62,undef),(5,63,undef),(6,64,undef),(7,65,undef),(8,66,undef),(9,67,undef),(10,68,undef),(11,69,undef),(12,70,undef),(13,71,undef),(14,72,undef),(15,73,undef),(16,74,undef),(17,75,undef),(18,76,undef),(19,77,undef),(20,78,undef)] mixed kr kr dc (by rfl) kr kr (zyP 2 0 rfl (zae ?_ (zyP 18 3 rfl DrawPre.nil))) ?_
         · exact fun D n d c u i=>zb9 rfl dc (zaa (m:=0) u rfl (d 0 dc)) (zaa (m:=1) u rfl (d 1 dc)) zcK (zfy (show Value.bool (decide ((from3:Int)<k3))=Value.bool false from congrArg Value.bool hb4) (zaf 2 u i rfl))
         refine zyR 2 rfl (zyN (zaN rfl (zas ?_)))
         exact zai (page4,hd14) h rfl (za5 rfl) (zad [0,1,2,3,4,5,6,7,8] kr rfl)
        rintro ⟨page5,hd15⟩ h
        rw [hj4] at h
        refine zat (zyR 2 rfl (zay rfl dc rfl (zab zgj rfl dc rfl (show _=0 from rfl) (zam (k:=0) zhn rfl dc rfl rfl rfl (zyR 1 rfl ?_)))))
        obtain ⟨q4,hq7,h⟩:=zbw h
        refine zar (k:=1) hq7 Tryz.underlying43 zhj rfl dc rfl rfl rfl rfl (zdP (i:=(k3:Int).toNat) (j:=0) (k:=1) (q:=q4) (cs:=(zr2 q4)) zje zbj rfl dc rfl rfl (zaG hq7) rfl rfl rfl ?_)
        refine zaR (cs:=(zr2 q4)) (te:=33) (ps:=[(0,.tmp 92)]) rfl dc rfl (fun _=>by kernel_rfl) (fun b12 => ?_)
        obtain ⟨hg4,h⟩:=zbn h
        refine za3 (k:=7) (k2:=9) (ys:=[q4]) Tryz.underlying43 zrT zbj zeh rfl dc rfl rfl rfl rfl rfl rfl hg4 (fun v3 => ?_)
        refine zbu (k:=7) rfl (fun hd17 he3 => ?_)
        subst he3
        refine zyR 1 rfl (zaQ (zag (zaI (zat (zyR 1 rfl ?_)))))
        obtain ⟨hg5,h⟩:=zbn h
        refine zaW rfl (zaX (r:=k3+1) (IntWalk.i64_in _ hg5)) (zyR 1 rfl (zaQ ?_))
        subst hag2
        exact za8 (n2,page5++[q4],k3+1,hd17) h (Nat.lt_succ_self _) rfl (za5 rfl) (zad [0,1,2,3,4,5,6,7,8] kr rfl)
       refine za6 (zak (zak (zav ?_)))
       exact zai (q1,page4,hd14) h rfl (za5 rfl) (zad [0,1,2,3,4,5,6,7,8] kr rfl)
     rintro ⟨to1,page1,hd11⟩ h
     rw [hj3] at h
     refine zat (zyR 2 rfl (zay rfl dc rfl (zab zjm rfl dc rfl (show _=4 from rfl) (zam (k:=5) zq3 rfl dc rfl rfl rfl (zyR 1 rfl ?_)))))
     refine zaR (cs:=[hd11.v]) (te:=43) (ps:=[(0,.tmp 100)]) rfl dc rfl (fun _=>by kernel_rfl) (fun b13 => ?_)
     refine zmo (k:=6) rfl zsX (fun zs1 hz1 => ?_)
     obtain ⟨hg6,h⟩:=zbn h
     refine za3 (k:=6) (k2:=9) (ys:=[(page1,hd11)]) Tryz.underlying79 zyc zet ziY rfl dc rfl rfl rfl rfl rfl rfl (by rw [zxf hz1]; exact hg6) (fun v4 => ?_)
     refine zbu (k:=6) rfl (fun hd18 he4 => ?_)
     subst he4
     refine zi3 (k:=10) rfl (zad [7] kr rfl) rfl (ztI (nest:=zaP) (zs:=zs1) (z:=(page1,hd11))) ?_
     refine zi3 (k:=6) rfl (zad [10] kr rfl) rfl (zr9 (enc:=zaD) (nest:=zaP) (zys hz1)) ?_
     refine zdA (L':=[cells b5 [hd2.v,hd3.v,hd4.v,hd5.v,zI r2.2.heights] 131,zv1 hd2.v r2.2.rows,zv0 hd3.v r2.2.blanks,zv0 hd4.v r2.2.firsts,zv0 hd5.v r2.2.lasts,cells b6 [zI l1.Width,zI l1.Height,zI l1.Turn,zI l1.Every,hd9.v,zI (r2.1+r3.2)] 81,zfM zaD zaP 43 1 hd18.v (b9++[page1]),emp,zv0 hd6.v r3.1,cells b13 [hd11.v] 43]) (zad [0,1,2,3,4,5,6,7,8,9] kr rfl) (zyR 1 rfl (zay rfl dc rfl (zab zjm rfl dc rfl (show _=4 from rfl) ?_)))
     refine zaM (k:=5) (l':=[zI l1.Width,zI l1.Height,zI l1.Turn,zI l1.Every,hd18.v,zI (r2.1+r3.2)]) zxi rfl rfl rfl rfl rfl (fun _ _=>rfl) rfl ?_
     refine zyR 1 rfl (zaQ (zag ?_))
     exact zai (b9++[page1],to1,hd18) h rfl (za5 rfl) (zad [0,1,2,3,4,5,6,8] kr rfl)
    rintro ⟨b10,from4,hd10⟩ h
    rw [hj2] at h
    refine zat ?_
    obtain ⟨hg7,h⟩:=zbn h
    refine zaW rfl (zaX (r:=x4+1) (IntWalk.i64_in _ hg7)) (zyR 1 rfl (zaQ ?_))
    subst hag1
    exact za8 (n1,b10,from4,x4+1,hd10) h (Nat.lt_succ_self _) rfl (za5 rfl) (zad [0,1,2,3,4,5,6,7] kr rfl)
   refine za6 (zak (zak (zav ?_)))
   exact zai (b9,r2.1+r3.2,b6,hd9) h rfl (za5 rfl) (zad [5,6] kr rfl)
 rintro ⟨b3,b4,b2,hd1⟩ h
 rw [hj1] at h
 refine zyG (zyR 3 rfl (zyN (zaE ?_)))
 refine zoZ (As:=[cells b2 [zI l1.Width,zI l1.Height,zI l1.Turn,zI l1.Every,hd1.v,zI b4] 81,zfM zaD zaP 43 1 hd1.v b3]) (zad [0,1] kr rfl) (zjE (enc:=zbR) (nest:=zbQ) (t:=81) (x:=(⟨l1.Width,l1.Height,l1.Turn,l1.Every,b3,b4⟩:Gpage_Book)) (b:=b2) (hd:=hd1)) (fun _ _ => ?_)
 cases h
 exact zaS (rs:=[.tmp 4,.tmp 5]) (zP b2) (.inl rfl) Tryz.results28 (.cons (.tmp rfl) (.cons (.tmp rfl) .nil)) rfl (zad [2] kr rfl)
def zdX (b1:Gpage_Book):Option Int :=
some (b1.pages.length:Int)
theorem ziF {bb1:Nat} {b1:Gpage_Book} {b1_h0:Hd} {r:Int} (h:zdX b1=some r):FnR Tryz.prog 16 [zP bb1] [cells bb1 [zI b1.layout_Width,zI b1.layout_Height,zI b1.layout_Turn,zI b1.layout_Every,b1_h0.v,zI b1.cost] 81,zfM zaD zaP 43 1 b1_h0.v b1.pages] [] (fun _:Unit=>(zI r)) (fun _=>[]):=by
 unfold zdX at h
 refine FnR.intro Tryz.func16 rfl Tryz.ntmps16 (by simp) ?_
 intro w0 K hrd
 refine zyG (zyR 1 rfl (zyN (zaJ (zyG (zyR 1 rfl (zaW rfl (zdj Tryz.underlying25) (zyN (zaN rfl (zas ?_)))))))))
 refine zaI (zyG (zyR 1 rfl (zay rfl dc rfl (zab zjm rfl dc rfl (show _=4 from rfl) (zbk (i:=0) hrd rfl zq3 rfl dc rfl rfl ?_)))))
 obtain ⟨zs1,hz1,hV1,hrd⟩:=hrd.openN (i:=1) rfl zet zgc
 replace hrd:Rd _ _ [cells bb1 [zI b1.layout_Width,zI b1.layout_Height,zI b1.layout_Turn,zI b1.layout_Every,b1_h0.v,zI b1.cost] 81,zfM zaD zaP 43 1 b1_h0.v b1.pages,zgQ zaD 1 b1_h0.v 0 zs1,zlL zcF zs1]:=hrd
 refine zlp hz1 hV1 rfl dc rfl Tryz.underlying79 (zyR 1 rfl (zyN (zaE ?_)))
 cases h
 exact zaS (rs:=[.tmp 2]) () (.inl rfl) Tryz.results16 (.cons (.tmp rfl) .nil) rfl Splits.nil
end Go.Proofs.YtbempdelckaccaaGreatDoor

namespace Go.Proofs.YtbempdelckaccaaGreatDoor
open Go.RowKit Go.Lib
set_option linter.unusedVariables false
set_option linter.unusedSimpArgs false
def zel (text1:ByteArray):Option ((List Gapi_Verse)×Bool) :=
zal (zfJ text1) fun (r1:(Gref17_Poem×(List Gapi_Verse)×Gapi_Spot)) =>
some (r1.2.1,(r1.2.2.Err:Int)==0)
theorem zkR {text1:ByteArray} {r:((List Gapi_Verse)×Bool)} (h:zel text1=some r):Fn Tryz.prog 30 [.string text1] [] (fun v0:Value=>.tuple #[v0,.bool r.2]) (fun v0=>[zv6 v0 r.1]):=by
 unfold zel at h
 refine Fn.intro Tryz.func30 rfl Tryz.ntmps30 (by simp) ?_
 intro w0 K
 refine zyG (zyR 2 rfl (zyH (zyR 1 rfl ?_)))
 obtain ⟨r1,hq1,h⟩:=zbw h
 refine zdu (vs:=[.string text1]) rfl dc rfl rfl rfl zxI (zmT hq1) Splits.nil ?_
 rintro ⟨hd1,v1⟩
 refine zbu (k:=1) rfl (fun hd2 he1 => ?_)
 subst he1
 refine zyR 1 rfl (zaY rfl dc rfl rfl (zaY rfl dc rfl rfl (zaY rfl dc rfl rfl ?_)))
 refine zbc zqD rfl dc (fun b1 => ?_)
 refine zbc zsz rfl dc (fun b2 => ?_)
 refine za0 (k:=2) (vs:=[.string r1.1.Title,hd1.v]) (l':=[.string r1.1.Title,hd1.v]) znv rfl rfl rfl rfl rfl (show _≤_ by simp) rfl rfl (zyR 1 rfl (za0 (k:=3) (vs:=(zr6 r1.2.2)) (l':=(zr6 r1.2.2)) zks rfl rfl rfl rfl rfl (show _≤_ by simp) rfl rfl ?_))
 refine zyN (zaJ ?_)
 refine zbK 5 [(0,13,hd2.v),(1,14,zP b2),(2,15,zI r1.2.2.Err),(3,16,.bool ((r1.2.2.Err:Int)==0)),(4,2,hd2.v)] mixed kr kr dc (by rfl) kr kr (zyP 1 0 rfl (zae ?_ (zae ?_ (zae ?_ (zyP 1 4 rfl DrawPre.nil))))) ?_
 · exact fun D n d c u i=>zab zrH rfl dc (za4 (by rfl) rfl) (show _=0 from rfl) (zaf 1 u i rfl)
 · exact fun D n d c u i=>zam (k:=3) zvN rfl dc (zaa (m:=1) u rfl (d 1 dc)) rfl rfl (zaf 2 u i rfl)
 · exact fun D n d c u i=>zb9 rfl dc (zaa (m:=2) u rfl (d 2 dc)) rfl zaT (zaf 3 u i rfl)
 refine zyR 1 rfl (zyN (zaE ?_))
 cases h
 exact zaS (rs:=[.tmp 2,.tmp 3]) hd2.v (.inl rfl) Tryz.results30 (.cons (.tmp rfl) (.cons (.tmp rfl) .nil)) rfl (zad [1] kr rfl)
def zdh (r1:((List Gapi_Verse)×Bool)) (j1:Option ((Option Gpage_Book)×(List Gapi_Verse)×Bool×Bool)) (ag1:Int→Option ((Option Gpage_Book)×(List Gapi_Verse)×Bool×Bool)) (i3:Int):Option ((Option Gpage_Book)×(List Gapi_Verse)×Bool×Bool) :=
zaw (decide ((i3:Int)<(r1.1.length:Int))) (
zal (zcb r1.1 i3) fun (q1:Gapi_Verse) =>
zaw (decide ((200:Int)<(q1.Text.size:Int))) (
some (none,([]:List Gapi_Verse),false,true)
) (
grd (I64 (i3+1)) <|
ag1 (i3+1)
)
) (
j1
)
def zdN (text1:ByteArray) (l1:Gapi_Layout):Option ((Option Gpage_Book)×(List Gapi_Verse)×Bool×Bool) :=
zal (zel text1) fun (r1:((List Gapi_Verse)×Bool)) =>
zaw (!r1.2) (
some (none,([]:List Gapi_Verse),false,true)
) (
zaw (decide ((60:Int)<(r1.1.length:Int))) (
some (none,([]:List Gapi_Verse),false,true)
) (
zbi (fun (j1:Option ((Option Gpage_Book)×(List Gapi_Verse)×Bool×Bool)) =>
zaF (fun _=>none) (zdh r1 j1) zbT 0
) (
zal (zeY text1) fun (r2:((Option Gpoem_Poem)×Gapi_Spot)) =>
zaw (r2.1.isNone) (
some (none,([]:List Gapi_Verse),true,false)
) (
zaw ((r2.2.Err:Int) != 0) (
some (none,([]:List Gapi_Verse),true,false)
) (
zal (r2.1) fun (p1:Gpoem_Poem) =>
zal (zf0 p1 l1) fun (r3:((Option Gpage_Book)×Int)) =>
zal (zfq l1) fun (r4:Bool) =>
zaw (!r4) (
zaw (r3.1.isNone) (
some (none,([]:List Gapi_Verse),false,(r3.2:Int)==2)
) (
some (none,([]:List Gapi_Verse),false,false)
)
) (
zaw (!r3.1.isNone) (
some (r3.1,r1.1,true,(r3.2:Int)==0)
) (
some (r3.1,r1.1,true,false)
)
)
)
)
)
)
)
theorem znW {text1:ByteArray} {l1:Gapi_Layout} {r:((Option Gpage_Book)×(List Gapi_Verse)×Bool×Bool)} (h:zdN text1 l1=some r):Fn Tryz.prog 9 [.string text1,.agg (zr0 l1).toArray] [] (fun b:Value×Value=>.tuple #[b.1,b.2,.bool r.2.2.1,.bool r.2.2.2]) (fun b=>[zmV zbR zbQ 81 b.1 r.1,zv6 b.2 r.2.1]):=by
 unfold zdN at h
 refine Fn.intro Tryz.func9 rfl Tryz.ntmps9 (by simp) ?_
 intro w0 K
 refine zyG ?_
 refine zdQ rfl dc rfl (fun b1 => ?_)
 refine zyR 4 rfl (zyH (zyR 1 rfl ?_))
 obtain ⟨r1,hq1,h⟩:=zbw h
 refine zdu (vs:=[.string text1]) rfl dc rfl rfl rfl zx3 (zkR hq1) Splits.nil ?_
 rintro v1
 refine zbu (k:=1) rfl (fun hd1 he1 => ?_)
 subst he1
 refine zyR 1 rfl (zaY rfl dc rfl rfl (zaY rfl dc rfl rfl (zyR 2 rfl (zyN (zaJ (zyG (zyR 1 rfl (zd2 rfl dc rfl zcB (zyR 1 rfl ?_)))))))))
 refine zyS (s:=20) rfl h (fun h => ?_) (fun h => ?_)
 ·
  refine zyR 4 rfl (zyN (za9 rfl (zyG (zyR 4 rfl (zaQ ?_)))))
  refine zaI (zaE (zaq (zd0 zbR zbQ 81 ?_)))
  refine zda (enc:=zbA) (e:=76) (size:=6) ?_
  cases h
  exact zaS (rs:=[.tmp 4,.tmp 5,.tmp 6,.tmp 7]) ((.pointer none),(.slice none 0 0)) (.inl rfl) Tryz.results9 (.cons (.tmp rfl) (.cons (.tmp rfl) (.cons (.tmp rfl) (.cons (.tmp rfl) .nil)))) rfl (zad [2,3] kr rfl)
 refine zyR 1 rfl (zbl (k:=1) rfl dc rfl rfl Tryz.underlying26 (zaW rfl zcK (zyR 1 rfl (zyN ?_))))
 refine zyB rfl h (fun h => ?_) (fun h => ?_)
 ·
  refine zyG (zyR 4 rfl (zyN (zaE (zaq (zd0 zbR zbQ 81 ?_)))))
  refine zda (enc:=zbA) (e:=76) (size:=6) ?_
  cases h
  exact zaS (rs:=[.tmp 4,.tmp 5,.tmp 6,.tmp 7]) ((.pointer none),(.slice none 0 0)) (.inl rfl) Tryz.results9 (.cons (.tmp rfl) (.cons (.tmp rfl) (.cons (.tmp rfl) (.cons (.tmp rfl) .nil)))) rfl (zad [2,3] kr rfl)
 refine zas (zaI ?_)
 obtain ⟨j1,hj1,h⟩:=zbF h
 refine za1 (β:=Unit) 0 rfl (fun b=>j1=some r) (fun b=>[]) (fun b=>[(0,.string text1),(3,zP b1),(5,hd1.v)]) (fun b=>[cells b1 (zr0 l1) 23,zv6 hd1.v r1.1]) (fun cut => ?_) ?_
 ·
  refine cut (zyG (zyR 1 rfl (zyN (zaC ?_))))
  refine zbq (β:=Nat×Int) (fun b=>zaF (fun _=>none) (zdh r1 j1) b.1 b.2=some r) (fun b=>[]) (fun b=>[(0,.string text1),(3,zP b1),(5,hd1.v),(8,zI b.2)]) (fun b=>[cells b1 (zr0 l1) 23,zv6 hd1.v r1.1]) (fun b=>b.1) (zbT,0) h rfl (za5 rfl) (zad [0,1] kr rfl) ?_
  rintro ⟨n1,i3⟩ h
  cases n1 with
  | zero=>exact zdM h
  | succ n1 =>
   obtain ⟨ag1,hag1⟩:∃ ag,ag=zaF (fun _=>none) (zdh r1 j1) n1:=⟨_,rfl⟩
   have h:zdh r1 j1 ag1 i3=some r:=by rw [hag1]; exact h
   unfold zdh at h
   refine zaJ (zyG (zyR 2 rfl (zbl (k:=1) rfl dc rfl rfl Tryz.underlying26 (zaW rfl zbC (zyN ?_)))))
   refine zyB rfl h (fun h => ?_) (fun h => ?_)
   ·
    refine zas (zaI (zaJ (zaC (zyG (zyR 2 rfl ?_)))))
    obtain ⟨q1,hq2,h⟩:=zbw h
    refine zar (k:=1) hq2 Tryz.underlying26 zqQ rfl dc rfl rfl rfl rfl (zab zrG rfl dc rfl (show _=((i3:Int).toNat)*6 from rfl) (zaH (i:=(i3:Int).toNat) (j:=0) (k:=1) (q:=q1) zou zes rfl dc rfl rfl (zaG hq2) rfl dc rfl (zbS rfl dc rfl Tryz.underlying9 (zaW rfl zcK (zyN ?_)))))
    refine zyB rfl h (fun h => ?_) (fun h => ?_)
    ·
     refine zyG (zyR 4 rfl (zyN (zaE (zaA (zaq (zaq (zaA (zaq ?_))))))))
     refine zd0 zbR zbQ 81 ?_
     refine zda (enc:=zbA) (e:=76) (size:=6) ?_
     cases h
     exact zaS (rs:=[.tmp 4,.tmp 5,.tmp 6,.tmp 7]) ((.pointer none),(.slice none 0 0)) (.inl rfl) Tryz.results9 (.cons (.tmp rfl) (.cons (.tmp rfl) (.cons (.tmp rfl) (.cons (.tmp rfl) .nil)))) rfl (zad [2,3] kr rfl)
    refine zas (zag (zaI (zat (zyR 1 rfl ?_))))
    obtain ⟨hg1,h⟩:=zbn h
    refine zaW rfl (zaX (r:=i3+1) (IntWalk.i64_in _ hg1)) (zyR 1 rfl (zaQ ?_))
    subst hag1
    exact za8 (n1,i3+1) h (Nat.lt_succ_self _) rfl (za5 rfl) (zad [0,1] kr rfl)
   refine za6 (zak (zak (zav ?_)))
   exact zai () h rfl (za5 rfl) (zad [0,1] kr rfl)
 rintro _ h
 rw [hj1] at h
 refine zyG (zyR 1 rfl ?_)
 obtain ⟨r2,hq3,h⟩:=zbw h
 refine zdu (vs:=[.string text1]) rfl dc rfl rfl rfl zx7 (znM hq3) Splits.nil ?_
 rintro v2
 refine zdA (L':=[cells b1 (zr0 l1) 23,zv6 hd1.v r1.1,zmV zcW zcV 106 v2 r2.1]) (zad [0,1,2] kr rfl) (zyR 1 rfl (zaY rfl dc rfl rfl (zaY rfl dc rfl rfl ?_)))
 refine zbc zsz rfl dc (fun b2 => ?_)
 refine zyR 1 rfl (za0 (k:=3) (vs:=(zr6 r2.2)) (l':=(zr6 r2.2)) zks rfl rfl rfl rfl rfl (show _≤_ by simp) rfl rfl ?_)
 refine zyN (zaJ (zyG (zyR 1 rfl ?_)))
 refine zln (k:=2) rfl (fun hv1 => ?_)
 refine zaW rfl (zmm Tryz.underlying58 hv1) (zyR 1 rfl ?_)
 refine zyS (s:=45) rfl h (fun h => ?_) (fun h => ?_)
 ·
  refine zyR 4 rfl (zyN (za9 rfl (zyG (zyR 4 rfl (zaQ ?_)))))
  refine zaI (zaE (zaq (zd0 zbR zbQ 81 ?_)))
  refine zda (enc:=zbA) (e:=76) (size:=6) ?_
  cases h
  exact zaS (rs:=[.tmp 4,.tmp 5,.tmp 6,.tmp 7]) ((.pointer none),(.slice none 0 0)) (.inl rfl) Tryz.results9 (.cons (.tmp rfl) (.cons (.tmp rfl) (.cons (.tmp rfl) (.cons (.tmp rfl) .nil)))) rfl (zad [4,5] kr rfl)
 refine zab zrH rfl dc rfl (show _=0 from rfl) (zam (k:=3) zvN rfl dc rfl rfl rfl (zaW rfl zcc (zyR 1 rfl (zyN ?_))))
 refine zyB rfl h (fun h => ?_) (fun h => ?_)
 ·
  refine zyG (zyR 4 rfl (zyN (zaE (zaq (zd0 zbR zbQ 81 ?_)))))
  refine zda (enc:=zbA) (e:=76) (size:=6) ?_
  cases h
  exact zaS (rs:=[.tmp 4,.tmp 5,.tmp 6,.tmp 7]) ((.pointer none),(.slice none 0 0)) (.inl rfl) Tryz.results9 (.cons (.tmp rfl) (.cons (.tmp rfl) (.cons (.tmp rfl) (.cons (.tmp rfl) .nil)))) rfl (zad [4,5] kr rfl)
 refine zas (zaI (zyG (zyR 1 rfl (zbb (k:=0) (cs:=(zr0 l1)) zlD rfl dc rfl rfl rfl rfl ?_))))
 obtain ⟨p1,hq4,h⟩:=zbw h
 refine zsn (As:=[zmV zcW zcV 106 v2 r2.1]) (zad [2] kr rfl) (zhG hq4) ?_
 rintro ⟨b3,hd2,hd3⟩ hv2
 have hkp:=h
 subst hv2
 have h:=hkp
 obtain ⟨r3,hq5,h⟩:=zbw h
 refine zfY (vs:=[zP b3,.agg (zr0 l1).toArray]) (Rd.nil:Rd _ _ []) rfl dc rfl rfl rfl zx5 (zoJ (bx1:=b3) (x1:=p1) (x1_h0:=hd2) (x1_h1:=hd3) (l1:=l1) hq5) Splits.nil (.own (zad [4] (by kernel_rfl) rfl) (fun _ _ h=>sepL.one1.1 h) (.own (zad [5] (by kernel_rfl) rfl) (fun _ _ h=>sepL.one1.1 h) (.own (zad [6] (by kernel_rfl) rfl) (fun _ _ h=>sepL.one1.1 h) .nil))) ?_
 rintro v3
 refine zdA (L':=[cells b1 (zr0 l1) 23,zv6 hd1.v r1.1,emp,cells b2 (zr6 r2.2) 60,cells b3 [.string p1.told_title,hd2.v,hd3.v,.string p1.source] 106,zv6 hd2.v p1.told_lines,zv5 hd3.v p1.told_stanzas,zmV zbR zbQ 81 v3 r3.1]) (zad [0,1,2,3,4,5,6,7] kr rfl) (zyR 1 rfl (zaY rfl dc rfl rfl (zaY rfl dc rfl rfl (zyR 2 rfl (zyH (zbb (k:=0) (cs:=(zr0 l1)) zlD rfl dc rfl rfl rfl rfl ?_))))))
 obtain ⟨r4,hq6,h⟩:=zbw h
 refine zbe (v:=.bool r4) (vs:=[.agg (zr0 l1).toArray]) rfl dc rfl rfl rfl zx2 (znJ (l1:=l1) hq6) (zyR 1 rfl (zyN (zaJ (zyG (zyR 1 rfl (zd2 rfl dc rfl zcB (zyN ?_)))))))
 refine zyB rfl h (fun h => ?_) (fun h => ?_)
 ·
  refine zyG (zyR 1 rfl ?_)
  refine zln (k:=7) rfl (fun hv3 => ?_)
  refine zaW rfl (zmm Tryz.underlying25 hv3) (zyR 1 rfl ?_)
  refine zyS (s:=62) rfl h (fun h => ?_) (fun h => ?_)
  ·
   refine zyR 1 rfl (zaW rfl zaT (zyR 5 rfl (zyN (zaE (zaq (zd0 zbR zbQ 81 ?_))))))
   refine zda (enc:=zbA) (e:=76) (size:=6) ?_
   cases h
   exact zaS (rs:=[.tmp 4,.tmp 5,.tmp 6,.tmp 7]) ((.pointer none),(.slice none 0 0)) (.inl rfl) Tryz.results9 (.cons (.tmp rfl) (.cons (.tmp rfl) (.cons (.tmp rfl) (.cons (.tmp rfl) .nil)))) rfl (zad [8,9] kr rfl)
  refine zyR 7 rfl (zyN (zaE (zaq (zd0 zbR zbQ 81 ?_))))
  refine zda (enc:=zbA) (e:=76) (size:=6) ?_
  cases h
  exact zaS (rs:=[.tmp 4,.tmp 5,.tmp 6,.tmp 7]) ((.pointer none),(.slice none 0 0)) (.inl rfl) Tryz.results9 (.cons (.tmp rfl) (.cons (.tmp rfl) (.cons (.tmp rfl) (.cons (.tmp rfl) .nil)))) rfl (zad [8,9] kr rfl)
 refine zas (zaI (zyG (zyR 3 rfl ?_)))
 refine zln (k:=7) rfl (fun hv4 => ?_)
 refine zaW rfl (zqs Tryz.underlying25 hv4) (zyR 1 rfl ?_)
 refine zyS (s:=70) rfl h (fun h => ?_) (fun h => ?_)
 ·
  refine zyR 1 rfl (zaW rfl zaT (zyR 5 rfl (zyN (zaE ?_))))
  cases h
  exact zaS (rs:=[.tmp 4,.tmp 5,.tmp 6,.tmp 7]) (v3,hd1.v) (.inl rfl) Tryz.results9 (.cons (.tmp rfl) (.cons (.tmp rfl) (.cons (.tmp rfl) (.cons (.tmp rfl) .nil)))) rfl (zad [7,1] kr rfl)
 refine zyR 7 rfl (zyN (zaE ?_))
 cases h
 exact zaS (rs:=[.tmp 4,.tmp 5,.tmp 6,.tmp 7]) (v3,hd1.v) (.inl rfl) Tryz.results9 (.cons (.tmp rfl) (.cons (.tmp rfl) (.cons (.tmp rfl) (.cons (.tmp rfl) .nil)))) rfl (zad [7,1] kr rfl)
end Go.Proofs.YtbempdelckaccaaGreatDoor
