/-
  Texts laid together: LgG, LgH, PlPageRefuses. Nothing is assumed.
-/
import Derived.Test.YtbempdelckaccaaDoorPageRefuses4
import Derived.Test.YtbempdelckaccaaDoorPageRefuses2
set_option maxRecDepth 100000
set_option maxHeartbeats 4000000

namespace Go.Proofs.YtbempdelckaccaaDoor
open Go.RowKit Go.Lib
set_option linter.unusedVariables false
set_option linter.unusedSimpArgs false
def zb3 (n1:Int) (j1:(List Int)→Option ByteArray) (ag1:(List Int)→Int→Option ByteArray) (b4:List Int) (i3:Int):Option ByteArray :=
zam (decide ((i3:Int)<n1)) (
zan (zcI b4 i3) fun (q1:Int) =>
grd (I64 (i3+1)) <|
ag1 (b4.set (i3:Int).toNat 32) (i3+1)
) (
j1 b4
)
def zcp (n1:Int):Option ByteArray :=
zbk (fun (j1:(List Int)→Option ByteArray) =>
grd (0≤n1∧n1≤2147483648) <|
zaT (fun _ _=>none) (zb3 n1 j1) zb8 (List.replicate (n1:Int).toNat 0:List Int) 0
) (fun (b1:List Int) =>
grd (∀ x∈b1,U8 x) <|
some (zf9 b1)
)
theorem zh0 {n1:Int} {r:ByteArray} (h:zcp n1=some r):FnP Tryd.prog 25 [zI n1] (.string r):=by
 unfold zcp at h
 refine FnP.intro Tryd.func25 rfl Tryd.ntmps25 (by simp) ?_
 intro w0 K
 obtain ⟨j1,hj1,h⟩:=zbU h
 refine zaZ (β:=(List Int)×Value) 2 rfl (fun b=>j1 b.1=some r) (fun b=>[]) (fun b=>[(3,b.2)]) (fun b=>[vec (zmg (.u8)) 5 1 b.2 b.1]) (fun cut => ?_) ?_
 ·
  refine zyG (zyR 1 rfl (zyH (zyR 1 rfl ?_)))
  obtain ⟨hg1,h⟩:=zbM h
  refine zi7 (z:=0) Tryd.underlying111 zsG zsv zc9 rfl dc rfl hg1 (fun v2 => ?_)
  refine zyR 1 rfl (zyN (cut (zyG (zyR 1 rfl (zyN (zaL ?_))))))
  refine zbK (β:=Nat×(List Int)×Int) (fun b=>zaT (fun _ _=>none) (zb3 n1 j1) b.1 b.2.1 b.2.2=some r) (fun b=>[]) (fun b=>[(0,zI n1),(3,v2),(4,zI b.2.2)]) (fun b=>[vec (zmg (.u8)) 5 1 v2 b.2.1]) (fun b=>b.1) (zb8,(List.replicate (n1:Int).toNat 0:List Int),0) h rfl (za1 rfl) (zae [0] kr rfl) ?_
  rintro ⟨n2,b4,i3⟩ h
  cases n2 with
  | zero=>exact zdu h
  | succ n2 =>
   obtain ⟨ag1,hag1⟩:∃ ag,ag=zaT (fun _ _=>none) (zb3 n1 j1) n2:=⟨_,rfl⟩
   have h:zb3 n1 j1 ag1 b4 i3=some r:=by rw [hag1]; exact h
   unfold zb3 at h
   refine zaF (zyG (zyR 2 rfl (zaQ rfl zbV (zyN ?_))))
   refine zyB rfl h (fun h => ?_) (fun h => ?_)
   ·
    refine zar (zaH (zaF (zaL (zaG (zyR 2 rfl ?_)))))
    obtain ⟨q1,hq1,h⟩:=zbT h
    refine zaX (k:=0) hq1 Tryd.underlying111 zsh rfl dc rfl rfl rfl rfl ?_
    refine zdw (i:=(i3:Int).toNat) (j:=0) (k:=0) (q:=q1) (q':=32) zsh zc9 rfl rfl rfl rfl (zaV hq1) rfl dc rfl (fun _ _=>rfl) ?_
    refine zaK (zal (zaH (zaG (zyR 1 rfl ?_))))
    obtain ⟨hg2,h⟩:=zbM h
    refine zaQ rfl (zaW (r:=i3+1) (IntWalk.i64_in _ hg2)) (zyR 1 rfl (zaK ?_))
    subst hag1
    exact za8 (n2,b4.set (i3:Int).toNat 32,i3+1) h (Nat.lt_succ_self _) rfl (za1 rfl) (zae [0] kr rfl)
   refine zbc (zap (zap (zaw ?_)))
   exact zai (b4,v2) h rfl (za1 rfl) (zae [0] kr rfl)
 rintro ⟨b1,v1⟩ h
 rw [hj1] at h
 refine zyG (zyR 1 rfl ?_)
 obtain ⟨hg3,h⟩:=zbM h
 refine zpp (k:=0) rfl (zoY hg3) ?_
 refine zny (k:=0) rfl dc rfl rfl Tryd.underlying111 Tryd.underlying5 Tryd.underlying9 (zyR 1 rfl (zyN (zax ?_)))
 cases h
 exact zaC (rs:=[.tmp 2]) () (.inl rfl) Tryd.results25 (.cons (.tmp rfl) .nil) rfl Splits.nil
def za7 (rows1:List Gapi_Row) (j1:(List (List ByteArray))→Option ((List (List ByteArray))×Bool)) (ag1:(List (List ByteArray))→Int→Int→Int→Int→Int→ByteArray→Int→Option ((List (List ByteArray))×Bool)) (out4:List (List ByteArray)) (last13:Int) (last14:Int) (last15:Int) (last16:Int) (last17:Int) (last18:ByteArray) (i3:Int):Option ((List (List ByteArray))×Bool) :=
zam (decide ((i3:Int)<(rows1.length:Int))) (
zbk (fun (j2:(List (List ByteArray))→Int→Int→Int→Int→Int→ByteArray→Option ((List (List ByteArray))×Bool)) =>
zan (zcI rows1 i3) fun (q1:Gapi_Row) =>
zam ((q1.Line:Int)==(-1)) (
j2 out4 last13 last14 last15 last16 last17 last18
) (
zbk (fun (j3:Bool→Bool→Option ((List (List ByteArray))×Bool)) =>
zam ((q1.Line:Int)==last13) (
zam ((q1.Stanza:Int)==last14) (
grd (I64 (last15+1)) <|
grd (I64 (last13+1)) <|
zam ((q1.Line:Int)==(last13+1)) (
zam ((q1.Part:Int)==0) (
zam ((q1.Stanza:Int)==last14) (
zam ((last13:Int)==(-1)) (
zam ((q1.Line:Int)==0) (
zam ((q1.Part:Int)==0) (
j3 false ((q1.Stanza:Int)==0)
) (
j3 false false
)
) (
j3 false false
)
) (
j3 ((q1.Part:Int)==(last15+1)) true
)
) (
grd (I64 (last14+1)) <|
zam ((last13:Int)==(-1)) (
zam ((q1.Line:Int)==0) (
zam ((q1.Part:Int)==0) (
j3 false ((q1.Stanza:Int)==0)
) (
j3 false false
)
) (
j3 false false
)
) (
j3 ((q1.Part:Int)==(last15+1)) ((q1.Stanza:Int)==(last14+1))
)
)
) (
zam ((last13:Int)==(-1)) (
zam ((q1.Line:Int)==0) (
zam ((q1.Part:Int)==0) (
j3 false ((q1.Stanza:Int)==0)
) (
j3 false false
)
) (
j3 false false
)
) (
j3 ((q1.Part:Int)==(last15+1)) false
)
)
) (
zam ((last13:Int)==(-1)) (
zam ((q1.Line:Int)==0) (
zam ((q1.Part:Int)==0) (
j3 false ((q1.Stanza:Int)==0)
) (
j3 false false
)
) (
j3 false false
)
) (
j3 ((q1.Part:Int)==(last15+1)) false
)
)
) (
grd (I64 (last13+1)) <|
zam ((q1.Line:Int)==(last13+1)) (
zam ((q1.Part:Int)==0) (
zam ((q1.Stanza:Int)==last14) (
zam ((last13:Int)==(-1)) (
zam ((q1.Line:Int)==0) (
zam ((q1.Part:Int)==0) (
j3 false ((q1.Stanza:Int)==0)
) (
j3 false false
)
) (
j3 false false
)
) (
j3 false true
)
) (
grd (I64 (last14+1)) <|
zam ((last13:Int)==(-1)) (
zam ((q1.Line:Int)==0) (
zam ((q1.Part:Int)==0) (
j3 false ((q1.Stanza:Int)==0)
) (
j3 false false
)
) (
j3 false false
)
) (
j3 false ((q1.Stanza:Int)==(last14+1))
)
)
) (
zam ((last13:Int)==(-1)) (
zam ((q1.Line:Int)==0) (
zam ((q1.Part:Int)==0) (
j3 false ((q1.Stanza:Int)==0)
) (
j3 false false
)
) (
j3 false false
)
) (
j3 false false
)
)
) (
zam ((last13:Int)==(-1)) (
zam ((q1.Line:Int)==0) (
zam ((q1.Part:Int)==0) (
j3 false ((q1.Stanza:Int)==0)
) (
j3 false false
)
) (
j3 false false
)
) (
j3 false false
)
)
)
) (
grd (I64 (last13+1)) <|
zam ((q1.Line:Int)==(last13+1)) (
zam ((q1.Part:Int)==0) (
zam ((q1.Stanza:Int)==last14) (
zam ((last13:Int)==(-1)) (
zam ((q1.Line:Int)==0) (
zam ((q1.Part:Int)==0) (
j3 false ((q1.Stanza:Int)==0)
) (
j3 false false
)
) (
j3 false false
)
) (
j3 false true
)
) (
grd (I64 (last14+1)) <|
zam ((last13:Int)==(-1)) (
zam ((q1.Line:Int)==0) (
zam ((q1.Part:Int)==0) (
j3 false ((q1.Stanza:Int)==0)
) (
j3 false false
)
) (
j3 false false
)
) (
j3 false ((q1.Stanza:Int)==(last14+1))
)
)
) (
zam ((last13:Int)==(-1)) (
zam ((q1.Line:Int)==0) (
zam ((q1.Part:Int)==0) (
j3 false ((q1.Stanza:Int)==0)
) (
j3 false false
)
) (
j3 false false
)
) (
j3 false false
)
)
) (
zam ((last13:Int)==(-1)) (
zam ((q1.Line:Int)==0) (
zam ((q1.Part:Int)==0) (
j3 false ((q1.Stanza:Int)==0)
) (
j3 false false
)
) (
j3 false false
)
) (
j3 false false
)
)
)
) (fun (goes1:Bool) (next1:Bool) =>
zbk (fun (j4:Option ((List (List ByteArray))×Bool)) =>
zam (!goes1) (
zam (!next1) (
some (([]:List (List ByteArray)),false)
) (
j4
)
) (
j4
)
) (
zbk (fun (j5:(List (List ByteArray))→Option ((List (List ByteArray))×Bool)) =>
zam (next1) (
zbk (fun (j6:Bool→Bool→Option ((List (List ByteArray))×Bool)) =>
zam (decide ((q1.Indent:Int)<0)) (
some (([]:List (List ByteArray)),false)
) (
zam (decide ((1024:Int)<q1.Indent)) (
some (([]:List (List ByteArray)),false)
) (
zam (decide ((0:Int)<(q1.Text.size:Int))) (
zan (zfg q1.Text 0) fun (c1:Int) =>
zam ((c1:Int)==32) (
some (([]:List (List ByteArray)),false)
) (
j6 true ((c1:Int)==32)
)
) (
j6 false false
)
)
)
) (fun (x1:Bool) (x2:Bool) =>
zbk (fun (j7:(List (List ByteArray))→Option ((List (List ByteArray))×Bool)) =>
zam ((q1.Stanza:Int)==(out4.length:Int)) (
grd (out4.length+1≤2147483648) <|
j7 (out4++[([]:List ByteArray)])
) (
j7 out4
)
) (fun (out7:List (List ByteArray)) =>
zan (zcI out7 q1.Stanza) fun (x3:List ByteArray) =>
zan (zcp q1.Indent) fun (r1:ByteArray) =>
grd (r1.size+q1.Text.size≤9223372036854775807) <|
grd (x3.length+1≤2147483648) <|
j5 (out7.set (q1.Stanza:Int).toNat (x3++[r1++q1.Text]))
)
)
) (
zan (zcI out4 q1.Stanza) fun (x4:List ByteArray) =>
grd (I64 ((x4.length:Int) - 1)) <|
zan (zcI out4 q1.Stanza) fun (x5:List ByteArray) =>
zan (zcI x5 ((x4.length:Int) - 1)) fun (q2:ByteArray) =>
grd (q2.size+q1.Text.size≤9223372036854775807) <|
j5 (out4.set ((q1.Stanza:Int).toNat) (x5.set ((x4.length:Int) - 1:Int).toNat (q2++q1.Text)))
)
) (fun (out6:List (List ByteArray)) =>
j2 out6 q1.Line q1.Stanza q1.Part q1.Indent q1.Number q1.Text
)
)
)
)
) (fun (out5:List (List ByteArray)) (last19:Int) (last20:Int) (last21:Int) (last22:Int) (last23:Int) (last24:ByteArray) =>
grd (I64 (i3+1)) <|
ag1 out5 last19 last20 last21 last22 last23 last24 (i3+1)
)
) (
j1 out4
)
def zdy (rows1:List Gapi_Row):Option ((List (List ByteArray))×Bool) :=
zbk (fun (j1:(List (List ByteArray))→Option ((List (List ByteArray))×Bool)) =>
zaT (fun _ _ _ _ _ _ _ _=>none) (za7 rows1 j1) zb8 ([]:List (List ByteArray)) (-1) 0 0 0 0 ByteArray.empty 0
) (fun (out1:List (List ByteArray)) =>
some (out1,true)
)
theorem zjo {vvrows1 vrows1:Value} {orows1:Nat} {rows1:List Gapi_Row} (hwrows1:VwO vvrows1 orows1 vrows1 rows1) {r:((List (List ByteArray))×Bool)} (h:zdy rows1=some r):FnR Tryd.prog 13 [vrows1] [zhd enc_Gapi_Row 6 vvrows1 orows1 rows1] [] (fun v0:Value=>.tuple #[v0,.bool r.2]) (fun v0=>[zfV zau zaz 49 1 v0 r.1]):=by
 unfold zdy at h
 refine FnR.intro Tryd.func13 rfl Tryd.ntmps13 (by simp) ?_
 intro w0 K hrd
 obtain ⟨j1,hj1,h⟩:=zbU h
 refine zaZ (β:=(List (List ByteArray))×Hd) 3 rfl (fun b=>j1 b.1=some r) (fun b=>[]) (fun b=>[(4,b.2.v)]) (fun b=>[zfV zau zaz 49 1 b.2.v b.1]) (fun cut => ?_) ?_
 ·
  refine zyG (zyR 2 rfl (zyH (zyR 1 rfl (zyH ?_))))
  refine zbJ (v:=.agg #[zI (-1),zI 0,zI 0,zI 0,zI 0,.string ByteArray.empty]) (ps:=[(0,.const (zI (-1)))]) rfl dc rfl (fun _=>by kernel_rfl) ?_
  refine zbY znI rfl dc (fun b1 => ?_)
  refine za6 (k:=0) (vs:=[zI (-1),zI 0,zI 0,zI 0,zI 0,.string ByteArray.empty]) (l':=[zI (-1),zI 0,zI 0,zI 0,zI 0,.string ByteArray.empty]) zhS rfl rfl rfl rfl rfl (show _≤_ by simp) rfl rfl ?_
  refine zyN (cut (zyG (zyR 1 rfl (zyN (zaL (znA (enc:=zau) (nest:=zaz) (e:=49) (size:=1) ?_))))))
  refine zbK (β:=Nat×(List (List ByteArray))×Int×Int×Int×Int×Int×ByteArray×Int×Hd) (fun b=>zaT (fun _ _ _ _ _ _ _ _=>none) (za7 rows1 j1) b.1 b.2.1 b.2.2.1 b.2.2.2.1 b.2.2.2.2.1 b.2.2.2.2.2.1 b.2.2.2.2.2.2.1 b.2.2.2.2.2.2.2.1 b.2.2.2.2.2.2.2.2.1=some r) (fun b=>[]) (fun b=>[(0,vrows1),(4,b.2.2.2.2.2.2.2.2.2.v),(5,zP b1),(6,zI b.2.2.2.2.2.2.2.2.1)]) (fun b=>[zfV zau zaz 49 1 b.2.2.2.2.2.2.2.2.2.v b.2.1,cells b1 [zI b.2.2.1,zI b.2.2.2.1,zI b.2.2.2.2.1,zI b.2.2.2.2.2.1,zI b.2.2.2.2.2.2.1,.string b.2.2.2.2.2.2.2.1] 38]) (fun b=>b.1) (zb8,([]:List (List ByteArray)),(-1),0,0,0,0,ByteArray.empty,0,Hd.nil) h rfl (za1 rfl) (zae [1,0] kr rfl) ?_
  rintro ⟨n1,out4,last13,last14,last15,last16,last17,last18,i3,hd4⟩ h
  cases n1 with
  | zero=>exact zdu h
  | succ n1 =>
   obtain ⟨ag1,hag1⟩:∃ ag,ag=zaT (fun _ _ _ _ _ _ _ _=>none) (za7 rows1 j1) n1:=⟨_,rfl⟩
   have h:za7 rows1 j1 ag1 out4 last13 last14 last15 last16 last17 last18 i3=some r:=by rw [hag1]; exact h
   unfold za7 at h
   refine zaF (zyG (zyR 2 rfl (ziw hwrows1 rfl dc rfl Tryd.underlying30 (zaQ rfl zbV (zyN ?_)))))
   refine zyB rfl h (fun h => ?_) (fun h => ?_)
   ·
    refine zar (zaH ?_)
    obtain ⟨j2,hj2,h⟩:=zbU h
    refine zaZ (β:=(List (List ByteArray))×Int×Int×Int×Int×Int×ByteArray×Hd) 0 rfl (fun b=>j2 b.1 b.2.1 b.2.2.1 b.2.2.2.1 b.2.2.2.2.1 b.2.2.2.2.2.1 b.2.2.2.2.2.2.1=some r) (fun b=>[]) (fun b=>[(0,vrows1),(4,b.2.2.2.2.2.2.2.v),(5,zP b1),(6,zI i3)]) (fun b=>[zfV zau zaz 49 1 b.2.2.2.2.2.2.2.v b.1,cells b1 [zI b.2.1,zI b.2.2.1,zI b.2.2.2.1,zI b.2.2.2.2.1,zI b.2.2.2.2.2.1,.string b.2.2.2.2.2.2.1] 38]) (fun cut => ?_) ?_
    ·
     refine cut (zaL (zyG (zyR 2 rfl ?_)))
     obtain ⟨q1,hq1,h⟩:=zbT h
     refine zd2 hwrows1 hq1 Tryd.underlying30 zhS rfl dc rfl rfl rfl (zfT (m:=(i3:Int).toNat) (j:=0) (i:=0) (q:=q1) (cs:=(zr2 q1)) hrd rfl zlP rfl dc rfl (zaV hq1) rfl rfl rfl ?_)
     refine zbY znI rfl dc (fun b2 => ?_)
     refine za6 (k:=2) (vs:=(zr2 q1)) (l':=(zr2 q1)) zhS rfl rfl rfl rfl rfl (show _≤_ by simp) rfl rfl ?_
     refine zyN (zaF (zyG (zac zaU rfl dc rfl (show _=0 from rfl) (zah (k:=2) za5 rfl dc rfl rfl rfl (zaQ rfl zaq (zyN ?_))))))
     refine zyB rfl h (fun h => ?_) (fun h => ?_)
     ·
      refine zbc (zap (zaw ?_))
      exact zai (out4,last13,last14,last15,last16,last17,last18,hd4) h rfl (za1 rfl) (zae [0,1] kr rfl)
     refine zar (zaH ?_)
     obtain ⟨j3,hj3,h⟩:=zbU h
     refine zaZ (β:=Bool×Bool) 2 rfl (fun b=>j3 b.1 b.2=some r) (fun b=>[]) (fun b=>[(0,vrows1),(4,hd4.v),(5,zP b1),(6,zI i3),(7,zP b2),(8,.bool b.1),(9,.bool b.2)]) (fun b=>[zfV zau zaz 49 1 hd4.v out4,cells b1 [zI last13,zI last14,zI last15,zI last16,zI last17,.string last18] 38,cells b2 (zr2 q1) 38]) (fun cut => ?_) ?_
     ·
      refine zyG (zac zaU rfl dc rfl (show _=0 from rfl) (zah (k:=2) za5 rfl dc rfl rfl rfl (zac zaU rfl dc rfl (show _=0 from rfl) (zah (k:=1) za5 rfl dc rfl rfl rfl (zaQ rfl zaq (zyR 1 rfl ?_))))))
      refine zyS (s:=30) rfl h (fun h => ?_) (fun h => ?_)
      ·
       refine zac zbr rfl dc rfl (show _=1 from rfl) (zah (k:=2) za5 rfl dc rfl rfl rfl (zac zbr rfl dc rfl (show _=1 from rfl) (zah (k:=1) za5 rfl dc rfl rfl rfl (zaQ rfl zaq (zyR 2 rfl ?_)))))
       refine zyS (s:=37) rfl h (fun h => ?_) (fun h => ?_)
       ·
        refine zac zbE rfl dc rfl (show _=2 from rfl) (zah (k:=2) za5 rfl dc rfl rfl rfl (zac zbE rfl dc rfl (show _=2 from rfl) (zah (k:=1) za5 rfl dc rfl rfl rfl ?_)))
        obtain ⟨hg1,h⟩:=zbM h
        refine zaQ rfl (zaW (r:=last15+1) (IntWalk.i64_in _ hg1)) (zaQ rfl zaq (zyR 2 rfl (zyH (zac zaU rfl dc rfl (show _=0 from rfl) (zah (k:=2) za5 rfl dc rfl rfl rfl (zac zaU rfl dc rfl (show _=0 from rfl) (zah (k:=1) za5 rfl dc rfl rfl rfl ?_)))))))
        obtain ⟨hg2,h⟩:=zbM h
        refine zaQ rfl (zaW (r:=last13+1) (IntWalk.i64_in _ hg2)) (zaQ rfl zaq (zyR 1 rfl ?_))
        refine zyS (s:=51) rfl h (fun h => ?_) (fun h => ?_)
        ·
         refine zac zbE rfl dc rfl (show _=2 from rfl) (zah (k:=2) za5 rfl dc rfl rfl rfl (zaQ rfl zaq (zyR 2 rfl ?_)))
         refine zyS (s:=56) rfl h (fun h => ?_) (fun h => ?_)
         ·
          refine zac zbr rfl dc rfl (show _=1 from rfl) (zah (k:=2) za5 rfl dc rfl rfl rfl (zac zbr rfl dc rfl (show _=1 from rfl) (zah (k:=1) za5 rfl dc rfl rfl rfl (zaQ rfl zaq (zyR 1 rfl ?_)))))
          refine zyS (s:=62) rfl h (fun h => ?_) (fun h => ?_)
          ·
           refine zyR 9 rfl (zyN (cut (zyG ?_)))
           refine zac zaU rfl dc rfl (show _=0 from rfl) (zah (k:=1) za5 rfl dc rfl rfl rfl (zaQ rfl zaq (zyN ?_)))
           refine zyB rfl h (fun h => ?_) (fun h => ?_)
           ·
            refine zbd (b:=(q1.Line:Int)==0) (fun hb9 => ?_) (fun hb9 => ?_)
            ·
             have h:=zc1 hb9 h
             refine zbd (b:=(q1.Part:Int)==0) (fun hb10 => ?_) (fun hb10 => ?_)
             ·
              have h:=zc1 hb10 h
              refine zaN 14 [(0,74,zP b2),(1,75,zI q1.Line),(2,76,.bool true),(3,77,.bool true),(4,78,.pointer (some ⟨b2,2,none⟩)),(5,79,zI q1.Part),(6,80,.bool true),(7,81,.bool true),(8,82,.bool true),(9,83,.pointer (some ⟨b2,1,none⟩)),(10,84,zI q1.Stanza),(11,85,.bool ((q1.Stanza:Int)==0)),(12,86,.bool ((q1.Stanza:Int)==0)),(13,8,.bool false)] mixed kr kr dc (by rfl) kr kr (zaa ?_ (zaa ?_ (zaa ?_ (zyP 1 3 rfl (zaa ?_ (zaa ?_ (zaa ?_ (zyP 2 7 rfl (zaa ?_ (zaa ?_ (zaa ?_ (zyP 1 12 rfl (zaa ?_ DrawPre.nil))))))))))))) ?_
              · exact fun D n d c u i=>zac zaU rfl dc (zaD (by rfl) rfl) (show _=0 from rfl) (zad 0 u i rfl)
              · exact fun D n d c u i=>zah (k:=2) za5 rfl dc (zab (m:=0) u rfl (d 0 dc)) rfl rfl (zad 1 u i rfl)
              · exact fun D n d c u i=>zaM rfl dc (zab (m:=1) u rfl (d 1 dc)) rfl zaq (zaR (show Value.bool ((q1.Line:Int)==0)=Value.bool true from congrArg Value.bool hb9) (zad 2 u i rfl))
              · exact fun D n d c u i=>zac zbE (zbD rfl (zab (m:=3) u rfl (d 3 dc))) dc (zaD (by rfl) rfl) (show _=2 from rfl) (zad 4 u i rfl)
              · exact fun D n d c u i=>zah (k:=2) za5 (zbD rfl (zab (m:=3) u rfl (d 3 dc))) dc (zab (m:=4) u rfl (d 4 dc)) rfl rfl (zad 5 u i rfl)
              · exact fun D n d c u i=>zaM (zbD rfl (zab (m:=3) u rfl (d 3 dc))) dc (zab (m:=5) u rfl (d 5 dc)) rfl zaq (zaR (show Value.bool ((q1.Part:Int)==0)=Value.bool true from congrArg Value.bool hb10) (zad 6 u i rfl))
              · exact fun D n d c u i=>zac zbr (zbD rfl (zab (m:=8) u rfl (d 8 dc))) dc (zaD (by rfl) rfl) (show _=1 from rfl) (zad 9 u i rfl)
              · exact fun D n d c u i=>zah (k:=2) za5 (zbD rfl (zab (m:=8) u rfl (d 8 dc))) dc (zab (m:=9) u rfl (d 9 dc)) rfl rfl (zad 10 u i rfl)
              · exact fun D n d c u i=>zaM (zbD rfl (zab (m:=8) u rfl (d 8 dc))) dc (zab (m:=10) u rfl (d 10 dc)) rfl zaq (zad 11 u i rfl)
              · exact fun D n d c u i=>zyR 1 rfl (zad 13 u i rfl)
              refine zyR 1 rfl (zaK ?_)
              exact zai (false,(q1.Stanza:Int)==0) h rfl (za1 rfl) (zae [0,1,2] kr rfl)
             have h:=zc2 hb10 h
             refine zaN 14 [(0,74,zP b2),(1,75,zI q1.Line),(2,76,.bool true),(3,77,.bool true),(4,78,.pointer (some ⟨b2,2,none⟩)),(5,79,zI q1.Part),(6,80,.bool false),(7,81,.bool false),(8,82,.bool false),(9,83,undef),(10,84,undef),(11,85,undef),(12,86,.bool false),(13,8,.bool false)] mixed kr kr dc (by rfl) kr kr (zaa ?_ (zaa ?_ (zaa ?_ (zyP 1 3 rfl (zaa ?_ (zaa ?_ (zaa ?_ (zyP 6 7 rfl (zaa ?_ DrawPre.nil))))))))) ?_
             · exact fun D n d c u i=>zac zaU rfl dc (zaD (by rfl) rfl) (show _=0 from rfl) (zad 0 u i rfl)
             · exact fun D n d c u i=>zah (k:=2) za5 rfl dc (zab (m:=0) u rfl (d 0 dc)) rfl rfl (zad 1 u i rfl)
             · exact fun D n d c u i=>zaM rfl dc (zab (m:=1) u rfl (d 1 dc)) rfl zaq (zaR (show Value.bool ((q1.Line:Int)==0)=Value.bool true from congrArg Value.bool hb9) (zad 2 u i rfl))
             · exact fun D n d c u i=>zac zbE (zbD rfl (zab (m:=3) u rfl (d 3 dc))) dc (zaD (by rfl) rfl) (show _=2 from rfl) (zad 4 u i rfl)
             · exact fun D n d c u i=>zah (k:=2) za5 (zbD rfl (zab (m:=3) u rfl (d 3 dc))) dc (zab (m:=4) u rfl (d 4 dc)) rfl rfl (zad 5 u i rfl)
             · exact fun D n d c u i=>zaM (zbD rfl (zab (m:=3) u rfl (d 3 dc))) dc (zab (m:=5) u rfl (d 5 dc)) rfl zaq (zaR (show Value.bool ((q1.Part:Int)==0)=Value.bool false from congrArg Value.bool hb10) (zad 6 u i rfl))
             · exact fun D n d c u i=>zyR 1 rfl (zad 13 u i rfl)
             refine zyR 1 rfl (zaK ?_)
             exact zai (false,false) h rfl (za1 rfl) (zae [0,1,2] kr rfl)
            have h:=zc2 hb9 h
            refine zaN 14 [(0,74,zP b2),(1,75,zI q1.Line),(2,76,.bool false),(3,77,.bool false),(4,78,undef),(5,79,undef),(6,80,undef),(7,81,.bool false),(8,82,.bool false),(9,83,undef),(10,84,undef),(11,85,undef),(12,86,.bool false),(13,8,.bool false)] mixed kr kr dc (by rfl) kr kr (zaa ?_ (zaa ?_ (zaa ?_ (zyP 10 3 rfl (zaa ?_ DrawPre.nil))))) ?_
            · exact fun D n d c u i=>zac zaU rfl dc (zaD (by rfl) rfl) (show _=0 from rfl) (zad 0 u i rfl)
            · exact fun D n d c u i=>zah (k:=2) za5 rfl dc (zab (m:=0) u rfl (d 0 dc)) rfl rfl (zad 1 u i rfl)
            · exact fun D n d c u i=>zaM rfl dc (zab (m:=1) u rfl (d 1 dc)) rfl zaq (zaR (show Value.bool ((q1.Line:Int)==0)=Value.bool false from congrArg Value.bool hb9) (zad 2 u i rfl))
            · exact fun D n d c u i=>zyR 1 rfl (zad 13 u i rfl)
            refine zyR 1 rfl (zaK ?_)
            exact zai (false,false) h rfl (za1 rfl) (zae [0,1,2] kr rfl)
           refine zar ?_
           exact zai ((q1.Part:Int)==(last15+1),true) h rfl (za1 rfl) (zae [0,1,2] kr rfl)
          refine zac zbr rfl dc rfl (show _=1 from rfl) (zah (k:=2) za5 rfl dc rfl rfl rfl (zac zbr rfl dc rfl (show _=1 from rfl) (zah (k:=1) za5 rfl dc rfl rfl rfl ?_)))
          obtain ⟨hg3,h⟩:=zbM h
          refine zaQ rfl (zaW (r:=last14+1) (IntWalk.i64_in _ hg3)) (zaQ rfl zaq (zyR 3 rfl (zyN (cut (zyG (zac zaU rfl dc rfl (show _=0 from rfl) (zah (k:=1) za5 rfl dc rfl rfl rfl (zaQ rfl zaq (zaK ?_)))))))))
          refine zaH ?_
          refine zyB rfl h (fun h => ?_) (fun h => ?_)
          ·
           refine zbd (b:=(q1.Line:Int)==0) (fun hb12 => ?_) (fun hb12 => ?_)
           ·
            have h:=zc1 hb12 h
            refine zbd (b:=(q1.Part:Int)==0) (fun hb13 => ?_) (fun hb13 => ?_)
            ·
             have h:=zc1 hb13 h
             refine zaN 14 [(0,74,zP b2),(1,75,zI q1.Line),(2,76,.bool true),(3,77,.bool true),(4,78,.pointer (some ⟨b2,2,none⟩)),(5,79,zI q1.Part),(6,80,.bool true),(7,81,.bool true),(8,82,.bool true),(9,83,.pointer (some ⟨b2,1,none⟩)),(10,84,zI q1.Stanza),(11,85,.bool ((q1.Stanza:Int)==0)),(12,86,.bool ((q1.Stanza:Int)==0)),(13,8,.bool false)] mixed kr kr dc (by rfl) kr kr (zaa ?_ (zaa ?_ (zaa ?_ (zyP 1 3 rfl (zaa ?_ (zaa ?_ (zaa ?_ (zyP 2 7 rfl (zaa ?_ (zaa ?_ (zaa ?_ (zyP 1 12 rfl (zaa ?_ DrawPre.nil))))))))))))) ?_
             · exact fun D n d c u i=>zac zaU rfl dc (zaD (by rfl) rfl) (show _=0 from rfl) (zad 0 u i rfl)
             · exact fun D n d c u i=>zah (k:=2) za5 rfl dc (zab (m:=0) u rfl (d 0 dc)) rfl rfl (zad 1 u i rfl)
             · exact fun D n d c u i=>zaM rfl dc (zab (m:=1) u rfl (d 1 dc)) rfl zaq (zaR (show Value.bool ((q1.Line:Int)==0)=Value.bool true from congrArg Value.bool hb12) (zad 2 u i rfl))
             · exact fun D n d c u i=>zac zbE (zbD rfl (zab (m:=3) u rfl (d 3 dc))) dc (zaD (by rfl) rfl) (show _=2 from rfl) (zad 4 u i rfl)
             · exact fun D n d c u i=>zah (k:=2) za5 (zbD rfl (zab (m:=3) u rfl (d 3 dc))) dc (zab (m:=4) u rfl (d 4 dc)) rfl rfl (zad 5 u i rfl)
             · exact fun D n d c u i=>zaM (zbD rfl (zab (m:=3) u rfl (d 3 dc))) dc (zab (m:=5) u rfl (d 5 dc)) rfl zaq (zaR (show Value.bool ((q1.Part:Int)==0)=Value.bool true from congrArg Value.bool hb13) (zad 6 u i rfl))
             · exact fun D n d c u i=>zac zbr (zbD rfl (zab (m:=8) u rfl (d 8 dc))) dc (zaD (by rfl) rfl) (show _=1 from rfl) (zad 9 u i rfl)
             · exact fun D n d c u i=>zah (k:=2) za5 (zbD rfl (zab (m:=8) u rfl (d 8 dc))) dc (zab (m:=9) u rfl (d 9 dc)) rfl rfl (zad 10 u i rfl)
             · exact fun D n d c u i=>zaM (zbD rfl (zab (m:=8) u rfl (d 8 dc))) dc (zab (m:=10) u rfl (d 10 dc)) rfl zaq (zad 11 u i rfl)
             · exact fun D n d c u i=>zyR 1 rfl (zad 13 u i rfl)
             refine zyR 1 rfl (zaK ?_)
             exact zai (false,(q1.Stanza:Int)==0) h rfl (za1 rfl) (zae [0,1,2] kr rfl)
            have h:=zc2 hb13 h
            refine zaN 14 [(0,74,zP b2),(1,75,zI q1.Line),(2,76,.bool true),(3,77,.bool true),(4,78,.pointer (some ⟨b2,2,none⟩)),(5,79,zI q1.Part),(6,80,.bool false),(7,81,.bool false),(8,82,.bool false),(9,83,undef),(10,84,undef),(11,85,undef),(12,86,.bool false),(13,8,.bool false)] mixed kr kr dc (by rfl) kr kr (zaa ?_ (zaa ?_ (zaa ?_ (zyP 1 3 rfl (zaa ?_ (zaa ?_ (zaa ?_ (zyP 6 7 rfl (zaa ?_ DrawPre.nil))))))))) ?_
            · exact fun D n d c u i=>zac zaU rfl dc (zaD (by rfl) rfl) (show _=0 from rfl) (zad 0 u i rfl)
            · exact fun D n d c u i=>zah (k:=2) za5 rfl dc (zab (m:=0) u rfl (d 0 dc)) rfl rfl (zad 1 u i rfl)
            · exact fun D n d c u i=>zaM rfl dc (zab (m:=1) u rfl (d 1 dc)) rfl zaq (zaR (show Value.bool ((q1.Line:Int)==0)=Value.bool true from congrArg Value.bool hb12) (zad 2 u i rfl))
            · exact fun D n d c u i=>zac zbE (zbD rfl (zab (m:=3) u rfl (d 3 dc))) dc (zaD (by rfl) rfl) (show _=2 from rfl) (zad 4 u i rfl)
            · exact fun D n d c u i=>zah (k:=2) za5 (zbD rfl (zab (m:=3) u rfl (d 3 dc))) dc (zab (m:=4) u rfl (d 4 dc)) rfl rfl (zad 5 u i rfl)
            · exact fun D n d c u i=>zaM (zbD rfl (zab (m:=3) u rfl (d 3 dc))) dc (zab (m:=5) u rfl (d 5 dc)) rfl zaq (zaR (show Value.bool ((q1.Part:Int)==0)=Value.bool false from congrArg Value.bool hb13) (zad 6 u i rfl))
            · exact fun D n d c u i=>zyR 1 rfl (zad 13 u i rfl)
            refine zyR 1 rfl (zaK ?_)
            exact zai (false,false) h rfl (za1 rfl) (zae [0,1,2] kr rfl)
           have h:=zc2 hb12 h
           refine zaN 14 [(0,74,zP b2),(1,75,zI q1.Line),(2,76,.bool false),(3,77,.bool false),(4,78,undef),(5,79,undef),(6,80,undef),(7,81,.bool false),(8,82,.bool false),(9,83,undef),(10,84,undef),(11,85,undef),(12,86,.bool false),(13,8,.bool false)] mixed kr kr dc (by rfl) kr kr (zaa ?_ (zaa ?_ (zaa ?_ (zyP 10 3 rfl (zaa ?_ DrawPre.nil))))) ?_
           · exact fun D n d c u i=>zac zaU rfl dc (zaD (by rfl) rfl) (show _=0 from rfl) (zad 0 u i rfl)
           · exact fun D n d c u i=>zah (k:=2) za5 rfl dc (zab (m:=0) u rfl (d 0 dc)) rfl rfl (zad 1 u i rfl)
           · exact fun D n d c u i=>zaM rfl dc (zab (m:=1) u rfl (d 1 dc)) rfl zaq (zaR (show Value.bool ((q1.Line:Int)==0)=Value.bool false from congrArg Value.bool hb12) (zad 2 u i rfl))
           · exact fun D n d c u i=>zyR 1 rfl (zad 13 u i rfl)
           refine zyR 1 rfl (zaK ?_)
           exact zai (false,false) h rfl (za1 rfl) (zae [0,1,2] kr rfl)
          refine zar ?_
          exact zai ((q1.Part:Int)==(last15+1),(q1.Stanza:Int)==(last14+1)) h rfl (za1 rfl) (zae [0,1,2] kr rfl)
         refine zyR 14 rfl ?_
         refine zyR 1 rfl (zyN (cut (zyG (zac zaU rfl dc rfl (show _=0 from rfl) (zah (k:=1) za5 rfl dc rfl rfl rfl (zaQ rfl zaq (zyN ?_)))))))
         refine zyB rfl h (fun h => ?_) (fun h => ?_)
         ·
          refine zbd (b:=(q1.Line:Int)==0) (fun hb15 => ?_) (fun hb15 => ?_)
          ·
           have h:=zc1 hb15 h
           refine zbd (b:=(q1.Part:Int)==0) (fun hb16 => ?_) (fun hb16 => ?_)
           ·
            have h:=zc1 hb16 h
            refine zaN 14 [(0,74,zP b2),(1,75,zI q1.Line),(2,76,.bool true),(3,77,.bool true),(4,78,.pointer (some ⟨b2,2,none⟩)),(5,79,zI q1.Part),(6,80,.bool true),(7,81,.bool true),(8,82,.bool true),(9,83,.pointer (some ⟨b2,1,none⟩)),(10,84,zI q1.Stanza),(11,85,.bool ((q1.Stanza:Int)==0)),(12,86,.bool ((q1.Stanza:Int)==0)),(13,8,.bool false)] mixed kr kr dc (by rfl) kr kr (zaa ?_ (zaa ?_ (zaa ?_ (zyP 1 3 rfl (zaa ?_ (zaa ?_ (zaa ?_ (zyP 2 7 rfl (zaa ?_ (zaa ?_ (zaa ?_ (zyP 1 12 rfl (zaa ?_ DrawPre.nil))))))))))))) ?_
            · exact fun D n d c u i=>zac zaU rfl dc (zaD (by rfl) rfl) (show _=0 from rfl) (zad 0 u i rfl)
            · exact fun D n d c u i=>zah (k:=2) za5 rfl dc (zab (m:=0) u rfl (d 0 dc)) rfl rfl (zad 1 u i rfl)
            · exact fun D n d c u i=>zaM rfl dc (zab (m:=1) u rfl (d 1 dc)) rfl zaq (zaR (show Value.bool ((q1.Line:Int)==0)=Value.bool true from congrArg Value.bool hb15) (zad 2 u i rfl))
            · exact fun D n d c u i=>zac zbE (zbD rfl (zab (m:=3) u rfl (d 3 dc))) dc (zaD (by rfl) rfl) (show _=2 from rfl) (zad 4 u i rfl)
            · exact fun D n d c u i=>zah (k:=2) za5 (zbD rfl (zab (m:=3) u rfl (d 3 dc))) dc (zab (m:=4) u rfl (d 4 dc)) rfl rfl (zad 5 u i rfl)
            · exact fun D n d c u i=>zaM (zbD rfl (zab (m:=3) u rfl (d 3 dc))) dc (zab (m:=5) u rfl (d 5 dc)) rfl zaq (zaR (show Value.bool ((q1.Part:Int)==0)=Value.bool true from congrArg Value.bool hb16) (zad 6 u i rfl))
            · exact fun D n d c u i=>zac zbr (zbD rfl (zab (m:=8) u rfl (d 8 dc))) dc (zaD (by rfl) rfl) (show _=1 from rfl) (zad 9 u i rfl)
            · exact fun D n d c u i=>zah (k:=2) za5 (zbD rfl (zab (m:=8) u rfl (d 8 dc))) dc (zab (m:=9) u rfl (d 9 dc)) rfl rfl (zad 10 u i rfl)
            · exact fun D n d c u i=>zaM (zbD rfl (zab (m:=8) u rfl (d 8 dc))) dc (zab (m:=10) u rfl (d 10 dc)) rfl zaq (zad 11 u i rfl)
            · exact fun D n d c u i=>zyR 1 rfl (zad 13 u i rfl)
            refine zyR 1 rfl (zaK ?_)
            exact zai (false,(q1.Stanza:Int)==0) h rfl (za1 rfl) (zae [0,1,2] kr rfl)
           have h:=zc2 hb16 h
           refine zaN 14 [(0,74,zP b2),(1,75,zI q1.Line),(2,76,.bool true),(3,77,.bool true),(4,78,.pointer (some ⟨b2,2,none⟩)),(5,79,zI q1.Part),(6,80,.bool false),(7,81,.bool false),(8,82,.bool false),(9,83,undef),(10,84,undef),(11,85,undef),(12,86,.bool false),(13,8,.bool false)] mixed kr kr dc (by rfl) kr kr (zaa ?_ (zaa ?_ (zaa ?_ (zyP 1 3 rfl (zaa ?_ (zaa ?_ (zaa ?_ (zyP 6 7 rfl (zaa ?_ DrawPre.nil))))))))) ?_
           · exact fun D n d c u i=>zac zaU rfl dc (zaD (by rfl) rfl) (show _=0 from rfl) (zad 0 u i rfl)
           · exact fun D n d c u i=>zah (k:=2) za5 rfl dc (zab (m:=0) u rfl (d 0 dc)) rfl rfl (zad 1 u i rfl)
           · exact fun D n d c u i=>zaM rfl dc (zab (m:=1) u rfl (d 1 dc)) rfl zaq (zaR (show Value.bool ((q1.Line:Int)==0)=Value.bool true from congrArg Value.bool hb15) (zad 2 u i rfl))
           · exact fun D n d c u i=>zac zbE (zbD rfl (zab (m:=3) u rfl (d 3 dc))) dc (zaD (by rfl) rfl) (show _=2 from rfl) (zad 4 u i rfl)
           · exact fun D n d c u i=>zah (k:=2) za5 (zbD rfl (zab (m:=3) u rfl (d 3 dc))) dc (zab (m:=4) u rfl (d 4 dc)) rfl rfl (zad 5 u i rfl)
           · exact fun D n d c u i=>zaM (zbD rfl (zab (m:=3) u rfl (d 3 dc))) dc (zab (m:=5) u rfl (d 5 dc)) rfl zaq (zaR (show Value.bool ((q1.Part:Int)==0)=Value.bool false from congrArg Value.bool hb16) (zad 6 u i rfl))
           · exact fun D n d c u i=>zyR 1 rfl (zad 13 u i rfl)
           refine zyR 1 rfl (zaK ?_)
           exact zai (false,false) h rfl (za1 rfl) (zae [0,1,2] kr rfl)
          have h:=zc2 hb15 h
          refine zaN 14 [(0,74,zP b2),(1,75,zI q1.Line),(2,76,.bool false),(3,77,.bool false),(4,78,undef),(5,79,undef),(6,80,undef),(7,81,.bool false),(8,82,.bool false),(9,83,undef),(10,84,undef),(11,85,undef),(12,86,.bool false),(13,8,.bool false)] mixed kr kr dc (by rfl) kr kr (zaa ?_ (zaa ?_ (zaa ?_ (zyP 10 3 rfl (zaa ?_ DrawPre.nil))))) ?_
          · exact fun D n d c u i=>zac zaU rfl dc (zaD (by rfl) rfl) (show _=0 from rfl) (zad 0 u i rfl)
          · exact fun D n d c u i=>zah (k:=2) za5 rfl dc (zab (m:=0) u rfl (d 0 dc)) rfl rfl (zad 1 u i rfl)
          · exact fun D n d c u i=>zaM rfl dc (zab (m:=1) u rfl (d 1 dc)) rfl zaq (zaR (show Value.bool ((q1.Line:Int)==0)=Value.bool false from congrArg Value.bool hb15) (zad 2 u i rfl))
          · exact fun D n d c u i=>zyR 1 rfl (zad 13 u i rfl)
          refine zyR 1 rfl (zaK ?_)
          exact zai (false,false) h rfl (za1 rfl) (zae [0,1,2] kr rfl)
         refine zar ?_
         exact zai ((q1.Part:Int)==(last15+1),false) h rfl (za1 rfl) (zae [0,1,2] kr rfl)
        refine zyR 14 rfl ?_
        refine zyR 6 rfl (zyN (cut (zyG (zac zaU rfl dc rfl (show _=0 from rfl) (zah (k:=1) za5 rfl dc rfl rfl rfl (zaQ rfl zaq ?_))))))
        refine zyN ?_
        refine zyB rfl h (fun h => ?_) (fun h => ?_)
        ·
         refine zbd (b:=(q1.Line:Int)==0) (fun hb18 => ?_) (fun hb18 => ?_)
         ·
          have h:=zc1 hb18 h
          refine zbd (b:=(q1.Part:Int)==0) (fun hb19 => ?_) (fun hb19 => ?_)
          ·
           have h:=zc1 hb19 h
           refine zaN 14 [(0,74,zP b2),(1,75,zI q1.Line),(2,76,.bool true),(3,77,.bool true),(4,78,.pointer (some ⟨b2,2,none⟩)),(5,79,zI q1.Part),(6,80,.bool true),(7,81,.bool true),(8,82,.bool true),(9,83,.pointer (some ⟨b2,1,none⟩)),(10,84,zI q1.Stanza),(11,85,.bool ((q1.Stanza:Int)==0)),(12,86,.bool ((q1.Stanza:Int)==0)),(13,8,.bool false)] mixed kr kr dc (by rfl) kr kr (zaa ?_ (zaa ?_ (zaa ?_ (zyP 1 3 rfl (zaa ?_ (zaa ?_ (zaa ?_ (zyP 2 7 rfl (zaa ?_ (zaa ?_ (zaa ?_ (zyP 1 12 rfl (zaa ?_ DrawPre.nil))))))))))))) ?_
           · exact fun D n d c u i=>zac zaU rfl dc (zaD (by rfl) rfl) (show _=0 from rfl) (zad 0 u i rfl)
           · exact fun D n d c u i=>zah (k:=2) za5 rfl dc (zab (m:=0) u rfl (d 0 dc)) rfl rfl (zad 1 u i rfl)
           · exact fun D n d c u i=>zaM rfl dc (zab (m:=1) u rfl (d 1 dc)) rfl zaq (zaR (show Value.bool ((q1.Line:Int)==0)=Value.bool true from congrArg Value.bool hb18) (zad 2 u i rfl))
           · exact fun D n d c u i=>zac zbE (zbD rfl (zab (m:=3) u rfl (d 3 dc))) dc (zaD (by rfl) rfl) (show _=2 from rfl) (zad 4 u i rfl)
           · exact fun D n d c u i=>zah (k:=2) za5 (zbD rfl (zab (m:=3) u rfl (d 3 dc))) dc (zab (m:=4) u rfl (d 4 dc)) rfl rfl (zad 5 u i rfl)
           · exact fun D n d c u i=>zaM (zbD rfl (zab (m:=3) u rfl (d 3 dc))) dc (zab (m:=5) u rfl (d 5 dc)) rfl zaq (zaR (show Value.bool ((q1.Part:Int)==0)=Value.bool true from congrArg Value.bool hb19) (zad 6 u i rfl))
           · exact fun D n d c u i=>zac zbr (zbD rfl (zab (m:=8) u rfl (d 8 dc))) dc (zaD (by rfl) rfl) (show _=1 from rfl) (zad 9 u i rfl)
           · exact fun D n d c u i=>zah (k:=2) za5 (zbD rfl (zab (m:=8) u rfl (d 8 dc))) dc (zab (m:=9) u rfl (d 9 dc)) rfl rfl (zad 10 u i rfl)
           · exact fun D n d c u i=>zaM (zbD rfl (zab (m:=8) u rfl (d 8 dc))) dc (zab (m:=10) u rfl (d 10 dc)) rfl zaq (zad 11 u i rfl)
           · exact fun D n d c u i=>zyR 1 rfl (zad 13 u i rfl)
           refine zyR 1 rfl (zaK ?_)
           exact zai (false,(q1.Stanza:Int)==0) h rfl (za1 rfl) (zae [0,1,2] kr rfl)
          have h:=zc2 hb19 h
          refine zaN 14 [(0,74,zP b2),(1,75,zI q1.Line),(2,76,.bool true),(3,77,.bool true),(4,78,.pointer (some ⟨b2,2,none⟩)),(5,79,zI q1.Part),(6,80,.bool false),(7,81,.bool false),(8,82,.bool false),(9,83,undef),(10,84,undef),(11,85,undef),(12,86,.bool false),(13,8,.bool false)] mixed kr kr dc (by rfl) kr kr (zaa ?_ (zaa ?_ (zaa ?_ (zyP 1 3 rfl (zaa ?_ (zaa ?_ (zaa ?_ (zyP 6 7 rfl (zaa ?_ DrawPre.nil))))))))) ?_
          · exact fun D n d c u i=>zac zaU rfl dc (zaD (by rfl) rfl) (show _=0 from rfl) (zad 0 u i rfl)
          · exact fun D n d c u i=>zah (k:=2) za5 rfl dc (zab (m:=0) u rfl (d 0 dc)) rfl rfl (zad 1 u i rfl)
          · exact fun D n d c u i=>zaM rfl dc (zab (m:=1) u rfl (d 1 dc)) rfl zaq (zaR (show Value.bool ((q1.Line:Int)==0)=Value.bool true from congrArg Value.bool hb18) (zad 2 u i rfl))
          · exact fun D n d c u i=>zac zbE (zbD rfl (zab (m:=3) u rfl (d 3 dc))) dc (zaD (by rfl) rfl) (show _=2 from rfl) (zad 4 u i rfl)
          · exact fun D n d c u i=>zah (k:=2) za5 (zbD rfl (zab (m:=3) u rfl (d 3 dc))) dc (zab (m:=4) u rfl (d 4 dc)) rfl rfl (zad 5 u i rfl)
          · exact fun D n d c u i=>zaM (zbD rfl (zab (m:=3) u rfl (d 3 dc))) dc (zab (m:=5) u rfl (d 5 dc)) rfl zaq (zaR (show Value.bool ((q1.Part:Int)==0)=Value.bool false from congrArg Value.bool hb19) (zad 6 u i rfl))
          · exact fun D n d c u i=>zyR 1 rfl (zad 13 u i rfl)
          refine zyR 1 rfl (zaK ?_)
          exact zai (false,false) h rfl (za1 rfl) (zae [0,1,2] kr rfl)
         have h:=zc2 hb18 h
         refine zaN 14 [(0,74,zP b2),(1,75,zI q1.Line),(2,76,.bool false),(3,77,.bool false),(4,78,undef),(5,79,undef),(6,80,undef),(7,81,.bool false),(8,82,.bool false),(9,83,undef),(10,84,undef),(11,85,undef),(12,86,.bool false),(13,8,.bool false)] mixed kr kr dc (by rfl) kr kr (zaa ?_ (zaa ?_ (zaa ?_ (zyP 10 3 rfl (zaa ?_ DrawPre.nil))))) ?_
         · exact fun D n d c u i=>zac zaU rfl dc (zaD (by rfl) rfl) (show _=0 from rfl) (zad 0 u i rfl)
         · exact fun D n d c u i=>zah (k:=2) za5 rfl dc (zab (m:=0) u rfl (d 0 dc)) rfl rfl (zad 1 u i rfl)
         · exact fun D n d c u i=>zaM rfl dc (zab (m:=1) u rfl (d 1 dc)) rfl zaq (zaR (show Value.bool ((q1.Line:Int)==0)=Value.bool false from congrArg Value.bool hb18) (zad 2 u i rfl))
         · exact fun D n d c u i=>zyR 1 rfl (zad 13 u i rfl)
         refine zyR 1 rfl (zaK ?_)
         exact zai (false,false) h rfl (za1 rfl) (zae [0,1,2] kr rfl)
        refine zar ?_
        exact zai ((q1.Part:Int)==(last15+1),false) h rfl (za1 rfl) (zae [0,1,2] kr rfl)
       refine zyR 8 rfl (zyH (zac zaU rfl dc rfl (show _=0 from rfl) (zah (k:=2) za5 rfl dc rfl rfl rfl ?_)))
       refine zac zaU rfl dc rfl (show _=0 from rfl) (zah (k:=1) za5 rfl dc rfl rfl rfl ?_)
       obtain ⟨hg4,h⟩:=zbM h
       refine zaQ rfl (zaW (r:=last13+1) (IntWalk.i64_in _ hg4)) (zaQ rfl zaq (zyR 1 rfl ?_))
       refine zyS (s:=51) rfl h (fun h => ?_) (fun h => ?_)
       ·
        refine zac zbE rfl dc rfl (show _=2 from rfl) (zah (k:=2) za5 rfl dc rfl rfl rfl (zaQ rfl zaq (zyR 2 rfl ?_)))
        refine zyS (s:=56) rfl h (fun h => ?_) (fun h => ?_)
        ·
         refine zac zbr rfl dc rfl (show _=1 from rfl) (zah (k:=2) za5 rfl dc rfl rfl rfl (zac zbr rfl dc rfl (show _=1 from rfl) (zah (k:=1) za5 rfl dc rfl rfl rfl (zaQ rfl zaq (zyR 1 rfl ?_)))))
         refine zyS (s:=62) rfl h (fun h => ?_) (fun h => ?_)
         ·
          refine zyR 9 rfl (zyN (cut (zyG ?_)))
          refine zac zaU rfl dc rfl (show _=0 from rfl) (zah (k:=1) za5 rfl dc rfl rfl rfl (zaQ rfl zaq (zyN ?_)))
          refine zyB rfl h (fun h => ?_) (fun h => ?_)
          ·
           refine zbd (b:=(q1.Line:Int)==0) (fun hb24 => ?_) (fun hb24 => ?_)
           ·
            have h:=zc1 hb24 h
            refine zbd (b:=(q1.Part:Int)==0) (fun hb25 => ?_) (fun hb25 => ?_)
            ·
             have h:=zc1 hb25 h
             refine zaN 14 [(0,74,zP b2),(1,75,zI q1.Line),(2,76,.bool true),(3,77,.bool true),(4,78,.pointer (some ⟨b2,2,none⟩)),(5,79,zI q1.Part),(6,80,.bool true),(7,81,.bool true),(8,82,.bool true),(9,83,.pointer (some ⟨b2,1,none⟩)),(10,84,zI q1.Stanza),(11,85,.bool ((q1.Stanza:Int)==0)),(12,86,.bool ((q1.Stanza:Int)==0)),(13,8,.bool false)] mixed kr kr dc (by rfl) kr kr (zaa ?_ (zaa ?_ (zaa ?_ (zyP 1 3 rfl (zaa ?_ (zaa ?_ (zaa ?_ (zyP 2 7 rfl (zaa ?_ (zaa ?_ (zaa ?_ (zyP 1 12 rfl (zaa ?_ DrawPre.nil))))))))))))) ?_
             · exact fun D n d c u i=>zac zaU rfl dc (zaD (by rfl) rfl) (show _=0 from rfl) (zad 0 u i rfl)
             · exact fun D n d c u i=>zah (k:=2) za5 rfl dc (zab (m:=0) u rfl (d 0 dc)) rfl rfl (zad 1 u i rfl)
             · exact fun D n d c u i=>zaM rfl dc (zab (m:=1) u rfl (d 1 dc)) rfl zaq (zaR (show Value.bool ((q1.Line:Int)==0)=Value.bool true from congrArg Value.bool hb24) (zad 2 u i rfl))
             · exact fun D n d c u i=>zac zbE (zbD rfl (zab (m:=3) u rfl (d 3 dc))) dc (zaD (by rfl) rfl) (show _=2 from rfl) (zad 4 u i rfl)
             · exact fun D n d c u i=>zah (k:=2) za5 (zbD rfl (zab (m:=3) u rfl (d 3 dc))) dc (zab (m:=4) u rfl (d 4 dc)) rfl rfl (zad 5 u i rfl)
             · exact fun D n d c u i=>zaM (zbD rfl (zab (m:=3) u rfl (d 3 dc))) dc (zab (m:=5) u rfl (d 5 dc)) rfl zaq (zaR (show Value.bool ((q1.Part:Int)==0)=Value.bool true from congrArg Value.bool hb25) (zad 6 u i rfl))
             · exact fun D n d c u i=>zac zbr (zbD rfl (zab (m:=8) u rfl (d 8 dc))) dc (zaD (by rfl) rfl) (show _=1 from rfl) (zad 9 u i rfl)
             · exact fun D n d c u i=>zah (k:=2) za5 (zbD rfl (zab (m:=8) u rfl (d 8 dc))) dc (zab (m:=9) u rfl (d 9 dc)) rfl rfl (zad 10 u i rfl)
             · exact fun D n d c u i=>zaM (zbD rfl (zab (m:=8) u rfl (d 8 dc))) dc (zab (m:=10) u rfl (d 10 dc)) rfl zaq (zad 11 u i rfl)
             · exact fun D n d c u i=>zyR 1 rfl (zad 13 u i rfl)
             refine zyR 1 rfl (zaK ?_)
             exact zai (false,(q1.Stanza:Int)==0) h rfl (za1 rfl) (zae [0,1,2] kr rfl)
            have h:=zc2 hb25 h
            refine zaN 14 [(0,74,zP b2),(1,75,zI q1.Line),(2,76,.bool true),(3,77,.bool true),(4,78,.pointer (some ⟨b2,2,none⟩)),(5,79,zI q1.Part),(6,80,.bool false),(7,81,.bool false),(8,82,.bool false),(9,83,undef),(10,84,undef),(11,85,undef),(12,86,.bool false),(13,8,.bool false)] mixed kr kr dc (by rfl) kr kr (zaa ?_ (zaa ?_ (zaa ?_ (zyP 1 3 rfl (zaa ?_ (zaa ?_ (zaa ?_ (zyP 6 7 rfl (zaa ?_ DrawPre.nil))))))))) ?_
            · exact fun D n d c u i=>zac zaU rfl dc (zaD (by rfl) rfl) (show _=0 from rfl) (zad 0 u i rfl)
            · exact fun D n d c u i=>zah (k:=2) za5 rfl dc (zab (m:=0) u rfl (d 0 dc)) rfl rfl (zad 1 u i rfl)
            · exact fun D n d c u i=>zaM rfl dc (zab (m:=1) u rfl (d 1 dc)) rfl zaq (zaR (show Value.bool ((q1.Line:Int)==0)=Value.bool true from congrArg Value.bool hb24) (zad 2 u i rfl))
            · exact fun D n d c u i=>zac zbE (zbD rfl (zab (m:=3) u rfl (d 3 dc))) dc (zaD (by rfl) rfl) (show _=2 from rfl) (zad 4 u i rfl)
            · exact fun D n d c u i=>zah (k:=2) za5 (zbD rfl (zab (m:=3) u rfl (d 3 dc))) dc (zab (m:=4) u rfl (d 4 dc)) rfl rfl (zad 5 u i rfl)
            · exact fun D n d c u i=>zaM (zbD rfl (zab (m:=3) u rfl (d 3 dc))) dc (zab (m:=5) u rfl (d 5 dc)) rfl zaq (zaR (show Value.bool ((q1.Part:Int)==0)=Value.bool false from congrArg Value.bool hb25) (zad 6 u i rfl))
            · exact fun D n d c u i=>zyR 1 rfl (zad 13 u i rfl)
            refine zyR 1 rfl (zaK ?_)
            exact zai (false,false) h rfl (za1 rfl) (zae [0,1,2] kr rfl)
           have h:=zc2 hb24 h
           refine zaN 14 [(0,74,zP b2),(1,75,zI q1.Line),(2,76,.bool false),(3,77,.bool false),(4,78,undef),(5,79,undef),(6,80,undef),(7,81,.bool false),(8,82,.bool false),(9,83,undef),(10,84,undef),(11,85,undef),(12,86,.bool false),(13,8,.bool false)] mixed kr kr dc (by rfl) kr kr (zaa ?_ (zaa ?_ (zaa ?_ (zyP 10 3 rfl (zaa ?_ DrawPre.nil))))) ?_
           · exact fun D n d c u i=>zac zaU rfl dc (zaD (by rfl) rfl) (show _=0 from rfl) (zad 0 u i rfl)
           · exact fun D n d c u i=>zah (k:=2) za5 rfl dc (zab (m:=0) u rfl (d 0 dc)) rfl rfl (zad 1 u i rfl)
           · exact fun D n d c u i=>zaM rfl dc (zab (m:=1) u rfl (d 1 dc)) rfl zaq (zaR (show Value.bool ((q1.Line:Int)==0)=Value.bool false from congrArg Value.bool hb24) (zad 2 u i rfl))
           · exact fun D n d c u i=>zyR 1 rfl (zad 13 u i rfl)
           refine zyR 1 rfl (zaK ?_)
           exact zai (false,false) h rfl (za1 rfl) (zae [0,1,2] kr rfl)
          refine zar ?_
          exact zai (false,true) h rfl (za1 rfl) (zae [0,1,2] kr rfl)
         refine zac zbr rfl dc rfl (show _=1 from rfl) (zah (k:=2) za5 rfl dc rfl rfl rfl (zac zbr rfl dc rfl (show _=1 from rfl) (zah (k:=1) za5 rfl dc rfl rfl rfl ?_)))
         obtain ⟨hg5,h⟩:=zbM h
         refine zaQ rfl (zaW (r:=last14+1) (IntWalk.i64_in _ hg5)) (zaQ rfl zaq (zyR 3 rfl (zyN (cut (zyG (zac zaU rfl dc rfl (show _=0 from rfl) (zah (k:=1) za5 rfl dc rfl rfl rfl (zaQ rfl zaq (zaK ?_)))))))))
         refine zaH ?_
         refine zyB rfl h (fun h => ?_) (fun h => ?_)
         ·
          refine zbd (b:=(q1.Line:Int)==0) (fun hb27 => ?_) (fun hb27 => ?_)
          ·
           have h:=zc1 hb27 h
           refine zbd (b:=(q1.Part:Int)==0) (fun hb28 => ?_) (fun hb28 => ?_)
           ·
            have h:=zc1 hb28 h
            refine zaN 14 [(0,74,zP b2),(1,75,zI q1.Line),(2,76,.bool true),(3,77,.bool true),(4,78,.pointer (some ⟨b2,2,none⟩)),(5,79,zI q1.Part),(6,80,.bool true),(7,81,.bool true),(8,82,.bool true),(9,83,.pointer (some ⟨b2,1,none⟩)),(10,84,zI q1.Stanza),(11,85,.bool ((q1.Stanza:Int)==0)),(12,86,.bool ((q1.Stanza:Int)==0)),(13,8,.bool false)] mixed kr kr dc (by rfl) kr kr (zaa ?_ (zaa ?_ (zaa ?_ (zyP 1 3 rfl (zaa ?_ (zaa ?_ (zaa ?_ (zyP 2 7 rfl (zaa ?_ (zaa ?_ (zaa ?_ (zyP 1 12 rfl (zaa ?_ DrawPre.nil))))))))))))) ?_
            · exact fun D n d c u i=>zac zaU rfl dc (zaD (by rfl) rfl) (show _=0 from rfl) (zad 0 u i rfl)
            · exact fun D n d c u i=>zah (k:=2) za5 rfl dc (zab (m:=0) u rfl (d 0 dc)) rfl rfl (zad 1 u i rfl)
            · exact fun D n d c u i=>zaM rfl dc (zab (m:=1) u rfl (d 1 dc)) rfl zaq (zaR (show Value.bool ((q1.Line:Int)==0)=Value.bool true from congrArg Value.bool hb27) (zad 2 u i rfl))
            · exact fun D n d c u i=>zac zbE (zbD rfl (zab (m:=3) u rfl (d 3 dc))) dc (zaD (by rfl) rfl) (show _=2 from rfl) (zad 4 u i rfl)
            · exact fun D n d c u i=>zah (k:=2) za5 (zbD rfl (zab (m:=3) u rfl (d 3 dc))) dc (zab (m:=4) u rfl (d 4 dc)) rfl rfl (zad 5 u i rfl)
            · exact fun D n d c u i=>zaM (zbD rfl (zab (m:=3) u rfl (d 3 dc))) dc (zab (m:=5) u rfl (d 5 dc)) rfl zaq (zaR (show Value.bool ((q1.Part:Int)==0)=Value.bool true from congrArg Value.bool hb28) (zad 6 u i rfl))
            · exact fun D n d c u i=>zac zbr (zbD rfl (zab (m:=8) u rfl (d 8 dc))) dc (zaD (by rfl) rfl) (show _=1 from rfl) (zad 9 u i rfl)
            · exact fun D n d c u i=>zah (k:=2) za5 (zbD rfl (zab (m:=8) u rfl (d 8 dc))) dc (zab (m:=9) u rfl (d 9 dc)) rfl rfl (zad 10 u i rfl)
            · exact fun D n d c u i=>zaM (zbD rfl (zab (m:=8) u rfl (d 8 dc))) dc (zab (m:=10) u rfl (d 10 dc)) rfl zaq (zad 11 u i rfl)
            · exact fun D n d c u i=>zyR 1 rfl (zad 13 u i rfl)
            refine zyR 1 rfl (zaK ?_)
            exact zai (false,(q1.Stanza:Int)==0) h rfl (za1 rfl) (zae [0,1,2] kr rfl)
           have h:=zc2 hb28 h
           refine zaN 14 [(0,74,zP b2),(1,75,zI q1.Line),(2,76,.bool true),(3,77,.bool true),(4,78,.pointer (some ⟨b2,2,none⟩)),(5,79,zI q1.Part),(6,80,.bool false),(7,81,.bool false),(8,82,.bool false),(9,83,undef),(10,84,undef),(11,85,undef),(12,86,.bool false),(13,8,.bool false)] mixed kr kr dc (by rfl) kr kr (zaa ?_ (zaa ?_ (zaa ?_ (zyP 1 3 rfl (zaa ?_ (zaa ?_ (zaa ?_ (zyP 6 7 rfl (zaa ?_ DrawPre.nil))))))))) ?_
           · exact fun D n d c u i=>zac zaU rfl dc (zaD (by rfl) rfl) (show _=0 from rfl) (zad 0 u i rfl)
           · exact fun D n d c u i=>zah (k:=2) za5 rfl dc (zab (m:=0) u rfl (d 0 dc)) rfl rfl (zad 1 u i rfl)
           · exact fun D n d c u i=>zaM rfl dc (zab (m:=1) u rfl (d 1 dc)) rfl zaq (zaR (show Value.bool ((q1.Line:Int)==0)=Value.bool true from congrArg Value.bool hb27) (zad 2 u i rfl))
           · exact fun D n d c u i=>zac zbE (zbD rfl (zab (m:=3) u rfl (d 3 dc))) dc (zaD (by rfl) rfl) (show _=2 from rfl) (zad 4 u i rfl)
           · exact fun D n d c u i=>zah (k:=2) za5 (zbD rfl (zab (m:=3) u rfl (d 3 dc))) dc (zab (m:=4) u rfl (d 4 dc)) rfl rfl (zad 5 u i rfl)
           · exact fun D n d c u i=>zaM (zbD rfl (zab (m:=3) u rfl (d 3 dc))) dc (zab (m:=5) u rfl (d 5 dc)) rfl zaq (zaR (show Value.bool ((q1.Part:Int)==0)=Value.bool false from congrArg Value.bool hb28) (zad 6 u i rfl))
           · exact fun D n d c u i=>zyR 1 rfl (zad 13 u i rfl)
           refine zyR 1 rfl (zaK ?_)
           exact zai (false,false) h rfl (za1 rfl) (zae [0,1,2] kr rfl)
          have h:=zc2 hb27 h
          refine zaN 14 [(0,74,zP b2),(1,75,zI q1.Line),(2,76,.bool false),(3,77,.bool false),(4,78,undef),(5,79,undef),(6,80,undef),(7,81,.bool false),(8,82,.bool false),(9,83,undef),(10,84,undef),(11,85,undef),(12,86,.bool false),(13,8,.bool false)] mixed kr kr dc (by rfl) kr kr (zaa ?_ (zaa ?_ (zaa ?_ (zyP 10 3 rfl (zaa ?_ DrawPre.nil))))) ?_
          · exact fun D n d c u i=>zac zaU rfl dc (zaD (by rfl) rfl) (show _=0 from rfl) (zad 0 u i rfl)
          · exact fun D n d c u i=>zah (k:=2) za5 rfl dc (zab (m:=0) u rfl (d 0 dc)) rfl rfl (zad 1 u i rfl)
          · exact fun D n d c u i=>zaM rfl dc (zab (m:=1) u rfl (d 1 dc)) rfl zaq (zaR (show Value.bool ((q1.Line:Int)==0)=Value.bool false from congrArg Value.bool hb27) (zad 2 u i rfl))
          · exact fun D n d c u i=>zyR 1 rfl (zad 13 u i rfl)
          refine zyR 1 rfl (zaK ?_)
          exact zai (false,false) h rfl (za1 rfl) (zae [0,1,2] kr rfl)
         refine zar ?_
         exact zai (false,(q1.Stanza:Int)==(last14+1)) h rfl (za1 rfl) (zae [0,1,2] kr rfl)
        refine zyR 14 rfl ?_
        refine zyR 1 rfl (zyN (cut (zyG (zac zaU rfl dc rfl (show _=0 from rfl) (zah (k:=1) za5 rfl dc rfl rfl rfl (zaQ rfl zaq (zyN ?_)))))))
        refine zyB rfl h (fun h => ?_) (fun h => ?_)
        ·
         refine zbd (b:=(q1.Line:Int)==0) (fun hb30 => ?_) (fun hb30 => ?_)
         ·
          have h:=zc1 hb30 h
          refine zbd (b:=(q1.Part:Int)==0) (fun hb31 => ?_) (fun hb31 => ?_)
          ·
           have h:=zc1 hb31 h
           refine zaN 14 [(0,74,zP b2),(1,75,zI q1.Line),(2,76,.bool true),(3,77,.bool true),(4,78,.pointer (some ⟨b2,2,none⟩)),(5,79,zI q1.Part),(6,80,.bool true),(7,81,.bool true),(8,82,.bool true),(9,83,.pointer (some ⟨b2,1,none⟩)),(10,84,zI q1.Stanza),(11,85,.bool ((q1.Stanza:Int)==0)),(12,86,.bool ((q1.Stanza:Int)==0)),(13,8,.bool false)] mixed kr kr dc (by rfl) kr kr (zaa ?_ (zaa ?_ (zaa ?_ (zyP 1 3 rfl (zaa ?_ (zaa ?_ (zaa ?_ (zyP 2 7 rfl (zaa ?_ (zaa ?_ (zaa ?_ (zyP 1 12 rfl (zaa ?_ DrawPre.nil))))))))))))) ?_
           · exact fun D n d c u i=>zac zaU rfl dc (zaD (by rfl) rfl) (show _=0 from rfl) (zad 0 u i rfl)
           · exact fun D n d c u i=>zah (k:=2) za5 rfl dc (zab (m:=0) u rfl (d 0 dc)) rfl rfl (zad 1 u i rfl)
           · exact fun D n d c u i=>zaM rfl dc (zab (m:=1) u rfl (d 1 dc)) rfl zaq (zaR (show Value.bool ((q1.Line:Int)==0)=Value.bool true from congrArg Value.bool hb30) (zad 2 u i rfl))
           · exact fun D n d c u i=>zac zbE (zbD rfl (zab (m:=3) u rfl (d 3 dc))) dc (zaD (by rfl) rfl) (show _=2 from rfl) (zad 4 u i rfl)
           · exact fun D n d c u i=>zah (k:=2) za5 (zbD rfl (zab (m:=3) u rfl (d 3 dc))) dc (zab (m:=4) u rfl (d 4 dc)) rfl rfl (zad 5 u i rfl)
           · exact fun D n d c u i=>zaM (zbD rfl (zab (m:=3) u rfl (d 3 dc))) dc (zab (m:=5) u rfl (d 5 dc)) rfl zaq (zaR (show Value.bool ((q1.Part:Int)==0)=Value.bool true from congrArg Value.bool hb31) (zad 6 u i rfl))
           · exact fun D n d c u i=>zac zbr (zbD rfl (zab (m:=8) u rfl (d 8 dc))) dc (zaD (by rfl) rfl) (show _=1 from rfl) (zad 9 u i rfl)
           · exact fun D n d c u i=>zah (k:=2) za5 (zbD rfl (zab (m:=8) u rfl (d 8 dc))) dc (zab (m:=9) u rfl (d 9 dc)) rfl rfl (zad 10 u i rfl)
           · exact fun D n d c u i=>zaM (zbD rfl (zab (m:=8) u rfl (d 8 dc))) dc (zab (m:=10) u rfl (d 10 dc)) rfl zaq (zad 11 u i rfl)
           · exact fun D n d c u i=>zyR 1 rfl (zad 13 u i rfl)
           refine zyR 1 rfl (zaK ?_)
           exact zai (false,(q1.Stanza:Int)==0) h rfl (za1 rfl) (zae [0,1,2] kr rfl)
          have h:=zc2 hb31 h
          refine zaN 14 [(0,74,zP b2),(1,75,zI q1.Line),(2,76,.bool true),(3,77,.bool true),(4,78,.pointer (some ⟨b2,2,none⟩)),(5,79,zI q1.Part),(6,80,.bool false),(7,81,.bool false),(8,82,.bool false),(9,83,undef),(10,84,undef),(11,85,undef),(12,86,.bool false),(13,8,.bool false)] mixed kr kr dc (by rfl) kr kr (zaa ?_ (zaa ?_ (zaa ?_ (zyP 1 3 rfl (zaa ?_ (zaa ?_ (zaa ?_ (zyP 6 7 rfl (zaa ?_ DrawPre.nil))))))))) ?_
          · exact fun D n d c u i=>zac zaU rfl dc (zaD (by rfl) rfl) (show _=0 from rfl) (zad 0 u i rfl)
          · exact fun D n d c u i=>zah (k:=2) za5 rfl dc (zab (m:=0) u rfl (d 0 dc)) rfl rfl (zad 1 u i rfl)
          · exact fun D n d c u i=>zaM rfl dc (zab (m:=1) u rfl (d 1 dc)) rfl zaq (zaR (show Value.bool ((q1.Line:Int)==0)=Value.bool true from congrArg Value.bool hb30) (zad 2 u i rfl))
          · exact fun D n d c u i=>zac zbE (zbD rfl (zab (m:=3) u rfl (d 3 dc))) dc (zaD (by rfl) rfl) (show _=2 from rfl) (zad 4 u i rfl)
          · exact fun D n d c u i=>zah (k:=2) za5 (zbD rfl (zab (m:=3) u rfl (d 3 dc))) dc (zab (m:=4) u rfl (d 4 dc)) rfl rfl (zad 5 u i rfl)
          · exact fun D n d c u i=>zaM (zbD rfl (zab (m:=3) u rfl (d 3 dc))) dc (zab (m:=5) u rfl (d 5 dc)) rfl zaq (zaR (show Value.bool ((q1.Part:Int)==0)=Value.bool false from congrArg Value.bool hb31) (zad 6 u i rfl))
          · exact fun D n d c u i=>zyR 1 rfl (zad 13 u i rfl)
          refine zyR 1 rfl (zaK ?_)
          exact zai (false,false) h rfl (za1 rfl) (zae [0,1,2] kr rfl)
         have h:=zc2 hb30 h
         refine zaN 14 [(0,74,zP b2),(1,75,zI q1.Line),(2,76,.bool false),(3,77,.bool false),(4,78,undef),(5,79,undef),(6,80,undef),(7,81,.bool false),(8,82,.bool false),(9,83,undef),(10,84,undef),(11,85,undef),(12,86,.bool false),(13,8,.bool false)] mixed kr kr dc (by rfl) kr kr (zaa ?_ (zaa ?_ (zaa ?_ (zyP 10 3 rfl (zaa ?_ DrawPre.nil))))) ?_
         · exact fun D n d c u i=>zac zaU rfl dc (zaD (by rfl) rfl) (show _=0 from rfl) (zad 0 u i rfl)
         · exact fun D n d c u i=>zah (k:=2) za5 rfl dc (zab (m:=0) u rfl (d 0 dc)) rfl rfl (zad 1 u i rfl)
         · exact fun D n d c u i=>zaM rfl dc (zab (m:=1) u rfl (d 1 dc)) rfl zaq (zaR (show Value.bool ((q1.Line:Int)==0)=Value.bool false from congrArg Value.bool hb30) (zad 2 u i rfl))
         · exact fun D n d c u i=>zyR 1 rfl (zad 13 u i rfl)
         refine zyR 1 rfl (zaK ?_)
         exact zai (false,false) h rfl (za1 rfl) (zae [0,1,2] kr rfl)
        refine zar ?_
        exact zai (false,false) h rfl (za1 rfl) (zae [0,1,2] kr rfl)
       refine zyR 14 rfl ?_
       refine zyR 6 rfl (zyN (cut (zyG (zac zaU rfl dc rfl (show _=0 from rfl) (zah (k:=1) za5 rfl dc rfl rfl rfl (zaQ rfl zaq ?_))))))
       refine zyN ?_
       refine zyB rfl h (fun h => ?_) (fun h => ?_)
       ·
        refine zbd (b:=(q1.Line:Int)==0) (fun hb33 => ?_) (fun hb33 => ?_)
        ·
         have h:=zc1 hb33 h
         refine zbd (b:=(q1.Part:Int)==0) (fun hb34 => ?_) (fun hb34 => ?_)
         ·
          have h:=zc1 hb34 h
          refine zaN 14 [(0,74,zP b2),(1,75,zI q1.Line),(2,76,.bool true),(3,77,.bool true),(4,78,.pointer (some ⟨b2,2,none⟩)),(5,79,zI q1.Part),(6,80,.bool true),(7,81,.bool true),(8,82,.bool true),(9,83,.pointer (some ⟨b2,1,none⟩)),(10,84,zI q1.Stanza),(11,85,.bool ((q1.Stanza:Int)==0)),(12,86,.bool ((q1.Stanza:Int)==0)),(13,8,.bool false)] mixed kr kr dc (by rfl) kr kr (zaa ?_ (zaa ?_ (zaa ?_ (zyP 1 3 rfl (zaa ?_ (zaa ?_ (zaa ?_ (zyP 2 7 rfl (zaa ?_ (zaa ?_ (zaa ?_ (zyP 1 12 rfl (zaa ?_ DrawPre.nil))))))))))))) ?_
          · exact fun D n d c u i=>zac zaU rfl dc (zaD (by rfl) rfl) (show _=0 from rfl) (zad 0 u i rfl)
          · exact fun D n d c u i=>zah (k:=2) za5 rfl dc (zab (m:=0) u rfl (d 0 dc)) rfl rfl (zad 1 u i rfl)
          · exact fun D n d c u i=>zaM rfl dc (zab (m:=1) u rfl (d 1 dc)) rfl zaq (zaR (show Value.bool ((q1.Line:Int)==0)=Value.bool true from congrArg Value.bool hb33) (zad 2 u i rfl))
          · exact fun D n d c u i=>zac zbE (zbD rfl (zab (m:=3) u rfl (d 3 dc))) dc (zaD (by rfl) rfl) (show _=2 from rfl) (zad 4 u i rfl)
          · exact fun D n d c u i=>zah (k:=2) za5 (zbD rfl (zab (m:=3) u rfl (d 3 dc))) dc (zab (m:=4) u rfl (d 4 dc)) rfl rfl (zad 5 u i rfl)
          · exact fun D n d c u i=>zaM (zbD rfl (zab (m:=3) u rfl (d 3 dc))) dc (zab (m:=5) u rfl (d 5 dc)) rfl zaq (zaR (show Value.bool ((q1.Part:Int)==0)=Value.bool true from congrArg Value.bool hb34) (zad 6 u i rfl))
          · exact fun D n d c u i=>zac zbr (zbD rfl (zab (m:=8) u rfl (d 8 dc))) dc (zaD (by rfl) rfl) (show _=1 from rfl) (zad 9 u i rfl)
          · exact fun D n d c u i=>zah (k:=2) za5 (zbD rfl (zab (m:=8) u rfl (d 8 dc))) dc (zab (m:=9) u rfl (d 9 dc)) rfl rfl (zad 10 u i rfl)
          · exact fun D n d c u i=>zaM (zbD rfl (zab (m:=8) u rfl (d 8 dc))) dc (zab (m:=10) u rfl (d 10 dc)) rfl zaq (zad 11 u i rfl)
          · exact fun D n d c u i=>zyR 1 rfl (zad 13 u i rfl)
          refine zyR 1 rfl (zaK ?_)
          exact zai (false,(q1.Stanza:Int)==0) h rfl (za1 rfl) (zae [0,1,2] kr rfl)
         have h:=zc2 hb34 h
         refine zaN 14 [(0,74,zP b2),(1,75,zI q1.Line),(2,76,.bool true),(3,77,.bool true),(4,78,.pointer (some ⟨b2,2,none⟩)),(5,79,zI q1.Part),(6,80,.bool false),(7,81,.bool false),(8,82,.bool false),(9,83,undef),(10,84,undef),(11,85,undef),(12,86,.bool false),(13,8,.bool false)] mixed kr kr dc (by rfl) kr kr (zaa ?_ (zaa ?_ (zaa ?_ (zyP 1 3 rfl (zaa ?_ (zaa ?_ (zaa ?_ (zyP 6 7 rfl (zaa ?_ DrawPre.nil))))))))) ?_
         · exact fun D n d c u i=>zac zaU rfl dc (zaD (by rfl) rfl) (show _=0 from rfl) (zad 0 u i rfl)
         · exact fun D n d c u i=>zah (k:=2) za5 rfl dc (zab (m:=0) u rfl (d 0 dc)) rfl rfl (zad 1 u i rfl)
         · exact fun D n d c u i=>zaM rfl dc (zab (m:=1) u rfl (d 1 dc)) rfl zaq (zaR (show Value.bool ((q1.Line:Int)==0)=Value.bool true from congrArg Value.bool hb33) (zad 2 u i rfl))
         · exact fun D n d c u i=>zac zbE (zbD rfl (zab (m:=3) u rfl (d 3 dc))) dc (zaD (by rfl) rfl) (show _=2 from rfl) (zad 4 u i rfl)
         · exact fun D n d c u i=>zah (k:=2) za5 (zbD rfl (zab (m:=3) u rfl (d 3 dc))) dc (zab (m:=4) u rfl (d 4 dc)) rfl rfl (zad 5 u i rfl)
         · exact fun D n d c u i=>zaM (zbD rfl (zab (m:=3) u rfl (d 3 dc))) dc (zab (m:=5) u rfl (d 5 dc)) rfl zaq (zaR (show Value.bool ((q1.Part:Int)==0)=Value.bool false from congrArg Value.bool hb34) (zad 6 u i rfl))
         · exact fun D n d c u i=>zyR 1 rfl (zad 13 u i rfl)
         refine zyR 1 rfl (zaK ?_)
         exact zai (false,false) h rfl (za1 rfl) (zae [0,1,2] kr rfl)
        have h:=zc2 hb33 h
        refine zaN 14 [(0,74,zP b2),(1,75,zI q1.Line),(2,76,.bool false),(3,77,.bool false),(4,78,undef),(5,79,undef),(6,80,undef),(7,81,.bool false),(8,82,.bool false),(9,83,undef),(10,84,undef),(11,85,undef),(12,86,.bool false),(13,8,.bool false)] mixed kr kr dc (by rfl) kr kr (zaa ?_ (zaa ?_ (zaa ?_ (zyP 10 3 rfl (zaa ?_ DrawPre.nil))))) ?_
        · exact fun D n d c u i=>zac zaU rfl dc (zaD (by rfl) rfl) (show _=0 from rfl) (zad 0 u i rfl)
        · exact fun D n d c u i=>zah (k:=2) za5 rfl dc (zab (m:=0) u rfl (d 0 dc)) rfl rfl (zad 1 u i rfl)
        · exact fun D n d c u i=>zaM rfl dc (zab (m:=1) u rfl (d 1 dc)) rfl zaq (zaR (show Value.bool ((q1.Line:Int)==0)=Value.bool false from congrArg Value.bool hb33) (zad 2 u i rfl))
        · exact fun D n d c u i=>zyR 1 rfl (zad 13 u i rfl)
        refine zyR 1 rfl (zaK ?_)
        exact zai (false,false) h rfl (za1 rfl) (zae [0,1,2] kr rfl)
       refine zar ?_
       exact zai (false,false) h rfl (za1 rfl) (zae [0,1,2] kr rfl)
      refine zyR 14 rfl ?_
      refine zyR 1 rfl (zyH (zac zaU rfl dc rfl (show _=0 from rfl) (zah (k:=2) za5 rfl dc rfl rfl rfl (zac zaU rfl dc rfl (show _=0 from rfl) (zah (k:=1) za5 rfl dc rfl rfl rfl ?_)))))
      obtain ⟨hg6,h⟩:=zbM h
      refine zaQ rfl (zaW (r:=last13+1) (IntWalk.i64_in _ hg6)) (zaQ rfl zaq (zyR 1 rfl ?_))
      refine zyS (s:=51) rfl h (fun h => ?_) (fun h => ?_)
      ·
       refine zac zbE rfl dc rfl (show _=2 from rfl) (zah (k:=2) za5 rfl dc rfl rfl rfl (zaQ rfl zaq (zyR 2 rfl ?_)))
       refine zyS (s:=56) rfl h (fun h => ?_) (fun h => ?_)
       ·
        refine zac zbr rfl dc rfl (show _=1 from rfl) (zah (k:=2) za5 rfl dc rfl rfl rfl (zac zbr rfl dc rfl (show _=1 from rfl) (zah (k:=1) za5 rfl dc rfl rfl rfl (zaQ rfl zaq (zyR 1 rfl ?_)))))
        refine zyS (s:=62) rfl h (fun h => ?_) (fun h => ?_)
        ·
         refine zyR 9 rfl (zyN (cut (zyG ?_)))
         refine zac zaU rfl dc rfl (show _=0 from rfl) (zah (k:=1) za5 rfl dc rfl rfl rfl (zaQ rfl zaq (zyN ?_)))
         refine zyB rfl h (fun h => ?_) (fun h => ?_)
         ·
          refine zbd (b:=(q1.Line:Int)==0) (fun hb39 => ?_) (fun hb39 => ?_)
          ·
           have h:=zc1 hb39 h
           refine zbd (b:=(q1.Part:Int)==0) (fun hb40 => ?_) (fun hb40 => ?_)
           ·
            have h:=zc1 hb40 h
            refine zaN 14 [(0,74,zP b2),(1,75,zI q1.Line),(2,76,.bool true),(3,77,.bool true),(4,78,.pointer (some ⟨b2,2,none⟩)),(5,79,zI q1.Part),(6,80,.bool true),(7,81,.bool true),(8,82,.bool true),(9,83,.pointer (some ⟨b2,1,none⟩)),(10,84,zI q1.Stanza),(11,85,.bool ((q1.Stanza:Int)==0)),(12,86,.bool ((q1.Stanza:Int)==0)),(13,8,.bool false)] mixed kr kr dc (by rfl) kr kr (zaa ?_ (zaa ?_ (zaa ?_ (zyP 1 3 rfl (zaa ?_ (zaa ?_ (zaa ?_ (zyP 2 7 rfl (zaa ?_ (zaa ?_ (zaa ?_ (zyP 1 12 rfl (zaa ?_ DrawPre.nil))))))))))))) ?_
            · exact fun D n d c u i=>zac zaU rfl dc (zaD (by rfl) rfl) (show _=0 from rfl) (zad 0 u i rfl)
            · exact fun D n d c u i=>zah (k:=2) za5 rfl dc (zab (m:=0) u rfl (d 0 dc)) rfl rfl (zad 1 u i rfl)
            · exact fun D n d c u i=>zaM rfl dc (zab (m:=1) u rfl (d 1 dc)) rfl zaq (zaR (show Value.bool ((q1.Line:Int)==0)=Value.bool true from congrArg Value.bool hb39) (zad 2 u i rfl))
            · exact fun D n d c u i=>zac zbE (zbD rfl (zab (m:=3) u rfl (d 3 dc))) dc (zaD (by rfl) rfl) (show _=2 from rfl) (zad 4 u i rfl)
            · exact fun D n d c u i=>zah (k:=2) za5 (zbD rfl (zab (m:=3) u rfl (d 3 dc))) dc (zab (m:=4) u rfl (d 4 dc)) rfl rfl (zad 5 u i rfl)
            · exact fun D n d c u i=>zaM (zbD rfl (zab (m:=3) u rfl (d 3 dc))) dc (zab (m:=5) u rfl (d 5 dc)) rfl zaq (zaR (show Value.bool ((q1.Part:Int)==0)=Value.bool true from congrArg Value.bool hb40) (zad 6 u i rfl))
            · exact fun D n d c u i=>zac zbr (zbD rfl (zab (m:=8) u rfl (d 8 dc))) dc (zaD (by rfl) rfl) (show _=1 from rfl) (zad 9 u i rfl)
            · exact fun D n d c u i=>zah (k:=2) za5 (zbD rfl (zab (m:=8) u rfl (d 8 dc))) dc (zab (m:=9) u rfl (d 9 dc)) rfl rfl (zad 10 u i rfl)
            · exact fun D n d c u i=>zaM (zbD rfl (zab (m:=8) u rfl (d 8 dc))) dc (zab (m:=10) u rfl (d 10 dc)) rfl zaq (zad 11 u i rfl)
            · exact fun D n d c u i=>zyR 1 rfl (zad 13 u i rfl)
            refine zyR 1 rfl (zaK ?_)
            exact zai (false,(q1.Stanza:Int)==0) h rfl (za1 rfl) (zae [0,1,2] kr rfl)
           have h:=zc2 hb40 h
           refine zaN 14 [(0,74,zP b2),(1,75,zI q1.Line),(2,76,.bool true),(3,77,.bool true),(4,78,.pointer (some ⟨b2,2,none⟩)),(5,79,zI q1.Part),(6,80,.bool false),(7,81,.bool false),(8,82,.bool false),(9,83,undef),(10,84,undef),(11,85,undef),(12,86,.bool false),(13,8,.bool false)] mixed kr kr dc (by rfl) kr kr (zaa ?_ (zaa ?_ (zaa ?_ (zyP 1 3 rfl (zaa ?_ (zaa ?_ (zaa ?_ (zyP 6 7 rfl (zaa ?_ DrawPre.nil))))))))) ?_
           · exact fun D n d c u i=>zac zaU rfl dc (zaD (by rfl) rfl) (show _=0 from rfl) (zad 0 u i rfl)
           · exact fun D n d c u i=>zah (k:=2) za5 rfl dc (zab (m:=0) u rfl (d 0 dc)) rfl rfl (zad 1 u i rfl)
           · exact fun D n d c u i=>zaM rfl dc (zab (m:=1) u rfl (d 1 dc)) rfl zaq (zaR (show Value.bool ((q1.Line:Int)==0)=Value.bool true from congrArg Value.bool hb39) (zad 2 u i rfl))
           · exact fun D n d c u i=>zac zbE (zbD rfl (zab (m:=3) u rfl (d 3 dc))) dc (zaD (by rfl) rfl) (show _=2 from rfl) (zad 4 u i rfl)
           · exact fun D n d c u i=>zah (k:=2) za5 (zbD rfl (zab (m:=3) u rfl (d 3 dc))) dc (zab (m:=4) u rfl (d 4 dc)) rfl rfl (zad 5 u i rfl)
           · exact fun D n d c u i=>zaM (zbD rfl (zab (m:=3) u rfl (d 3 dc))) dc (zab (m:=5) u rfl (d 5 dc)) rfl zaq (zaR (show Value.bool ((q1.Part:Int)==0)=Value.bool false from congrArg Value.bool hb40) (zad 6 u i rfl))
           · exact fun D n d c u i=>zyR 1 rfl (zad 13 u i rfl)
           refine zyR 1 rfl (zaK ?_)
           exact zai (false,false) h rfl (za1 rfl) (zae [0,1,2] kr rfl)
          have h:=zc2 hb39 h
          refine zaN 14 [(0,74,zP b2),(1,75,zI q1.Line),(2,76,.bool false),(3,77,.bool false),(4,78,undef),(5,79,undef),(6,80,undef),(7,81,.bool false),(8,82,.bool false),(9,83,undef),(10,84,undef),(11,85,undef),(12,86,.bool false),(13,8,.bool false)] mixed kr kr dc (by rfl) kr kr (zaa ?_ (zaa ?_ (zaa ?_ (zyP 10 3 rfl (zaa ?_ DrawPre.nil))))) ?_
          · exact fun D n d c u i=>zac zaU rfl dc (zaD (by rfl) rfl) (show _=0 from rfl) (zad 0 u i rfl)
          · exact fun D n d c u i=>zah (k:=2) za5 rfl dc (zab (m:=0) u rfl (d 0 dc)) rfl rfl (zad 1 u i rfl)
          · exact fun D n d c u i=>zaM rfl dc (zab (m:=1) u rfl (d 1 dc)) rfl zaq (zaR (show Value.bool ((q1.Line:Int)==0)=Value.bool false from congrArg Value.bool hb39) (zad 2 u i rfl))
          · exact fun D n d c u i=>zyR 1 rfl (zad 13 u i rfl)
          refine zyR 1 rfl (zaK ?_)
          exact zai (false,false) h rfl (za1 rfl) (zae [0,1,2] kr rfl)
         refine zar ?_
         exact zai (false,true) h rfl (za1 rfl) (zae [0,1,2] kr rfl)
        refine zac zbr rfl dc rfl (show _=1 from rfl) (zah (k:=2) za5 rfl dc rfl rfl rfl (zac zbr rfl dc rfl (show _=1 from rfl) (zah (k:=1) za5 rfl dc rfl rfl rfl ?_)))
        obtain ⟨hg7,h⟩:=zbM h
        refine zaQ rfl (zaW (r:=last14+1) (IntWalk.i64_in _ hg7)) (zaQ rfl zaq (zyR 3 rfl (zyN (cut (zyG (zac zaU rfl dc rfl (show _=0 from rfl) (zah (k:=1) za5 rfl dc rfl rfl rfl (zaQ rfl zaq (zaK ?_)))))))))
        refine zaH ?_
        refine zyB rfl h (fun h => ?_) (fun h => ?_)
        ·
         refine zbd (b:=(q1.Line:Int)==0) (fun hb42 => ?_) (fun hb42 => ?_)
         ·
          have h:=zc1 hb42 h
          refine zbd (b:=(q1.Part:Int)==0) (fun hb43 => ?_) (fun hb43 => ?_)
          ·
           have h:=zc1 hb43 h
           refine zaN 14 [(0,74,zP b2),(1,75,zI q1.Line),(2,76,.bool true),(3,77,.bool true),(4,78,.pointer (some ⟨b2,2,none⟩)),(5,79,zI q1.Part),(6,80,.bool true),(7,81,.bool true),(8,82,.bool true),(9,83,.pointer (some ⟨b2,1,none⟩)),(10,84,zI q1.Stanza),(11,85,.bool ((q1.Stanza:Int)==0)),(12,86,.bool ((q1.Stanza:Int)==0)),(13,8,.bool false)] mixed kr kr dc (by rfl) kr kr (zaa ?_ (zaa ?_ (zaa ?_ (zyP 1 3 rfl (zaa ?_ (zaa ?_ (zaa ?_ (zyP 2 7 rfl (zaa ?_ (zaa ?_ (zaa ?_ (zyP 1 12 rfl (zaa ?_ DrawPre.nil))))))))))))) ?_
           · exact fun D n d c u i=>zac zaU rfl dc (zaD (by rfl) rfl) (show _=0 from rfl) (zad 0 u i rfl)
           · exact fun D n d c u i=>zah (k:=2) za5 rfl dc (zab (m:=0) u rfl (d 0 dc)) rfl rfl (zad 1 u i rfl)
           · exact fun D n d c u i=>zaM rfl dc (zab (m:=1) u rfl (d 1 dc)) rfl zaq (zaR (show Value.bool ((q1.Line:Int)==0)=Value.bool true from congrArg Value.bool hb42) (zad 2 u i rfl))
           · exact fun D n d c u i=>zac zbE (zbD rfl (zab (m:=3) u rfl (d 3 dc))) dc (zaD (by rfl) rfl) (show _=2 from rfl) (zad 4 u i rfl)
           · exact fun D n d c u i=>zah (k:=2) za5 (zbD rfl (zab (m:=3) u rfl (d 3 dc))) dc (zab (m:=4) u rfl (d 4 dc)) rfl rfl (zad 5 u i rfl)
           · exact fun D n d c u i=>zaM (zbD rfl (zab (m:=3) u rfl (d 3 dc))) dc (zab (m:=5) u rfl (d 5 dc)) rfl zaq (zaR (show Value.bool ((q1.Part:Int)==0)=Value.bool true from congrArg Value.bool hb43) (zad 6 u i rfl))
           · exact fun D n d c u i=>zac zbr (zbD rfl (zab (m:=8) u rfl (d 8 dc))) dc (zaD (by rfl) rfl) (show _=1 from rfl) (zad 9 u i rfl)
           · exact fun D n d c u i=>zah (k:=2) za5 (zbD rfl (zab (m:=8) u rfl (d 8 dc))) dc (zab (m:=9) u rfl (d 9 dc)) rfl rfl (zad 10 u i rfl)
           · exact fun D n d c u i=>zaM (zbD rfl (zab (m:=8) u rfl (d 8 dc))) dc (zab (m:=10) u rfl (d 10 dc)) rfl zaq (zad 11 u i rfl)
           · exact fun D n d c u i=>zyR 1 rfl (zad 13 u i rfl)
           refine zyR 1 rfl (zaK ?_)
           exact zai (false,(q1.Stanza:Int)==0) h rfl (za1 rfl) (zae [0,1,2] kr rfl)
          have h:=zc2 hb43 h
          refine zaN 14 [(0,74,zP b2),(1,75,zI q1.Line),(2,76,.bool true),(3,77,.bool true),(4,78,.pointer (some ⟨b2,2,none⟩)),(5,79,zI q1.Part),(6,80,.bool false),(7,81,.bool false),(8,82,.bool false),(9,83,undef),(10,84,undef),(11,85,undef),(12,86,.bool false),(13,8,.bool false)] mixed kr kr dc (by rfl) kr kr (zaa ?_ (zaa ?_ (zaa ?_ (zyP 1 3 rfl (zaa ?_ (zaa ?_ (zaa ?_ (zyP 6 7 rfl (zaa ?_ DrawPre.nil))))))))) ?_
          · exact fun D n d c u i=>zac zaU rfl dc (zaD (by rfl) rfl) (show _=0 from rfl) (zad 0 u i rfl)
          · exact fun D n d c u i=>zah (k:=2) za5 rfl dc (zab (m:=0) u rfl (d 0 dc)) rfl rfl (zad 1 u i rfl)
          · exact fun D n d c u i=>zaM rfl dc (zab (m:=1) u rfl (d 1 dc)) rfl zaq (zaR (show Value.bool ((q1.Line:Int)==0)=Value.bool true from congrArg Value.bool hb42) (zad 2 u i rfl))
          · exact fun D n d c u i=>zac zbE (zbD rfl (zab (m:=3) u rfl (d 3 dc))) dc (zaD (by rfl) rfl) (show _=2 from rfl) (zad 4 u i rfl)
          · exact fun D n d c u i=>zah (k:=2) za5 (zbD rfl (zab (m:=3) u rfl (d 3 dc))) dc (zab (m:=4) u rfl (d 4 dc)) rfl rfl (zad 5 u i rfl)
          · exact fun D n d c u i=>zaM (zbD rfl (zab (m:=3) u rfl (d 3 dc))) dc (zab (m:=5) u rfl (d 5 dc)) rfl zaq (zaR (show Value.bool ((q1.Part:Int)==0)=Value.bool false from congrArg Value.bool hb43) (zad 6 u i rfl))
          · exact fun D n d c u i=>zyR 1 rfl (zad 13 u i rfl)
          refine zyR 1 rfl (zaK ?_)
          exact zai (false,false) h rfl (za1 rfl) (zae [0,1,2] kr rfl)
         have h:=zc2 hb42 h
         refine zaN 14 [(0,74,zP b2),(1,75,zI q1.Line),(2,76,.bool false),(3,77,.bool false),(4,78,undef),(5,79,undef),(6,80,undef),(7,81,.bool false),(8,82,.bool false),(9,83,undef),(10,84,undef),(11,85,undef),(12,86,.bool false),(13,8,.bool false)] mixed kr kr dc (by rfl) kr kr (zaa ?_ (zaa ?_ (zaa ?_ (zyP 10 3 rfl (zaa ?_ DrawPre.nil))))) ?_
         · exact fun D n d c u i=>zac zaU rfl dc (zaD (by rfl) rfl) (show _=0 from rfl) (zad 0 u i rfl)
         · exact fun D n d c u i=>zah (k:=2) za5 rfl dc (zab (m:=0) u rfl (d 0 dc)) rfl rfl (zad 1 u i rfl)
         · exact fun D n d c u i=>zaM rfl dc (zab (m:=1) u rfl (d 1 dc)) rfl zaq (zaR (show Value.bool ((q1.Line:Int)==0)=Value.bool false from congrArg Value.bool hb42) (zad 2 u i rfl))
         · exact fun D n d c u i=>zyR 1 rfl (zad 13 u i rfl)
         refine zyR 1 rfl (zaK ?_)
         exact zai (false,false) h rfl (za1 rfl) (zae [0,1,2] kr rfl)
        refine zar ?_
        exact zai (false,(q1.Stanza:Int)==(last14+1)) h rfl (za1 rfl) (zae [0,1,2] kr rfl)
       refine zyR 14 rfl ?_
       refine zyR 1 rfl (zyN (cut (zyG (zac zaU rfl dc rfl (show _=0 from rfl) (zah (k:=1) za5 rfl dc rfl rfl rfl (zaQ rfl zaq (zyN ?_)))))))
       refine zyB rfl h (fun h => ?_) (fun h => ?_)
       ·
        refine zbd (b:=(q1.Line:Int)==0) (fun hb45 => ?_) (fun hb45 => ?_)
        ·
         have h:=zc1 hb45 h
         refine zbd (b:=(q1.Part:Int)==0) (fun hb46 => ?_) (fun hb46 => ?_)
         ·
          have h:=zc1 hb46 h
          refine zaN 14 [(0,74,zP b2),(1,75,zI q1.Line),(2,76,.bool true),(3,77,.bool true),(4,78,.pointer (some ⟨b2,2,none⟩)),(5,79,zI q1.Part),(6,80,.bool true),(7,81,.bool true),(8,82,.bool true),(9,83,.pointer (some ⟨b2,1,none⟩)),(10,84,zI q1.Stanza),(11,85,.bool ((q1.Stanza:Int)==0)),(12,86,.bool ((q1.Stanza:Int)==0)),(13,8,.bool false)] mixed kr kr dc (by rfl) kr kr (zaa ?_ (zaa ?_ (zaa ?_ (zyP 1 3 rfl (zaa ?_ (zaa ?_ (zaa ?_ (zyP 2 7 rfl (zaa ?_ (zaa ?_ (zaa ?_ (zyP 1 12 rfl (zaa ?_ DrawPre.nil))))))))))))) ?_
          · exact fun D n d c u i=>zac zaU rfl dc (zaD (by rfl) rfl) (show _=0 from rfl) (zad 0 u i rfl)
          · exact fun D n d c u i=>zah (k:=2) za5 rfl dc (zab (m:=0) u rfl (d 0 dc)) rfl rfl (zad 1 u i rfl)
          · exact fun D n d c u i=>zaM rfl dc (zab (m:=1) u rfl (d 1 dc)) rfl zaq (zaR (show Value.bool ((q1.Line:Int)==0)=Value.bool true from congrArg Value.bool hb45) (zad 2 u i rfl))
          · exact fun D n d c u i=>zac zbE (zbD rfl (zab (m:=3) u rfl (d 3 dc))) dc (zaD (by rfl) rfl) (show _=2 from rfl) (zad 4 u i rfl)
          · exact fun D n d c u i=>zah (k:=2) za5 (zbD rfl (zab (m:=3) u rfl (d 3 dc))) dc (zab (m:=4) u rfl (d 4 dc)) rfl rfl (zad 5 u i rfl)
          · exact fun D n d c u i=>zaM (zbD rfl (zab (m:=3) u rfl (d 3 dc))) dc (zab (m:=5) u rfl (d 5 dc)) rfl zaq (zaR (show Value.bool ((q1.Part:Int)==0)=Value.bool true from congrArg Value.bool hb46) (zad 6 u i rfl))
          · exact fun D n d c u i=>zac zbr (zbD rfl (zab (m:=8) u rfl (d 8 dc))) dc (zaD (by rfl) rfl) (show _=1 from rfl) (zad 9 u i rfl)
          · exact fun D n d c u i=>zah (k:=2) za5 (zbD rfl (zab (m:=8) u rfl (d 8 dc))) dc (zab (m:=9) u rfl (d 9 dc)) rfl rfl (zad 10 u i rfl)
          · exact fun D n d c u i=>zaM (zbD rfl (zab (m:=8) u rfl (d 8 dc))) dc (zab (m:=10) u rfl (d 10 dc)) rfl zaq (zad 11 u i rfl)
          · exact fun D n d c u i=>zyR 1 rfl (zad 13 u i rfl)
          refine zyR 1 rfl (zaK ?_)
          exact zai (false,(q1.Stanza:Int)==0) h rfl (za1 rfl) (zae [0,1,2] kr rfl)
         have h:=zc2 hb46 h
         refine zaN 14 [(0,74,zP b2),(1,75,zI q1.Line),(2,76,.bool true),(3,77,.bool true),(4,78,.pointer (some ⟨b2,2,none⟩)),(5,79,zI q1.Part),(6,80,.bool false),(7,81,.bool false),(8,82,.bool false),(9,83,undef),(10,84,undef),(11,85,undef),(12,86,.bool false),(13,8,.bool false)] mixed kr kr dc (by rfl) kr kr (zaa ?_ (zaa ?_ (zaa ?_ (zyP 1 3 rfl (zaa ?_ (zaa ?_ (zaa ?_ (zyP 6 7 rfl (zaa ?_ DrawPre.nil))))))))) ?_
         · exact fun D n d c u i=>zac zaU rfl dc (zaD (by rfl) rfl) (show _=0 from rfl) (zad 0 u i rfl)
         · exact fun D n d c u i=>zah (k:=2) za5 rfl dc (zab (m:=0) u rfl (d 0 dc)) rfl rfl (zad 1 u i rfl)
         · exact fun D n d c u i=>zaM rfl dc (zab (m:=1) u rfl (d 1 dc)) rfl zaq (zaR (show Value.bool ((q1.Line:Int)==0)=Value.bool true from congrArg Value.bool hb45) (zad 2 u i rfl))
         · exact fun D n d c u i=>zac zbE (zbD rfl (zab (m:=3) u rfl (d 3 dc))) dc (zaD (by rfl) rfl) (show _=2 from rfl) (zad 4 u i rfl)
         · exact fun D n d c u i=>zah (k:=2) za5 (zbD rfl (zab (m:=3) u rfl (d 3 dc))) dc (zab (m:=4) u rfl (d 4 dc)) rfl rfl (zad 5 u i rfl)
         · exact fun D n d c u i=>zaM (zbD rfl (zab (m:=3) u rfl (d 3 dc))) dc (zab (m:=5) u rfl (d 5 dc)) rfl zaq (zaR (show Value.bool ((q1.Part:Int)==0)=Value.bool false from congrArg Value.bool hb46) (zad 6 u i rfl))
         · exact fun D n d c u i=>zyR 1 rfl (zad 13 u i rfl)
         refine zyR 1 rfl (zaK ?_)
         exact zai (false,false) h rfl (za1 rfl) (zae [0,1,2] kr rfl)
        have h:=zc2 hb45 h
        refine zaN 14 [(0,74,zP b2),(1,75,zI q1.Line),(2,76,.bool false),(3,77,.bool false),(4,78,undef),(5,79,undef),(6,80,undef),(7,81,.bool false),(8,82,.bool false),(9,83,undef),(10,84,undef),(11,85,undef),(12,86,.bool false),(13,8,.bool false)] mixed kr kr dc (by rfl) kr kr (zaa ?_ (zaa ?_ (zaa ?_ (zyP 10 3 rfl (zaa ?_ DrawPre.nil))))) ?_
        · exact fun D n d c u i=>zac zaU rfl dc (zaD (by rfl) rfl) (show _=0 from rfl) (zad 0 u i rfl)
        · exact fun D n d c u i=>zah (k:=2) za5 rfl dc (zab (m:=0) u rfl (d 0 dc)) rfl rfl (zad 1 u i rfl)
        · exact fun D n d c u i=>zaM rfl dc (zab (m:=1) u rfl (d 1 dc)) rfl zaq (zaR (show Value.bool ((q1.Line:Int)==0)=Value.bool false from congrArg Value.bool hb45) (zad 2 u i rfl))
        · exact fun D n d c u i=>zyR 1 rfl (zad 13 u i rfl)
        refine zyR 1 rfl (zaK ?_)
        exact zai (false,false) h rfl (za1 rfl) (zae [0,1,2] kr rfl)
       refine zar ?_
       exact zai (false,false) h rfl (za1 rfl) (zae [0,1,2] kr rfl)
      refine zyR 14 rfl ?_
      refine zyR 6 rfl (zyN (cut (zyG (zac zaU rfl dc rfl (show _=0 from rfl) (zah (k:=1) za5 rfl dc rfl rfl rfl (zaQ rfl zaq ?_))))))
      refine zyN ?_
      refine zyB rfl h (fun h => ?_) (fun h => ?_)
      ·
       refine zbd (b:=(q1.Line:Int)==0) (fun hb48 => ?_) (fun hb48 => ?_)
       ·
        have h:=zc1 hb48 h
        refine zbd (b:=(q1.Part:Int)==0) (fun hb49 => ?_) (fun hb49 => ?_)
        ·
         have h:=zc1 hb49 h
         refine zaN 14 [(0,74,zP b2),(1,75,zI q1.Line),(2,76,.bool true),(3,77,.bool true),(4,78,.pointer (some ⟨b2,2,none⟩)),(5,79,zI q1.Part),(6,80,.bool true),(7,81,.bool true),(8,82,.bool true),(9,83,.pointer (some ⟨b2,1,none⟩)),(10,84,zI q1.Stanza),(11,85,.bool ((q1.Stanza:Int)==0)),(12,86,.bool ((q1.Stanza:Int)==0)),(13,8,.bool false)] mixed kr kr dc (by rfl) kr kr (zaa ?_ (zaa ?_ (zaa ?_ (zyP 1 3 rfl (zaa ?_ (zaa ?_ (zaa ?_ (zyP 2 7 rfl (zaa ?_ (zaa ?_ (zaa ?_ (zyP 1 12 rfl (zaa ?_ DrawPre.nil))))))))))))) ?_
         · exact fun D n d c u i=>zac zaU rfl dc (zaD (by rfl) rfl) (show _=0 from rfl) (zad 0 u i rfl)
         · exact fun D n d c u i=>zah (k:=2) za5 rfl dc (zab (m:=0) u rfl (d 0 dc)) rfl rfl (zad 1 u i rfl)
         · exact fun D n d c u i=>zaM rfl dc (zab (m:=1) u rfl (d 1 dc)) rfl zaq (zaR (show Value.bool ((q1.Line:Int)==0)=Value.bool true from congrArg Value.bool hb48) (zad 2 u i rfl))
         · exact fun D n d c u i=>zac zbE (zbD rfl (zab (m:=3) u rfl (d 3 dc))) dc (zaD (by rfl) rfl) (show _=2 from rfl) (zad 4 u i rfl)
         · exact fun D n d c u i=>zah (k:=2) za5 (zbD rfl (zab (m:=3) u rfl (d 3 dc))) dc (zab (m:=4) u rfl (d 4 dc)) rfl rfl (zad 5 u i rfl)
         · exact fun D n d c u i=>zaM (zbD rfl (zab (m:=3) u rfl (d 3 dc))) dc (zab (m:=5) u rfl (d 5 dc)) rfl zaq (zaR (show Value.bool ((q1.Part:Int)==0)=Value.bool true from congrArg Value.bool hb49) (zad 6 u i rfl))
         · exact fun D n d c u i=>zac zbr (zbD rfl (zab (m:=8) u rfl (d 8 dc))) dc (zaD (by rfl) rfl) (show _=1 from rfl) (zad 9 u i rfl)
         · exact fun D n d c u i=>zah (k:=2) za5 (zbD rfl (zab (m:=8) u rfl (d 8 dc))) dc (zab (m:=9) u rfl (d 9 dc)) rfl rfl (zad 10 u i rfl)
         · exact fun D n d c u i=>zaM (zbD rfl (zab (m:=8) u rfl (d 8 dc))) dc (zab (m:=10) u rfl (d 10 dc)) rfl zaq (zad 11 u i rfl)
         · exact fun D n d c u i=>zyR 1 rfl (zad 13 u i rfl)
         refine zyR 1 rfl (zaK ?_)
         exact zai (false,(q1.Stanza:Int)==0) h rfl (za1 rfl) (zae [0,1,2] kr rfl)
        have h:=zc2 hb49 h
        refine zaN 14 [(0,74,zP b2),(1,75,zI q1.Line),(2,76,.bool true),(3,77,.bool true),(4,78,.pointer (some ⟨b2,2,none⟩)),(5,79,zI q1.Part),(6,80,.bool false),(7,81,.bool false),(8,82,.bool false),(9,83,undef),(10,84,undef),(11,85,undef),(12,86,.bool false),(13,8,.bool false)] mixed kr kr dc (by rfl) kr kr (zaa ?_ (zaa ?_ (zaa ?_ (zyP 1 3 rfl (zaa ?_ (zaa ?_ (zaa ?_ (zyP 6 7 rfl (zaa ?_ DrawPre.nil))))))))) ?_
        · exact fun D n d c u i=>zac zaU rfl dc (zaD (by rfl) rfl) (show _=0 from rfl) (zad 0 u i rfl)
        · exact fun D n d c u i=>zah (k:=2) za5 rfl dc (zab (m:=0) u rfl (d 0 dc)) rfl rfl (zad 1 u i rfl)
        · exact fun D n d c u i=>zaM rfl dc (zab (m:=1) u rfl (d 1 dc)) rfl zaq (zaR (show Value.bool ((q1.Line:Int)==0)=Value.bool true from congrArg Value.bool hb48) (zad 2 u i rfl))
        · exact fun D n d c u i=>zac zbE (zbD rfl (zab (m:=3) u rfl (d 3 dc))) dc (zaD (by rfl) rfl) (show _=2 from rfl) (zad 4 u i rfl)
        · exact fun D n d c u i=>zah (k:=2) za5 (zbD rfl (zab (m:=3) u rfl (d 3 dc))) dc (zab (m:=4) u rfl (d 4 dc)) rfl rfl (zad 5 u i rfl)
        · exact fun D n d c u i=>zaM (zbD rfl (zab (m:=3) u rfl (d 3 dc))) dc (zab (m:=5) u rfl (d 5 dc)) rfl zaq (zaR (show Value.bool ((q1.Part:Int)==0)=Value.bool false from congrArg Value.bool hb49) (zad 6 u i rfl))
        · exact fun D n d c u i=>zyR 1 rfl (zad 13 u i rfl)
        refine zyR 1 rfl (zaK ?_)
        exact zai (false,false) h rfl (za1 rfl) (zae [0,1,2] kr rfl)
       have h:=zc2 hb48 h
       refine zaN 14 [(0,74,zP b2),(1,75,zI q1.Line),(2,76,.bool false),(3,77,.bool false),(4,78,undef),(5,79,undef),(6,80,undef),(7,81,.bool false),(8,82,.bool false),(9,83,undef),(10,84,undef),(11,85,undef),(12,86,.bool false),(13,8,.bool false)] mixed kr kr dc (by rfl) kr kr (zaa ?_ (zaa ?_ (zaa ?_ (zyP 10 3 rfl (zaa ?_ DrawPre.nil))))) ?_
       · exact fun D n d c u i=>zac zaU rfl dc (zaD (by rfl) rfl) (show _=0 from rfl) (zad 0 u i rfl)
       · exact fun D n d c u i=>zah (k:=2) za5 rfl dc (zab (m:=0) u rfl (d 0 dc)) rfl rfl (zad 1 u i rfl)
       · exact fun D n d c u i=>zaM rfl dc (zab (m:=1) u rfl (d 1 dc)) rfl zaq (zaR (show Value.bool ((q1.Line:Int)==0)=Value.bool false from congrArg Value.bool hb48) (zad 2 u i rfl))
       · exact fun D n d c u i=>zyR 1 rfl (zad 13 u i rfl)
       refine zyR 1 rfl (zaK ?_)
       exact zai (false,false) h rfl (za1 rfl) (zae [0,1,2] kr rfl)
      refine zar ?_
      exact zai (false,false) h rfl (za1 rfl) (zae [0,1,2] kr rfl)
     rintro ⟨goes1,next1⟩ h
     rw [hj3] at h
     obtain ⟨j4,hj4,h⟩:=zbU h
     refine zaZ (β:=Unit) 0 rfl (fun b=>j4=some r) (fun b=>[]) (fun b=>[(0,vrows1),(4,hd4.v),(5,zP b1),(6,zI i3),(7,zP b2),(9,.bool next1)]) (fun b=>[zfV zau zaz 49 1 hd4.v out4,cells b1 [zI last13,zI last14,zI last15,zI last16,zI last17,.string last18] 38,cells b2 (zr2 q1) 38]) (fun cut => ?_) ?_
     ·
      refine cut (zyG (zyR 1 rfl (zdg rfl dc rfl zch (zyR 1 rfl ?_))))
      refine zyS (s:=89) rfl h (fun h => ?_) (fun h => ?_)
      ·
       refine zyR 1 rfl (zdg rfl dc rfl zch (zyR 1 rfl (zyN ?_)))
       refine zyB rfl h (fun h => ?_) (fun h => ?_)
       ·
        refine zyG (zyR 2 rfl (zyN (zax (zag (zaj (zag (zag (zaj (zag (zjN (enc:=zau) (nest:=zaz) (e:=49) (size:=1) ?_))))))))))
        cases h
        exact zaC (rs:=[.tmp 2,.tmp 3]) (.slice none 0 0) (.inl rfl) Tryd.results13 (.cons (.tmp rfl) (.cons (.tmp rfl) .nil)) rfl (zae [3] kr rfl)
       refine zar ?_
       exact zai () h rfl (za1 rfl) (zae [0,1,2] kr rfl)
      refine zyR 3 rfl (zyN (zaP rfl (zar ?_)))
      exact zai () h rfl (za1 rfl) (zae [0,1,2] kr rfl)
     rintro _ h
     rw [hj4] at h
     obtain ⟨j5,hj5,h⟩:=zbU h
     refine zaZ (β:=(List (List ByteArray))×Hd) 0 rfl (fun b=>j5 b.1=some r) (fun b=>[]) (fun b=>[(0,vrows1),(4,b.2.v),(5,zP b1),(6,zI i3),(7,zP b2)]) (fun b=>[zfV zau zaz 49 1 b.2.v b.1,cells b1 [zI last13,zI last14,zI last15,zI last16,zI last17,.string last18] 38,cells b2 (zr2 q1) 38]) (fun cut => ?_) ?_
     ·
      refine cut (zyG (zyR 1 rfl (zyN ?_)))
      refine zyB rfl h (fun h => ?_) (fun h => ?_)
      ·
       obtain ⟨j6,hj6,h⟩:=zbU h
       refine zaZ (β:=Bool×Bool) 0 rfl (fun b=>j6 b.1 b.2=some r) (fun b=>[]) (fun b=>[(0,vrows1),(4,hd4.v),(5,zP b1),(6,zI i3),(7,zP b2),(98,.pointer (some ⟨b2,3,none⟩)),(99,zI q1.Indent),(100,.bool (decide ((1024:Int)<q1.Indent))),(103,.pointer (some ⟨b2,5,none⟩)),(104,.string q1.Text),(105,zI (q1.Text.size:Int)),(106,.bool (decide ((0:Int)<(q1.Text.size:Int)))),(107,.bool b.1),(112,.bool b.2)]) (fun b=>[zfV zau zaz 49 1 hd4.v out4,cells b1 [zI last13,zI last14,zI last15,zI last16,zI last17,.string last18] 38,cells b2 (zr2 q1) 38]) (fun cut => ?_) ?_
       ·
        refine cut (zyG (zac ze6 rfl dc rfl (show _=3 from rfl) (zah (k:=2) za5 rfl dc rfl rfl rfl (zaQ rfl zbV (zyR 1 rfl ?_)))))
        refine zyS (s:=97) rfl h (fun h => ?_) (fun h => ?_)
        ·
         refine zyR 14 rfl ?_
         refine zyR 2 rfl (zyN (zbg rfl (zyG (zyR 2 rfl (zyN (zax (zag (zag ?_))))))))
         refine zaj (zag (zag (zaj (zag (zjN (enc:=zau) (nest:=zaz) (e:=49) (size:=1) ?_)))))
         cases h
         exact zaC (rs:=[.tmp 2,.tmp 3]) (.slice none 0 0) (.inl rfl) Tryd.results13 (.cons (.tmp rfl) (.cons (.tmp rfl) .nil)) rfl (zae [3] kr rfl)
        refine zac ze6 rfl dc rfl (show _=3 from rfl) (zah (k:=2) za5 rfl dc rfl rfl rfl (zaQ rfl zcQ (zyR 2 rfl ?_)))
        refine zyS (s:=102) rfl h (fun h => ?_) (fun h => ?_)
        ·
         refine zyR 11 rfl (zyN (zbg rfl ?_))
         refine zyG (zyR 2 rfl (zyN (zax (zag (zag (zaj (zag (zag (zaj (zag ?_))))))))))
         refine zjN (enc:=zau) (nest:=zaz) (e:=49) (size:=1) ?_
         cases h
         exact zaC (rs:=[.tmp 2,.tmp 3]) (.slice none 0 0) (.inl rfl) Tryd.results13 (.cons (.tmp rfl) (.cons (.tmp rfl) .nil)) rfl (zae [3] kr rfl)
        refine zac zft rfl dc rfl (show _=5 from rfl) (zah (k:=2) zht rfl dc rfl rfl rfl (zbt rfl dc rfl Tryd.underlying9 (zaQ rfl zcQ (zyR 1 rfl ?_))))
        refine zyS (s:=107) rfl h (fun h => ?_) (fun h => ?_)
        ·
         refine zac zft rfl dc rfl (show _=5 from rfl) (zah (k:=2) zht rfl dc rfl rfl rfl ?_)
         obtain ⟨c1,hq2,h⟩:=zbT h
         refine zcH rfl dc rfl rfl (zbl Tryd.underlying9 hq2) (zaQ rfl zaq (zyR 2 rfl (zyN ?_)))
         refine zyB rfl h (fun h => ?_) (fun h => ?_)
         ·
          refine zyG (zyR 2 rfl (zyN (zax (zag (zag (zaj (zag (zag (zaj (zag ?_))))))))))
          refine zjN (enc:=zau) (nest:=zaz) (e:=49) (size:=1) ?_
          cases h
          exact zaC (rs:=[.tmp 2,.tmp 3]) (.slice none 0 0) (.inl rfl) Tryd.results13 (.cons (.tmp rfl) (.cons (.tmp rfl) .nil)) rfl (zae [3] kr rfl)
         refine zar ?_
         exact zai (true,(c1:Int)==32) h rfl (za1 rfl) (zae [0,1,2] kr rfl)
        refine zyR 6 rfl (zyN (zaP rfl (zar ?_)))
        exact zai (false,false) h rfl (za1 rfl) (zae [0,1,2] kr rfl)
       rintro ⟨x1,x2⟩ h
       rw [hj6] at h
       obtain ⟨j7,hj7,h⟩:=zbU h
       refine zaZ (β:=(List (List ByteArray))×Hd) 0 rfl (fun b=>j7 b.1=some r) (fun b=>[]) (fun b=>[(0,vrows1),(4,b.2.v),(5,zP b1),(6,zI i3),(7,zP b2),(98,.pointer (some ⟨b2,3,none⟩)),(99,zI q1.Indent),(100,.bool (decide ((1024:Int)<q1.Indent))),(103,.pointer (some ⟨b2,5,none⟩)),(104,.string q1.Text),(105,zI (q1.Text.size:Int)),(106,.bool (decide ((0:Int)<(q1.Text.size:Int)))),(107,.bool x1),(112,.bool x2)]) (fun b=>[zfV zau zaz 49 1 b.2.v b.1,cells b1 [zI last13,zI last14,zI last15,zI last16,zI last17,.string last18] 38,cells b2 (zr2 q1) 38]) (fun cut => ?_) ?_
       ·
        refine cut (zyG (zac zbr rfl dc rfl (show _=1 from rfl) (zah (k:=2) za5 rfl dc rfl rfl rfl (zyR 1 rfl (zg7 (k:=0) rfl dc rfl rfl Tryd.underlying43 (zaQ rfl zaq (zyN ?_)))))))
        refine zyB rfl h (fun h => ?_) (fun h => ?_)
        ·
         refine zaG (zyR 1 rfl ?_)
         refine zbn (cs:=[.slice none 0 0]) (te:=49) (ps:=[(0,.const (.slice none 0 0))]) rfl dc rfl (fun _=>by kernel_rfl) (fun b3 => ?_)
         refine zkI (enc:=zhx) (e:=9) (size:=1) ?_
         refine zeX (k:=0) rfl zlX (fun zs1 hz1 => ?_)
         obtain ⟨hg8,h⟩:=zbM h
         refine zbH (k:=0) (k2:=3) (ys:=[(([]:List ByteArray),Hd.nil)]) Tryd.underlying43 zqr za4 zeW rfl dc rfl rfl rfl rfl rfl rfl (by rw [zqX hz1]; exact hg8) (fun v1 => ?_)
         refine zcn (k:=0) rfl (fun hd8 he1 => ?_)
         subst he1
         refine zfJ (k:=5) rfl (zae [4] kr rfl) rfl (zoE (nest:=zaz) (zs:=zs1) (z:=(([]:List ByteArray),Hd.nil))) ?_
         refine zfJ (k:=0) rfl (zae [5] kr rfl) rfl (zi2 (enc:=zau) (nest:=zaz) (zsg hz1)) ?_
         refine zc5 (L':=[zfV zau zaz 49 1 hd8.v (out4++[([]:List ByteArray)]),cells b1 [zI last13,zI last14,zI last15,zI last16,zI last17,.string last18] 38,cells b2 (zr2 q1) 38,cells b3 [.slice none 0 0] 49]) (zae [0,1,2,3] kr rfl) (zyR 1 rfl (zaK ?_))
         exact zai (out4++[([]:List ByteArray)],hd8) h rfl (za1 rfl) (zae [0,1,2] kr rfl)
        refine zar ?_
        exact zai (out4,hd4) h rfl (za1 rfl) (zae [0,1,2] kr rfl)
       rintro ⟨out7,hd7⟩ h
       rw [hj7] at h
       refine zeY (k:=0) rfl zlX (fun zs2 hz2 => ?_)
       obtain ⟨x3,hq3,h⟩:=zbT h
       obtain ⟨eh1,eq1⟩:=zhh hz2 hq3
       obtain ⟨r1,hq4,h⟩:=zbT h
       obtain ⟨hg9,h⟩:=zbM h
       obtain ⟨hg10,h⟩:=zbM h
       refine zeY (k:=3) rfl (zmM (zaV eq1)) (fun _ _ => ?_)
       refine zfU 1 ?_
       refine let vals1:(Nat×Hd)→List (Nat×Nat×Value):=fun b=>[(0,122,hd7.v),(1,123,.pointer (some ⟨b2,1,none⟩)),(2,124,zI q1.Stanza),(3,125,hd7.v),(4,126,.pointer (some ⟨b2,1,none⟩)),(5,127,zI q1.Stanza),(6,128,.pointer (some ⟨zc7 hd7.v,(q1.Stanza:Int).toNat*1,none⟩)),(7,129,eh1.v),(8,130,.pointer (some ⟨b2,3,none⟩)),(9,131,zI q1.Indent),(10,132,.string r1),(11,133,.pointer (some ⟨b2,5,none⟩)),(12,134,.string q1.Text),(13,135,.string (r1++q1.Text)),(14,136,.slice (some ⟨b.1,0,none⟩) 1 1),(15,137,b.2.v)]; let LL1:(Nat→Prop)→(Nat×Hd)→List Asn:=fun D b=>[zv8 hd7.v zs2,cells b1 [zI last13,zI last14,zI last15,zI last16,zI last17,.string last18] 38,cells b2 (zr2 q1) 38,own zaz (zs2.eraseIdx ((q1.Stanza:Int).toNat)),eD D (zv4 eh1.v x3) [(15,zv4 b.2.v (x3++[r1++q1.Text]))],eD D emp [(14,cells b.1 [.string (r1++q1.Text)] 9)]]; ?_
       have zhq:zyQ [14,15] LL1:=fun i h D b=>zaf rfl (zaf rfl (zaf rfl (zaf rfl (zaf (zmd rfl h) (zaf (zmd rfl h) rfl)))))
       refine zdS (β:=Nat×Hd) 16 ((0:Nat),Hd.nil) vals1 LL1 mixed kr kr dc (fun _=>rfl) (zdr (zaf zcz (zaf zcz rfl))) (znC zhq (fun _=>rfl) (fun _=>rfl) 1 0 (fun _=>rfl) rfl (zyq zhq rfl (fun _=>rfl) (fun _=>rfl) ?_ (zho zhq rfl (fun _=>rfl) (fun _=>rfl) ?_ (znC zhq (fun _=>rfl) (fun _=>rfl) 1 3 (fun _=>rfl) rfl (zyq zhq rfl (fun _=>rfl) (fun _=>rfl) ?_ (zho zhq rfl (fun _=>rfl) (fun _=>rfl) ?_ (zho zhq rfl (fun _=>rfl) (fun _=>rfl) ?_ (zho zhq rfl (fun _=>rfl) (fun _=>rfl) ?_ (zyq zhq rfl (fun _=>rfl) (fun _=>rfl) ?_ (zho zhq rfl (fun _=>rfl) (fun _=>rfl) ?_ (zho zhq rfl (fun _=>rfl) (fun _=>rfl) ?_ (zyq zhq rfl (fun _=>rfl) (fun _=>rfl) ?_ (zho zhq rfl (fun _=>rfl) (fun _=>rfl) ?_ (zyq zhq rfl (fun _=>rfl) (fun _=>rfl) ?_ (zay ?_ (zay ?_ DrawG.nil)))))))))))))))) ?_
       · exact fun D ⟨b4,hd9⟩ n d c u i=>zac zbr rfl dc (zaD (by rfl) rfl) (show _=1 from rfl) (zad 1 u i rfl)
       · exact fun D ⟨b4,hd9⟩ n d c u i=>⟨_,(zqR rfl),zah (k:=2) za5 rfl dc (zab (m:=1) u rfl (d 1 dc)) rfl rfl (zad 2 u i rfl)⟩
       · exact fun D ⟨b4,hd9⟩ n d c u i=>zac zbr rfl dc (zaD (by rfl) rfl) (show _=1 from rfl) (zad 4 u i rfl)
       · exact fun D ⟨b4,hd9⟩ n d c u i=>⟨_,(zdr (zaf (zao (fun hD=>n (c 6 _ rfl (c 7 _ rfl (c 15 _ rfl hD 7 dc) 6 dc) 5 dc)) zas) rfl)),zah (k:=2) za5 rfl dc (zab (m:=4) u rfl (d 4 dc)) rfl rfl (zad 5 u i rfl)⟩
       · exact fun D ⟨b4,hd9⟩ n d c u i=>⟨_,(zdr (zaf (zao (fun hD=>n (c 7 _ rfl (c 15 _ rfl hD 7 dc) 6 dc)) zas) rfl)),zaX (k:=0) eq1 Tryd.underlying43 zhr rfl dc (zab (m:=3) u rfl (d 3 dc)) (zab (m:=5) u rfl (d 5 dc)) rfl rfl (zad 6 u i rfl)⟩
       · exact fun D ⟨b4,hd9⟩ n d c u i=>⟨_,(zdr (zaf (zao (fun hD=>n (c 15 _ rfl hD 7 dc)) zas) rfl)),zbA (i:=(q1.Stanza:Int).toNat) (j:=0) (k:=0) (q:=(x3,eh1)) zhV za4 rfl dc (zab (m:=6) u rfl (d 6 dc)) rfl (zaV eq1) rfl dc rfl (zad 7 u i rfl)⟩
       · exact fun D ⟨b4,hd9⟩ n d c u i=>zac ze6 rfl dc (zaD (by rfl) rfl) (show _=3 from rfl) (zad 8 u i rfl)
       · exact fun D ⟨b4,hd9⟩ n d c u i=>⟨_,(zdr (zaf (zao (fun hD=>n (c 10 _ rfl (c 15 _ rfl hD 10 dc) 9 dc)) zas) (zaf (zao (fun hD=>n (c 10 _ rfl (c 13 _ rfl (c 14 _ rfl hD 13 dc) 10 dc) 9 dc)) zas) rfl))),zah (k:=2) za5 rfl dc (zab (m:=8) u rfl (d 8 dc)) rfl rfl (zad 9 u i rfl)⟩
       · exact fun D ⟨b4,hd9⟩ n d c u i=>⟨_,(zdr (zaf (zao (fun hD=>n (c 15 _ rfl hD 10 dc)) zas) (zaf (zao (fun hD=>n (c 13 _ rfl (c 14 _ rfl hD 13 dc) 10 dc)) zas) rfl))),zbb (v:=.string r1) (vs:=[zI q1.Indent]) rfl dc rfl (evL.cons (zab (m:=9) u rfl (d 9 dc)) evL.nil) rfl zrK (zh0 hq4) (zad 10 u i rfl)⟩
       · exact fun D ⟨b4,hd9⟩ n d c u i=>zac zft rfl dc (zaD (by rfl) rfl) (show _=5 from rfl) (zad 11 u i rfl)
       · exact fun D ⟨b4,hd9⟩ n d c u i=>⟨_,(zdr (zaf (zao (fun hD=>n (c 13 _ rfl (c 14 _ rfl (c 15 _ rfl hD 14 dc) 13 dc) 12 dc)) zas) (zaf (zao (fun hD=>n (c 13 _ rfl (c 14 _ rfl hD 13 dc) 12 dc)) zas) rfl))),zah (k:=2) zht rfl dc (zab (m:=11) u rfl (d 11 dc)) rfl rfl (zad 12 u i rfl)⟩
       · exact fun D ⟨b4,hd9⟩ n d c u i=>zaM rfl dc (zab (m:=10) u rfl (d 10 dc)) (zab (m:=12) u rfl (d 12 dc)) (zer hg9) (zad 13 u i rfl)
       ·
        intro D b hn hd hcl
        obtain ⟨zb0,hd9⟩:=b
        refine zaO (zdr (zaf (zao (fun hD=>hn (hcl 15 _ rfl hD 14 dc)) zas) (zaf (zao hn zas) rfl))) ?_
        refine zbn (cs:=[.string (r1++q1.Text)]) (te:=9) (ps:=[(0,.tmp 135)]) rfl dc (evP.cons (zab (m:=13) rfl rfl (hd 13 dc)) evP.nil) (fun _=>by kernel_rfl) (fun b4 => ?_)
        refine zd6 5 rfl rfl ?_
        exact za0 (b:=(zb0,hd9)) (b4,hd9) 14 (by rfl) (by rfl) rfl (zqS (zeu (zak (fun hD=>absurd hD hn) (zak (fun _=>rfl) rfl)))) (zdr (zaf ((zaB (by rfl)).trans (zao (fun hD=>hn (hcl 15 _ rfl hD 14 dc)) zas)) (zaf (zba (Or.inr rfl) rfl) rfl)))
       ·
        intro D b hn hd hcl
        obtain ⟨b4,zb1⟩:=b
        refine zaO (zdr (zaf (zao hn zas) (zaf (zba (hd 14 dc) rfl) rfl))) ?_
        refine zbH (k:=4) (k2:=5) (ys:=[r1++q1.Text]) Tryd.underlying49 zrS zeo zjC rfl dc (zab (m:=7) rfl rfl (hd 7 dc)) (zab (m:=14) rfl rfl (hd 14 dc)) rfl rfl rfl rfl hg10 (fun v2 => ?_)
        refine zcn (k:=4) rfl (fun hd9 he2 => ?_)
        subst he2
        exact za0 (b:=(b4,zb1)) (b4,hd9) 15 (by rfl) (by rfl) rfl (zsf (zeu (zak (fun hD=>absurd hD hn) rfl))) (zdr (zaf (zba (Or.inr rfl) rfl) (zaf ((zaB (by rfl)).trans (zba (hd 14 dc) rfl)) rfl)))
       intro D b hall
       obtain ⟨b4,hd9⟩:=b
       refine zaO (zdr (zaf (zba (hall 15 dc) rfl) (zaf (zba (hall 14 dc) rfl) rfl))) (zaX (k:=0) eq1 Tryd.underlying43 zhr rfl dc rfl rfl rfl rfl ?_)
       refine zdw (i:=(q1.Stanza:Int).toNat) (j:=0) (k:=0) (q:=(x3,eh1)) (q':=(x3++[r1++q1.Text],hd9)) zhr za4 rfl rfl rfl rfl (zaV eq1) rfl dc rfl (fun _ _=>rfl) ?_
       refine zfJ (k:=3) rfl (zae [4] kr rfl) rfl (zmL (nest:=zaz) (zs:=zs2) (z:=(x3++[r1++q1.Text],hd9)) (zjk (zaV eq1)) zgi) ?_
       refine zaK (zfI (k:=0) rfl (zae [3] kr rfl) rfl (zi2 (enc:=zau) (nest:=zaz) (zqH hz2)) ?_)
       exact zai (out7.set (q1.Stanza:Int).toNat (x3++[r1++q1.Text]),hd7) h rfl (za1 rfl) (zae [0,1,2] kr rfl)
      refine zyG (zyR 1 rfl (zac zbr rfl dc rfl (show _=1 from rfl) (zah (k:=2) za5 rfl dc rfl rfl rfl ?_)))
      refine zeX (k:=0) rfl zlX (fun zs3 hz3 => ?_)
      obtain ⟨x4,hq5,h⟩:=zbT h
      obtain ⟨eh2,eq2⟩:=zhh hz3 hq5
      refine zaX (k:=0) eq2 Tryd.underlying43 zhr rfl dc rfl rfl rfl rfl (zbA (i:=(q1.Stanza:Int).toNat) (j:=0) (k:=0) (q:=(x4,eh2)) zhV za4 rfl dc rfl rfl (zaV eq2) rfl dc rfl ?_)
      refine zeX (k:=3) rfl (zmM (zaV eq2)) (fun _ _ => ?_)
      refine zdj (k:=4) rfl dc rfl rfl Tryd.underlying49 ?_
      obtain ⟨hg11,h⟩:=zbM h
      refine zaQ rfl (zcc (r:=(x4.length:Int) - 1) (IntWalk.i64_in _ hg11)) (zyR 1 rfl (zyN (zom (k:=3) rfl (zae [4] kr rfl) rfl (zmL (nest:=zaz) (zaV eq2) rfl) ?_)))
      obtain ⟨x5,hq6,h⟩:=zbT h
      obtain ⟨eh3,eq3⟩:=zhh hz3 hq6
      obtain ⟨q2,hq7,h⟩:=zbT h
      obtain ⟨hg12,h⟩:=zbM h
      refine zeY (k:=3) rfl (zmM (zaV eq3)) (fun _ _ => ?_)
      refine zaN 17 [(0,146,hd4.v),(1,147,.pointer (some ⟨b2,1,none⟩)),(2,148,zI q1.Stanza),(3,149,.pointer (some ⟨zc7 hd4.v,(q1.Stanza:Int).toNat*1,none⟩)),(4,150,eh3.v),(5,151,zI ((x4.length:Int) - 1)),(6,152,hd4.v),(7,153,.pointer (some ⟨b2,1,none⟩)),(8,154,zI q1.Stanza),(9,155,.pointer (some ⟨zc7 hd4.v,(q1.Stanza:Int).toNat*1,none⟩)),(10,156,eh3.v),(11,157,zI ((x4.length:Int) - 1)),(12,158,.pointer (some ⟨zc7 eh3.v,((x4.length:Int) - 1:Int).toNat*1,none⟩)),(13,159,.string q2),(14,160,.pointer (some ⟨b2,5,none⟩)),(15,161,.string q1.Text),(16,162,.string (q2++q1.Text))] mixed kr kr dc (by rfl) kr kr (zyP 1 0 rfl (zaa ?_ (zaa ?_ (zaa ?_ (zaa ?_ (zyP 2 5 rfl (zaa ?_ (zaa ?_ (zaa ?_ (zaa ?_ (zyP 1 11 rfl (zaa ?_ (zaa ?_ (zaa ?_ (zaa ?_ (zaa ?_ DrawPre.nil)))))))))))))))) ?_
      · exact fun D n d c u i=>zac zbr rfl dc (zaD (by rfl) rfl) (show _=1 from rfl) (zad 1 u i rfl)
      · exact fun D n d c u i=>zah (k:=2) za5 rfl dc (zab (m:=1) u rfl (d 1 dc)) rfl rfl (zad 2 u i rfl)
      · exact fun D n d c u i=>zaX (k:=0) eq3 Tryd.underlying43 zhr rfl dc (zab (m:=0) u rfl (d 0 dc)) (zab (m:=2) u rfl (d 2 dc)) rfl rfl (zad 3 u i rfl)
      · exact fun D n d c u i=>zbA (i:=(q1.Stanza:Int).toNat) (j:=0) (k:=0) (q:=(x5,eh3)) zhV za4 rfl dc (zab (m:=3) u rfl (d 3 dc)) rfl (zaV eq3) rfl dc rfl (zad 4 u i rfl)
      · exact fun D n d c u i=>zac zbr rfl dc (zaD (by rfl) rfl) (show _=1 from rfl) (zad 7 u i rfl)
      · exact fun D n d c u i=>zah (k:=2) za5 rfl dc (zab (m:=7) u rfl (d 7 dc)) rfl rfl (zad 8 u i rfl)
      · exact fun D n d c u i=>zaX (k:=0) eq3 Tryd.underlying43 zhr rfl dc (zab (m:=6) u rfl (d 6 dc)) (zab (m:=8) u rfl (d 8 dc)) rfl rfl (zad 9 u i rfl)
      · exact fun D n d c u i=>zbA (i:=(q1.Stanza:Int).toNat) (j:=0) (k:=0) (q:=(x5,eh3)) zhV za4 rfl dc (zab (m:=9) u rfl (d 9 dc)) rfl (zaV eq3) rfl dc rfl (zad 10 u i rfl)
      · exact fun D n d c u i=>zaX (k:=5) hq7 Tryd.underlying49 zmt rfl dc (zab (m:=10) u rfl (d 10 dc)) (zab (m:=11) u rfl (d 11 dc)) rfl rfl (zad 12 u i rfl)
      · exact fun D n d c u i=>zbA (i:=((x4.length:Int) - 1:Int).toNat) (j:=0) (k:=5) (q:=q2) zht zeo rfl dc (zab (m:=12) u rfl (d 12 dc)) rfl (zaV hq7) rfl dc rfl (zad 13 u i rfl)
      · exact fun D n d c u i=>zac zft rfl dc (zaD (by rfl) rfl) (show _=5 from rfl) (zad 14 u i rfl)
      · exact fun D n d c u i=>zah (k:=2) zht rfl dc (zab (m:=14) u rfl (d 14 dc)) rfl rfl (zad 15 u i rfl)
      · exact fun D n d c u i=>zaM rfl dc (zab (m:=13) u rfl (d 13 dc)) (zab (m:=15) u rfl (d 15 dc)) (zer hg12) (zad 16 u i rfl)
      refine zaX (k:=5) hq7 Tryd.underlying49 zmt rfl dc rfl rfl rfl rfl ?_
      refine zdw (i:=((x4.length:Int) - 1:Int).toNat) (j:=0) (k:=5) (q:=q2) (q':=q2++q1.Text) zmt zeo rfl rfl rfl rfl (zaV hq7) rfl dc rfl (fun _ _=>rfl) ?_
      refine zaK (zoQ (k:=0) rfl (zlg (zmk (zaV eq3)).symm (q1:=(x5,eh3)) (q2:=(x5.set ((x4.length:Int) - 1:Int).toNat (q2++q1.Text),eh3)) za4 rfl) (zfI (k:=3) rfl (zae [5] kr rfl) rfl (zmL (nest:=zaz) (zs:=zs3) (z:=(x5.set ((x4.length:Int) - 1:Int).toNat (q2++q1.Text),eh3)) (zjk (zaV eq3)) zgi) ?_))
      refine zfI (k:=0) rfl (zae [3] kr rfl) rfl (zi2 (enc:=zau) (nest:=zaz) (zqH hz3)) ?_
      exact zai (out4.set ((q1.Stanza:Int).toNat) (x5.set ((x4.length:Int) - 1:Int).toNat (q2++q1.Text)),hd4) h rfl (za1 rfl) (zae [0,1,2] kr rfl)
     rintro ⟨out6,hd6⟩ h
     rw [hj5] at h
     refine zaG (zbf (k:=2) (cs:=(zr2 q1)) zlP rfl dc rfl rfl rfl rfl (za6 (k:=1) (vs:=(zr2 q1)) (l':=(zr2 q1)) zhS rfl rfl rfl rfl rfl (show _≤_ by simp) rfl rfl (zaK (zal ?_))))
     exact zai (out6,q1.Line,q1.Stanza,q1.Part,q1.Indent,q1.Number,q1.Text,hd6) h rfl (za1 rfl) (zae [0,1] kr rfl)
    rintro ⟨out5,last19,last20,last21,last22,last23,last24,hd5⟩ h
    rw [hj2] at h
    refine zaG (zyR 1 rfl ?_)
    obtain ⟨hg13,h⟩:=zbM h
    refine zaQ rfl (zaW (r:=i3+1) (IntWalk.i64_in _ hg13)) (zyR 1 rfl (zaK ?_))
    subst hag1
    exact za8 (n1,out5,last19,last20,last21,last22,last23,last24,i3+1,hd5) h (Nat.lt_succ_self _) rfl (za1 rfl) (zae [0,1] kr rfl)
   refine zbc (zap (zap (zaw ?_)))
   exact zai (out4,hd4) h rfl (za1 rfl) (zae [0] kr rfl)
 rintro ⟨out1,hd1⟩ h
 rw [hj1] at h
 refine zyG (zyR 3 rfl (zyN (zax ?_)))
 cases h
 exact zaC (rs:=[.tmp 2,.tmp 3]) hd1.v (.inl rfl) Tryd.results13 (.cons (.tmp rfl) (.cons (.tmp rfl) .nil)) rfl (zae [0] kr rfl)
end Go.Proofs.YtbempdelckaccaaDoor

namespace Go.Proofs.YtbempdelckaccaaDoor
open Go.RowKit Go.Lib
set_option linter.unusedVariables false
set_option linter.unusedSimpArgs false
def zbj (rows1:List Gapi_Row) (j1:Option Bool) (ag1:Int→Int→Option Bool) (n3:Int) (i3:Int):Option Bool :=
zam (decide ((i3:Int)<(rows1.length:Int))) (
zbk (fun (j2:Int→Option Bool) =>
zan (zcI rows1 i3) fun (q1:Gapi_Row) =>
grd (I64 (n3+(q1.Text.size:Int))) <|
zan (zcI rows1 i3) fun (q2:Gapi_Row) =>
zam (decide ((0:Int)<q2.Indent)) (
zam (decide ((q2.Indent:Int)≤1024)) (
zan (zcI rows1 i3) fun (q3:Gapi_Row) =>
grd (I64 ((n3+(q1.Text.size:Int))+q3.Indent)) <|
j2 ((n3+(q1.Text.size:Int))+q3.Indent)
) (
j2 (n3+(q1.Text.size:Int))
)
) (
j2 (n3+(q1.Text.size:Int))
)
) (fun (n5:Int) =>
zam (decide ((60000:Int)<n5)) (
some true
) (
zam (decide ((400:Int)<i3)) (
some true
) (
grd (I64 (i3+1)) <|
ag1 n5 (i3+1)
)
)
)
) (
j1
)
def zcX (title1:ByteArray) (rows1:List Gapi_Row):Option Bool :=
zan (zeF) fun (r1:Bool) =>
zam (!r1) (
some false
) (
zbk (fun (j1:Option Bool) =>
zaT (fun _ _=>none) (zbj rows1 j1) zb8 (title1.size:Int) 0
) (
zan (zdY title1 rows1) fun (r2:((Option Gpoem_Poem)×Int)) =>
zan (zdy rows1) fun (r3:((List (List ByteArray))×Bool)) =>
zam (!r3.2) (
zam (r2.1.isNone) (
some ((r2.2:Int)==300)
) (
some false
)
) (
zan (zcW title1 r3.1) fun (r4:((Option Gpoem_Poem)×Int)) =>
zam ((r2.2:Int) != r4.2) (
some false
) (
zam (r2.1.isNone != r4.1.isNone) (
some false
) (
zam (r4.1.isNone) (
some true
) (
zan (r4.1) fun (p1:Gpoem_Poem) =>
zan (r2.1) fun (p2:Gpoem_Poem) =>
zan (zcC p1 p2) fun (r5:Bool) =>
some r5
)
)
)
)
)
)
theorem zfL {title1:ByteArray} {vvrows1 vrows1:Value} {orows1:Nat} {rows1:List Gapi_Row} (hwrows1:VwO vvrows1 orows1 vrows1 rows1) {r:Bool} (h:zcX title1 rows1=some r):FnR Tryd.prog 4 [.string title1,vrows1] [zhd enc_Gapi_Row 6 vvrows1 orows1 rows1] [] (fun _:Unit=>(.bool r)) (fun _=>[]):=by
 unfold zcX at h
 refine FnR.intro Tryd.func4 rfl Tryd.ntmps4 (by simp) ?_
 intro w0 K hrd
 refine zyG (zyR 1 rfl (zyN (zaF (zyG ?_))))
 obtain ⟨r1,hq1,h⟩:=zbT h
 refine zbb (v:=.bool r1) (vs:=[]) rfl dc rfl rfl rfl zsF (zjr hq1) (zdg rfl dc rfl zch (zyN ?_))
 refine zyB rfl h (fun h => ?_) (fun h => ?_)
 ·
  refine zyG (zyR 1 rfl (zyN (zax (zag ?_))))
  cases h
  exact zaC (rs:=[.tmp 4]) () (.inl rfl) Tryd.results4 (.cons (.tmp rfl) .nil) rfl Splits.nil
 refine zar (zaH ?_)
 obtain ⟨j1,hj1,h⟩:=zbU h
 refine zaZ (β:=Unit) 1 rfl (fun b=>j1=some r) (fun b=>[]) (fun b=>[(0,.string title1),(1,vrows1)]) (fun b=>[]) (fun cut => ?_) ?_
 ·
  refine zyG (zyR 1 rfl (zbt rfl dc rfl Tryd.underlying9 (zyR 1 rfl (zyN (cut (zyG (zyR 1 rfl (zyN (zaL ?_)))))))))
  refine zbK (β:=Nat×Int×Int) (fun b=>zaT (fun _ _=>none) (zbj rows1 j1) b.1 b.2.1 b.2.2=some r) (fun b=>[]) (fun b=>[(0,.string title1),(1,vrows1),(5,zI b.2.1),(6,zI b.2.2)]) (fun b=>[]) (fun b=>b.1) (zb8,(title1.size:Int),0) h rfl (za1 rfl) Splits.nil ?_
  rintro ⟨n4,n3,i3⟩ h
  cases n4 with
  | zero=>exact zdu h
  | succ n4 =>
   obtain ⟨ag1,hag1⟩:∃ ag,ag=zaT (fun _ _=>none) (zbj rows1 j1) n4:=⟨_,rfl⟩
   have h:zbj rows1 j1 ag1 n3 i3=some r:=by rw [hag1]; exact h
   unfold zbj at h
   refine zaF (zyG (zyR 2 rfl (ziw hwrows1 rfl dc rfl Tryd.underlying30 (zaQ rfl zbV (zyN ?_)))))
   refine zyB rfl h (fun h => ?_) (fun h => ?_)
   ·
    refine zar (zaH (zaF (zaL ?_)))
    obtain ⟨j2,hj2,h⟩:=zbU h
    refine zaZ (β:=Int) 1 rfl (fun b=>j2 b=some r) (fun b=>[]) (fun b=>[(0,.string title1),(1,vrows1),(5,zI b),(6,zI i3)]) (fun b=>[]) (fun cut => ?_) ?_
    ·
     refine zyG (zyR 3 rfl ?_)
     obtain ⟨q1,hq2,h⟩:=zbT h
     refine zd2 hwrows1 hq2 Tryd.underlying30 zhS rfl dc rfl rfl rfl (zac zft rfl dc rfl (show _=orows1+((i3:Int).toNat)*6+5 from rfl) (zes (n:=(i3:Int).toNat) (j:=5) (i:=0) (q:=q1) hrd rfl zht rfl dc rfl (zaV hq2) rfl rfl (zbt rfl dc rfl Tryd.underlying9 ?_)))
     obtain ⟨hg1,h⟩:=zbM h
     refine zaQ rfl (zaW (r:=n3+(q1.Text.size:Int)) (IntWalk.i64_in _ hg1)) (zyR 1 rfl (zyN (cut (zyG (zyR 2 rfl ?_)))))
     obtain ⟨q2,hq3,h⟩:=zbT h
     refine zd2 hwrows1 hq3 Tryd.underlying30 zhS rfl dc rfl rfl rfl (zac ze6 rfl dc rfl (show _=orows1+((i3:Int).toNat)*6+3 from rfl) (zes (n:=(i3:Int).toNat) (j:=3) (i:=0) (q:=q2) hrd rfl za5 rfl dc rfl (zaV hq3) rfl rfl (zaQ rfl zcQ (zyR 1 rfl ?_))))
     refine zyS (s:=37) rfl h (fun h => ?_) (fun h => ?_)
     ·
      refine zyR 2 rfl (zd2 hwrows1 hq3 Tryd.underlying30 zhS rfl dc rfl rfl rfl (zac ze6 rfl dc rfl (show _=orows1+((i3:Int).toNat)*6+3 from rfl) (zes (n:=(i3:Int).toNat) (j:=3) (i:=0) (q:=q2) hrd rfl za5 rfl dc rfl (zaV hq3) rfl rfl (zaQ rfl zd1 (zyR 1 rfl (zyN ?_))))))
      refine zyB rfl h (fun h => ?_) (fun h => ?_)
      ·
       refine zaG (zyR 3 rfl ?_)
       obtain ⟨q3,hq4,h⟩:=zbT h
       refine zd2 hwrows1 hq4 Tryd.underlying30 zhS rfl dc rfl rfl rfl (zac ze6 rfl dc rfl (show _=orows1+((i3:Int).toNat)*6+3 from rfl) (zes (n:=(i3:Int).toNat) (j:=3) (i:=0) (q:=q3) hrd rfl za5 rfl dc rfl (zaV hq4) rfl rfl ?_))
       obtain ⟨hg2,h⟩:=zbM h
       refine zaQ rfl (zaW (r:=(n3+(q1.Text.size:Int))+q3.Indent) (IntWalk.i64_in _ hg2)) (zyR 1 rfl (zaK ?_))
       exact zai ((n3+(q1.Text.size:Int))+q3.Indent) h rfl (za1 rfl) Splits.nil
      refine zar ?_
      exact zai (n3+(q1.Text.size:Int)) h rfl (za1 rfl) Splits.nil
     refine zyR 7 rfl (zyN (zaP rfl (zar ?_)))
     exact zai (n3+(q1.Text.size:Int)) h rfl (za1 rfl) Splits.nil
    rintro n5 h
    rw [hj2] at h
    refine zyG (zyR 1 rfl (zaQ rfl zcQ (zyR 1 rfl ?_)))
    refine zyS (s:=54) rfl h (fun h => ?_) (fun h => ?_)
    ·
     refine zyR 3 rfl (zyN (zbg rfl (zyG (zyR 1 rfl (zyN (zax (zaj (zag ?_))))))))
     refine zag (zaj (zag ?_))
     cases h
     exact zaC (rs:=[.tmp 4]) () (.inl rfl) Tryd.results4 (.cons (.tmp rfl) .nil) rfl Splits.nil
    refine zyR 1 rfl (zaQ rfl zcQ (zyR 1 rfl (zyN ?_)))
    refine zyB rfl h (fun h => ?_) (fun h => ?_)
    ·
     refine zyG (zyR 1 rfl (zyN (zax (zaj (zag (zag (zaj (zag ?_))))))))
     cases h
     exact zaC (rs:=[.tmp 4]) () (.inl rfl) Tryd.results4 (.cons (.tmp rfl) .nil) rfl Splits.nil
    refine zar (zal (zaH (zaG (zyR 1 rfl ?_))))
    obtain ⟨hg3,h⟩:=zbM h
    refine zaQ rfl (zaW (r:=i3+1) (IntWalk.i64_in _ hg3)) (zyR 1 rfl (zaK ?_))
    subst hag1
    exact za8 (n4,n5,i3+1) h (Nat.lt_succ_self _) rfl (za1 rfl) Splits.nil
   refine zbc (zap (zap (zaw ?_)))
   exact zai () h rfl (za1 rfl) Splits.nil
 rintro _ h
 rw [hj1] at h
 refine zyG (zyR 2 rfl ?_)
 obtain ⟨r2,hq5,h⟩:=zbT h
 refine zfK (vs:=[.string title1,vrows1]) hrd rfl dc rfl rfl rfl zrR (zkf hwrows1 hq5) Splits.nil (.ro 0 rfl .nil) ?_
 rintro v1
 refine zc5 (L':=[zhG zaJ zaI 81 v1 r2.1]) (zae [0] kr rfl) (zyR 1 rfl (zaE rfl dc rfl rfl (zaE rfl dc rfl rfl (zyR 2 rfl (zyH (zyR 1 rfl ?_))))))
 obtain ⟨r3,hq6,h⟩:=zbT h
 refine zfK (vs:=[vrows1]) hrd rfl dc rfl rfl rfl zrQ (zjo hwrows1 hq6) Splits.nil (.ro 0 rfl .nil) ?_
 rintro v2
 refine zmb (k:=1) rfl (fun hd1 he1 => ?_)
 subst he1
 refine zyR 1 rfl (zaE rfl dc rfl rfl (zaE rfl dc rfl rfl (zyR 2 rfl (zyN (zaF (zyG (zyR 1 rfl (zdg rfl dc rfl zch (zyN ?_)))))))))
 refine zyB rfl h (fun h => ?_) (fun h => ?_)
 ·
  refine zyG (zyR 1 rfl ?_)
  refine zgM (k:=0) rfl (fun hv1 => ?_)
  refine zaQ rfl (zfH Tryd.underlying39 hv1) (zyR 1 rfl ?_)
  refine zyS (s:=73) rfl h (fun h => ?_) (fun h => ?_)
  ·
   refine zyR 1 rfl (zaQ rfl zaq (zyR 2 rfl (zyN (zax (zag ?_)))))
   cases h
   exact zaC (rs:=[.tmp 4]) () (.inl rfl) Tryd.results4 (.cons (.tmp rfl) .nil) rfl Splits.nil
  refine zyR 4 rfl (zyN (zax (zag ?_)))
  cases h
  exact zaC (rs:=[.tmp 4]) () (.inl rfl) Tryd.results4 (.cons (.tmp rfl) .nil) rfl Splits.nil
 refine zar (zaH (zyG (zyR 2 rfl ?_)))
 obtain ⟨r4,hq7,h⟩:=zbT h
 refine zfK (vs:=[.string title1,hd1.v]) hrd rfl dc rfl rfl rfl zqm (zi9 (nest:=zaz) (e:=49) (v:=hd1.v) (xs:=r3.1) (RD1:=[]) (RD2:=[]) za4 zfP (fun zs_c0 hz_c0 hV_c0=>(zhf (vstanzas1:=hd1) hV_c0 hz_c0 hq7))) Splits.nil (.own (zae [1] (by kernel_rfl) rfl) (fun _ _ h=>sepL.one1.1 h) .nil) ?_
 rintro v3
 refine zc5 (L':=[zhG zaJ zaI 81 v1 r2.1,zfV zau zaz 49 1 hd1.v r3.1,zhG zaJ zaI 81 v3 r4.1]) (zae [0,1,2] kr rfl) (zyR 1 rfl (zaE rfl dc rfl rfl (zaE rfl dc rfl rfl (zyR 2 rfl (zyN (zaF (zyG (zyR 2 rfl (zaQ rfl zbF ?_)))))))))
 refine zyR 1 rfl ?_
 refine zyS (s:=86) rfl h (fun h => ?_) (fun h => ?_)
 ·
  refine zyR 6 rfl (zyN (zbg rfl (zyG (zyR 1 rfl (zyN ?_)))))
  refine zax (zag ?_)
  cases h
  exact zaC (rs:=[.tmp 4]) () (.inl rfl) Tryd.results4 (.cons (.tmp rfl) .nil) rfl Splits.nil
 refine zyR 1 rfl ?_
 refine zgM (k:=0) rfl (fun hv2 => ?_)
 refine zaQ rfl (zfH Tryd.underlying39 hv2) (zyR 1 rfl ?_)
 refine zgM (k:=2) rfl (fun hv3 => ?_)
 refine zaQ rfl (zfH Tryd.underlying39 hv3) (zaQ rfl (zk6 Tryd.underlying4) (zyR 1 rfl (zyN ?_)))
 refine zyB rfl h (fun h => ?_) (fun h => ?_)
 ·
  refine zyG (zyR 1 rfl (zyN (zax (zag ?_))))
  cases h
  exact zaC (rs:=[.tmp 4]) () (.inl rfl) Tryd.results4 (.cons (.tmp rfl) .nil) rfl Splits.nil
 refine zar (zaH (zyG (zyR 1 rfl ?_)))
 refine zgM (k:=2) rfl (fun hv4 => ?_)
 refine zaQ rfl (zfH Tryd.underlying39 hv4) (zyR 1 rfl ?_)
 refine zyS (s:=95) rfl h (fun h => ?_) (fun h => ?_)
 ·
  refine zyR 5 rfl (zyN (zax ?_))
  cases h
  exact zaC (rs:=[.tmp 4]) () (.inl rfl) Tryd.results4 (.cons (.tmp rfl) .nil) rfl Splits.nil
 refine zyR 2 rfl ?_
 obtain ⟨p1,hq8,h⟩:=zbT h
 refine zlb (As:=[zhG zaJ zaI 81 v3 r4.1]) (zae [2] kr rfl) (zfz hq8) ?_
 rintro ⟨b1,hd2,hd3⟩ hv5
 have hkp:=h
 subst hv5
 have h:=hkp
 obtain ⟨p2,hq9,h⟩:=zbT h
 refine zlb (As:=[zhG zaJ zaI 81 v1 r2.1]) (zae [0] kr rfl) (zfz hq9) ?_
 rintro ⟨b2,hd4,hd5⟩ hv6
 have hkp:=h
 subst hv6
 have h:=hkp
 obtain ⟨r5,hq10,h⟩:=zbT h
 refine zco (v:=.bool r5) (vs:=[zP b1,zP b2]) hrd rfl dc rfl rfl rfl zrP (zgS (bp1:=b1) (p1:=p1) (p1_h0:=hd2) (p1_h1:=hd3) (bq1:=b2) (q1:=p2) (q1_h0:=hd4) (q1_h1:=hd5) hq10) (.own (zae [3] (by kernel_rfl) rfl) (fun _ _ h=>sepL.one1.1 h) (.own (zae [4] (by kernel_rfl) rfl) (fun _ _ h=>sepL.one1.1 h) (.own (zae [5] (by kernel_rfl) rfl) (fun _ _ h=>sepL.one1.1 h) (.own (zae [6] (by kernel_rfl) rfl) (fun _ _ h=>sepL.one1.1 h) (.own (zae [7] (by kernel_rfl) rfl) (fun _ _ h=>sepL.one1.1 h) (.own (zae [8] (by kernel_rfl) rfl) (fun _ _ h=>sepL.one1.1 h) .nil)))))) ?_
 refine zyR 2 rfl (zyN (zax ?_))
 cases h
 exact zaC (rs:=[.tmp 4]) () (.inl rfl) Tryd.results4 (.cons (.tmp rfl) .nil) rfl Splits.nil
end Go.Proofs.YtbempdelckaccaaDoor

namespace Go.Proofs.YtbempdelckaccaaDoor
open Go.RowKit Go.Lib
set_option linter.unusedVariables false
set_option linter.unusedSimpArgs false
def zo9 (a r:Gapi_Row) (first:Bool):Bool :=
 if first then decide (r.Line=0)&&(decide (r.Stanza=0)&&decide (r.Part=0))
 else if r.Line=a.Line then decide (r.Stanza=a.Stanza)&&decide (r.Part=a.Part+1)
 else decide (r.Line=a.Line+1)&&(decide (r.Part=0)&&(decide (r.Stanza=a.Stanza)||decide (r.Stanza=a.Stanza+1)))
structure Sml (a:Gapi_Row):Prop where
 l:0≤a.Line∧a.Line≤1000000
 s:0≤a.Stanza∧a.Stanza≤1000000
 p:0≤a.Part∧a.Part≤1000000
theorem zrj (a r:Gapi_Row) (first:Bool) (h:Sml a):zcg a r first=some (zo9 a r first):=by
 obtain ⟨h1,h2,h3⟩:=h
 unfold zcg zo9
 cases first with
 | true =>
  refine zaA rfl ?_
  rw [if_pos rfl]
  by_cases e1:r.Line=0
  ·refine zaA (by simpa using e1) ?_
   by_cases e2:r.Stanza=0
   ·refine zaA (by simpa using e2) ?_
    rw [decide_eq_true e1,decide_eq_true e2,Bool.true_and,Bool.true_and]; rfl
   ·refine zav (by simpa using e2) ?_
    rw [decide_eq_false e2,Bool.false_and,Bool.and_false]
  ·refine zav (by simpa using e1) ?_
   rw [decide_eq_false e1,Bool.false_and]
 | false =>
  refine zav rfl ?_
  rw [if_neg (by decide)]
  by_cases e1:r.Line=a.Line
  ·refine zaA (by simpa using e1) ?_
   rw [if_pos e1]
   by_cases e2:r.Stanza=a.Stanza
   ·refine zaA (by simpa using e2) (zce ⟨by omega,by omega⟩ ?_)
    rw [decide_eq_true e2,Bool.true_and]; rfl
   ·refine zav (by simpa using e2) ?_
    rw [decide_eq_false e2,Bool.false_and]
  ·refine zav (by simpa using e1) (zce ⟨by omega,by omega⟩ ?_)
   rw [if_neg e1]
   by_cases e2:r.Line=a.Line+1
   ·refine zaA (by simpa using e2) ?_
    by_cases e3:r.Part=0
    ·refine zaA (by simpa using e3) ?_
     by_cases e4:r.Stanza=a.Stanza
     ·refine zaA (by simpa using e4) ?_
      rw [decide_eq_true e2,decide_eq_true e3,decide_eq_true e4]; rfl
     ·refine zav (by simpa using e4) (zce ⟨by omega,by omega⟩ ?_)
      rw [decide_eq_true e2,decide_eq_true e3,decide_eq_false e4]; rfl
    ·refine zav (by simpa using e3) ?_
     rw [decide_eq_false e3,Bool.false_and,Bool.and_false]
   ·refine zav (by simpa using e2) ?_
    rw [decide_eq_false e2,Bool.false_and]
theorem zno {α:Type} {B:List α} {i:Nat} {r:α} {rs:List α} (h:B.drop i=r::rs):i<B.length∧B[i]?=some r∧B.drop (i+1)=rs:=by
 have hl:=congrArg List.length h
 rw [List.length_drop,List.length_cons] at hl
 refine ⟨by omega,?_,?_⟩
 ·have:(B.drop i)[0]?=some r:=by rw [h]; rfl
  simpa using this
 ·rw [← List.drop_drop,h]; rfl
theorem zd8 (n:Int) (h:0≤n∧n≤1024):(zb7 n).size≤1024:=by
 unfold zb7
 have:(Lib.repeatL [32] n.toNat:List UInt8).length=n.toNat:=by rw [zhZ,List.length_replicate]
 show ((Lib.repeatL [32] n.toNat:List UInt8).toArray).size≤1024
 rw [List.size_toArray,this]; omega
theorem zjV (n:Nat):zb7 (n:Int)=mkB (List.replicate n 32):=by
 unfold zb7
 rw [Int.toNat_natCast,zhZ]; rfl
theorem zkA (n:Nat) (hn:n≤100000) (j:List Int→Option ByteArray):∀ (d i m:Nat),i+d=n→d<m→zaT (fun _ _=>none) (zb3 (n:Int) j) m (List.replicate i 32++List.replicate d 0) (i:Int)=j (List.replicate n 32)
 | 0,i,m,hi,hm=>by
  obtain ⟨m,rfl⟩:∃ q,m=q+1:=⟨m - 1,by omega⟩
  rw [zfq]
  unfold zb3
  refine zav (decide_eq_false (by omega)) ?_
  rw [List.replicate_zero,List.append_nil,show i=n by omega]
 | d+1,i,m,hi,hm=>by
  obtain ⟨m,rfl⟩:∃ q,m=q+1:=⟨m - 1,by omega⟩
  rw [zfq]
  have ih:=zkA n hn j d (i+1) m (by omega) (by omega)
  rw [show ((i+1:Nat):Int)=(i:Int)+1 by omega] at ih
  generalize zaT (fun _ _=>none) (zb3 (n:Int) j) m=ag at ih ⊢
  unfold zb3
  refine zaA (decide_eq_true (by omega)) (za3 (zbm (q:=0) (by rw [List.getElem?_append_right (by simp)]; simp)) (zce ⟨by omega,by omega⟩ ?_))
  rw [Int.toNat_natCast,List.set_append_right _ _ (by simp),List.length_replicate,Nat.sub_self,List.replicate_succ,List.set_cons_zero]
  rw [List.replicate_succ',List.append_assoc] at ih
  exact ih
theorem zlB (n:Nat) (hn:n≤100000):zcp (n:Int)=some (mkB (List.replicate n 32)):=by
 unfold zcp
 refine zbC (zce ⟨by omega,by omega⟩ ?_)
 have:=zkA n hn (fun b1=>grd (∀ x∈b1,U8 x)<|some (zf9 b1)) n 0 zb8 (by omega) (zjK (by omega))
 rw [List.replicate_zero,List.nil_append] at this
 rw [Int.toNat_natCast]
 refine this.trans (zce (fun x hx => ?_) (congrArg some (zma ?_)))
 ·rw [(List.mem_replicate.1 hx).2]; exact ⟨by decide,by decide⟩
 ·rw [List.map_replicate,zem]; rfl
def spL:List UInt8→Bool
 | []=>false
 | b::_=>b==32
theorem zq9 (l:List UInt8):zbh (mkB l) (⟨#[32]⟩:ByteArray)=some (spL l):=by
 unfold zbh
 refine za3 (zo2 l [32]) ?_
 cases l with
 | nil=>rfl
 | cons b l =>
  show some (decide (1≤l.length+1)&&decide ([b]=[32]))=some (b==32)
  rw [decide_eq_true (by omega:1≤l.length+1),Bool.true_and]
  congr 1
  cases h:(b==32) with
  | true=>simpa using h
  | false=>simpa using h
section
variable {B:List Gapi_Row} {i:Nat} {r:Gapi_Row} {j:(List (List ByteArray))→Option ((Option Gpoem_Poem)×Int)} {ag:(List (List ByteArray))→Int→Int→Int→Int→Int→ByteArray→Int→Option ((Option Gpoem_Poem)×Int)}
theorem zrc (h:B.length≤i) (S:List (List ByteArray)) (l1 l2 l3 l4 l5:Int) (l6:ByteArray):zbi B j ag S l1 l2 l3 l4 l5 l6 (i:Int)=j S:=by
 unfold zbi
 exact zav (decide_eq_false (by omega)) rfl
variable (hB:B.length≤1000000) (hg:B[i]?=some r) (hlt:i<B.length)
include hB hg hlt
theorem zp0 (h:r.Line=-1) (S:List (List ByteArray)) (l1 l2 l3 l4 l5:Int) (l6:ByteArray):zbi B j ag S l1 l2 l3 l4 l5 l6 (i:Int)=ag S l1 l2 l3 l4 l5 l6 ((i:Int)+1):=by
 unfold zbi
 exact zaA (decide_eq_true (by omega)) (zbC (za3 (zbm hg) (zaA (by rw [h]; rfl) (zce ⟨by omega,by omega⟩ rfl))))
variable (hl:r.Line≠-1) {S:List (List ByteArray)} {a:Gapi_Row}
include hl
omit hB in
theorem zrb (hf:zcg a r ((S.length:Int)==0)=some false):zbi B j ag S a.Line a.Stanza a.Part a.Indent a.Number a.Text (i:Int)=some (none,300):=by
 unfold zbi
 exact zaA (decide_eq_true (by omega)) (zbC (za3 (zbm hg) (zav (by simpa using hl) (zbC (za3 hf (zaA rfl rfl))))))
variable (hf:zcg a r ((S.length:Int)==0)=some true)
include hf
omit hB in
theorem zra (hp:r.Part=0) {sp:Bool} (hsp:zbh r.Text (⟨#[32]⟩:ByteArray)=some sp) (hb:r.Indent<0∨1024<r.Indent∨sp=true):zbi B j ag S a.Line a.Stanza a.Part a.Indent a.Number a.Text (i:Int)=some (none,300):=by
 unfold zbi
 refine zaA (decide_eq_true (by omega)) (zbC (za3 (zbm hg) (zav (by simpa using hl) (zbC (za3 hf (zav rfl (zaA (by rw [hp]; rfl) ?_)))))))
 by_cases h1:r.Indent<0
 ·exact zaA (decide_eq_true h1) rfl
 refine zav (decide_eq_false h1) ?_
 by_cases h2:1024<r.Indent
 ·exact zaA (decide_eq_true h2) rfl
 exact zav (decide_eq_false h2) (za3 hsp (zaA (by rcases hb with h | h | h <;> first | exact h | omega) rfl))
theorem zp2 (hp:r.Part=0) (hsp:zbh r.Text (⟨#[32]⟩:ByteArray)=some false) (hi:0≤r.Indent∧r.Indent≤1024) (hsz:r.Text.size≤100000) (hs:r.Stanza=(S.length:Int)) (hS:S.length≤1000000) :
  zbi B j ag S a.Line a.Stanza a.Part a.Indent a.Number a.Text (i:Int)=ag (S++[[zb7 r.Indent++r.Text]]) r.Line r.Stanza r.Part r.Indent r.Number r.Text ((i:Int)+1):=by
 have hsb:=zd8 r.Indent hi
 unfold zbi
 refine zaA (decide_eq_true (by omega)) (zbC (za3 (zbm hg) (zav (by simpa using hl) (zbC (za3 hf (zav rfl (zaA (by rw [hp]; rfl) (zav (decide_eq_false (by omega)) (zav (decide_eq_false (by omega)) (za3 hsp (zav rfl (zbC (zaA (by rw [hs]; simp) (zce (by omega) ?_))))))))))))))
 have hg2:zcI (S++[([]:List ByteArray)]) r.Stanza=some []:=by rw [hs]; exact zbm (by simp)
 refine za3 hg2 (zbC (zaA (by rw [hp]; rfl) (zce ⟨by omega,by omega⟩ (zce (by omega) (zce (by simp) (zce ⟨by omega,by omega⟩ ?_))))))
 rw [hs,Int.toNat_natCast,List.set_append_right _ _ (Nat.le_refl _),Nat.sub_self]; rfl
omit hf in
theorem zp1 {P:List (List ByteArray)} {y:List ByteArray} (hf:zcg a r (((P++[y]).length:Int)==0)=some true) (hp:r.Part=0) (hsp:zbh r.Text (⟨#[32]⟩:ByteArray)=some false) (hi:0≤r.Indent∧r.Indent≤1024) (hsz:r.Text.size≤100000) (hs:r.Stanza=(P.length:Int)) (hS:P.length≤1000000) (hy:y.length≤1000000) :
  zbi B j ag (P++[y]) a.Line a.Stanza a.Part a.Indent a.Number a.Text (i:Int)=ag (P++[y++[zb7 r.Indent++r.Text]]) r.Line r.Stanza r.Part r.Indent r.Number r.Text ((i:Int)+1):=by
 have hsb:=zd8 r.Indent hi
 have hlen:(P++[y]).length=P.length+1:=by simp
 unfold zbi
 refine zaA (decide_eq_true (by omega)) (zbC (za3 (zbm hg) (zav (by simpa using hl) (zbC (za3 hf (zav rfl (zaA (by rw [hp]; rfl) (zav (decide_eq_false (by omega)) (zav (decide_eq_false (by omega)) (za3 hsp (zav rfl (zbC (zav (by rw [hs,hlen]; exact beq_eq_false_iff_ne.2 (by omega)) ?_)))))))))))))
 have hg2:zcI (P++[y]) r.Stanza=some y:=by rw [hs]; exact zbm (by simp)
 refine za3 hg2 (zbC (zaA (by rw [hp]; rfl) (zce ⟨by omega,by omega⟩ (zce (by omega) (zce (by omega) (zce ⟨by omega,by omega⟩ ?_))))))
 rw [hs,Int.toNat_natCast,List.set_append_right _ _ (Nat.le_refl _),Nat.sub_self]; rfl
omit hf in
theorem zp3 {P:List (List ByteArray)} {y:List ByteArray} {c:ByteArray} (hf:zcg a r (((P++[y++[c]]).length:Int)==0)=some true) (hp:r.Part≠0) (hsz:r.Text.size≤100000) (hc:c.size≤1000000000) (hs:r.Stanza=(P.length:Int)) (hS:P.length≤1000000) (hy:y.length≤1000000) :
  zbi B j ag (P++[y++[c]]) a.Line a.Stanza a.Part a.Indent a.Number a.Text (i:Int)=ag (P++[y++[c++r.Text]]) r.Line r.Stanza r.Part r.Indent r.Number r.Text ((i:Int)+1):=by
 have hlen:(P++[y++[c]]).length=P.length+1:=by simp
 have hylen:(y++[c]).length=y.length+1:=by simp
 have hb2:((r.Part:Int)==0)=false:=beq_eq_false_iff_ne.2 hp
 unfold zbi
 refine zaA (decide_eq_true (by omega)) (zbC (za3 (zbm hg) (zav (by simpa using hl) (zbC (za3 hf (zav rfl (zav hb2 (zbC (zav (by rw [hs,hlen]; exact beq_eq_false_iff_ne.2 (by omega)) ?_)))))))))
 have hg2:zcI (P++[y++[c]]) r.Stanza=some (y++[c]):=by rw [hs]; exact zbm (by simp)
 have hg3:zcI (y++[c]) (((y++[c]).length:Int) - 1)=some c:=by
  rw [show (((y++[c]).length:Int) - 1)=(y.length:Int) by omega]; exact zbm (by simp)
 refine za3 hg2 (zbC (zav hb2 (zce ⟨by omega,by omega⟩ (za3 hg3 (zce (by omega) (zce ⟨by omega,by omega⟩ ?_))))))
 rw [hs,Int.toNat_natCast,List.set_append_right _ _ (Nat.le_refl _),Nat.sub_self,show (((y++[c]).length:Int) - 1).toNat=y.length by omega,List.set_append_right _ _ (Nat.le_refl _),Nat.sub_self]; rfl
end
def goB (l13 l14 l15:Int) (r:Gapi_Row):Bool:=!(l13==-1)&&((r.Line==l13)&&((r.Stanza==l14)&&(r.Part==(l15+1))))
def nxB (l13 l14 l15:Int) (r:Gapi_Row):Bool:=cond (l13==-1) ((r.Line==0)&&((r.Part==0)&&(r.Stanza==0))) ((r.Line==(l13+1))&&((r.Part==0)&&((r.Stanza==l14)||(r.Stanza==(l14+1)))))
theorem zgs (r:Gapi_Row) (l13 l14 l15:Int) (h1:I64 (l13+1)) (h2:I64 (l14+1)) (h3:I64 (l15+1)) (k:Bool→Bool→Option ((List (List ByteArray))×Bool)) :
  zbk (fun (j3:Bool→Bool→Option ((List (List ByteArray))×Bool)) =>
zam ((r.Line:Int)==l13) (
zam ((r.Stanza:Int)==l14) (
grd (I64 (l15+1)) <|
grd (I64 (l13+1)) <|
zam ((r.Line:Int)==(l13+1)) (
zam ((r.Part:Int)==0) (
zam ((r.Stanza:Int)==l14) (
zam ((l13:Int)==(-1)) (
zam ((r.Line:Int)==0) (
zam ((r.Part:Int)==0) (
j3 false ((r.Stanza:Int)==0)
) (
j3 false false
)
) (
j3 false false
)
) (
j3 ((r.Part:Int)==(l15+1)) true
)
) (
grd (I64 (l14+1)) <|
zam ((l13:Int)==(-1)) (
zam ((r.Line:Int)==0) (
zam ((r.Part:Int)==0) (
j3 false ((r.Stanza:Int)==0)
) (
j3 false false
)
) (
j3 false false
)
) (
j3 ((r.Part:Int)==(l15+1)) ((r.Stanza:Int)==(l14+1))
)
)
) (
zam ((l13:Int)==(-1)) (
zam ((r.Line:Int)==0) (
zam ((r.Part:Int)==0) (
j3 false ((r.Stanza:Int)==0)
) (
j3 false false
)
) (
j3 false false
)
) (
j3 ((r.Part:Int)==(l15+1)) false
)
)
) (
zam ((l13:Int)==(-1)) (
zam ((r.Line:Int)==0) (
zam ((r.Part:Int)==0) (
j3 false ((r.Stanza:Int)==0)
) (
j3 false false
)
) (
j3 false false
)
) (
j3 ((r.Part:Int)==(l15+1)) false
)
)
) (
grd (I64 (l13+1)) <|
zam ((r.Line:Int)==(l13+1)) (
zam ((r.Part:Int)==0) (
zam ((r.Stanza:Int)==l14) (
zam ((l13:Int)==(-1)) (
zam ((r.Line:Int)==0) (
zam ((r.Part:Int)==0) (
j3 false ((r.Stanza:Int)==0)
) (
j3 false false
)
) (
j3 false false
)
) (
j3 false true
)
) (
grd (I64 (l14+1)) <|
zam ((l13:Int)==(-1)) (
zam ((r.Line:Int)==0) (
zam ((r.Part:Int)==0) (
j3 false ((r.Stanza:Int)==0)
) (
j3 false false
)
) (
j3 false false
)
) (
j3 false ((r.Stanza:Int)==(l14+1))
)
)
) (
zam ((l13:Int)==(-1)) (
zam ((r.Line:Int)==0) (
zam ((r.Part:Int)==0) (
j3 false ((r.Stanza:Int)==0)
) (
j3 false false
)
) (
j3 false false
)
) (
j3 false false
)
)
) (
zam ((l13:Int)==(-1)) (
zam ((r.Line:Int)==0) (
zam ((r.Part:Int)==0) (
j3 false ((r.Stanza:Int)==0)
) (
j3 false false
)
) (
j3 false false
)
) (
j3 false false
)
)
)
) (
grd (I64 (l13+1)) <|
zam ((r.Line:Int)==(l13+1)) (
zam ((r.Part:Int)==0) (
zam ((r.Stanza:Int)==l14) (
zam ((l13:Int)==(-1)) (
zam ((r.Line:Int)==0) (
zam ((r.Part:Int)==0) (
j3 false ((r.Stanza:Int)==0)
) (
j3 false false
)
) (
j3 false false
)
) (
j3 false true
)
) (
grd (I64 (l14+1)) <|
zam ((l13:Int)==(-1)) (
zam ((r.Line:Int)==0) (
zam ((r.Part:Int)==0) (
j3 false ((r.Stanza:Int)==0)
) (
j3 false false
)
) (
j3 false false
)
) (
j3 false ((r.Stanza:Int)==(l14+1))
)
)
) (
zam ((l13:Int)==(-1)) (
zam ((r.Line:Int)==0) (
zam ((r.Part:Int)==0) (
j3 false ((r.Stanza:Int)==0)
) (
j3 false false
)
) (
j3 false false
)
) (
j3 false false
)
)
) (
zam ((l13:Int)==(-1)) (
zam ((r.Line:Int)==0) (
zam ((r.Part:Int)==0) (
j3 false ((r.Stanza:Int)==0)
) (
j3 false false
)
) (
j3 false false
)
) (
j3 false false
)
)
)
) k=k (goB l13 l14 l15 r) (nxB l13 l14 l15 r):=by
 unfold zbk goB nxB
 simp only [zju h1,zju h2,zju h3]
 generalize (r.Line==l13)=b1
 generalize (r.Stanza==l14)=b2
 generalize (r.Line==(l13+1))=b3
 generalize (r.Part==0)=b4
 generalize (l13==-1)=b5
 generalize (r.Line==0)=b6
 generalize (r.Part==(l15+1))=b7
 generalize (r.Stanza==(l14+1))=b8
 generalize (r.Stanza==0)=b9
 cases b1 <;> cases b2 <;> cases b3 <;> cases b4 <;> cases b5 <;> cases b6 <;> rfl
section
variable {B:List Gapi_Row} {i:Nat} {r:Gapi_Row} {j:(List (List ByteArray))→Option ((List (List ByteArray))×Bool)} {ag:(List (List ByteArray))→Int→Int→Int→Int→Int→ByteArray→Int→Option ((List (List ByteArray))×Bool)}
theorem zq8 (h:B.length≤i) (S:List (List ByteArray)) (l1 l2 l3 l4 l5:Int) (l6:ByteArray):za7 B j ag S l1 l2 l3 l4 l5 l6 (i:Int)=j S:=by
 unfold za7
 exact zav (decide_eq_false (by omega)) rfl
variable (hB:B.length≤1000000) (hg:B[i]?=some r) (hlt:i<B.length)
include hB hg hlt
theorem zpW (h:r.Line=-1) (S:List (List ByteArray)) (l1 l2 l3 l4 l5:Int) (l6:ByteArray):za7 B j ag S l1 l2 l3 l4 l5 l6 (i:Int)=ag S l1 l2 l3 l4 l5 l6 ((i:Int)+1):=by
 unfold za7
 exact zaA (decide_eq_true (by omega)) (zbC (za3 (zbm hg) (zaA (by rw [h]; rfl) (zce ⟨by omega,by omega⟩ rfl))))
variable (hl:r.Line≠-1) {S:List (List ByteArray)} {l1 l2 l3 l4 l5:Int} {l6:ByteArray} (h1:I64 (l1+1)) (h2:I64 (l2+1)) (h3:I64 (l3+1))
include hl h1 h2 h3
omit hB in
theorem zq7 (hG:goB l1 l2 l3 r=false) (hN:nxB l1 l2 l3 r=false):za7 B j ag S l1 l2 l3 l4 l5 l6 (i:Int)=some (([]:List (List ByteArray)),false):=by
 unfold za7
 refine zaA (decide_eq_true (by omega)) (zbC (za3 (zbm hg) (zav (by simpa using hl) ?_)))
 refine (zgs r l1 l2 l3 h1 h2 h3 _).trans ?_
 rw [hG,hN]
 exact zbC (zaA rfl (zaA rfl rfl))
omit hB in
theorem zq6 (hG:goB l1 l2 l3 r=false) (hN:nxB l1 l2 l3 r=true) {l:List UInt8} (hT:r.Text=mkB l) (hb:r.Indent<0∨1024<r.Indent∨spL l=true):za7 B j ag S l1 l2 l3 l4 l5 l6 (i:Int)=some (([]:List (List ByteArray)),false):=by
 unfold za7
 refine zaA (decide_eq_true (by omega)) (zbC (za3 (zbm hg) (zav (by simpa using hl) ?_)))
 refine (zgs r l1 l2 l3 h1 h2 h3 _).trans ?_
 rw [hG,hN]
 refine zbC (zaA rfl (zav rfl (zbC (zaA rfl (zbC ?_)))))
 by_cases h1:r.Indent<0
 ·exact zaA (decide_eq_true h1) rfl
 refine zav (decide_eq_false h1) ?_
 by_cases h2:1024<r.Indent
 ·exact zaA (decide_eq_true h2) rfl
 refine zav (decide_eq_false h2) ?_
 have hs:spL l=true:=by rcases hb with h | h | h <;> first | exact h | omega
 cases l with
 | nil=>cases hs
 | cons b l =>
  have hb32:b=32:=by simpa [spL] using hs
  have hgb:=zdZ (s:=r.Text) (i:=0) (b:=b) (t:=l) (by rw [hT,zem]; rfl)
  exact zaA (decide_eq_true (by have:=hgb.2; omega)) (za3 hgb.1 (zaA (by rw [hb32]; rfl) rfl))
omit hB in
theorem zoC (hG:goB l1 l2 l3 r=false) (hN:nxB l1 l2 l3 r=true) {l:List UInt8} (hT:r.Text=mkB l) (hi:0≤r.Indent∧r.Indent≤1024) (hsp:spL l=false) {X:Option ((List (List ByteArray))×Bool)}
  (h:zbk (fun (j7:(List (List ByteArray))→Option ((List (List ByteArray))×Bool))=>zam ((r.Stanza:Int)==(S.length:Int)) (grd (S.length+1≤2147483648)<|j7 (S++[([]:List ByteArray)])) (j7 S)) (fun (out7:List (List ByteArray)) =>
   zan (zcI out7 r.Stanza) fun (x3:List ByteArray)=>zan (zcp r.Indent) fun (r1:ByteArray)=>grd (r1.size+r.Text.size≤9223372036854775807)<|grd (x3.length+1≤2147483648) <|
   grd (I64 ((i:Int)+1))<|ag (out7.set (r.Stanza:Int).toNat (x3++[r1++r.Text])) r.Line r.Stanza r.Part r.Indent r.Number r.Text ((i:Int)+1))=X):za7 B j ag S l1 l2 l3 l4 l5 l6 (i:Int)=X:=by
 unfold za7
 refine zaA (decide_eq_true (by omega)) (zbC (za3 (zbm hg) (zav (by simpa using hl) ?_)))
 refine (zgs r l1 l2 l3 h1 h2 h3 _).trans ?_
 rw [hG,hN]
 refine zbC (zaA rfl (zav rfl (zbC (zaA rfl (zbC (zav (decide_eq_false (by omega)) (zav (decide_eq_false (by omega)) ?_)))))))
 cases l with
 | nil =>
  refine zav (decide_eq_false ?_) h
  rw [hT]; exact Int.lt_irrefl 0
 | cons b l =>
  have hb32:b≠32:=by simpa [spL] using hsp
  have hgb:=zdZ (s:=r.Text) (i:=0) (b:=b) (t:=l) (by rw [hT,zem]; rfl)
  refine zaA (decide_eq_true (by have:=hgb.2; omega)) (za3 hgb.1 (zav (beq_eq_false_iff_ne.2 fun e=>hb32 ?_) h))
  have:b.toNat=32:=by omega
  exact UInt8.toNat_inj.1 this
theorem zpY (hG:goB l1 l2 l3 r=false) (hN:nxB l1 l2 l3 r=true) {l:List UInt8} (hT:r.Text=mkB l) (hi:0≤r.Indent∧r.Indent≤1024) (hsp:spL l=false) (hsz:r.Text.size≤100000) (hs:r.Stanza=(S.length:Int)) (hS:S.length≤1000000) :
  za7 B j ag S l1 l2 l3 l4 l5 l6 (i:Int)=ag (S++[[zb7 r.Indent++r.Text]]) r.Line r.Stanza r.Part r.Indent r.Number r.Text ((i:Int)+1):=by
 refine zoC hg hlt hl h1 h2 h3 hG hN hT hi hsp (zbC (zaA (by rw [hs]; simp) (zce (by omega) ?_)))
 have hg2:zcI (S++[([]:List ByteArray)]) r.Stanza=some []:=by rw [hs]; exact zbm (by simp)
 have hsb:=zd8 r.Indent hi
 have hbl:zcp r.Indent=some (zb7 r.Indent):=by
  obtain ⟨n,hn⟩:∃ n:Nat,r.Indent=(n:Int):=⟨r.Indent.toNat,by omega⟩
  rw [hn,zjV]; exact zlB n (by omega)
 refine za3 hg2 (za3 hbl (zce (by omega) (zce (by simp) (zce ⟨by omega,by omega⟩ ?_))))
 rw [hs,Int.toNat_natCast,List.set_append_right _ _ (Nat.le_refl _),Nat.sub_self]; rfl
omit hB hg hlt hl h1 h2 h3 in
theorem zpX (hB:B.length≤1000000) (hg:B[i]?=some r) (hlt:i<B.length) (hl:r.Line≠-1) (h1:I64 (l1+1)) (h2:I64 (l2+1)) (h3:I64 (l3+1)) {P:List (List ByteArray)} {y:List ByteArray} (hG:goB l1 l2 l3 r=false) (hN:nxB l1 l2 l3 r=true) {l:List UInt8} (hT:r.Text=mkB l) (hi:0≤r.Indent∧r.Indent≤1024) (hsp:spL l=false) (hsz:r.Text.size≤100000) (hs:r.Stanza=(P.length:Int)) (hS:P.length≤1000000) (hy:y.length≤1000000) :
  za7 B j ag (P++[y]) l1 l2 l3 l4 l5 l6 (i:Int)=ag (P++[y++[zb7 r.Indent++r.Text]]) r.Line r.Stanza r.Part r.Indent r.Number r.Text ((i:Int)+1):=by
 have hlen:(P++[y]).length=P.length+1:=by simp
 refine zoC hg hlt hl h1 h2 h3 hG hN hT hi hsp (zbC (zav (by rw [hs,hlen]; exact beq_eq_false_iff_ne.2 (by omega)) ?_))
 have hg2:zcI (P++[y]) r.Stanza=some y:=by rw [hs]; exact zbm (by simp)
 have hsb:=zd8 r.Indent hi
 have hbl:zcp r.Indent=some (zb7 r.Indent):=by
  obtain ⟨n,hn⟩:∃ n:Nat,r.Indent=(n:Int):=⟨r.Indent.toNat,by omega⟩
  rw [hn,zjV]; exact zlB n (by omega)
 refine za3 hg2 (za3 hbl (zce (by omega) (zce (by omega) (zce ⟨by omega,by omega⟩ ?_))))
 rw [hs,Int.toNat_natCast,List.set_append_right _ _ (Nat.le_refl _),Nat.sub_self]; rfl
omit hB hg hlt hl h1 h2 h3 in
theorem zpZ (hB:B.length≤1000000) (hg:B[i]?=some r) (hlt:i<B.length) (hl:r.Line≠-1) (h1:I64 (l1+1)) (h2:I64 (l2+1)) (h3:I64 (l3+1)) {P:List (List ByteArray)} {y:List ByteArray} {c:ByteArray} (hG:goB l1 l2 l3 r=true) (hN:nxB l1 l2 l3 r=false) (hsz:r.Text.size≤100000) (hc:c.size≤1000000000) (hs:r.Stanza=(P.length:Int)) (hS:P.length≤1000000) (hy:y.length≤1000000) :
  za7 B j ag (P++[y++[c]]) l1 l2 l3 l4 l5 l6 (i:Int)=ag (P++[y++[c++r.Text]]) r.Line r.Stanza r.Part r.Indent r.Number r.Text ((i:Int)+1):=by
 have hylen:(y++[c]).length=y.length+1:=by simp
 unfold za7
 refine zaA (decide_eq_true (by omega)) (zbC (za3 (zbm hg) (zav (by simpa using hl) ?_)))
 refine (zgs r l1 l2 l3 h1 h2 h3 _).trans ?_
 rw [hG,hN]
 have hg2:zcI (P++[y++[c]]) r.Stanza=some (y++[c]):=by rw [hs]; exact zbm (by simp)
 have hg3:zcI (y++[c]) (((y++[c]).length:Int) - 1)=some c:=by
  rw [show (((y++[c]).length:Int) - 1)=(y.length:Int) by omega]; exact zbm (by simp)
 refine zbC (zav rfl (zbC (zav rfl (za3 hg2 (zce ⟨by omega,by omega⟩ (za3 hg2 (za3 hg3 (zce (by omega) (zce ⟨by omega,by omega⟩ ?_)))))))))
 rw [hs,Int.toNat_natCast,List.set_append_right _ _ (Nat.le_refl _),Nat.sub_self,show (((y++[c]).length:Int) - 1).toNat=y.length by omega,List.set_append_right _ _ (Nat.le_refl _),Nat.sub_self]; rfl
end
structure Bst9 (n:Nat) (S:List (List ByteArray)) (a:Gapi_Row):Prop where
 l:0≤a.Line∧a.Line≤(n:Int)
 s:0≤a.Stanza∧a.Stanza≤(n:Int)
 p:0≤a.Part∧a.Part≤(n:Int)
 len:S.length≤n
 row:∀ y∈S,y.length≤n∧∀ c∈y,c.size≤70000*n
 hd:S=[]∨∃ P Y c,S=P++[Y++[c]]∧a.Stanza=(P.length:Int)
def zsl (j:(List (List ByteArray))→Option ((Option Gpoem_Poem)×Int)):Option (List (List ByteArray))→Option ((Option Gpoem_Poem)×Int)
 | none=>some (none,300)
 | some S=>j S
def zsk (j:(List (List ByteArray))→Option ((List (List ByteArray))×Bool)):Option (List (List ByteArray))→Option ((List (List ByteArray))×Bool)
 | none=>some (([]:List (List ByteArray)),false)
 | some S=>j S
def lnR (S:List (List ByteArray)) (a:Gapi_Row):Int:=if S.length=0 then -1 else a.Line
theorem zsC {B:List Gapi_Row} (hB:B.length≤1000) (ht:∀ r∈B,r.Text.size≤60000) (j:(List (List ByteArray))→Option ((Option Gpoem_Poem)×Int)) (j':(List (List ByteArray))→Option ((List (List ByteArray))×Bool)) :
  ∀ (rs:List Gapi_Row) (i m:Nat) (S:List (List ByteArray)) (a:Gapi_Row),B.drop i=rs→rs.length<m→i≤B.length→Bst9 i S a →
  ∃ o:Option (List (List ByteArray)),zaT (fun _ _ _ _ _ _ _ _=>none) (zbi B j) m S a.Line a.Stanza a.Part a.Indent a.Number a.Text (i:Int)=zsl j o ∧
   zaT (fun _ _ _ _ _ _ _ _=>none) (za7 B j') m S (lnR S a) a.Stanza a.Part a.Indent a.Number a.Text (i:Int)=zsk j' o ∧
   ∀ S',o=some S'→S'.length≤1000∧∀ y∈S',y.length≤1000∧∀ c∈y,c.size≤70000000:=by
 intro rs
 induction rs with
 | nil =>
  intro i m S a hi hm hiB hst
  obtain ⟨m,rfl⟩:∃ q,m=q+1:=⟨m - 1,by simp at hm; omega⟩
  have hle:B.length≤i:=by
   have:=congrArg List.length hi
   rw [List.length_drop] at this; simp at this; omega
  refine ⟨some S,?_,?_,fun S' h => ?_⟩
  ·rw [zfq]; exact zrc hle ..
  ·rw [zfq]; exact zq8 hle ..
  ·cases h
   refine ⟨by have:=hst.len; omega,fun y hy=>⟨by have:=(hst.row y hy).1; omega,fun c hc => ?_⟩⟩
   have:=(hst.row y hy).2 c hc
   have:70000*i≤70000*1000:=Nat.mul_le_mul_left _ (by omega)
   omega
 | cons r rs ih =>
  intro i m S a hi hm hiB hst
  obtain ⟨m,rfl⟩:∃ q,m=q+1:=⟨m - 1,by omega⟩
  rw [List.length_cons] at hm
  obtain ⟨hlt,hg,hd⟩:=zno hi
  have hsz:=ht r (List.mem_of_getElem? hg)
  have hcast:((i+1:Nat):Int)=(i:Int)+1:=by omega
  have hwk:∀ y∈S,y.length≤i+1∧∀ c∈y,c.size≤70000*(i+1):=fun y hy=>⟨by have:=(hst.row y hy).1; omega,fun c hc=>by have:=(hst.row y hy).2 c hc; omega⟩
  have hlen:=hst.len
  by_cases hl:r.Line=-1
  ·obtain ⟨o,o1,o2,o3⟩:=ih (i+1) m S a hd (by omega) (by omega) ⟨by have:=hst.l; omega,by have:=hst.s; omega,by have:=hst.p; omega,by omega,hwk,hst.hd⟩
   rw [hcast] at o1 o2
   refine ⟨o,?_,?_,o3⟩
   ·rw [zfq]; exact (zp0 (by omega) hg hlt hl ..).trans o1
   ·rw [zfq]; exact (zpW (by omega) hg hlt hl ..).trans o2
  have hsm:Sml a:=⟨by have:=hst.l; omega,by have:=hst.s; omega,by have:=hst.p; omega⟩
  have hf:=zrj a r ((S.length:Int)==0) hsm
  obtain ⟨sl,sl'⟩:=hst.l
  obtain ⟨ss,ss'⟩:=hst.s
  obtain ⟨sp,sp'⟩:=hst.p
  have i1:I64 (lnR S a+1):=by unfold lnR; split <;> exact ⟨by omega,by omega⟩
  have i2:I64 (a.Stanza+1):=⟨by omega,by omega⟩
  have i3:I64 (a.Part+1):=⟨by omega,by omega⟩
  have hboth:zo9 a r ((S.length:Int)==0)=(goB (lnR S a) a.Stanza a.Part r||nxB (lnR S a) a.Stanza a.Part r)∧(r.Part=0→goB (lnR S a) a.Stanza a.Part r=false)∧(r.Part≠0→nxB (lnR S a) a.Stanza a.Part r=false):=by
   unfold lnR goB nxB zo9
   by_cases h0:S.length=0
   ·have e:((S.length:Int)==0)=true:=by rw [h0]; rfl
    rw [if_pos h0,e,if_pos rfl]
    refine ⟨?_,fun _=>rfl,fun h => ?_⟩
    ·show _=(false||_)
     rw [Bool.false_or]
     show _=((r.Line==0)&&((r.Part==0)&&(r.Stanza==0)))
     rw [Bool.and_comm (r.Part==0)]; rfl
    ·show ((r.Line==0)&&((r.Part==0)&&(r.Stanza==0)))=false
     rw [beq_eq_false_iff_ne.2 h]; simp
   ·have e:((S.length:Int)==0)=false:=beq_eq_false_iff_ne.2 (by omega)
    have e5:(a.Line==-1)=false:=beq_eq_false_iff_ne.2 (by omega)
    rw [if_neg h0,e,e5,if_neg (by decide)]
    refine ⟨?_,fun h => ?_,fun h => ?_⟩
    ·by_cases e1:r.Line=a.Line
     ·have n1:(r.Line==a.Line+1)=false:=beq_eq_false_iff_ne.2 (by omega)
      have n2:(r.Line==a.Line)=true:=by rw [e1]; simp
      rw [if_pos e1,n1,n2]
      show _=((r.Stanza==a.Stanza)&&(r.Part==a.Part+1)||false)
      rw [Bool.or_false]; rfl
     ·have n2:(r.Line==a.Line)=false:=beq_eq_false_iff_ne.2 e1
      rw [if_neg e1,n2]; rfl
    ·have:(r.Part==a.Part+1)=false:=beq_eq_false_iff_ne.2 (by omega)
     rw [this]; simp
    ·have:(r.Part==0)=false:=beq_eq_false_iff_ne.2 h
     rw [this]; simp
  obtain ⟨hb1,hb2,hb3⟩:=hboth
  obtain ⟨tl,htl⟩:=zp5 r.Text
  have hpf:zbh r.Text (⟨#[32]⟩:ByteArray)=some (spL tl):=by rw [htl]; exact zq9 tl
  cases hfo:zo9 a r ((S.length:Int)==0) with
  | false =>
   rw [hfo] at hf hb1
   have hb1:=hb1.symm
   rw [Bool.or_eq_false_iff] at hb1
   refine ⟨none,?_,?_,fun S' h=>by cases h⟩
   ·rw [zfq]; exact zrb hg hlt hl hf
   ·rw [zfq]; exact zq7 hg hlt hl i1 i2 i3 hb1.1 hb1.2
  | true =>
   rw [hfo] at hf hb1
   by_cases hp:r.Part=0
   ·have hG:=hb2 hp
    have hN:nxB (lnR S a) a.Stanza a.Part r=true:=by rw [hG,Bool.false_or] at hb1; exact hb1.symm
    by_cases hbad:r.Indent<0∨1024<r.Indent∨spL tl=true
    ·refine ⟨none,?_,?_,fun S' h=>by cases h⟩
     ·rw [zfq]; exact zra hg hlt hl hf hp hpf hbad
     ·rw [zfq]; exact zq6 hg hlt hl i1 i2 i3 hG hN htl hbad
    ·have hspf:spL tl=false:=by
      cases h:spL tl with
      | false=>rfl
      | true=>exact absurd (.inr (.inr h)) hbad
     have hin:0≤r.Indent∧r.Indent≤1024:=⟨by omega,by omega⟩
     have hsb:=zd8 r.Indent hin
     have hxs:(zb7 r.Indent++r.Text).size≤70000*(i+1):=by rw [ByteArray.size_append]; omega
     rw [hspf] at hpf
     have hgo:(r.Stanza=(S.length:Int)∧r.Line≤(i:Int)+1∧0≤r.Line)∨∃ P Y c,S=P++[Y++[c]]∧r.Stanza=(P.length:Int)∧r.Line≤(i:Int)+1∧0≤r.Line:=by
      have hfo':=hfo
      unfold zo9 at hfo'
      rcases hst.hd with h0 | ⟨P,Y,c,h0,h9⟩
      ·have e:((S.length:Int)==0)=true:=by rw [h0]; rfl
       rw [e,if_pos rfl] at hfo'
       simp only [Bool.and_eq_true,decide_eq_true_eq] at hfo'
       exact .inl ⟨by rw [h0]; exact hfo'.2.1,by omega,by omega⟩
      ·have hSl:S.length=P.length+1:=by rw [h0]; simp
       have e:((S.length:Int)==0)=false:=beq_eq_false_iff_ne.2 (by omega)
       rw [e,if_neg (by decide)] at hfo'
       split at hfo'
       ·simp only [Bool.and_eq_true,decide_eq_true_eq] at hfo'; omega
       ·simp only [Bool.and_eq_true,Bool.or_eq_true,decide_eq_true_eq] at hfo'
        rcases hfo'.2.2 with h | h
        ·exact .inr ⟨P,Y,c,h0,by omega,by omega,by omega⟩
        ·exact .inl ⟨by omega,by omega,by omega⟩
     rcases hgo with ⟨hs,hr1,hr2⟩ | ⟨P,Y,c,h0,hs,hr1,hr2⟩
     ·have hst':Bst9 (i+1) (S++[[zb7 r.Indent++r.Text]]) r:=by
       refine ⟨⟨hr2,by omega⟩,⟨by omega,by omega⟩,⟨by omega,by omega⟩,by simp; omega,fun y hy => ?_,.inr ⟨S,[],_,rfl,hs⟩⟩
       rcases List.mem_append.1 hy with hy | hy
       ·exact hwk y hy
       ·rw [List.mem_singleton.1 hy]
        exact ⟨by simp,fun c hc=>by rw [List.mem_singleton.1 hc]; exact hxs⟩
      obtain ⟨o,o1,o2,o3⟩:=ih (i+1) m _ r hd (by omega) (by omega) hst'
      have e9:lnR (S++[[zb7 r.Indent++r.Text]]) r=r.Line:=by unfold lnR; rw [if_neg (by simp)]
      rw [e9] at o2
      rw [hcast] at o1 o2
      refine ⟨o,?_,?_,o3⟩
      ·rw [zfq]; exact (zp2 (by omega) hg hlt hl hf hp hpf hin (by omega) hs (by omega)).trans o1
      ·rw [zfq]; exact (zpY (by omega) hg hlt hl i1 i2 i3 hG hN htl hin hspf (by omega) hs (by omega)).trans o2
     ·subst h0
      have hmem:=hst.row (Y++[c]) (by simp)
      have hPl:P.length+1≤i:=by have:=hst.len; simp at this; omega
      have hYl:=hmem.1
      rw [List.length_append] at hYl
      have hYl:Y.length+1≤i:=hYl
      have hst':Bst9 (i+1) (P++[(Y++[c])++[zb7 r.Indent++r.Text]]) r:=by
       refine ⟨⟨hr2,by omega⟩,⟨by omega,by omega⟩,⟨by omega,by omega⟩,by simp; omega,fun y hy => ?_,.inr ⟨P,Y++[c],_,rfl,hs⟩⟩
       rcases List.mem_append.1 hy with hy | hy
       ·exact hwk y (List.mem_append_left _ hy)
       ·rw [List.mem_singleton.1 hy]
        refine ⟨by simp; omega,fun d hd => ?_⟩
        rcases List.mem_append.1 hd with hd | hd
        ·have:=hmem.2 d hd; omega
        ·rw [List.mem_singleton.1 hd]; exact hxs
      obtain ⟨o,o1,o2,o3⟩:=ih (i+1) m _ r hd (by omega) (by omega) hst'
      have e9:lnR (P++[(Y++[c])++[zb7 r.Indent++r.Text]]) r=r.Line:=by unfold lnR; rw [if_neg (by simp)]
      rw [e9] at o2
      rw [hcast] at o1 o2
      refine ⟨o,?_,?_,o3⟩
      ·rw [zfq]; exact (zp1 (by omega) hg hlt hl hf hp hpf hin (by omega) hs (by omega) (by simp; omega)).trans o1
      ·rw [zfq]; exact (zpX (by omega) hg hlt hl i1 i2 i3 hG hN htl hin hspf (by omega) hs (by omega) (by simp; omega)).trans o2
   ·have hN:=hb3 hp
    have hG:goB (lnR S a) a.Stanza a.Part r=true:=by rw [hN,Bool.or_false] at hb1; exact hb1.symm
    have hfo':=hfo
    unfold zo9 at hfo'
    rcases hst.hd with h0 | ⟨P,Y,c,h0,h9⟩
    ·have e:((S.length:Int)==0)=true:=by rw [h0]; rfl
     rw [e,if_pos rfl] at hfo'
     simp only [Bool.and_eq_true,decide_eq_true_eq] at hfo'
     exact absurd hfo'.2.2 hp
    ·have hSl:S.length=P.length+1:=by rw [h0]; simp
     have e:((S.length:Int)==0)=false:=beq_eq_false_iff_ne.2 (by omega)
     rw [e,if_neg (by decide)] at hfo'
     split at hfo'
     ·rename_i e1
      simp only [Bool.and_eq_true,decide_eq_true_eq] at hfo'
      obtain ⟨e2,e3⟩:=hfo'
      subst h0
      have hmem:=hst.row (Y++[c]) (by simp)
      have hcz:=hmem.2 c (by simp)
      have hYl:=hmem.1
      rw [List.length_append] at hYl
      have hYl:Y.length+1≤i:=hYl
      have hs:r.Stanza=(P.length:Int):=by omega
      have hPl:P.length+1≤i:=by omega
      have hci:70000*i≤70000*1000:=Nat.mul_le_mul_left _ (by omega)
      have hst':Bst9 (i+1) (P++[Y++[c++r.Text]]) r:=by
       refine ⟨⟨by omega,by omega⟩,⟨by omega,by omega⟩,⟨by omega,by omega⟩,by simp; omega,fun y hy => ?_,.inr ⟨P,Y,_,rfl,hs⟩⟩
       rcases List.mem_append.1 hy with hy | hy
       ·exact hwk y (List.mem_append_left _ hy)
       ·rw [List.mem_singleton.1 hy]
        refine ⟨by simp; omega,fun d hd => ?_⟩
        rcases List.mem_append.1 hd with hd | hd
        ·have:=hmem.2 d (List.mem_append_left _ hd); omega
        ·rw [List.mem_singleton.1 hd,ByteArray.size_append]; omega
      obtain ⟨o,o1,o2,o3⟩:=ih (i+1) m _ r hd (by omega) (by omega) hst'
      have e9:lnR (P++[Y++[c++r.Text]]) r=r.Line:=by unfold lnR; rw [if_neg (by simp)]
      rw [e9] at o2
      rw [hcast] at o1 o2
      refine ⟨o,?_,?_,o3⟩
      ·rw [zfq]; exact (zp3 (by omega) hg hlt hl hf hp (by omega) (by omega) hs (by omega) (by omega)).trans o1
      ·rw [zfq]; exact (zpZ (by omega) hg hlt hl i1 i2 i3 hG hN (by omega) (by omega) hs (by omega) (by omega)).trans o2
     ·simp only [Bool.and_eq_true,decide_eq_true_eq] at hfo'
      exact absurd hfo'.2.1 hp
theorem znt {l:List UInt8} (h:zoP l=true):GLn l:=by
 unfold zoP at h
 simp only [Bool.and_eq_true,Bool.not_eq_true',decide_eq_true_eq] at h
 obtain ⟨h1,h2,h3⟩:=h
 refine ⟨h3,h2,fun b hb => ?_⟩
 rw [List.any_eq_false] at h1
 simpa using h1 b hb
theorem zmp:∀ (r:Row),(∀ x∈r,x.length≤70000000)→wtR r≤r.length*70000001
 | [],_=>by decide
 | x::r,h=>by
  have h1:=zmp r fun y hy=>h y (List.mem_cons_of_mem _ hy)
  have h2:=h x (List.mem_cons_self ..)
  rw [zeZ,List.length_cons]; omega
theorem zmo:∀ (z:List Row),(∀ r∈z,r.length≤1000∧∀ x∈r,x.length≤70000000)→wtZ z≤z.length*70000002000
 | [],_=>by decide
 | r::z,h=>by
  have h1:=zmo z fun y hy=>h y (List.mem_cons_of_mem _ hy)
  obtain ⟨h2,h3⟩:=h r (List.mem_cons_self ..)
  have h4:=zmp r h3
  have h5:r.length*70000001≤1000*70000001:=Nat.mul_le_mul_right _ h2
  rw [zge,List.length_cons]; omega
theorem zmV (t:List UInt8) (z:List Row) (hz:z.length≤1000) (hr:∀ r∈z,r.length≤1000∧∀ x∈r,x.length≤70000000):∃ p e,zcW (mkB t) (mkZ z)=some (p,e)∧∀ q,p=some q→zcC q q=some true:=by
 have hM:=zp7 t z (by omega) (fun r h=>⟨by have:=(hr r h).1; omega,fun x hx=>by have:=(hr r h).2 x hx; omega⟩)
 cases htt:zme (mkB t) 1022 with
 | false=>rw [htt] at hM; exact ⟨none,170,hM,fun q h=>by cases h⟩
 | true =>
  rw [htt,if_pos rfl] at hM
  cases hzz:z.all zkR with
  | false=>rw [hzz] at hM; exact ⟨none,170,hM,fun q h=>by cases h⟩
  | true =>
   rw [hzz,if_pos rfl] at hM
   have hmay:=zmU t 1022
   rw [show ((1022:Nat):Int)=1022 from rfl,htt] at hmay
   have hmay:=hmay.symm
   rw [Bool.and_eq_true] at hmay
   have htl:t.length≤1022:=of_decide_eq_true hmay.1
   have hg:GoodP t z:=by
    refine ⟨fun b hb => ?_,htl,fun r h => ?_,fun r h x hx => ?_⟩
    ·have h1:t.any isE=false:=by simpa using hmay.2
     rw [List.any_eq_false] at h1
     simpa using h1 b hb
    ·have:=List.all_eq_true.1 hzz r h
     unfold zkR at this
     rw [Bool.and_eq_true] at this
     intro e; rw [e] at this; exact absurd this.1 (by decide)
    ·have:=List.all_eq_true.1 hzz r h
     unfold zkR at this
     rw [Bool.and_eq_true] at this
     exact znt (List.all_eq_true.1 this.2 x hx)
   have hwt:=zmo z hr
   have hwz:z.length*70000002000≤1000*70000002000:=Nat.mul_le_mul_right _ hz
   have hmv:=zoF t z hg.ne (by omega)
   by_cases h5:512<tot z
   ·exact ⟨none,3,by rw [hM,hmv,if_pos (.inl h5)],fun q h=>by cases h⟩
   ·by_cases h6:65536<(prT t z).length
    ·exact ⟨none,3,by rw [hM,hmv,if_pos (.inr h6)],fun q h=>by cases h⟩
    ·obtain ⟨p,d1,d2,d3,d4,d5⟩:=zmW hg (by omega) (by omega)
     refine ⟨some p,0,by rw [hM,d1],fun q h => ?_⟩
     cases h
     rw [zpT d2 d2]; simp
theorem zkj (x:ByteArray):mkB x.data.toList=x:=by cases x; simp [mkB]
theorem zmT (z:List (List ByteArray)):mkZ (z.map (·.map (·.data.toList)))=z:=by
 unfold mkZ
 rw [List.map_map]
 refine (List.map_congr_left fun r _ => ?_).trans (List.map_id _)
 show (r.map (·.data.toList)).map mkB=r
 rw [List.map_map]
 exact (List.map_congr_left fun x _=>zkj x).trans (List.map_id _)
theorem zhe {B:List Gapi_Row} (hb:∀ r∈B,r.Text.size≤140737488355328) {J:Option Bool} (hJ:B.length≤1000→(∀ r∈B,r.Text.size≤60000)→J=some true) :
  ∀ (d i m:Nat) (n:Int),i+d=402→d<m→i≤B.length→0≤n→n≤140737488400000→(∀ k r,k<i→B[k]?=some r→r.Text.size≤60000)→zaT (fun _ _=>none) (zbj B J) m n (i:Int)=some true
 | d,i,m,n,hd,hm,hi,h0,hn,hk=>by
  obtain ⟨m,rfl⟩:∃ q,m=q+1:=⟨m - 1,by omega⟩
  rw [zfq]
  rcases Nat.lt_or_ge i B.length with hlt | hge
  ·have hg:B[i]?=some B[i]:=List.getElem?_eq_getElem hlt
   have hz:=hb _ (List.mem_of_getElem? hg)
   have key:∀ n':Int,n+(B[i].Text.size:Int)≤n'→n'≤n+(B[i].Text.size:Int)+1024→(zam (decide ((60000:Int)<n')) (some true) (zam (decide ((400:Int)<(i:Int))) (some true) (grd (I64 ((i:Int)+1))<|zaT (fun _ _=>none) (zbj B J) m n' ((i:Int)+1))))=some true:=by
    intro n' h1 h2
    by_cases h6:60000<n'
    ·exact zaA (decide_eq_true h6) rfl
    refine zav (decide_eq_false h6) ?_
    by_cases h4:400<(i:Int)
    ·exact zaA (decide_eq_true h4) rfl
    refine zav (decide_eq_false h4) (zce ⟨by omega,by omega⟩ ?_)
    obtain ⟨d,rfl⟩:∃ q,d=q+1:=⟨d - 1,by omega⟩
    have:=zhe hb hJ d (i+1) m n' (by omega) (by omega) hlt (by omega) (by omega) (fun k r hk' hr=>by
     rcases Nat.lt_or_ge k i with h | h
     ·exact hk k r h hr
     ·have:k=i:=by omega
      subst this
      rw [hg] at hr
      rw [← Option.some.inj hr]; omega)
    rw [show ((i+1:Nat):Int)=(i:Int)+1 by omega] at this
    exact this
   generalize zaT (fun _ _=>none) (zbj B J) m=ag at key ⊢
   unfold zbj
   refine zaA (decide_eq_true (by omega)) (zbC (za3 (zbm hg) (zce ⟨by omega,by omega⟩ (za3 (zbm hg) ?_))))
   by_cases h1:0<B[i].Indent
   ·refine zaA (decide_eq_true h1) ?_
    by_cases h2:B[i].Indent≤1024
    ·exact zaA (decide_eq_true h2) (za3 (zbm hg) (zce ⟨by omega,by omega⟩ (key _ (by omega) (by omega))))
    ·exact zav (decide_eq_false h2) (key _ (by omega) (by omega))
   ·exact zav (decide_eq_false h1) (key _ (by omega) (by omega))
  ·unfold zbj
   refine zav (decide_eq_false (by omega)) (hJ (by omega) fun r hr => ?_)
   obtain ⟨k,hk'⟩:=List.getElem?_of_mem hr
   exact hk k r (by have:=(List.getElem?_eq_some_iff.1 hk').1; omega) hk'
theorem zjp (t:List UInt8) (B:List Gapi_Row) (ht:t.length≤140737488355328) (hb:∀ r∈B,r.Text.size≤140737488355328):zcX (mkB t) B=some true:=by
 unfold zcX
 refine za3 zp9 (zav rfl (zbC ?_))
 refine zhe hb (fun hB hs => ?_) 402 0 zb8 _ rfl (zjK (by omega)) (Nat.zero_le _) (by omega) (by rw [zaY]; omega) (fun k r hk _=>absurd hk (Nat.not_lt_zero k))
 obtain ⟨o,o1,o2,o3⟩:=zsC hB hs (fun (stanzas1:List (List ByteArray))=>zan (zcW (mkB t) stanzas1) fun (r3:((Option Gpoem_Poem)×Int))=>some (r3.1,r3.2)) (fun (out1:List (List ByteArray))=>some (out1,true)) B 0 zb8 [] (⟨0,0,0,0,0,ByteArray.empty⟩:Gapi_Row) (List.drop_zero ..) (zjK (by omega)) (Nat.zero_le _)
  ⟨⟨Int.le_refl _,by decide⟩,⟨Int.le_refl _,by decide⟩,⟨Int.le_refl _,by decide⟩,Nat.le_refl _,fun y hy=>by (cases hy),.inl rfl⟩
 have hP:zdY (mkB t) B=zsl (fun (stanzas1:List (List ByteArray))=>zan (zcW (mkB t) stanzas1) fun (r3:((Option Gpoem_Poem)×Int))=>some (r3.1,r3.2)) o:=by
  unfold zdY
  exact zbC o1
 have hR:zdy B=zsk (fun (out1:List (List ByteArray))=>some (out1,true)) o:=by
  unfold zdy
  exact zbC o2
 cases o with
 | none=>exact za3 hP (za3 hR (zaA rfl (zaA rfl rfl)))
 | some S =>
  obtain ⟨s1,s2⟩:=o3 S rfl
  obtain ⟨p,e,h1,h2⟩:=zmV t (S.map (·.map (·.data.toList))) (by rw [List.length_map]; exact s1) (fun r hr=>by
   obtain ⟨y,hy,rfl⟩:=List.mem_map.1 hr
   refine ⟨by rw [List.length_map]; exact (s2 y hy).1,fun x hx => ?_⟩
   obtain ⟨c,hc,rfl⟩:=List.mem_map.1 hx
   have:=(s2 y hy).2 c hc
   show c.data.toList.length≤_
   rw [Array.length_toList]; exact this)
  rw [zmT] at h1
  have hP':zdY (mkB t) B=some (p,e):=hP.trans (za3 h1 rfl)
  have hR':zdy B=some (S,true):=hR
  refine za3 hP' (za3 hR' (zav rfl (za3 h1 (zav (by simp) (zav (by simp) ?_)))))
  cases p with
  | none=>exact zaA rfl rfl
  | some q=>exact zav rfl (za3 rfl (za3 rfl (za3 (h2 q rfl) rfl)))
theorem pageRefuses_any (t:ByteArray) (hd:Hd) (zs:List Gapi_Row) {vv:Value} {o:Nat} (w:World) (ht:t.size≤140737488351232) (hw:VwO vv o hd.v zs) (hr:(zhd enc_Gapi_Row 6 vv o zs).P (fun b=>b<w.heap.size) w) (hb:∀ r∈zs,r.Text.size≤140737488351232) :
  Calls Tryd.prog 4 #[.string t,hd.v] w fun e w'=>e=.returned (.bool true)∧Below w.heap.size w w':=by
 have hv:=zjp t.data.toList zs (by rw [Array.length_toList]; exact Nat.le_trans ht (by decide)) (fun r h=>by have:=hb r h; omega)
 rw [zkj] at hv
 exact FnR.p (zfL hw hv) w (fun A hA=>by
  rcases List.mem_singleton.1 hA with rfl
  exact ⟨_,hr,fun _ _ h=>h⟩)
end Go.Proofs.YtbempdelckaccaaDoor
