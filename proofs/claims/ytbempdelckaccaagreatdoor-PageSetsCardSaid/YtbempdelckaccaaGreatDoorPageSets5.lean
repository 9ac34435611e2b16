/-
  Texts laid together: LqQ, PqA, PqB, LqS, LqR, LqZ, PqC, PqD, PqE, LqE, LqB, Cb, LqG, LqH, PqF, PqG, PqH, PqI. Nothing is assumed.
-/
import Derived.Test.YtbempdelckaccaaGreatDoorPageSets2
import Derived.Test.YtbempdelckaccaaGreatDoorPageSets4
set_option maxRecDepth 100000
set_option maxHeartbeats 4000000

namespace Go.Proofs.YtbempdelckaccaaGreatDoor
open Go.RowKit Go.Lib
set_option linter.unusedVariables false
set_option linter.unusedSimpArgs false
def zdV (s1:ByteArray) (j1:Option Bool) (ag1:Int→Option Bool) (i3:Int):Option Bool :=
zay (decide ((i3:Int)<(s1.size:Int))) (
zbk (fun (j2:Option Bool) =>
zah (zjg s1 i3) fun (c1:Int) =>
zay ((c1:Int) != 32) (
zay ((c1:Int) != 9) (
some false
) (
j2
)
) (
j2
)
) (
grd (I64 (i3+1)) <|
ag1 (i3+1)
)
) (
j1
)
def zeH (s1:ByteArray):Option Bool :=
zbk (fun (j1:Option Bool) =>
zaE (fun _=>none) (zdV s1 j1) zbN 0
) (
some true
)
theorem zlv {s1:ByteArray} {r:Bool} (h:zeH s1=some r):FnP Tryz.prog 99 [.string s1] (.bool r):=by
 unfold zeH at h
 refine FnP.intro Tryz.func99 rfl Tryz.ntmps99 (by simp) ?_
 intro w0 K
 obtain ⟨j1,hj1,h⟩:=zbG h
 refine zaX (β:=Unit) 1 rfl (fun b=>j1=some r) (fun b=>[]) (fun b=>[]) (fun b=>[]) (fun cut => ?_) ?_
 ·
  refine zyG (zyR 1 rfl (zyN (cut (zyG (zyR 1 rfl (zyN (zaF ?_)))))))
  refine zbj (β:=Nat×Int) (fun b=>zaE (fun _=>none) (zdV s1 j1) b.1 b.2=some r) (fun b=>[]) (fun b=>[(0,.string s1),(3,zI b.2)]) (fun b=>[]) (fun b=>b.1) (zbN,0) h rfl (za0 rfl) Splits.nil ?_
  rintro ⟨n1,i3⟩ h
  cases n1 with
  | zero=>exact zdp h
  | succ n1 =>
   obtain ⟨ag1,hag1⟩:∃ ag,ag=zaE (fun _=>none) (zdV s1 j1) n1:=⟨_,rfl⟩
   have h:zdV s1 j1 ag1 i3=some r:=by rw [hag1]; exact h
   unfold zdV at h
   refine zaI (zyG (zyR 2 rfl (zcg rfl dc rfl Tryz.underlying9 (zaU rfl zbc (zyN ?_)))))
   refine zyB rfl h (fun h => ?_) (fun h => ?_)
   ·
    refine zar (zaH ?_)
    obtain ⟨j2,hj2,h⟩:=zbG h
    refine zaX (β:=Unit) 0 rfl (fun b=>j2=some r) (fun b=>[]) (fun b=>[(0,.string s1),(3,zI i3)]) (fun b=>[]) (fun cut => ?_) ?_
    ·
     refine cut (zaF (zyG (zyR 2 rfl ?_)))
     obtain ⟨c1,hq1,h⟩:=zbi h
     refine zc7 rfl dc rfl rfl (zbx Tryz.underlying9 hq1) (zaU rfl zbS (zyR 1 rfl ?_))
     refine zyS (s:=14) rfl h (fun h => ?_) (fun h => ?_)
     ·
      refine zyR 2 rfl (zc7 rfl dc rfl rfl (zbx Tryz.underlying9 hq1) (zaU rfl zbS (zyR 1 rfl (zyN ?_))))
      refine zyB rfl h (fun h => ?_) (fun h => ?_)
      ·
       refine zyG (zyR 1 rfl (zyN (zaG (zat (zao (zao (zat (zao ?_))))))))
       cases h
       exact zaK (rs:=[.tmp 2]) () (.inl rfl) Tryz.results99 (.cons (.tmp rfl) .nil) rfl Splits.nil
      refine zar (zag ?_)
      exact zal () h rfl (za0 rfl) Splits.nil
     refine zyR 5 rfl (zyN (zaS rfl (zar (zag ?_))))
     exact zal () h rfl (za0 rfl) Splits.nil
    rintro _ h
    rw [hj2] at h
    refine zav (zyR 1 rfl ?_)
    obtain ⟨hg1,h⟩:=zbr h
    refine zaU rfl (zaR (r:=i3+1) (IntWalk.i64_in _ hg1)) (zyR 1 rfl (zaO ?_))
    subst hag1
    exact za1 (n1,i3+1) h (Nat.lt_succ_self _) rfl (za0 rfl) Splits.nil
   refine za3 (zan (zan (zax ?_)))
   exact zal () h rfl (zio) Splits.nil
 rintro _ h
 rw [hj1] at h
 refine zyG (zyR 1 rfl (zyN (zaG ?_)))
 cases h
 exact zaK (rs:=[.tmp 2]) () (.inl rfl) Tryz.results99 (.cons (.tmp rfl) .nil) rfl Splits.nil
def zeQ (s1:ByteArray):Option Bool :=
zay (decide (s1=(⟨#[35]⟩:ByteArray))) (
some true
) (
zay (decide ((1:Int)<(s1.size:Int))) (
zah (zjg s1 0) fun (c1:Int) =>
zay ((c1:Int)==35) (
zah (zjg s1 1) fun (c2:Int) =>
some ((c2:Int)==32)
) (
some false
)
) (
some false
)
)
theorem zkx {s1:ByteArray} {r:Bool} (h:zeQ s1=some r):FnP Tryz.prog 100 [.string s1] (.bool r):=by
 unfold zeQ at h
 refine FnP.intro Tryz.func100 rfl Tryz.ntmps100 (by simp) ?_
 intro w0 K
 refine zyG (zyR 1 rfl (zyH (zyR 1 rfl (zaU rfl zhR (zyR 1 rfl ?_)))))
 refine zyS (s:=5) rfl h (fun h => ?_) (fun h => ?_)
 ·
  refine zyR 14 rfl ?_
  refine zyR 1 rfl (zyN (zaG ?_))
  cases h
  exact zaK (rs:=[.tmp 2]) () (.inl rfl) Tryz.results100 (.cons (.tmp rfl) .nil) rfl Splits.nil
 refine zyR 1 rfl (zcg rfl dc rfl Tryz.underlying9 (zaU rfl zct (zyR 1 rfl ?_)))
 refine zyS (s:=9) rfl h (fun h => ?_) (fun h => ?_)
 ·
  refine zyR 1 rfl ?_
  obtain ⟨c1,hq1,h⟩:=zbi h
  refine zc7 rfl dc rfl rfl (zbx Tryz.underlying9 hq1) (zaU rfl zaT (zyR 2 rfl ?_))
  refine zyS (s:=14) rfl h (fun h => ?_) (fun h => ?_)
  ·
   refine zyR 1 rfl ?_
   obtain ⟨c2,hq2,h⟩:=zbi h
   refine zc7 rfl dc rfl rfl (zbx Tryz.underlying9 hq2) (zaU rfl zaT (zyR 3 rfl (zyN (zaG ?_))))
   cases h
   exact zaK (rs:=[.tmp 2]) () (.inl rfl) Tryz.results100 (.cons (.tmp rfl) .nil) rfl Splits.nil
  refine zyR 6 rfl (zyN (zaG ?_))
  cases h
  exact zaK (rs:=[.tmp 2]) () (.inl rfl) Tryz.results100 (.cons (.tmp rfl) .nil) rfl Splits.nil
 refine zyR 11 rfl (zyN (zaG ?_))
 cases h
 exact zaK (rs:=[.tmp 2]) () (.inl rfl) Tryz.results100 (.cons (.tmp rfl) .nil) rfl Splits.nil
def zda (s1:ByteArray) (j1:Int→Option Int) (ag1:Int→Option Int) (n4:Int):Option Int :=
zay (decide ((n4:Int)<(s1.size:Int))) (
zah (zjg s1 n4) fun (c1:Int) =>
zay ((c1:Int)==32) (
grd (I64 (n4+1)) <|
ag1 (n4+1)
) (
j1 n4
)
) (
j1 n4
)
def zcc (s1:ByteArray):Option Int :=
zbk (fun (j1:Int→Option Int) =>
zaE (fun _=>none) (zda s1 j1) zbN 0
) (fun (n1:Int) =>
some n1
)
theorem zd4 {s1:ByteArray} {r:Int} (h:zcc s1=some r):FnP Tryz.prog 101 [.string s1] (zI r):=by
 unfold zcc at h
 refine FnP.intro Tryz.func101 rfl Tryz.ntmps101 (by simp) ?_
 intro w0 K
 obtain ⟨j1,hj1,h⟩:=zbG h
 refine zaX (β:=Int) 2 rfl (fun b=>j1 b=some r) (fun b=>[]) (fun b=>[(3,zI b)]) (fun b=>[]) (fun cut => ?_) ?_
 ·
  refine zyG (zyR 1 rfl (zyH (zyR 1 rfl (zyN (cut (zaF ?_))))))
  refine zbj (β:=Nat×Int) (fun b=>zaE (fun _=>none) (zda s1 j1) b.1 b.2=some r) (fun b=>[]) (fun b=>[(0,.string s1),(3,zI b.2)]) (fun b=>[]) (fun b=>b.1) (zbN,0) h rfl (za0 rfl) Splits.nil ?_
  rintro ⟨n5,n4⟩ h
  cases n5 with
  | zero=>exact zdp h
  | succ n5 =>
   obtain ⟨ag1,hag1⟩:∃ ag,ag=zaE (fun _=>none) (zda s1 j1) n5:=⟨_,rfl⟩
   have h:zda s1 j1 ag1 n4=some r:=by rw [hag1]; exact h
   unfold zda at h
   refine zaI (zyG (zyR 2 rfl (zcg rfl dc rfl Tryz.underlying9 (zaU rfl zbc (zyR 1 rfl ?_)))))
   refine zyS (s:=8) rfl h (fun h => ?_) (fun h => ?_)
   ·
    refine zyR 2 rfl ?_
    obtain ⟨c1,hq1,h⟩:=zbi h
    refine zc7 rfl dc rfl rfl (zbx Tryz.underlying9 hq1) (zaU rfl zaT (zyR 1 rfl (zyN ?_)))
    refine zyB rfl h (fun h => ?_) (fun h => ?_)
    ·
     refine zar (zaH (zaF (zav (zyR 1 rfl ?_))))
     obtain ⟨hg1,h⟩:=zbr h
     refine zaU rfl (zaR (r:=n4+1) (IntWalk.i64_in _ hg1)) (zyR 1 rfl (zaO (zag ?_)))
     subst hag1
     exact za1 (n5,n4+1) h (Nat.lt_succ_self _) rfl (za0 rfl) Splits.nil
    refine za3 (zan (zan (zax ?_)))
    exact zal n4 h rfl (za0 rfl) Splits.nil
   refine zyR 5 rfl (zyN (zaS rfl (za3 (zan (zan (zax ?_))))))
   exact zal n4 h rfl (za0 rfl) Splits.nil
 rintro n1 h
 rw [hj1] at h
 refine zyG (zyR 2 rfl (zyN (zaG ?_)))
 cases h
 exact zaK (rs:=[.tmp 2]) () (.inl rfl) Tryz.results101 (.cons (.tmp rfl) .nil) rfl Splits.nil
def zdM (s1:ByteArray) (j1:(List Gapi_Span)→Option (List Gapi_Span)) (ag1:(List Gapi_Span)→Int→Option (List Gapi_Span)) (l4:List Gapi_Span) (i3:Int):Option (List Gapi_Span) :=
zay (decide ((i3:Int)<(s1.size:Int))) (
zbk (fun (j2:(List Gapi_Span)→Int→Option (List Gapi_Span)) =>
zah (zjg s1 i3) fun (c1:Int) =>
zay ((c1:Int)==13) (
grd (I64 (i3+1)) <|
zay (decide (((i3+1):Int)<(s1.size:Int))) (
grd (I64 (i3+1)) <|
zah (zjg s1 (i3+1)) fun (c2:Int) =>
zay ((c2:Int)==10) (
grd (I64 (i3+2)) <|
grd (l4.length+1≤2147483648) <|
grd (I64 (i3+1)) <|
j2 (l4++[(⟨i3,i3+2⟩:Gapi_Span)]) (i3+1)
) (
zah (zjg s1 i3) fun (c3:Int) =>
zay ((c3:Int)==13) (
grd (I64 (i3+1)) <|
grd (l4.length+1≤2147483648) <|
j2 (l4++[(⟨i3,i3+1⟩:Gapi_Span)]) i3
) (
zay ((c3:Int)==10) (
grd (I64 (i3+1)) <|
grd (l4.length+1≤2147483648) <|
j2 (l4++[(⟨i3,i3+1⟩:Gapi_Span)]) i3
) (
j2 l4 i3
)
)
)
) (
zah (zjg s1 i3) fun (c4:Int) =>
zay ((c4:Int)==13) (
grd (I64 (i3+1)) <|
grd (l4.length+1≤2147483648) <|
j2 (l4++[(⟨i3,i3+1⟩:Gapi_Span)]) i3
) (
zay ((c4:Int)==10) (
grd (I64 (i3+1)) <|
grd (l4.length+1≤2147483648) <|
j2 (l4++[(⟨i3,i3+1⟩:Gapi_Span)]) i3
) (
j2 l4 i3
)
)
)
) (
zah (zjg s1 i3) fun (c5:Int) =>
zay ((c5:Int)==13) (
grd (I64 (i3+1)) <|
grd (l4.length+1≤2147483648) <|
j2 (l4++[(⟨i3,i3+1⟩:Gapi_Span)]) i3
) (
zay ((c5:Int)==10) (
grd (I64 (i3+1)) <|
grd (l4.length+1≤2147483648) <|
j2 (l4++[(⟨i3,i3+1⟩:Gapi_Span)]) i3
) (
j2 l4 i3
)
)
)
) (fun (l5:List Gapi_Span) (i4:Int) =>
grd (I64 (i4+1)) <|
ag1 l5 (i4+1)
)
) (
j1 l4
)
def ze9 (s1:ByteArray):Option (List Gapi_Span) :=
zbk (fun (j1:(List Gapi_Span)→Option (List Gapi_Span)) =>
zaE (fun _ _=>none) (zdM s1 j1) zbN ([]:List Gapi_Span) 0
) (fun (l1:List Gapi_Span) =>
some l1
)
theorem ziA {s1:ByteArray} {r:(List Gapi_Span)} (h:ze9 s1=some r):Fn Tryz.prog 126 [.string s1] [] (fun v0:Value=>v0) (fun v0=>[zv7 v0 r]):=by
 unfold ze9 at h
 refine Fn.intro Tryz.func126 rfl Tryz.ntmps126 (by simp) ?_
 intro w0 K
 obtain ⟨j1,hj1,h⟩:=zbG h
 refine zaX (β:=(List Gapi_Span)×Value) 2 rfl (fun b=>j1 b.1=some r) (fun b=>[]) (fun b=>[(3,b.2)]) (fun b=>[zv7 b.2 b.1]) (fun cut => ?_) ?_
 ·
  refine zyG (zyR 1 rfl (zyH (zyR 1 rfl (zyN (cut (zyG (zyR 1 rfl ?_)))))))
  refine zyN (zaF (zcR (enc:=zdS) (e:=38) (size:=2) ?_))
  refine zbj (β:=Nat×(List Gapi_Span)×Int×Value) (fun b=>zaE (fun _ _=>none) (zdM s1 j1) b.1 b.2.1 b.2.2.1=some r) (fun b=>[]) (fun b=>[(0,.string s1),(3,b.2.2.2),(4,zI b.2.2.1)]) (fun b=>[zv7 b.2.2.2 b.2.1]) (fun b=>b.1) (zbN,([]:List Gapi_Span),0,(.slice none 0 0)) h rfl (za0 rfl) (zad [0] kr rfl) ?_
  rintro ⟨n1,l4,i3,v4⟩ h
  cases n1 with
  | zero=>exact zdp h
  | succ n1 =>
   obtain ⟨ag1,hag1⟩:∃ ag,ag=zaE (fun _ _=>none) (zdM s1 j1) n1:=⟨_,rfl⟩
   have h:zdM s1 j1 ag1 l4 i3=some r:=by rw [hag1]; exact h
   unfold zdM at h
   refine zaI (zyG (zyR 2 rfl (zcg rfl dc rfl Tryz.underlying9 (zaU rfl zbc (zyN ?_)))))
   refine zyB rfl h (fun h => ?_) (fun h => ?_)
   ·
    refine zar (zaH ?_)
    obtain ⟨j2,hj2,h⟩:=zbG h
    refine zaX (β:=(List Gapi_Span)×Int×Value) 0 rfl (fun b=>j2 b.1 b.2.1=some r) (fun b=>[]) (fun b=>[(0,.string s1),(3,b.2.2),(4,zI b.2.1)]) (fun b=>[zv7 b.2.2 b.1]) (fun cut => ?_) ?_
    ·
     refine cut (zaF (zaF (zyG (zyR 2 rfl ?_))))
     obtain ⟨c1,hq1,h⟩:=zbi h
     refine zc7 rfl dc rfl rfl (zbx Tryz.underlying9 hq1) (zaU rfl zaT (zyR 1 rfl ?_))
     refine zyS (s:=16) rfl h (fun h => ?_) (fun h => ?_)
     ·
      refine zyR 1 rfl ?_
      obtain ⟨hg1,h⟩:=zbr h
      refine zaU rfl (zaR (r:=i3+1) (IntWalk.i64_in _ hg1)) (zyR 1 rfl (zcg rfl dc rfl Tryz.underlying9 (zaU rfl zbc (zyR 2 rfl ?_))))
      refine zyS (s:=23) rfl h (fun h => ?_) (fun h => ?_)
      ·
       refine zyR 2 rfl ?_
       obtain ⟨hg2,h⟩:=zbr h
       refine zaU rfl (zaR (r:=i3+1) (IntWalk.i64_in _ hg2)) ?_
       obtain ⟨c2,hq2,h⟩:=zbi h
       refine zc7 rfl dc rfl rfl (zbx Tryz.underlying9 hq2) (zaU rfl zaT (zyR 2 rfl (zyN ?_)))
       refine zyB rfl h (fun h => ?_) (fun h => ?_)
       ·
        refine zyG (zyR 3 rfl ?_)
        obtain ⟨hg3,h⟩:=zbr h
        refine zaU rfl (zaR (r:=i3+2) (IntWalk.i64_in _ hg3)) ?_
        refine zba (v:=.agg #[zI i3,zI (i3+2)]) (ps:=[(0,.tmp 31),(1,.tmp 33)]) rfl dc rfl (fun _=>by kernel_rfl) ?_
        refine zaV (cs:=[zI i3,zI (i3+2)]) (te:=38) (ps:=[(0,.tmp 34)]) rfl dc rfl (fun _=>by kernel_rfl) (fun b1 => ?_)
        obtain ⟨hg4,h⟩:=zbr h
        refine za4 (k:=0) (k2:=1) (ys:=[(⟨i3,i3+2⟩:Gapi_Span)]) Tryz.underlying102 zm2 zbB zcp rfl dc rfl rfl rfl rfl rfl rfl hg4 (fun v6 => ?_)
        refine zyR 1 rfl (zyN (zav (zyR 1 rfl ?_)))
        obtain ⟨hg5,h⟩:=zbr h
        refine zaU rfl (zaR (r:=i3+1) (IntWalk.i64_in _ hg5)) (zyR 1 rfl (zaO (zag (zag ?_))))
        exact zal (l4++[(⟨i3,i3+2⟩:Gapi_Span)],i3+1,v6) h rfl (za0 rfl) (zad [0] kr rfl)
       refine zyG (zyR 2 rfl ?_)
       obtain ⟨c3,hq3,h⟩:=zbi h
       refine zc7 rfl dc rfl rfl (zbx Tryz.underlying9 hq3) (zaU rfl zaT (zyR 1 rfl ?_))
       refine zyS (s:=44) rfl h (fun h => ?_) (fun h => ?_)
       ·
        refine zyR 6 rfl (zyN (za5 rfl (zav (zyR 3 rfl ?_))))
        obtain ⟨hg6,h⟩:=zbr h
        refine zaU rfl (zaR (r:=i3+1) (IntWalk.i64_in _ hg6)) ?_
        refine zba (v:=.agg #[zI i3,zI (i3+1)]) (ps:=[(0,.tmp 51),(1,.tmp 53)]) rfl dc rfl (fun _=>by kernel_rfl) ?_
        refine zaV (cs:=[zI i3,zI (i3+1)]) (te:=38) (ps:=[(0,.tmp 54)]) rfl dc rfl (fun _=>by kernel_rfl) (fun b2 => ?_)
        obtain ⟨hg7,h⟩:=zbr h
        refine za4 (k:=0) (k2:=1) (ys:=[(⟨i3,i3+1⟩:Gapi_Span)]) Tryz.underlying102 zm2 zbB zcp rfl dc rfl rfl rfl rfl rfl rfl hg7 (fun v7 => ?_)
        refine zyR 1 rfl (zaO (zag (zag ?_)))
        exact zal (l4++[(⟨i3,i3+1⟩:Gapi_Span)],i3,v7) h rfl (za0 rfl) (zad [0] kr rfl)
       refine zyR 2 rfl (zc7 rfl dc rfl rfl (zbx Tryz.underlying9 hq3) (zaU rfl zaT (zyR 2 rfl (zyN ?_))))
       refine zyB rfl h (fun h => ?_) (fun h => ?_)
       ·
        refine zav (zyR 3 rfl ?_)
        obtain ⟨hg8,h⟩:=zbr h
        refine zaU rfl (zaR (r:=i3+1) (IntWalk.i64_in _ hg8)) ?_
        refine zba (v:=.agg #[zI i3,zI (i3+1)]) (ps:=[(0,.tmp 51),(1,.tmp 53)]) rfl dc rfl (fun _=>by kernel_rfl) ?_
        refine zaV (cs:=[zI i3,zI (i3+1)]) (te:=38) (ps:=[(0,.tmp 54)]) rfl dc rfl (fun _=>by kernel_rfl) (fun b3 => ?_)
        obtain ⟨hg9,h⟩:=zbr h
        refine za4 (k:=0) (k2:=1) (ys:=[(⟨i3,i3+1⟩:Gapi_Span)]) Tryz.underlying102 zm2 zbB zcp rfl dc rfl rfl rfl rfl rfl rfl hg9 (fun v8 => ?_)
        refine zyR 1 rfl (zaO (zag (zag ?_)))
        exact zal (l4++[(⟨i3,i3+1⟩:Gapi_Span)],i3,v8) h rfl (za0 rfl) (zad [0] kr rfl)
       refine zar (zag (zag ?_))
       exact zal (l4,i3,v4) h rfl (za0 rfl) (zad [0] kr rfl)
      refine zyR 7 rfl (zyN (zaS rfl (zyG (zyR 2 rfl ?_))))
      obtain ⟨c4,hq4,h⟩:=zbi h
      refine zc7 rfl dc rfl rfl (zbx Tryz.underlying9 hq4) (zaU rfl zaT (zyR 1 rfl ?_))
      refine zyS (s:=44) rfl h (fun h => ?_) (fun h => ?_)
      ·
       refine zyR 6 rfl (zyN (za5 rfl (zav (zyR 3 rfl ?_))))
       obtain ⟨hg10,h⟩:=zbr h
       refine zaU rfl (zaR (r:=i3+1) (IntWalk.i64_in _ hg10)) ?_
       refine zba (v:=.agg #[zI i3,zI (i3+1)]) (ps:=[(0,.tmp 51),(1,.tmp 53)]) rfl dc rfl (fun _=>by kernel_rfl) ?_
       refine zaV (cs:=[zI i3,zI (i3+1)]) (te:=38) (ps:=[(0,.tmp 54)]) rfl dc rfl (fun _=>by kernel_rfl) (fun b4 => ?_)
       obtain ⟨hg11,h⟩:=zbr h
       refine za4 (k:=0) (k2:=1) (ys:=[(⟨i3,i3+1⟩:Gapi_Span)]) Tryz.underlying102 zm2 zbB zcp rfl dc rfl rfl rfl rfl rfl rfl hg11 (fun v9 => ?_)
       refine zyR 1 rfl (zaO (zag (zag ?_)))
       exact zal (l4++[(⟨i3,i3+1⟩:Gapi_Span)],i3,v9) h rfl (za0 rfl) (zad [0] kr rfl)
      refine zyR 2 rfl (zc7 rfl dc rfl rfl (zbx Tryz.underlying9 hq4) (zaU rfl zaT (zyR 2 rfl (zyN ?_))))
      refine zyB rfl h (fun h => ?_) (fun h => ?_)
      ·
       refine zav (zyR 3 rfl ?_)
       obtain ⟨hg12,h⟩:=zbr h
       refine zaU rfl (zaR (r:=i3+1) (IntWalk.i64_in _ hg12)) ?_
       refine zba (v:=.agg #[zI i3,zI (i3+1)]) (ps:=[(0,.tmp 51),(1,.tmp 53)]) rfl dc rfl (fun _=>by kernel_rfl) ?_
       refine zaV (cs:=[zI i3,zI (i3+1)]) (te:=38) (ps:=[(0,.tmp 54)]) rfl dc rfl (fun _=>by kernel_rfl) (fun b5 => ?_)
       obtain ⟨hg13,h⟩:=zbr h
       refine za4 (k:=0) (k2:=1) (ys:=[(⟨i3,i3+1⟩:Gapi_Span)]) Tryz.underlying102 zm2 zbB zcp rfl dc rfl rfl rfl rfl rfl rfl hg13 (fun v10 => ?_)
       refine zyR 1 rfl (zaO (zag (zag ?_)))
       exact zal (l4++[(⟨i3,i3+1⟩:Gapi_Span)],i3,v10) h rfl (za0 rfl) (zad [0] kr rfl)
      refine zar (zag (zag ?_))
      exact zal (l4,i3,v4) h rfl (za0 rfl) (zad [0] kr rfl)
     refine zyR 14 rfl ?_
     refine zyN (zaS rfl (zyG (zyR 2 rfl ?_)))
     obtain ⟨c5,hq5,h⟩:=zbi h
     refine zc7 rfl dc rfl rfl (zbx Tryz.underlying9 hq5) (zaU rfl zaT (zyR 1 rfl ?_))
     refine zyS (s:=44) rfl h (fun h => ?_) (fun h => ?_)
     ·
      refine zyR 6 rfl (zyN (za5 rfl (zav (zyR 3 rfl ?_))))
      obtain ⟨hg14,h⟩:=zbr h
      refine zaU rfl (zaR (r:=i3+1) (IntWalk.i64_in _ hg14)) ?_
      refine zba (v:=.agg #[zI i3,zI (i3+1)]) (ps:=[(0,.tmp 51),(1,.tmp 53)]) rfl dc rfl (fun _=>by kernel_rfl) ?_
      refine zaV (cs:=[zI i3,zI (i3+1)]) (te:=38) (ps:=[(0,.tmp 54)]) rfl dc rfl (fun _=>by kernel_rfl) (fun b6 => ?_)
      obtain ⟨hg15,h⟩:=zbr h
      refine za4 (k:=0) (k2:=1) (ys:=[(⟨i3,i3+1⟩:Gapi_Span)]) Tryz.underlying102 zm2 zbB zcp rfl dc rfl rfl rfl rfl rfl rfl hg15 (fun v11 => ?_)
      refine zyR 1 rfl (zaO (zag (zag ?_)))
      exact zal (l4++[(⟨i3,i3+1⟩:Gapi_Span)],i3,v11) h rfl (za0 rfl) (zad [0] kr rfl)
     refine zyR 2 rfl (zc7 rfl dc rfl rfl (zbx Tryz.underlying9 hq5) (zaU rfl zaT (zyR 2 rfl (zyN ?_))))
     refine zyB rfl h (fun h => ?_) (fun h => ?_)
     ·
      refine zav (zyR 3 rfl ?_)
      obtain ⟨hg16,h⟩:=zbr h
      refine zaU rfl (zaR (r:=i3+1) (IntWalk.i64_in _ hg16)) ?_
      refine zba (v:=.agg #[zI i3,zI (i3+1)]) (ps:=[(0,.tmp 51),(1,.tmp 53)]) rfl dc rfl (fun _=>by kernel_rfl) ?_
      refine zaV (cs:=[zI i3,zI (i3+1)]) (te:=38) (ps:=[(0,.tmp 54)]) rfl dc rfl (fun _=>by kernel_rfl) (fun b7 => ?_)
      obtain ⟨hg17,h⟩:=zbr h
      refine za4 (k:=0) (k2:=1) (ys:=[(⟨i3,i3+1⟩:Gapi_Span)]) Tryz.underlying102 zm2 zbB zcp rfl dc rfl rfl rfl rfl rfl rfl hg17 (fun v12 => ?_)
      refine zyR 1 rfl (zaO (zag (zag ?_)))
      exact zal (l4++[(⟨i3,i3+1⟩:Gapi_Span)],i3,v12) h rfl (za0 rfl) (zad [0] kr rfl)
     refine zar (zag (zag ?_))
     exact zal (l4,i3,v4) h rfl (za0 rfl) (zad [0] kr rfl)
    rintro ⟨l5,i4,v5⟩ h
    rw [hj2] at h
    refine zav (zyR 1 rfl ?_)
    obtain ⟨hg18,h⟩:=zbr h
    refine zaU rfl (zaR (r:=i4+1) (IntWalk.i64_in _ hg18)) (zyR 1 rfl (zaO ?_))
    subst hag1
    exact za1 (n1,l5,i4+1,v5) h (Nat.lt_succ_self _) rfl (za0 rfl) (zad [0] kr rfl)
   refine za3 (zan (zan (zax ?_)))
   exact zal (l4,v4) h rfl (za0 rfl) (zad [0] kr rfl)
 rintro ⟨l1,v1⟩ h
 rw [hj1] at h
 refine zyG (zyR 2 rfl (zyN (zaG ?_)))
 cases h
 exact zaK (rs:=[.tmp 2]) v1 (.inl rfl) Tryz.results126 (.cons (.tmp rfl) .nil) rfl (zad [0] kr rfl)
def zc4 (s1:ByteArray) (j1:(List Gapi_Span)→Option (List Gapi_Span)) (r1:(List Gapi_Span)) (r2:(List Gapi_Span)) (ag1:(List Gapi_Span)→Int→Int→Option (List Gapi_Span)) (l4:List Gapi_Span) (from3:Int) (i3:Int):Option (List Gapi_Span) :=
zay (decide ((i3:Int)<((r1.length:Int)+1))) (
zbk (fun (j2:Int→Int→Option (List Gapi_Span)) =>
zay (decide ((i3:Int)<(r2.length:Int))) (
zah (zbm r2 i3) fun (q1:Gapi_Span) =>
zah (zbm r2 i3) fun (q2:Gapi_Span) =>
j2 q2.To q1.From
) (
j2 from3 (s1.size:Int)
)
) (fun (from4:Int) (x1:Int) =>
grd (l4.length+1≤2147483648) <|
grd (I64 (i3+1)) <|
ag1 (l4++[(⟨from3,x1⟩:Gapi_Span)]) from4 (i3+1)
)
) (
j1 l4
)
def zfj (s1:ByteArray):Option (List Gapi_Span) :=
zbk (fun (j1:(List Gapi_Span)→Option (List Gapi_Span)) =>
zah (ze9 s1) fun (r1:(List Gapi_Span)) =>
grd (I64 ((r1.length:Int)+1)) <|
zah (ze9 s1) fun (r2:(List Gapi_Span)) =>
zaE (fun _ _ _=>none) (zc4 s1 j1 r1 r2) zbN ([]:List Gapi_Span) 0 0
) (fun (l1:List Gapi_Span) =>
some l1
)
theorem zlu {s1:ByteArray} {r:(List Gapi_Span)} (h:zfj s1=some r):Fn Tryz.prog 98 [.string s1] [] (fun v0:Value=>v0) (fun v0=>[zv7 v0 r]):=by
 unfold zfj at h
 refine Fn.intro Tryz.func98 rfl Tryz.ntmps98 (by simp) ?_
 intro w0 K
 obtain ⟨j1,hj1,h⟩:=zbG h
 refine zaX (β:=(List Gapi_Span)×Value) 5 rfl (fun b=>j1 b.1=some r) (fun b=>[]) (fun b=>[(4,b.2)]) (fun b=>[zv7 b.2 b.1]) (fun cut => ?_) ?_
 ·
  refine zyG (zyR 1 rfl (zyH (zyR 1 rfl ?_)))
  obtain ⟨r1,hq1,h⟩:=zbi h
  refine zes (vs:=[.string s1]) rfl dc rfl rfl rfl ztn (ziA hq1) Splits.nil ?_
  rintro v2
  refine zbg (k:=0) rfl dc rfl rfl Tryz.underlying102 ?_
  obtain ⟨hg1,h⟩:=zbr h
  refine zaU rfl (zaR (r:=(r1.length:Int)+1) (IntWalk.i64_in _ hg1)) (zyR 1 rfl (zyH (zyR 1 rfl (zyH (zyR 1 rfl ?_)))))
  obtain ⟨r2,hq2,h⟩:=zbi h
  refine zes (vs:=[.string s1]) rfl dc rfl rfl rfl ztn (ziA hq2) Splits.nil ?_
  rintro v3
  refine zyR 1 rfl (zyH (zyR 1 rfl (zyN (cut (zyG (zyR 1 rfl (zyN ?_)))))))
  refine zaF (zcR (enc:=zdS) (e:=38) (size:=2) ?_)
  refine zbj (β:=Nat×(List Gapi_Span)×Int×Int×Value) (fun b=>zaE (fun _ _ _=>none) (zc4 s1 j1 r1 r2) b.1 b.2.1 b.2.2.1 b.2.2.2.1=some r) (fun b=>[]) (fun b=>[(0,.string s1),(3,zI ((r1.length:Int)+1)),(4,b.2.2.2.2),(5,v3),(6,zI b.2.2.1),(7,zI b.2.2.2.1)]) (fun b=>[zv7 b.2.2.2.2 b.2.1,zv7 v3 r2]) (fun b=>b.1) (zbN,([]:List Gapi_Span),0,0,(.slice none 0 0)) h rfl (za0 rfl) (zad [2,1] kr rfl) ?_
  rintro ⟨n1,l4,from3,i3,v6⟩ h
  cases n1 with
  | zero=>exact zdp h
  | succ n1 =>
   obtain ⟨ag1,hag1⟩:∃ ag,ag=zaE (fun _ _ _=>none) (zc4 s1 j1 r1 r2) n1:=⟨_,rfl⟩
   have h:zc4 s1 j1 r1 r2 ag1 l4 from3 i3=some r:=by rw [hag1]; exact h
   unfold zc4 at h
   refine zaI (zyG (zyR 2 rfl (zaU rfl zbc (zyN ?_))))
   refine zyB rfl h (fun h => ?_) (fun h => ?_)
   ·
    refine zar (zaH (zaI (zaF ?_)))
    obtain ⟨j2,hj2,h⟩:=zbG h
    refine zaX (β:=Int×Int×Nat) 1 rfl (fun b=>j2 b.1 b.2.1=some r) (fun b=>[]) (fun b=>[(0,.string s1),(3,zI ((r1.length:Int)+1)),(4,v6),(5,v3),(6,zI b.1),(7,zI i3),(8,zP b.2.2)]) (fun b=>[zv7 v6 l4,zv7 v3 r2,cells b.2.2 [zI from3,zI b.2.1] 38]) (fun cut => ?_) ?_
    ·
     refine zyG (zyR 2 rfl (zcg rfl dc rfl Tryz.underlying9 ?_))
     refine zba (v:=.agg #[zI from3,zI (s1.size:Int)]) (ps:=[(0,.tmp 20),(1,.tmp 22)]) rfl dc rfl (fun _=>by kernel_rfl) ?_
     refine zbE zqf rfl dc (fun b2 => ?_)
     refine za6 (k:=2) (vs:=[zI from3,zI (s1.size:Int)]) (l':=[zI from3,zI (s1.size:Int)]) zkn rfl rfl rfl rfl rfl (show _≤_ by simp) rfl rfl ?_
     refine zyN (cut (zyG (zyR 2 rfl (zbg (k:=1) rfl dc rfl rfl Tryz.underlying102 (zaU rfl zbc (zyN ?_))))))
     refine zyB rfl h (fun h => ?_) (fun h => ?_)
     ·
      refine zyG (zyR 2 rfl ?_)
      obtain ⟨q1,hq3,h⟩:=zbi h
      refine zaj (k:=1) hq3 Tryz.underlying102 zkn rfl dc rfl rfl rfl rfl (zab zdt rfl dc rfl (show _=((i3:Int).toNat)*2 from rfl) (zaA (i:=(i3:Int).toNat) (j:=0) (k:=1) (q:=q1) zbp zbB rfl dc rfl rfl (zaz hq3) rfl dc rfl (zab zdZ rfl dc rfl (show _=1 from rfl) ?_)))
      refine zbb (k:=2) (l':=[zI from3,zI q1.From]) zcs rfl rfl rfl rfl rfl (fun _ _=>rfl) rfl ?_
      refine zyN (zav (zyR 2 rfl ?_))
      obtain ⟨q2,hq4,h⟩:=zbi h
      refine zaj (k:=1) hq4 Tryz.underlying102 zkn rfl dc rfl rfl rfl rfl (zab zdZ rfl dc rfl (show _=((i3:Int).toNat)*2+1 from rfl) (zaA (i:=(i3:Int).toNat) (j:=1) (k:=1) (q:=q2) zbp zbB rfl dc rfl rfl (zaz hq4) rfl dc rfl (zyR 1 rfl (zaO ?_))))
      exact zal (q2.To,q1.From,b2) h rfl (za0 rfl) (zad [0,1,2] kr rfl)
     refine zar ?_
     exact zal (from3,(s1.size:Int),b2) h rfl (za0 rfl) (zad [0,1,2] kr rfl)
    rintro ⟨from4,x1,b1⟩ h
    rw [hj2] at h
    refine zav (zyR 1 rfl (zbd (k:=2) (cs:=[zI from3,zI x1]) znw rfl dc rfl rfl rfl rfl ?_))
    refine zaV (cs:=[zI from3,zI x1]) (te:=38) (ps:=[(0,.tmp 40)]) rfl dc rfl (fun _=>by kernel_rfl) (fun b3 => ?_)
    obtain ⟨hg2,h⟩:=zbr h
    refine za4 (k:=0) (k2:=3) (ys:=[(⟨from3,x1⟩:Gapi_Span)]) Tryz.underlying102 zm2 zbB zcp rfl dc rfl rfl rfl rfl rfl rfl hg2 (fun v7 => ?_)
    refine zyR 1 rfl (zaO (zag (zaH (zav (zyR 1 rfl ?_)))))
    obtain ⟨hg3,h⟩:=zbr h
    refine zaU rfl (zaR (r:=i3+1) (IntWalk.i64_in _ hg3)) (zyR 1 rfl (zaO ?_))
    subst hag1
    exact za1 (n1,l4++[(⟨from3,x1⟩:Gapi_Span)],from4,i3+1,v7) h (Nat.lt_succ_self _) rfl (za0 rfl) (zad [0,1] kr rfl)
   refine za3 (zan (zan (zax ?_)))
   exact zal (l4,v6) h rfl (za0 rfl) (zad [0] kr rfl)
 rintro ⟨l1,v1⟩ h
 rw [hj1] at h
 refine zyG (zyR 2 rfl (zyN (zaG ?_)))
 cases h
 exact zaK (rs:=[.tmp 2]) v1 (.inl rfl) Tryz.results98 (.cons (.tmp rfl) .nil) rfl (zad [0] kr rfl)
end Go.Proofs.YtbempdelckaccaaGreatDoor

namespace Go.Proofs.YtbempdelckaccaaGreatDoor
open Go.RowKit Go.Lib
set_option linter.unusedVariables false
set_option linter.unusedSimpArgs false
theorem zmb (s:ByteArray):s.data.toList.length=s.size:=by rw [Array.length_toList]; rfl
theorem zgo {s:ByteArray} {i:Nat} {b:UInt8} {t:List UInt8} (h:s.data.toList.drop i=b::t):zjg s (i:Int)=some (b.toNat:Int)∧i<s.size:=by
 have hl:i<s.data.toList.length:=by
  rcases Nat.lt_or_ge i s.data.toList.length with h1 | h1
  ·exact h1
  ·rw [List.drop_eq_nil_of_le h1] at h; cases h
 have hs:i<s.size:=by rw [← zmb]; exact hl
 refine ⟨?_,hs⟩
 rw [zmT rfl hs]
 rw [List.drop_eq_getElem_cons hl] at h
 have h2:=(List.cons.inj h).1
 rw [Array.getElem_toList] at h2
 rw [← h2]; rfl
theorem zfq {s:ByteArray} {i:Nat} (h:s.data.toList.drop i=[]) (hi:i≤s.size):i=s.size:=by
 rw [List.drop_eq_nil_iff,zmb] at h; omega
theorem zfS {l:List UInt8} {i:Nat} {b:UInt8} {t:List UInt8} (h:l.drop i=b::t):l.drop (i+1)=t:=by
 rw [← List.drop_drop,h]; rfl
theorem n13 (b:UInt8):((b.toNat:Int)==13)=decide (b=13):=by
 by_cases h:b=13
 ·subst h; rfl
 ·rw [decide_eq_false h]; exact beq_eq_false_iff_ne.2 (fun e=>h (UInt8.toNat.inj (by show b.toNat=13; omega)))
theorem n10 (b:UInt8):((b.toNat:Int)==10)=decide (b=10):=by
 by_cases h:b=10
 ·subst h; rfl
 ·rw [decide_eq_false h]; exact beq_eq_false_iff_ne.2 (fun e=>h (UInt8.toNat.inj (by show b.toNat=10; omega)))
theorem n32 (b:UInt8):((b.toNat:Int)==32)=decide (b=32):=by
 by_cases h:b=32
 ·subst h; rfl
 ·rw [decide_eq_false h]; exact beq_eq_false_iff_ne.2 (fun e=>h (UInt8.toNat.inj (by show b.toNat=32; omega)))
theorem n9 (b:UInt8):((b.toNat:Int)==9)=decide (b=9):=by
 by_cases h:b=9
 ·subst h; rfl
 ·rw [decide_eq_false h]; exact beq_eq_false_iff_ne.2 (fun e=>h (UInt8.toNat.inj (by show b.toNat=9; omega)))
theorem n35 (b:UInt8):((b.toNat:Int)==35)=decide (b=35):=by
 by_cases h:b=35
 ·subst h; rfl
 ·rw [decide_eq_false h]; exact beq_eq_false_iff_ne.2 (fun e=>h (UInt8.toNat.inj (by show b.toNat=35; omega)))
def spP:Bool→Nat→Nat→List UInt8→List (Nat×Nat)
 | _,f,a,[]=>[(f,a)]
 | p,f,a,b::t =>
  if b=13 then (if t.head?=some 10 then spP true f (a+1) t else (f,a)::spP true (a+1) (a+1) t)
  else if b=10 then (f,if p then a - 1 else a)::spP false (a+1) (a+1) t
  else spP false f (a+1) t
def zcV (l:List UInt8):List (Nat×Nat):=spP false 0 0 l
def mkS (x:Nat×Nat):Gapi_Span:=⟨x.1,x.2⟩
def enP:Bool→Nat→List UInt8→List (Nat×Nat)
 | _,_,[]=>[]
 | p,a,b::t =>
  if b=13 then (if t.head?=some 10 then enP true (a+1) t else (a,a+1)::enP true (a+1) t)
  else if b=10 then ((if p then a - 1 else a),a+1)::enP false (a+1) t
  else enP false (a+1) t
def liE (n:Nat):Nat→List (Nat×Nat)→List (Nat×Nat)
 | f,[]=>[(f,n)]
 | f,(x,y)::es=>(f,x)::liE n y es
theorem zkH:∀ (l:List UInt8) (p:Bool) (f a:Nat),liE (a+l.length) f (enP p a l)=spP p f a l
 | [],p,f,a=>rfl
 | b::t,p,f,a=>by
  have e:a+(b::t).length=a+1+t.length:=by rw [List.length_cons]; omega
  rw [e]
  unfold enP spP
  split
  ·split
   ·exact zkH t _ _ _
   ·show (f,a)::liE _ _ _=_
    rw [zkH t]
  ·split
   ·show (f,_)::liE _ _ _=_
    rw [zkH t]
   ·exact zkH t _ _ _
theorem zuB {t:List UInt8} (h:t.head?≠some 10) (a:Nat):enP true a t=enP false a t:=by
 cases t with
 | nil=>rfl
 | cons b t =>
  have hb:b≠10:=fun e=>h (by rw [e]; rfl)
  unfold enP
  rw [if_neg hb,if_neg hb]
theorem zkZ:∀ (l:List UInt8) (p:Bool) (a:Nat),(enP p a l).length≤l.length
 | [],p,a=>Nat.le_refl _
 | b::t,p,a=>by
  unfold enP
  rw [List.length_cons]
  split
  ·split
   ·have:=zkZ t true (a+1); omega
   ·rw [List.length_cons]; have:=zkZ t true (a+1); omega
  ·split
   ·rw [List.length_cons]; have:=zkZ t false (a+1); omega
   ·have:=zkZ t false (a+1); omega
theorem zrq (s:ByteArray) (J:List Gapi_Span→Option (List Gapi_Span)) (hs:s.size≤1073741824):∀ (n i:Nat) (acc:List Gapi_Span),i≤s.size→s.size - i<n→acc.length≤i →
  zaE (fun _ _=>none) (zdM s J) n acc (i:Int)=J (acc++(enP false i (s.data.toList.drop i)).map mkS):=by
 intro n
 induction n with
 | zero=>intro i acc h1 h2; omega
 | succ n ih =>
  intro i acc hi hn ha
  rw [zdK]
  obtain ⟨ag,hag⟩:∃ ag,ag=zaE (fun _ _=>none) (zdM s J) n:=⟨_,rfl⟩
  have ihn:∀ (i:Nat) (acc:List Gapi_Span),i≤s.size→s.size - i<n→acc.length≤i→ag acc (i:Int)=J (acc++(enP false i (s.data.toList.drop i)).map mkS):=by rw [hag]; exact ih
  rw [← hag]
  clear ih hag
  unfold zdM
  cases hd:s.data.toList.drop i with
  | nil =>
   have:=zfq hd hi
   refine zaw (decide_eq_false (by omega)) ?_
   show J acc=J (acc++[])
   rw [List.append_nil]
  | cons b t =>
   obtain ⟨hb,hlt⟩:=zgo hd
   have hd1:=zfS hd
   refine zaC (decide_eq_true (by omega)) (zbs (zaJ hb ?_))
   have hcast:(i:Int)+1=((i+1:Nat):Int):=by omega
   have goOn:∀ (acc2:List Gapi_Span),acc2.length≤i+1→(grd (I64 ((i:Int)+1))<|ag acc2 ((i:Int)+1))=J (acc2++(enP false (i+1) t).map mkS):=fun acc2 h2=>by
    refine zbl ⟨by omega,by omega⟩ ?_
    rw [hcast,ihn (i+1) acc2 (by omega) (by omega) h2,hd1]
   by_cases h13:b=13
   ·refine zaC (by rw [n13]; exact decide_eq_true h13) (zbl ⟨by omega,by omega⟩ ?_)
    have one:(grd (I64 ((i:Int)+1))<|grd (acc.length+1≤2147483648)<|(grd (I64 ((i:Int)+1))<|ag (acc++[(⟨i,(i:Int)+1⟩:Gapi_Span)]) ((i:Int)+1)))=J (acc++((i,i+1)::enP false (i+1) t).map mkS):=by
     refine zbl ⟨by omega,by omega⟩ (zbl (by omega) ?_)
     rw [goOn _ (by simp; omega),List.map_cons,List.append_assoc]
     rfl
    cases t with
    | nil =>
     have hsz:i+1=s.size:=zfq hd1 (by omega)
     refine zaw (decide_eq_false (by omega)) (zaJ hb (zaC (by rw [n13]; exact decide_eq_true h13) ?_))
     refine one.trans ?_
     unfold enP; rw [if_pos h13,if_neg (by simp)]; rfl
    | cons c u =>
     obtain ⟨hc,hlt2⟩:=zgo hd1
     refine zaC (decide_eq_true (by omega)) (zbl ⟨by omega,by omega⟩ (zaJ (by rw [hcast]; exact hc) ?_))
     by_cases h10:c=10
     ·refine zaC (by rw [n10]; exact decide_eq_true h10) (zbl ⟨by omega,by omega⟩ (zbl (by omega) (zbl ⟨by omega,by omega⟩ ?_)))
      refine zbl ⟨by omega,by omega⟩ ?_
      have hd2:=zfS hd1
      show ag _ ((i:Int)+1+1)=_
      rw [show (i:Int)+1+1=((i+2:Nat):Int) by omega,ihn (i+2) _ (by omega) (by omega) (by simp; omega),hd2,List.append_assoc]
      have e2:enP false i (b::c::u)=(i,i+2)::enP false (i+2) u:=by
       rw [enP,if_pos h13,if_pos (by rw [h10]; rfl),enP,if_neg (by rw [h10]; decide),if_pos h10,if_pos rfl]
       rfl
      rw [e2]
      rfl
     ·refine zaw (by rw [n10]; exact decide_eq_false h10) (zaJ hb (zaC (by rw [n13]; exact decide_eq_true h13) ?_))
      refine one.trans ?_
      rw [show enP false i (b::c::u)=(i,i+1)::enP true (i+1) (c::u) by rw [enP,if_pos h13,if_neg (by simp [h10])],zuB (by simp [h10])]
   ·refine zaw (by rw [n13]; exact decide_eq_false h13) (zaJ hb (zaw (by rw [n13]; exact decide_eq_false h13) ?_))
    by_cases h10:b=10
    ·refine zaC (by rw [n10]; exact decide_eq_true h10) (zbl ⟨by omega,by omega⟩ (zbl (by omega) ?_))
     refine (goOn _ (by simp; omega)).trans ?_
     rw [List.append_assoc]
     rw [enP,if_neg h13,if_pos h10]; rfl
    ·refine zaw (by rw [n10]; exact decide_eq_false h10) ?_
     refine (goOn _ (by omega)).trans ?_
     rw [enP,if_neg h13,if_neg h10]
theorem ztm (s:ByteArray) (hs:s.size≤1073741824):ze9 s=some ((enP false 0 s.data.toList).map mkS):=by
 unfold ze9
 refine zbs ?_
 have:=zrq s (fun l=>some l) hs zbN 0 [] (Nat.zero_le _) (by unfold zbN; omega) (Nat.le_refl _)
 rw [List.drop_zero,List.nil_append] at this
 exact this
theorem zpV (s:ByteArray) (J:List Gapi_Span→Option (List Gapi_Span)) (E:List (Nat×Nat)) (hE:E.length≤1073741824):∀ (n i f:Nat) (acc:List Gapi_Span),i≤E.length→E.length+1 - i<n→acc.length=i →
  zaE (fun _ _ _=>none) (zc4 s J (E.map mkS) (E.map mkS)) n acc (f:Int) (i:Int)=J (acc++(liE s.size f (E.drop i)).map mkS):=by
 intro n
 induction n with
 | zero=>intro i f acc h1 h2; omega
 | succ n ih =>
  intro i f acc hi hn ha
  rw [zdK]
  obtain ⟨ag,hag⟩:∃ ag,ag=zaE (fun _ _ _=>none) (zc4 s J (E.map mkS) (E.map mkS)) n:=⟨_,rfl⟩
  rw [← hag]
  unfold zc4
  refine zaC (decide_eq_true (by rw [List.length_map]; omega)) (zbs ?_)
  cases hd:E.drop i with
  | nil =>
   have hl:E.length≤i:=List.drop_eq_nil_iff.1 hd
   obtain rfl:i=E.length:=by omega
   refine zaw (decide_eq_false (by rw [List.length_map]; omega)) (zbl (by omega) (zbl ⟨by omega,by omega⟩ ?_))
   obtain ⟨n,rfl⟩:∃ m,n=m+1:=⟨n - 1,by omega⟩
   rw [hag,zdK]
   unfold zc4
   refine zaw (decide_eq_false (by rw [List.length_map]; omega)) rfl
  | cons x es =>
   have hl:i<E.length:=by
    rcases Nat.lt_or_ge i E.length with h | h
    ·exact h
    ·rw [List.drop_eq_nil_of_le h] at hd; cases hd
   have hx:E[i]?=some x:=by
    rw [List.drop_eq_getElem_cons hl] at hd
    rw [List.getElem?_eq_getElem hl,(List.cons.inj hd).1]
   have hg:zbm (E.map mkS) (i:Int)=some (mkS x):=zcv (by rw [List.getElem?_map,hx]; rfl)
   refine zaC (decide_eq_true (by rw [List.length_map]; omega)) (zaJ hg (zaJ hg (zbl (by omega) (zbl ⟨by omega,by omega⟩ ?_))))
   have hd1:E.drop (i+1)=es:=by rw [← List.drop_drop,hd]; rfl
   have:=ih (i+1) x.2 (acc++[(⟨f,x.1⟩:Gapi_Span)]) (by omega) (by omega) (by simp; omega)
   rw [hd1,List.append_assoc,← hag] at this
   exact this
theorem zpM (s:ByteArray) (hs:s.size≤65536):zfj s=some ((zcV s.data.toList).map mkS):=by
 unfold zfj
 have hl:=zkZ s.data.toList false 0
 rw [zmb] at hl
 refine zbs (zaJ (ztm s (by omega)) (zbl ⟨by omega,by rw [List.length_map]; omega⟩ (zaJ (ztm s (by omega)) ?_)))
 have:=zpV s (fun l=>some l) (enP false 0 s.data.toList) (by omega) zbN 0 0 [] (Nat.zero_le _) (by unfold zbN; omega) rfl
 rw [List.drop_zero,List.nil_append] at this
 refine this.trans ?_
 unfold zcV
 rw [← zkH,zmb,Nat.zero_add]
end Go.Proofs.YtbempdelckaccaaGreatDoor

namespace Go.Proofs.YtbempdelckaccaaGreatDoor
open Go.RowKit Go.Lib
set_option linter.unusedVariables false
set_option linter.unusedSimpArgs false
theorem zob {b:UInt8} {t:List UInt8} (hb:128≤b.toNat):128≤(decodeL (b::t)).1∧∀ x∈(b::t).take (decodeL (b::t)).2,128≤x.toNat:=by
 have hd:=zsP (b::t) (by simp)
 generalize (decodeL (b::t)).1=r at hd ⊢
 generalize (decodeL (b::t)).2=w at hd ⊢
 obtain ⟨w,rfl⟩:∃ v,w=v+1:=⟨w - 1,by have:=hd.pos; omega⟩
 by_cases hbr:r=65533∧w+1=1
 ·obtain ⟨rfl,hw⟩:=hbr
  obtain rfl:w=0:=by omega
  refine ⟨by omega,fun x hx => ?_⟩
  simp at hx; subst hx; omega
 ·have he:=hd.bytes hbr
  have hr:128≤r:=by
   rcases Nat.lt_or_ge r 128 with h1 | h1
   ·rw [zuw r h1,List.take_succ_cons] at he
    have h2:r.toUInt8=b:=(List.cons.inj he).1
    have h3:b.toNat=r:=by rw [← h2]; simp; omega
    omega
   ·exact h1
  refine ⟨hr,?_⟩
  rw [← he]
  exact (zux r hd.valid hr).2.2
def spE (e:Gplace_ended):Gapi_Span:=⟨e.span_From,e.span_To⟩
def pv (l:List UInt8) (i:Nat):Bool:=decide (0<i)&&l.getD (i - 1) 0==13
theorem zrc {l:List UInt8} {i:Nat} {b:UInt8} {t:List UInt8} (h:l.drop i=b::t):l.getD i 0=b:=by
 have h2:(l.drop i)[0]?=some b:=by rw [h]; rfl
 rw [List.getElem?_drop] at h2
 rw [List.getD_eq_getElem?_getD,show i=i+0 from rfl,h2]; rfl
theorem zqT {l:List UInt8} {i:Nat} {b:UInt8} {t:List UInt8} (h:l.drop i=b::t):pv l (i+1)=(b==13):=by
 unfold pv
 rw [Nat.add_sub_cancel,zrc h,decide_eq_true (by omega),Bool.true_and]
theorem zuc {l:List UInt8} {i w:Nat} (hw:1≤w) (hle:w≤(l.drop i).length) (h:∀ x∈(l.drop i).take w,128≤x.toNat):pv l (i+w)=false:=by
 unfold pv
 obtain ⟨w,rfl⟩:∃ v,w=v+1:=⟨w - 1,by omega⟩
 have hlt:w<(l.drop i).length:=by omega
 have h1:(l.drop i)[w]?=some ((l.drop i)[w]):=List.getElem?_eq_getElem hlt
 have h2:(l.drop i)[w]∈(l.drop i).take (w+1):=by
  refine List.mem_of_getElem? (i:=w) ?_
  rw [List.getElem?_take,if_pos (by omega)]; exact h1
 have h3:=h _ h2
 rw [List.getElem?_drop] at h1
 rw [show i+(w+1) - 1=i+w by omega,List.getD_eq_getElem?_getD,h1,Option.getD_some]
 have:((l.drop i)[w]==13)=false:=beq_eq_false_iff_ne.2 (fun e=>by rw [e] at h3; exact absurd h3 (by decide))
 rw [this,Bool.and_false]
theorem zqy:∀ (x t:List UInt8) (p:Bool) (f i:Nat),(∀ b∈x,128≤b.toNat)→x≠[]→spP p f i (x++t)=spP false f (i+x.length) t
 | [],t,p,f,i,h,hx=>absurd rfl hx
 | b::x,t,p,f,i,h,hx=>by
  have hb:=h b (by simp)
  have h13:b≠13:=fun e=>by rw [e] at hb; exact absurd hb (by decide)
  have h10:b≠10:=fun e=>by rw [e] at hb; exact absurd hb (by decide)
  rw [List.cons_append,spP,if_neg h13,if_neg h10]
  by_cases hx2:x=[]
  ·subst hx2; rfl
  ·rw [zqy x t false f (i+1) (fun y hy=>h y (by simp [hy])) hx2,List.length_cons]
   rw [show i+1+x.length=i+(x.length+1) by omega]
section
variable {s:ByteArray} {j1:(List Gapi_Place)→(List Gplace_ended)→Int→Int→Int→Int→Int→Int→Int→Option ((Option Gplace_Map)×Int)} {ag:(List Gapi_Place)→(List Gplace_ended)→Int→Int→Int→Int→Int→Int→Int→Nat→Option ((Option Gplace_Map)×Int)}
 {M:List Gapi_Place} {E:List Gplace_ended} {p16 p17 p18 p19 p20 f7 f8:Int} {m:Nat} {p:Pc}
def u22 (p:Pc) (p18:Int):Int:=if 65536≤p.r then p18+1+1 else p18+1
theorem zw1 {X:Option ((Option Gplace_Map)×Int)} {A B C D:Prop} [Decidable A] [Decidable B] [Decidable C] [Decidable D] (hA:A) (hB:B) (hC:C) (hD:D) (h18:I64 (p18+1+1)) {K:Int→Option ((Option Gplace_Map)×Int)} (h:K (u22 p p18)=X) :
  zbk (fun (j2:Int→Option ((Option Gplace_Map)×Int))=>grd A<|grd B<|grd C<|grd D<|zay (decide ((65536:Int)≤(p.r:Int))) (grd (I64 ((p18+1)+1))<|j2 ((p18+1)+1)) (j2 (p18+1))) K=X:=by
 refine zbs (zbl hA (zbl hB (zbl hC (zbl hD ?_))))
 unfold u22 at h
 by_cases h1:65536≤p.r
 ·rw [if_pos h1] at h; exact zaC (decide_eq_true (by omega)) (zbl h18 h)
 ·rw [if_neg h1] at h; exact zaw (decide_eq_false (by omega)) h
theorem zsx {X:Option ((Option Gplace_Map)×Int)} (hp:(pcs s.data.toList)[m]?=some p) (hm:M.length+1≤2147483648) (h17:I64 (p17+1)) (h18:I64 (p18+1+1)) (h18':I64 (p18+1)) (h20:I64 (p20+1))
  (hi:p.i<s.size) (hs:s.size≤65536) (hE:E.length+1≤2147483648) (h19:I64 (p19+1))
  (hX:(p.r≠13∧p.r≠10∨p.r=13∧∃ c u,s.data.toList.drop (p.i+1)=c::u∧c=10)∧ag (M++[(⟨p.i,p17,p18,p19,p20⟩:Gapi_Place)]) E p.i (p17+1) (u22 p p18) p19 (p20+1) f7 f8 (m+1)=X ∨
   ∃ w:Nat,w≤p.i+1∧(p.r=13∧s.data.toList[p.i+1]?≠some 10∧w=1∨p.r=10∧w=(if pv s.data.toList p.i then 2 else 1)) ∧
    ag (M++[(⟨p.i,p17,p18,p19,p20⟩:Gapi_Place)]) (E++[(⟨f7,((p.i+1 - w:Nat):Int),w,f8⟩:Gplace_ended)]) p.i (p17+1) (u22 p p18) (p19+1) 0 ((p.i+1:Nat):Int) ((M.length+1:Nat):Int) (m+1)=X) :
  zdx s j1 ag M E p16 p17 p18 p19 p20 f7 f8 m=X:=by
 have hl:=(List.getElem?_eq_some_iff.1 hp).1
 unfold zdx
 refine zaC (decide_eq_true hl) (zaJ hp (zw1 hm h17 h18' h20 h18 ?_))
 refine zbs ?_
 have e13:((p.r:Int)==13)=decide (p.r=13):=by
  by_cases h:p.r=13
  ·rw [h]; rfl
  ·rw [decide_eq_false h]; exact beq_eq_false_iff_ne.2 (by omega)
 have e10:((p.r:Int)==10)=decide (p.r=10):=by
  by_cases h:p.r=10
  ·rw [h]; rfl
  ·rw [decide_eq_false h]; exact beq_eq_false_iff_ne.2 (by omega)
 have n13':((p.r:Int) != 13)=!decide (p.r=13):=by unfold bne; rw [e13]
 have n10':((p.r:Int) != 10)=!decide (p.r=10):=by unfold bne; rw [e10]
 have hsucc:(p.i:Int)+1=((p.i+1:Nat):Int):=by omega
 have fin:∀ w:Nat,w≤p.i+1→ag (M++[(⟨p.i,p17,p18,p19,p20⟩:Gapi_Place)]) (E++[(⟨f7,((p.i+1 - w:Nat):Int),w,f8⟩:Gplace_ended)]) p.i (p17+1) (u22 p p18) (p19+1) 0 ((p.i+1:Nat):Int) ((M.length+1:Nat):Int) (m+1)=X →
   (grd (I64 ((p.i:Int)+1))<|grd (I64 (((p.i:Int)+1) - (w:Int)))<|grd (E.length+1≤2147483648)<|grd (I64 ((p.i:Int)+1))<|grd (I64 (p19+1)) <|
    ag (M++[(⟨(p.i:Int),p17,p18,p19,p20⟩:Gapi_Place)]) (E++[(⟨f7,((p.i:Int)+1) - (w:Int),(w:Int),f8⟩:Gplace_ended)]) (p.i:Int) (p17+1) (u22 p p18) (p19+1) 0 ((p.i:Int)+1) ((M++[(⟨(p.i:Int),p17,p18,p19,p20⟩:Gapi_Place)]).length:Int) (m+1))=X:=fun w hw h=>by
  refine zbl ⟨by omega,by omega⟩ (zbl ⟨by omega,by omega⟩ (zbl hE (zbl ⟨by omega,by omega⟩ (zbl h19 ?_))))
  rw [← h]
  rw [show ((p.i:Int)+1) - (w:Int)=((p.i+1 - w:Nat):Int) by omega,show (p.i:Int)+1=((p.i+1:Nat):Int) by omega,List.length_append]
  rfl
 by_cases h13:p.r=13
 ·refine zaC (by rw [e13]; exact decide_eq_true h13) (zbl ⟨by omega,by omega⟩ ?_)
  have no10:p.r≠10:=by omega
  rcases hX with ⟨hc,hX⟩ | ⟨w,hw,hc,hX⟩
  ·rcases hc with ⟨h,_⟩ | ⟨_,c,u,hd,hc⟩
   ·exact absurd h13 h
   ·obtain ⟨hg,hlt⟩:=zgo hd
    refine zaC (decide_eq_true (by omega)) (zbl ⟨by omega,by omega⟩ (zaJ (by rw [hsucc]; exact hg) (zaC (by rw [n10]; exact decide_eq_true hc) hX)))
  ·have hw1:w=1∧s.data.toList[p.i+1]?≠some 10:=by
    rcases hc with ⟨_,h,rfl⟩ | ⟨h,_⟩
    ·exact ⟨rfl,h⟩
    ·exact absurd h no10
   obtain ⟨rfl,hne⟩:=hw1
   have tail:(zay (((p.r:Int):Int) != 13) (zay (((p.r:Int):Int) != 10) (ag (M++[(⟨(p.i:Int),p17,p18,p19,p20⟩:Gapi_Place)]) E (p.i:Int) (p17+1) (u22 p p18) p19 (p20+1) f7 f8 (m+1)) ((grd (I64 ((p.i:Int)+1))<|grd (I64 (((p.i:Int)+1) - (1:Int)))<|grd (E.length+1≤2147483648)<|grd (I64 ((p.i:Int)+1))<|grd (I64 (p19+1)) <|
    ag (M++[(⟨(p.i:Int),p17,p18,p19,p20⟩:Gapi_Place)]) (E++[(⟨f7,((p.i:Int)+1) - (1:Int),(1:Int),f8⟩:Gplace_ended)]) (p.i:Int) (p17+1) (u22 p p18) (p19+1) 0 ((p.i:Int)+1) ((M++[(⟨(p.i:Int),p17,p18,p19,p20⟩:Gapi_Place)]).length:Int) (m+1)))) ((grd (I64 ((p.i:Int)+1))<|grd (I64 (((p.i:Int)+1) - (1:Int)))<|grd (E.length+1≤2147483648)<|grd (I64 ((p.i:Int)+1))<|grd (I64 (p19+1)) <|
    ag (M++[(⟨(p.i:Int),p17,p18,p19,p20⟩:Gapi_Place)]) (E++[(⟨f7,((p.i:Int)+1) - (1:Int),(1:Int),f8⟩:Gplace_ended)]) (p.i:Int) (p17+1) (u22 p p18) (p19+1) 0 ((p.i:Int)+1) ((M++[(⟨(p.i:Int),p17,p18,p19,p20⟩:Gapi_Place)]).length:Int) (m+1))))=X :=
    zaw (by rw [n13',decide_eq_true h13]; rfl) (fin 1 hw hX)
   cases hd:s.data.toList.drop (p.i+1) with
   | nil =>
    have hsz:=zfq hd (by omega)
    refine zaw (decide_eq_false (by omega)) (zaw (by rw [e10]; exact decide_eq_false no10) tail)
   | cons c u =>
    obtain ⟨hg,hlt⟩:=zgo hd
    have hc10:c≠10:=fun e=>hne (by
     have:(s.data.toList.drop (p.i+1))[0]?=some c:=by rw [hd]; rfl
     rw [List.getElem?_drop] at this; rw [← e]; exact this)
    refine zaC (decide_eq_true (by omega)) (zbl ⟨by omega,by omega⟩ (zaJ (by rw [hsucc]; exact hg) (zaw (by rw [n10]; exact decide_eq_false hc10) (zaw (by rw [e10]; exact decide_eq_false no10) tail))))
 ·refine zaw (by rw [e13]; exact decide_eq_false h13) ?_
  by_cases h10:p.r=10
  ·refine zaC (by rw [e10]; exact decide_eq_true h10) ?_
   rcases hX with ⟨hc,hX⟩ | ⟨w,hw,hc,hX⟩
   ·rcases hc with ⟨_,h⟩ | ⟨h,_⟩
    ·exact absurd h10 h
    ·exact absurd h h13
   ·have hw1:w=(if pv s.data.toList p.i then 2 else 1):=by
     rcases hc with ⟨h,_⟩ | ⟨_,h⟩
     ·exact absurd h h13
     ·exact h
    have t13:((p.r:Int) != 13)=true:=by rw [n13',decide_eq_false h13]; rfl
    have t10:((p.r:Int) != 10)=false:=by rw [n10',decide_eq_true h10]; rfl
    by_cases h0:0<p.i
    ·refine zaC (decide_eq_true (by omega)) (zbl ⟨by omega,by omega⟩ ?_)
     obtain ⟨c,u,hd⟩:∃ c u,s.data.toList.drop (p.i - 1)=c::u:=by
      cases hd:s.data.toList.drop (p.i - 1) with
      | nil=>have:=zfq hd (by omega); omega
      | cons c u=>exact ⟨c,u,rfl⟩
     obtain ⟨hg,_⟩:=zgo hd
     have hpv:pv s.data.toList p.i=(c==13):=by
      have:=zqT hd
      rwa [show p.i - 1+1=p.i by omega] at this
     refine zaJ (by rw [show (p.i:Int) - 1=((p.i - 1:Nat):Int) by omega]; exact hg) ?_
     by_cases hc13:c=13
     ·have:w=2:=by rw [hw1,hpv,hc13]; rfl
      subst this
      exact zaC (by rw [n13]; exact decide_eq_true hc13) (fin 2 hw hX)
     ·have:w=1:=by rw [hw1,hpv,beq_eq_false_iff_ne.2 hc13]; rfl
      subst this
      exact zaw (by rw [n13]; exact decide_eq_false hc13) (zaC t13 (zaw t10 (fin 1 hw hX)))
    ·have:w=1:=by rw [hw1]; unfold pv; rw [decide_eq_false h0]; rfl
     subst this
     exact zaw (decide_eq_false (by omega)) (zaC t13 (zaw t10 (fin 1 hw hX)))
  ·refine zaw (by rw [e10]; exact decide_eq_false h10) ?_
   rcases hX with ⟨hc,hX⟩ | ⟨w,hw,hc,hX⟩
   ·exact zaC (by rw [n13',decide_eq_false h13]; rfl) (zaC (by rw [n10',decide_eq_false h10]; rfl) hX)
   ·rcases hc with ⟨h,_⟩ | ⟨h,_⟩
    ·exact absurd h h13
    ·exact absurd h h10
end
theorem zsy (s:ByteArray) (J:(List Gapi_Place)→(List Gplace_ended)→Int→Int→Int→Int→Int→Int→Int→Option ((Option Gplace_Map)×Int)) (hs:s.size≤65536) :
  ∀ (n m i:Nat) (M:List Gapi_Place) (E:List Gplace_ended) (p16 p17 p18 p19 p20 f8:Int) (f:Nat),(pcs s.data.toList).drop m=zdI i (s.data.toList.drop i)→i≤s.size→s.size - i<n→M.length≤i→E.length≤i →
   0≤p17→p17≤i→0≤p18→p18≤2*i→0≤p19→p19≤i→0≤p20→p20≤i →
   ∃ M' E' q1 q2 q3 q4 q5 g8,∃ g:Nat,zaE (fun _ _ _ _ _ _ _ _ _ _=>none) (zdx s J) n M E p16 p17 p18 p19 p20 (f:Int) f8 m=J M' E' q1 q2 q3 q4 q5 (g:Int) g8∧M'.length≤s.size∧E'.length≤s.size ∧
    E'.map spE++[mkS (g,s.size)]=E.map spE++(spP (pv s.data.toList i) f i (s.data.toList.drop i)).map mkS:=by
 intro n
 induction n with
 | zero=>intro m i M E p16 p17 p18 p19 p20 f8 f h1 h2 h3; omega
 | succ n ih =>
  intro m i M E p16 p17 p18 p19 p20 f8 f hd hi hn hM hE a1 a2 a3 a4 a5 a6 a7 a8
  rw [zdK]
  obtain ⟨ag,hag⟩:∃ ag,ag=zaE (fun _ _ _ _ _ _ _ _ _ _=>none) (zdx s J) n:=⟨_,rfl⟩
  rw [← hag] at ih ⊢
  cases hl:s.data.toList.drop i with
  | nil =>
   have hsz:=zfq hl hi
   rw [hl,zdi] at hd
   have hge:=List.drop_eq_nil_iff.1 hd
   refine ⟨M,E,p16,p17,p18,p19,p20,f8,f,?_,by omega,by omega,?_⟩
   ·unfold zdx
    exact zaw (decide_eq_false (by omega)) rfl
   ·subst hsz; rfl
  | cons b t =>
   have hlt:=(zgo hl).2
   rw [hl,zcF i (b::t) (by simp)] at hd
   have hlm:m<(pcs s.data.toList).length:=by
    rcases Nat.lt_or_ge m (pcs s.data.toList).length with h | h
    ·exact h
    ·rw [List.drop_eq_nil_of_le h] at hd; cases hd
   have hq:(pcs s.data.toList)[m]?=some ⟨i,(decodeL (b::t)).2,(decodeL (b::t)).1⟩:=by
    rw [List.drop_eq_getElem_cons hlm] at hd
    rw [List.getElem?_eq_getElem hlm,(List.cons.inj hd).1]
   have hw1:=zha (b::t)
   have hwl:=zl8 (b::t) (by simp)
   have hd2:(pcs s.data.toList).drop (m+1)=zdI (i+(decodeL (b::t)).2) (s.data.toList.drop (i+(decodeL (b::t)).2)):=by
    rw [← List.drop_drop,hd,← List.drop_drop,hl]; rfl
   have hisz:i+(decodeL (b::t)).2≤s.size:=by
    have:(s.data.toList.drop i).length=(b::t).length:=by rw [hl]
    rw [List.length_drop,zmb] at this; omega
   have hup:∀ (q:Pc),0≤u22 q p18∧u22 q p18≤p18+2:=fun q=>by unfold u22; split <;> omega
   obtain ⟨hu1,hu2⟩:=hup ⟨i,(decodeL (b::t)).2,(decodeL (b::t)).1⟩
   have hst:=@zsx s J ag M E p16 p17 p18 p19 p20 (f:Int) f8 m ⟨i,(decodeL (b::t)).2,(decodeL (b::t)).1⟩
   by_cases hb:128≤b.toNat
   ·obtain ⟨hr,hall⟩:=zob (t:=t) hb
    obtain ⟨M',E',q1,q2,q3,q4,q5,g8,g,h1,h2,h3,h4⟩:=ih (m+1) (i+(decodeL (b::t)).2) (M++[(⟨i,p17,p18,p19,p20⟩:Gapi_Place)]) E i (p17+1) (u22 ⟨i,(decodeL (b::t)).2,(decodeL (b::t)).1⟩ p18) p19 (p20+1) f8 f hd2 hisz (by omega) (by simp; omega) (by omega) (by omega) (by omega) hu1 (by omega) a5 (by omega) (by omega) (by omega)
    refine ⟨M',E',q1,q2,q3,q4,q5,g8,g,hst hq (by omega) ⟨by omega,by omega⟩ ⟨by omega,by omega⟩ ⟨by omega,by omega⟩ ⟨by omega,by omega⟩ hlt hs (by omega) ⟨by omega,by omega⟩ (.inl ⟨.inl ⟨by show (decodeL (b::t)).1≠13; omega,by show (decodeL (b::t)).1≠10; omega⟩,h1⟩),h2,h3,?_⟩
    rw [h4,zuc hw1 (by rw [hl]; exact hwl) (by rw [hl]; exact hall)]
    congr 2
    have hsplit:b::t=(b::t).take (decodeL (b::t)).2++(b::t).drop (decodeL (b::t)).2:=(List.take_append_drop _ _).symm
    have hlen:((b::t).take (decodeL (b::t)).2).length=(decodeL (b::t)).2:=by rw [List.length_take]; omega
    conv=>rhs; rw [hsplit]
    rw [zqy _ _ _ _ _ hall (by intro e; rw [e] at hlen; simp at hlen; omega),hlen,← List.drop_drop,hl]
   ·have hdec:=decodeL_ascii b t (by omega)
    rw [hdec] at hst hq hd2 hisz
    dsimp only at hst hq hd2 hisz
    obtain ⟨hu3,hu4⟩:=hup ⟨i,1,b.toNat⟩
    clear hu1 hu2
    have hd1:=zfS hl
    have hpn:=zqT hl
    by_cases h13:b=13
    ·by_cases ht:t.head?=some 10
     ·obtain ⟨c,u,rfl⟩:∃ c u,t=c::u:=by cases t with | nil=>cases ht | cons c u=>exact ⟨c,u,rfl⟩
      have hc:c=10:=Option.some.inj ht
      obtain ⟨M',E',q1,q2,q3,q4,q5,g8,g,h1,h2,h3,h4⟩:=ih (m+1) (i+1) (M++[(⟨i,p17,p18,p19,p20⟩:Gapi_Place)]) E i (p17+1) (u22 ⟨i,1,b.toNat⟩ p18) p19 (p20+1) f8 f hd2 hisz (by omega) (by simp; omega) (by omega) (by omega) (by omega) hu3 (by omega) a5 (by omega) (by omega) (by omega)
      refine ⟨M',E',q1,q2,q3,q4,q5,g8,g,hst hq (by omega) ⟨by omega,by omega⟩ ⟨by omega,by omega⟩ ⟨by omega,by omega⟩ ⟨by omega,by omega⟩ hlt hs (by omega) ⟨by omega,by omega⟩ (.inl ⟨.inr ⟨by rw [h13]; rfl,c,u,hd1,hc⟩,h1⟩),h2,h3,?_⟩
      rw [h4,hpn,hd1]
      congr 2
      conv=>rhs; rw [spP,if_pos h13,if_pos ht]
      rw [h13]; rfl
     ·obtain ⟨M',E',q1,q2,q3,q4,q5,g8,g,h1,h2,h3,h4⟩:=ih (m+1) (i+1) (M++[(⟨i,p17,p18,p19,p20⟩:Gapi_Place)]) (E++[(⟨f,((i+1 - 1:Nat):Int),(1:Nat),f8⟩:Gplace_ended)]) i (p17+1) (u22 ⟨i,1,b.toNat⟩ p18) (p19+1) 0 ((M.length+1:Nat):Int) (i+1) hd2 hisz (by omega) (by simp; omega) (by simp; omega) (by omega) (by omega) hu3 (by omega) (by omega) (by omega) (by omega) (by omega)
      refine ⟨M',E',q1,q2,q3,q4,q5,g8,g,hst hq (by omega) ⟨by omega,by omega⟩ ⟨by omega,by omega⟩ ⟨by omega,by omega⟩ ⟨by omega,by omega⟩ hlt hs (by omega) ⟨by omega,by omega⟩ (.inr ⟨1,by show 1≤i+1; omega,.inl ⟨by rw [h13]; rfl,?_,rfl⟩,h1⟩),h2,h3,?_⟩
      ·show s.data.toList[i+1]?≠some 10
       rw [← hd1,List.head?_eq_getElem?,List.getElem?_drop] at ht
       exact ht
      ·rw [h4,hpn,hd1,List.map_append,List.append_assoc]
       congr 1
       conv=>rhs; rw [spP,if_pos h13,if_neg ht]
       rw [h13]
       show spE _::List.map mkS (spP true (i+1) (i+1) t)=mkS (f,i)::_
       rfl
    ·by_cases h10:b=10
     ·have hw2:(if pv s.data.toList i then 2 else 1)≤i+1:=by
       split
       ·rename_i h; unfold pv at h; rw [Bool.and_eq_true,decide_eq_true_iff] at h; omega
       ·omega
      obtain ⟨M',E',q1,q2,q3,q4,q5,g8,g,h1,h2,h3,h4⟩:=ih (m+1) (i+1) (M++[(⟨i,p17,p18,p19,p20⟩:Gapi_Place)]) (E++[(⟨f,((i+1 - (if pv s.data.toList i then 2 else 1):Nat):Int),((if pv s.data.toList i then 2 else 1:Nat):Int),f8⟩:Gplace_ended)]) i (p17+1) (u22 ⟨i,1,b.toNat⟩ p18) (p19+1) 0 ((M.length+1:Nat):Int) (i+1) hd2 hisz (by omega) (by simp; omega) (by simp; omega) (by omega) (by omega) hu3 (by omega) (by omega) (by omega) (by omega) (by omega)
      refine ⟨M',E',q1,q2,q3,q4,q5,g8,g,hst hq (by omega) ⟨by omega,by omega⟩ ⟨by omega,by omega⟩ ⟨by omega,by omega⟩ ⟨by omega,by omega⟩ hlt hs (by omega) ⟨by omega,by omega⟩ (.inr ⟨_,hw2,.inr ⟨by rw [h10]; rfl,rfl⟩,h1⟩),h2,h3,?_⟩
      rw [h4,hpn,hd1,List.map_append,List.append_assoc]
      congr 1
      conv=>rhs; rw [spP,if_neg h13,if_pos h10]
      show spE _::List.map mkS (spP (b==13) (i+1) (i+1) t)=mkS (f,_)::_
      rw [beq_eq_false_iff_ne.2 h13]
      congr 1
      unfold spE mkS
      congr 1
      cases pv s.data.toList i <;> rfl
     ·obtain ⟨M',E',q1,q2,q3,q4,q5,g8,g,h1,h2,h3,h4⟩:=ih (m+1) (i+1) (M++[(⟨i,p17,p18,p19,p20⟩:Gapi_Place)]) E i (p17+1) (u22 ⟨i,1,b.toNat⟩ p18) p19 (p20+1) f8 f hd2 hisz (by omega) (by simp; omega) (by omega) (by omega) (by omega) hu3 (by omega) a5 (by omega) (by omega) (by omega)
      refine ⟨M',E',q1,q2,q3,q4,q5,g8,g,hst hq (by omega) ⟨by omega,by omega⟩ ⟨by omega,by omega⟩ ⟨by omega,by omega⟩ ⟨by omega,by omega⟩ hlt hs (by omega) ⟨by omega,by omega⟩ (.inl ⟨.inl ⟨fun e=>h13 (UInt8.toNat.inj e),fun e=>h10 (UInt8.toNat.inj e)⟩,h1⟩),h2,h3,?_⟩
      rw [h4,hpn,hd1,beq_eq_false_iff_ne.2 h13]
      congr 2
      conv=>rhs; rw [spP,if_neg h13,if_neg h10]
theorem zw0 (s:ByteArray) (hs:s.size≤65536):∃ m:Gplace_Map,ze2 s=some (some m,0)∧m.text=s∧m.lines.map spE=(zcV s.data.toList).map mkS:=by
 obtain ⟨M',E',q1,q2,q3,q4,q5,g8,g,h1,h2,h3,h4⟩:=zsy s (fun (m1:List Gapi_Place) (m2:List Gplace_ended) (p1:Int) (p2:Int) (p3:Int) (p4:Int) (p5:Int) (line1:Int) (line2:Int) =>
  grd (m1.length+1≤2147483648)<|grd (m2.length+1≤2147483648)<|some ((some (⟨s,m1++[(⟨(s.size:Int),p2,p3,p4,p5⟩:Gapi_Place)],m2++[(⟨line1,(s.size:Int),0,line2⟩:Gplace_ended)]⟩:Gplace_Map)),0)) hs zbN 0 0 [] [] 0 0 0 0 0 0 0
  (by rw [List.drop_zero,List.drop_zero]; rfl) (Nat.zero_le _) (by unfold zbN; omega) (Nat.le_refl _) (Nat.le_refl _) (by omega) (by omega) (by omega) (by omega) (by omega) (by omega) (by omega) (by omega)
 refine ⟨⟨s,M'++[(⟨(s.size:Int),q2,q3,q4,q5⟩:Gapi_Place)],E'++[(⟨(g:Int),(s.size:Int),0,g8⟩:Gplace_ended)]⟩,?_,rfl,?_⟩
 ·unfold ze2
  refine zaw (decide_eq_false (by omega)) (zbs (h1.trans ?_))
  exact zbl (by omega) (zbl (by omega) rfl)
 ·show List.map spE (E'++[_])=_
  rw [List.map_append]
  exact h4
theorem zsz (s:ByteArray) (hs:65536<s.size):ze2 s=some (none,3):=by
 unfold ze2
 exact zaC (decide_eq_true (by omega)) rfl
end Go.Proofs.YtbempdelckaccaaGreatDoor

namespace Go.Proofs.YtbempdelckaccaaGreatDoor
open Go.RowKit Go.Lib
set_option linter.unusedVariables false
set_option linter.unusedSimpArgs false
def zbJ (s1:ByteArray) (prefix1:ByteArray):Option Bool :=
zay (decide (((prefix1.size:Int):Int)≤(s1.size:Int))) (
grd (0≤(0:Int)∧(0:Int)≤(prefix1.size:Int)∧((prefix1.size:Int):Int)≤(s1.size:Int)) <|
some (decide (zb8 s1 0 (prefix1.size:Int)=prefix1))
) (
some false
)
theorem zdQ {s1:ByteArray} {prefix1:ByteArray} {r:Bool} (h:zbJ s1 prefix1=some r):FnP Tryz.prog 80 [.string s1,.string prefix1] (.bool r):=by
 unfold zbJ at h
 refine FnP.intro Tryz.func80 rfl Tryz.ntmps80 (by simp) ?_
 intro w0 K
 refine zyG (zyR 1 rfl (zyH (zyR 1 rfl (zcg rfl dc rfl Tryz.underlying9 (zyR 1 rfl (zcg rfl dc rfl Tryz.underlying9 (zaU rfl zer (zyR 1 rfl ?_))))))))
 refine zyS (s:=10) rfl h (fun h => ?_) (fun h => ?_)
 ·
  refine zyR 2 rfl (zcg rfl dc rfl Tryz.underlying9 ?_)
  obtain ⟨hg1,h⟩:=zbr h
  refine zdG rfl dc rfl rfl rfl (zce (i:=0) (j:=(prefix1.size:Int)) Tryz.underlying9 (.inl ⟨rfl,rfl⟩) (.inr rfl) hg1) (zyR 1 rfl (zaU rfl zhR (zyR 2 rfl (zyN (zaG ?_)))))
  cases h
  exact zaK (rs:=[.tmp 4]) () (.inl rfl) Tryz.results80 (.cons (.tmp rfl) .nil) rfl Splits.nil
 refine zyR 8 rfl (zyN (zaG ?_))
 cases h
 exact zaK (rs:=[.tmp 4]) () (.inl rfl) Tryz.results80 (.cons (.tmp rfl) .nil) rfl Splits.nil
def zec (s1:ByteArray) (prefix1:ByteArray):Option Bool :=
zah (zbJ s1 prefix1) fun (r1:Bool) =>
some r1
theorem zhW {s1:ByteArray} {prefix1:ByteArray} {r:Bool} (h:zec s1 prefix1=some r):FnP Tryz.prog 53 [.string s1,.string prefix1] (.bool r):=by
 unfold zec at h
 refine FnP.intro Tryz.func53 rfl Tryz.ntmps53 (by simp) ?_
 intro w0 K
 refine zyG (zyR 1 rfl (zyH (zyR 2 rfl ?_)))
 obtain ⟨r1,hq1,h⟩:=zbi h
 refine zbD (v:=.bool r1) (vs:=[.string s1,.string prefix1]) rfl dc rfl rfl rfl zvR (zdQ hq1) (zyR 1 rfl (zyN (zaG ?_)))
 cases h
 exact zaK (rs:=[.tmp 4]) () (.inl rfl) Tryz.results53 (.cons (.tmp rfl) .nil) rfl Splits.nil
def zcf (s1:ByteArray) (prefix1:ByteArray):Option ByteArray :=
zah (zbJ s1 prefix1) fun (r1:Bool) =>
zay (r1) (
grd (0≤((prefix1.size:Int):Int)∧((prefix1.size:Int):Int)≤(s1.size:Int)∧((s1.size:Int):Int)≤(s1.size:Int)) <|
some (zb8 s1 (prefix1.size:Int) (s1.size:Int))
) (
some s1
)
theorem zfe {s1:ByteArray} {prefix1:ByteArray} {r:ByteArray} (h:zcf s1 prefix1=some r):FnP Tryz.prog 79 [.string s1,.string prefix1] (.string r):=by
 unfold zcf at h
 refine FnP.intro Tryz.func79 rfl Tryz.ntmps79 (by simp) ?_
 intro w0 K
 refine zyG (zyR 1 rfl (zyN (zaI (zyG (zyR 2 rfl ?_)))))
 obtain ⟨r1,hq1,h⟩:=zbi h
 refine zbD (v:=.bool r1) (vs:=[.string s1,.string prefix1]) rfl dc rfl rfl rfl zvR (zdQ hq1) (zyN ?_)
 refine zyB rfl h (fun h => ?_) (fun h => ?_)
 ·
  refine zyG (zyR 2 rfl (zcg rfl dc rfl Tryz.underlying9 ?_))
  obtain ⟨hg1,h⟩:=zbr h
  refine zdG rfl dc rfl rfl rfl (zce (i:=(prefix1.size:Int)) (j:=(s1.size:Int)) Tryz.underlying9 (.inr rfl) (.inl ⟨rfl,rfl⟩) hg1) (zyR 1 rfl (zyN (zaG (zao ?_))))
  cases h
  exact zaK (rs:=[.tmp 4]) () (.inl rfl) Tryz.results79 (.cons (.tmp rfl) .nil) rfl Splits.nil
 refine zar (zaH (zyG (zyR 2 rfl (zyN (zaG ?_)))))
 cases h
 exact zaK (rs:=[.tmp 4]) () (.inl rfl) Tryz.results79 (.cons (.tmp rfl) .nil) rfl Splits.nil
def zdo (s1:ByteArray) (prefix1:ByteArray):Option ByteArray :=
zah (zcf s1 prefix1) fun (r1:ByteArray) =>
some r1
theorem zhp {s1:ByteArray} {prefix1:ByteArray} {r:ByteArray} (h:zdo s1 prefix1=some r):FnP Tryz.prog 50 [.string s1,.string prefix1] (.string r):=by
 unfold zdo at h
 refine FnP.intro Tryz.func50 rfl Tryz.ntmps50 (by simp) ?_
 intro w0 K
 refine zyG (zyR 1 rfl (zyH (zyR 2 rfl ?_)))
 obtain ⟨r1,hq1,h⟩:=zbi h
 refine zbD (v:=.string r1) (vs:=[.string s1,.string prefix1]) rfl dc rfl rfl rfl zxb (zfe hq1) (zyR 1 rfl (zyN (zaG ?_)))
 cases h
 exact zaK (rs:=[.tmp 4]) () (.inl rfl) Tryz.results50 (.cons (.tmp rfl) .nil) rfl Splits.nil
end Go.Proofs.YtbempdelckaccaaGreatDoor

namespace Go.Proofs.YtbempdelckaccaaGreatDoor
open Go.RowKit Go.Lib
set_option linter.unusedVariables false
set_option linter.unusedSimpArgs false
def zfa (s1:ByteArray):Option Bool :=
grd (s1.size≤9223372036854775807) <|
some (decide (zoZ s1=(⟨#[]⟩:ByteArray)))
theorem zmO {s1:ByteArray} {r:Bool} (h:zfa s1=some r):FnP Tryz.prog 48 [.string s1] (.bool r):=by
 unfold zfa at h
 refine FnP.intro Tryz.func48 rfl Tryz.ntmps48 (by simp) ?_
 intro w0 K
 refine zyG (zyR 1 rfl (zyH (zyR 1 rfl ?_)))
 obtain ⟨hg1,h⟩:=zbr h
 refine zbD (v:=.string (zoZ s1)) (vs:=[.string s1,.string (⟨#[32,9]⟩:ByteArray)]) rfl dc rfl rfl rfl zxc (zvc s1 hg1) (zaU rfl zhR (zyR 1 rfl (zyN (zaG ?_))))
 cases h
 exact zaK (rs:=[.tmp 2]) () (.inl rfl) Tryz.results48 (.cons (.tmp rfl) .nil) rfl Splits.nil
def zeI (s1:ByteArray):Option Bool :=
zay (decide (s1=(⟨#[35]⟩:ByteArray))) (
some true
) (
zah (zec s1 (⟨#[35,32]⟩:ByteArray)) fun (r1:Bool) =>
some r1
)
theorem zly {s1:ByteArray} {r:Bool} (h:zeI s1=some r):FnP Tryz.prog 49 [.string s1] (.bool r):=by
 unfold zeI at h
 refine FnP.intro Tryz.func49 rfl Tryz.ntmps49 (by simp) ?_
 intro w0 K
 refine zyG (zyR 1 rfl (zyH (zyR 1 rfl (zaU rfl zhR (zyR 1 rfl ?_)))))
 refine zyS (s:=5) rfl h (fun h => ?_) (fun h => ?_)
 ·
  refine zyR 4 rfl (zyN (zaG ?_))
  cases h
  exact zaK (rs:=[.tmp 2]) () (.inl rfl) Tryz.results49 (.cons (.tmp rfl) .nil) rfl Splits.nil
 refine zyR 1 rfl ?_
 obtain ⟨r1,hq1,h⟩:=zbi h
 refine zbD (v:=.bool r1) (vs:=[.string s1,.string (⟨#[35,32]⟩:ByteArray)]) rfl dc rfl rfl rfl zxn (zhW hq1) (zyR 2 rfl (zyN (zaG ?_)))
 cases h
 exact zaK (rs:=[.tmp 2]) () (.inl rfl) Tryz.results49 (.cons (.tmp rfl) .nil) rfl Splits.nil
def zdv (s1:ByteArray) (j1:Int→Option Int) (ag1:Int→Nat→Option Int) (n4:Int) (m3:Nat):Option Int :=
zay (decide (m3<(pcs s1.data.toList).length)) (
zah ((pcs s1.data.toList)[m3]?) fun (p1:Pc) =>
zay (((p1.r:Int):Int) != 32) (
j1 n4
) (
grd (I64 (n4+1)) <|
ag1 (n4+1) (m3+1)
)
) (
j1 n4
)
def zed (s1:ByteArray):Option Int :=
zbk (fun (j1:Int→Option Int) =>
zaE (fun _ _=>none) (zdv s1 j1) zbN 0 0
) (fun (n1:Int) =>
some n1
)
theorem zlz {s1:ByteArray} {r:Int} (h:zed s1=some r):FnP Tryz.prog 51 [.string s1] (zI r):=by
 unfold zed at h
 refine FnP.intro Tryz.func51 rfl Tryz.ntmps51 (by simp) ?_
 intro w0 K
 obtain ⟨j1,hj1,h⟩:=zbG h
 refine zaX (β:=Int) 2 rfl (fun b=>j1 b=some r) (fun b=>[]) (fun b=>[(3,zI b)]) (fun b=>[]) (fun cut => ?_) ?_
 ·
  refine zyG (zyR 1 rfl (zyH (zyR 1 rfl (zyN (cut (zyG (zyR 1 rfl ?_)))))))
  refine zfF Tryz.underlying9 rfl dc rfl (fun b1 => ?_)
  refine zyN (zaF ?_)
  refine zbj (β:=Nat×Int×Nat) (fun b=>zaE (fun _ _=>none) (zdv s1 j1) b.1 b.2.1 b.2.2=some r) (fun b=>[]) (fun b=>[(3,zI b.2.1),(7,zP b1)]) (fun b=>[obj b1 (.stringIter s1 (zfW s1 b.2.2))]) (fun b=>b.1) (zbN,0,0) (by exact h) rfl (za0 rfl) (zad [0] kr rfl) ?_
  rintro ⟨n5,n4,m3⟩ h
  cases n5 with
  | zero=>exact zdp h
  | succ n5 =>
   obtain ⟨ag1,hag1⟩:∃ ag,ag=zaE (fun _ _=>none) (zdv s1 j1) n5:=⟨_,rfl⟩
   have h:zdv s1 j1 ag1 n4 m3=some r:=by rw [hag1]; exact h
   unfold zdv at h
   refine zyG ?_
   refine zfG (b:=decide (m3<(pcs s1.data.toList).length)) (fun hb1 => ?_) (fun hb1 => ?_)
   ·
    have h:=zf0 hb1 h
    obtain ⟨p1,hq1,h⟩:=zbi h
    refine zf9 (k:=0) (m:=m3) (p:=p1) rfl dc rfl rfl hq1 (zaN rfl dc rfl rfl (zyN (zaI (za5 rfl (zar (zaH (zaF (zyG (zaN rfl dc rfl rfl (zyR 1 rfl (zaO ?_)))))))))))
    refine zaH (zaI (zyG (zyR 1 rfl (zaU rfl zbS (zyN ?_)))))
    refine zyB rfl h (fun h => ?_) (fun h => ?_)
    ·
     refine za3 (zan (zcH dc (zan (zax ?_))))
     exact zal n4 h rfl (za0 rfl) Splits.nil
    refine zar (zaH (zav (zyR 1 rfl ?_)))
    obtain ⟨hg1,h⟩:=zbr h
    refine zaU rfl (zaR (r:=n4+1) (IntWalk.i64_in _ hg1)) (zyR 1 rfl (zaO (zag ?_)))
    subst hag1
    exact za1 (n5,n4+1,m3+1) h (Nat.lt_succ_self _) rfl (za0 rfl) (zad [0] kr rfl)
   have h:=zf1 hb1 h
   refine zga (k:=0) (m:=m3) rfl dc rfl rfl (Nat.le_of_not_lt (of_decide_eq_false hb1)) (zaN rfl dc rfl rfl (zyN (zaI (zaS rfl (za3 (zan (zan (zax ?_))))))))
   exact zal n4 h rfl (za0 rfl) Splits.nil
 rintro n1 h
 rw [hj1] at h
 refine zyG (zyR 2 rfl (zyN (zaG ?_)))
 cases h
 exact zaK (rs:=[.tmp 2]) () (.inl rfl) Tryz.results51 (.cons (.tmp rfl) .nil) rfl Splits.nil
def zdw (text1:ByteArray) (j1:ByteArray→(List Gapi_Verse)→(List Gapi_Span)→Option ((Option Gpoem_Poem)×Gapi_Spot)) (p4:Gplace_Map) (r2:Int) (ag1:ByteArray→(List Gapi_Verse)→(List Gapi_Span)→Bool→Bool→Int→Option ((Option Gpoem_Poem)×Gapi_Spot)) (p14:ByteArray) (p15:List Gapi_Verse) (p16:List Gapi_Span) (first3:Bool) (row3:Bool) (x3:Int):Option ((Option Gpoem_Poem)×Gapi_Spot) :=
zay (decide ((x3:Int)<r2)) (
zbk (fun (j2:ByteArray→(List Gapi_Verse)→(List Gapi_Span)→Bool→Bool→Option ((Option Gpoem_Poem)×Gapi_Spot)) =>
zbk (fun (j3:Int→Int→ByteArray→Option ((Option Gpoem_Poem)×Gapi_Spot)) =>
zah (zeh p4 x3) fun (r3:(Gapi_Span×Int×Int)) =>
grd (0≤(r3.1.From:Int)∧(r3.1.From:Int)≤r3.1.To∧(r3.1.To:Int)≤(text1.size:Int)) <|
zah (zfa (zb8 text1 r3.1.From r3.1.To)) fun (r4:Bool) =>
zay (r4) (
j2 p14 p15 p16 first3 false
) (
zay (decide ((1024:Int)<((zb8 text1 r3.1.From r3.1.To).size:Int))) (
grd (I64 (r3.1.From+1024)) <|
some (none,(⟨3,r3.1.From+1024⟩:Gapi_Spot))
) (
zay (first3) (
zah (zeI (zb8 text1 r3.1.From r3.1.To)) fun (r5:Bool) =>
zay (r5) (
grd (0≤(1:Int)∧(1:Int)≤((zb8 text1 r3.1.From r3.1.To).size:Int)∧(((zb8 text1 r3.1.From r3.1.To).size:Int):Int)≤((zb8 text1 r3.1.From r3.1.To).size:Int)) <|
zah (zdo (zb8 (zb8 text1 r3.1.From r3.1.To) 1 ((zb8 text1 r3.1.From r3.1.To).size:Int)) (⟨#[32]⟩:ByteArray)) fun (r6:ByteArray) =>
j2 r6 p15 p16 false row3
) (
zay (((p15.length:Int):Int)==512) (
some (none,(⟨3,r3.1.From⟩:Gapi_Spot))
) (
j3 r3.1.From r3.1.To (zb8 text1 r3.1.From r3.1.To)
)
)
) (
zay (((p15.length:Int):Int)==512) (
some (none,(⟨3,r3.1.From⟩:Gapi_Spot))
) (
j3 r3.1.From r3.1.To (zb8 text1 r3.1.From r3.1.To)
)
)
)
)
) (fun (span1:Int) (span2:Int) (line1:ByteArray) =>
zbk (fun (j4:(List Gapi_Span)→Option ((Option Gpoem_Poem)×Gapi_Spot)) =>
zay (!row3) (
grd (p16.length+1≤2147483648) <|
j4 (p16++[(⟨(p15.length:Int),(p15.length:Int)⟩:Gapi_Span)])
) (
j4 p16
)
) (fun (p20:List Gapi_Span) =>
grd (I64 ((p20.length:Int) - 1)) <|
zah (zbm p20 ((p20.length:Int) - 1)) fun (q1:Gapi_Span) =>
zah (zed line1) fun (r7:Int) =>
grd (0≤(r7:Int)∧(r7:Int)≤(line1.size:Int)∧((line1.size:Int):Int)≤(line1.size:Int)) <|
grd (I64 ((p20.length:Int) - 1)) <|
grd (I64 ((p15.length:Int) - q1.From)) <|
grd (I64 (span1+r7)) <|
grd (p15.length+1≤2147483648) <|
grd (I64 ((p15.length:Int)+1)) <|
j2 p14 (p15++[(⟨zb8 line1 r7 (line1.size:Int),r7,(p20.length:Int) - 1,(p15.length:Int) - q1.From,span1+r7,span2⟩:Gapi_Verse)]) (p20.set ((p20.length:Int) - 1:Int).toNat (⟨q1.From,(p15.length:Int)+1⟩:Gapi_Span)) false true
)
)
) (fun (p17:ByteArray) (p18:List Gapi_Verse) (p19:List Gapi_Span) (first4:Bool) (row4:Bool) =>
grd (I64 (x3+1)) <|
ag1 p17 p18 p19 first4 row4 (x3+1)
)
) (
j1 p14 p15 p16
)
def ze1 (text1:ByteArray):Option ((Option Gpoem_Poem)×Gapi_Spot) :=
zah (ze2 text1) fun (r1:((Option Gplace_Map)×Int)) =>
zay ((r1.2:Int) != 0) (
some (none,(⟨r1.2,65536⟩:Gapi_Spot))
) (
zbk (fun (j1:ByteArray→(List Gapi_Verse)→(List Gapi_Span)→Option ((Option Gpoem_Poem)×Gapi_Spot)) =>
zah (r1.1) fun (p4:Gplace_Map) =>
zah (zfA p4) fun (r2:Int) =>
zaE (fun _ _ _ _ _ _=>none) (zdw text1 j1 p4 r2) zbN ByteArray.empty ([]:List Gapi_Verse) ([]:List Gapi_Span) true false 0
) (fun (p1:ByteArray) (p2:List Gapi_Verse) (p3:List Gapi_Span) =>
some ((some (⟨p1,p2,p3,text1⟩:Gpoem_Poem)),(⟨0,0⟩:Gapi_Spot))
)
)
theorem znI {text1:ByteArray} {r:((Option Gpoem_Poem)×Gapi_Spot)} (h:ze1 text1=some r):Fn Tryz.prog 22 [.string text1] [] (fun v0:Value=>.tuple #[v0,.agg (zr6 r.2).toArray]) (fun v0=>[zmP zdc zdb 106 v0 r.1]):=by
 unfold ze1 at h
 refine Fn.intro Tryz.func22 rfl Tryz.ntmps22 (by simp) ?_
 intro w0 K
 refine zyG (zyR 1 rfl ?_)
 refine zbE zr9 rfl dc (fun b1 => ?_)
 refine zyN ?_
 refine zkg (β:=Unit) (l:=0) (fun _=>False) (fun _=>[]) (fun _=>[]) rfl ?_ ?_
 ·
  refine zyG (zyR 1 rfl ?_)
  obtain ⟨r1,hq1,h⟩:=zbi h
  refine zes (vs:=[.string text1]) rfl dc rfl rfl rfl zxu (znK hq1) Splits.nil ?_
  rintro v1
  refine zep (L':=[cells b1 [zI 0,zI 0] 60,zmP zeB zez 153 v1 r1.1]) (zad [0,1] kr rfl) (zyR 1 rfl (zaN rfl dc rfl rfl (zaN rfl dc rfl rfl (zyR 2 rfl (zyN (zaI (zyG (zyR 1 rfl (zaU rfl zbS (zaO ?_))))))))))
  refine zaH ?_
  refine zyB rfl h (fun h => ?_) (fun h => ?_)
  ·
   refine zyG (zyR 1 rfl ?_)
   refine zba (v:=.agg #[zI r1.2,zI 65536]) (ps:=[(0,.tmp 24),(1,.const (zI 65536))]) rfl dc rfl (fun _=>by kernel_rfl) ?_
   refine zyR 1 rfl (za6 (k:=0) (vs:=[zI r1.2,zI 65536]) (l':=[zI r1.2,zI 65536]) zkm rfl rfl rfl rfl rfl (show _≤_ by simp) rfl rfl (zyN (zaG (zao (zd9 (by simp) (zd8 zdc zdb 106 ?_))))))
   cases h
   exact zaK (rs:=[.tmp 2,.cell 3 60]) (.pointer none) (.inl rfl) Tryz.results22 (.cons (.tmp rfl) (.cons (.cells zmA (k:=0) rfl rfl rfl) .nil)) rfl (zad [2] kr rfl)
  refine zar (zaH ?_)
  obtain ⟨j1,hj1,h⟩:=zbG h
  refine zaX (β:=ByteArray×(List Gapi_Verse)×(List Gapi_Span)×Nat×Hd×Hd) 3 rfl (fun b=>j1 b.1 b.2.1 b.2.2.1=some r) (fun b=>[]) (fun b=>[(3,zP b1),(6,zP b.2.2.2.1)]) (fun b=>[cells b1 [zI 0,zI 0] 60,cells b.2.2.2.1 [.string b.1,b.2.2.2.2.1.v,b.2.2.2.2.2.v,.string text1] 106,zv6 b.2.2.2.2.1.v b.2.1,zv7 b.2.2.2.2.2.v b.2.2.1]) (fun cut => ?_) ?_
  ·
   refine zyG (zyR 1 rfl ?_)
   refine zba (v:=.agg #[.string ByteArray.empty,.slice none 0 0,.slice none 0 0,.string text1]) (ps:=[(1,.tmp 26)]) rfl dc rfl (fun _=>by kernel_rfl) ?_
   refine zea rfl dc rfl (fun b3 => ?_)
   refine zyR 1 rfl (zyH (zyR 2 rfl (zyN (zaI (zkh (zaH (cut (zaI ?_))))))))
   refine zav (zyR 1 rfl ?_)
   obtain ⟨p4,hq2,h⟩:=zbi h
   refine zoQ (As:=[zmP zeB zez 153 v1 r1.1]) (zad [1] kr rfl) (zhJ hq2) ?_
   rintro ⟨b4,hd3,hd4⟩ hv1
   have hkp:=h
   subst hv1
   have h:=hkp
   obtain ⟨r2,hq3,h⟩:=zbi h
   refine zch (v:=zI r2) (vs:=[zP b4]) (Rd.nil:Rd _ _ []) rfl dc rfl rfl rfl zxt (ziB (bm1:=b4) (m1:=p4) (m1_h0:=hd3) (m1_h1:=hd4) hq3) (.own (zad [3] (by kernel_rfl) rfl) (fun _ _ h=>sepL.one1.1 h) (.own (zad [4] (by kernel_rfl) rfl) (fun _ _ h=>sepL.one1.1 h) (.own (zad [5] (by kernel_rfl) rfl) (fun _ _ h=>sepL.one1.1 h) .nil))) ?_
   refine zyR 1 rfl (zyN (zaF (zcR (enc:=zbF) (e:=76) (size:=6) ?_)))
   refine zcR (enc:=zdS) (e:=38) (size:=2) ?_
   refine zbj (β:=Nat×ByteArray×(List Gapi_Verse)×(List Gapi_Span)×Bool×Bool×Int×Hd×Hd) (fun b=>zaE (fun _ _ _ _ _ _=>none) (zdw text1 j1 p4 r2) b.1 b.2.1 b.2.2.1 b.2.2.2.1 b.2.2.2.2.1 b.2.2.2.2.2.1 b.2.2.2.2.2.2.1=some r) (fun b=>[]) (fun b=>[(0,.string text1),(3,zP b1),(4,zP b4),(6,zP b3),(7,.bool b.2.2.2.2.1),(8,.bool b.2.2.2.2.2.1),(30,zI r2),(31,zI b.2.2.2.2.2.2.1)]) (fun b=>[cells b1 [zI 0,zI 0] 60,cells b4 [.string p4.text,hd3.v,hd4.v] 153,zv4 hd3.v p4.places,zv3 hd4.v p4.lines,cells b3 [.string b.2.1,b.2.2.2.2.2.2.2.1.v,b.2.2.2.2.2.2.2.2.v,.string text1] 106,zv6 b.2.2.2.2.2.2.2.1.v b.2.2.1,zv7 b.2.2.2.2.2.2.2.2.v b.2.2.2.1]) (fun b=>b.1) (zbN,ByteArray.empty,([]:List Gapi_Verse),([]:List Gapi_Span),true,false,0,Hd.nil,Hd.nil) h rfl (za0 rfl) (zad [0,3,4,5,2,6,7] kr rfl) ?_
   rintro ⟨n1,p14,p15,p16,first3,row3,x3,hd10,hd11⟩ h
   cases n1 with
   | zero=>exact zdp h
   | succ n1 =>
    obtain ⟨ag1,hag1⟩:∃ ag,ag=zaE (fun _ _ _ _ _ _=>none) (zdw text1 j1 p4 r2) n1:=⟨_,rfl⟩
    have h:zdw text1 j1 p4 r2 ag1 p14 p15 p16 first3 row3 x3=some r:=by rw [hag1]; exact h
    unfold zdw at h
    refine zyG (zaU rfl zbc (zyN (zaI ?_)))
    refine zyB rfl h (fun h => ?_) (fun h => ?_)
    ·
     refine zar (zaH ?_)
     obtain ⟨j2,hj2,h⟩:=zbG h
     refine zaX (β:=ByteArray×(List Gapi_Verse)×(List Gapi_Span)×Bool×Bool×Hd×Hd) 0 rfl (fun b=>j2 b.1 b.2.1 b.2.2.1 b.2.2.2.1 b.2.2.2.2.1=some r) (fun b=>[]) (fun b=>[(0,.string text1),(3,zP b1),(4,zP b4),(6,zP b3),(7,.bool b.2.2.2.1),(8,.bool b.2.2.2.2.1),(30,zI r2),(31,zI x3)]) (fun b=>[cells b1 [zI 0,zI 0] 60,cells b4 [.string p4.text,hd3.v,hd4.v] 153,zv4 hd3.v p4.places,zv3 hd4.v p4.lines,cells b3 [.string b.1,b.2.2.2.2.2.1.v,b.2.2.2.2.2.2.v,.string text1] 106,zv6 b.2.2.2.2.2.1.v b.2.1,zv7 b.2.2.2.2.2.2.v b.2.2.1]) (fun cut => ?_) ?_
     ·
      refine cut (zaF ?_)
      obtain ⟨j3,hj3,h⟩:=zbG h
      refine zaX (β:=Int×Int×ByteArray×Nat) 3 rfl (fun b=>j3 b.1 b.2.1 b.2.2.1=some r) (fun b=>[]) (fun b=>[(0,.string text1),(3,zP b1),(4,zP b4),(6,zP b3),(8,.bool row3),(10,zP b.2.2.2),(13,.string b.2.2.1),(30,zI r2),(31,zI x3)]) (fun b=>[cells b1 [zI 0,zI 0] 60,cells b4 [.string p4.text,hd3.v,hd4.v] 153,zv4 hd3.v p4.places,zv3 hd4.v p4.lines,cells b3 [.string p14,hd10.v,hd11.v,.string text1] 106,zv6 hd10.v p15,zv7 hd11.v p16,cells b.2.2.2 [zI b.1,zI b.2.1] 38]) (fun cut => ?_) ?_
      ·
       refine zyG (zyR 2 rfl (zyH (zyR 2 rfl ?_)))
       obtain ⟨r3,hq4,h⟩:=zbi h
       refine zch (v:=.tuple #[.agg (zr5 r3.1).toArray,zI r3.2.1,zI r3.2.2]) (vs:=[zP b4,zI x3]) (Rd.nil:Rd _ _ []) rfl dc rfl rfl rfl zxs (zjc (bm1:=b4) (m1:=p4) (m1_h0:=hd3) (m1_h1:=hd4) hq4) (.own (zad [1] (by kernel_rfl) rfl) (fun _ _ h=>sepL.one1.1 h) (.own (zad [2] (by kernel_rfl) rfl) (fun _ _ h=>sepL.one1.1 h) (.own (zad [3] (by kernel_rfl) rfl) (fun _ _ h=>sepL.one1.1 h) .nil))) ?_
       refine zyR 1 rfl (zaN rfl dc rfl rfl (zaN rfl dc rfl rfl (zaN rfl dc rfl rfl ?_)))
       refine zbE zqf rfl dc (fun b6 => ?_)
       refine za6 (k:=7) (vs:=(zr5 r3.1)) (l':=(zr5 r3.1)) zkn rfl rfl rfl rfl rfl (show _≤_ by simp) rfl rfl ?_
       refine zyR 2 rfl (zyH (zyR 1 rfl (zab zdt rfl dc rfl (show _=0 from rfl) (zau (k:=7) zbp rfl dc rfl rfl rfl (zab zdZ rfl dc rfl (show _=1 from rfl) (zau (k:=7) zbp rfl dc rfl rfl rfl ?_))))))
       obtain ⟨hg1,h⟩:=zbr h
       refine zdG rfl dc rfl rfl rfl (zce (i:=r3.1.From) (j:=r3.1.To) Tryz.underlying9 (.inr rfl) (.inr rfl) hg1) (zyR 1 rfl (zyN (cut (zaF (zyG (zyR 1 rfl ?_))))))
       obtain ⟨r4,hq5,h⟩:=zbi h
       refine zbD (v:=.bool r4) (vs:=[.string (zb8 text1 r3.1.From r3.1.To)]) rfl dc rfl rfl rfl zxr (zmO hq5) (zyR 1 rfl (zyN ?_))
       refine zyB rfl h (fun h => ?_) (fun h => ?_)
       ·
        refine zyG (zyR 1 rfl (zyN (za3 (zcH dc (zan (zax ?_))))))
        exact zal (p14,p15,p16,first3,false,hd10,hd11) h rfl (za0 rfl) (zad [0,1,2,3,4,5,6] kr rfl)
       refine zyG (zyR 1 rfl (zcg rfl dc rfl Tryz.underlying9 (zaU rfl zct (zyR 1 rfl (zyN ?_)))))
       refine zyB rfl h (fun h => ?_) (fun h => ?_)
       ·
        refine zaI ?_
        obtain ⟨hg2,h⟩:=zbr h
        refine zbn 5 [(0,54,zP b6),(1,55,zI r3.1.From),(2,56,zI (r3.1.From+1024)),(3,57,.agg #[zI 3,zI (r3.1.From+1024)]),(4,2,.pointer none)] mixed kr kr dc (by rfl) kr kr (zac ?_ (zac ?_ (zac ?_ (zac ?_ (zac ?_ DrawPre.nil))))) ?_
        · exact fun D n d c u i=>zab zdt rfl dc (zbe (by rfl) rfl) (show _=0 from rfl) (zaf 0 u i rfl)
        · exact fun D n d c u i=>zau (k:=7) zbp rfl dc (zaa (m:=0) u rfl (d 0 dc)) rfl rfl (zaf 1 u i rfl)
        · exact fun D n d c u i=>zbz rfl dc (zaa (m:=1) u rfl (d 1 dc)) rfl (zaR (r:=r3.1.From+1024) (IntWalk.i64_in _ hg2)) (zaf 2 u i rfl)
        · exact fun D n d c u i=>zba (v:=.agg #[zI 3,zI (r3.1.From+1024)]) (ps:=[(0,.const (zI 3)),(1,.tmp 56)]) rfl dc (evP.cons rfl (evP.cons (zaa (m:=2) u rfl (d 2 dc)) evP.nil)) (fun _=>by kernel_rfl) (zaf 3 u i rfl)
        · exact fun D n d c u i=>zyR 1 rfl (zaf 4 u i rfl)
        refine za6 (k:=0) (vs:=[zI 3,zI (r3.1.From+1024)]) (l':=[zI 3,zI (r3.1.From+1024)]) zkm rfl rfl rfl rfl rfl (show _≤_ by simp) rfl rfl (zyN (zaG (zat (zao (zat (zao (zao (zat (zao (zd9 (by simp) (zd8 zdc zdb 106 ?_)))))))))))
        cases h
        exact zaK (rs:=[.tmp 2,.cell 3 60]) (.pointer none) (.inl rfl) Tryz.results22 (.cons (.tmp rfl) (.cons (.cells zmA (k:=0) rfl rfl rfl) .nil)) rfl (zad [8] kr rfl)
       refine zyG (zyR 2 rfl ?_)
       refine zyS (s:=60) rfl h (fun h => ?_) (fun h => ?_)
       ·
        refine zyR 1 rfl ?_
        obtain ⟨r5,hq6,h⟩:=zbi h
        refine zbD (v:=.bool r5) (vs:=[.string (zb8 text1 r3.1.From r3.1.To)]) rfl dc rfl rfl rfl zxq (zly hq6) (zyR 2 rfl (zyN ?_))
        refine zyB rfl h (fun h => ?_) (fun h => ?_)
        ·
         refine zyG (zyR 1 rfl (zyH (zyR 2 rfl ?_)))
         obtain ⟨hg3,h⟩:=zbr h
         refine zdG rfl dc rfl rfl rfl (zce (i:=1) (j:=((zb8 text1 r3.1.From r3.1.To).size:Int)) Tryz.underlying9 (.inr rfl) (.inl ⟨rfl,rfl⟩) hg3) ?_
         obtain ⟨r6,hq7,h⟩:=zbi h
         refine zbD (v:=.string r6) (vs:=[.string (zb8 (zb8 text1 r3.1.From r3.1.To) 1 ((zb8 text1 r3.1.From r3.1.To).size:Int)),.string (⟨#[32]⟩:ByteArray)]) rfl dc rfl rfl rfl zxp (zhp hq7) (zaD rfl dc rfl (zab zeZ rfl dc rfl (show _=0 from rfl) (zab zsK rfl dc rfl (show _=0 from rfl) ?_)))
         refine zbb (k:=4) (l':=[.string r6,hd10.v,hd11.v,.string text1]) ztO rfl rfl rfl rfl rfl (fun _ _=>rfl) rfl ?_
         refine zyN (za3 (zcH dc (zan (zax ?_))))
         exact zal (r6,p15,p16,false,row3,hd10,hd11) h rfl (za0 rfl) (zad [0,1,2,3,4,5,6] kr rfl)
        refine zyG (zyR 1 rfl (zaD rfl dc rfl (zab zeZ rfl dc rfl (show _=0 from rfl) (zab zhN rfl dc rfl (show _=1 from rfl) (zau (k:=4) zqK rfl dc rfl rfl rfl (zbg (k:=5) rfl dc rfl rfl Tryz.underlying26 (zaU rfl zaT (zyR 1 rfl (zyN ?_)))))))))
        refine zyB rfl h (fun h => ?_) (fun h => ?_)
        ·
         refine zaI ?_
         refine zbn 4 [(0,79,zP b6),(1,80,zI r3.1.From),(2,81,.agg #[zI 3,zI r3.1.From]),(3,2,.pointer none)] mixed kr kr dc (by rfl) kr kr (zac ?_ (zac ?_ (zac ?_ (zac ?_ DrawPre.nil)))) ?_
         · exact fun D n d c u i=>zab zdt rfl dc (zbe (by rfl) rfl) (show _=0 from rfl) (zaf 0 u i rfl)
         · exact fun D n d c u i=>zau (k:=7) zbp rfl dc (zaa (m:=0) u rfl (d 0 dc)) rfl rfl (zaf 1 u i rfl)
         · exact fun D n d c u i=>zba (v:=.agg #[zI 3,zI r3.1.From]) (ps:=[(0,.const (zI 3)),(1,.tmp 80)]) rfl dc (evP.cons rfl (evP.cons (zaa (m:=1) u rfl (d 1 dc)) evP.nil)) (fun _=>by kernel_rfl) (zaf 2 u i rfl)
         · exact fun D n d c u i=>zyR 1 rfl (zaf 3 u i rfl)
         refine za6 (k:=0) (vs:=[zI 3,zI r3.1.From]) (l':=[zI 3,zI r3.1.From]) zkm rfl rfl rfl rfl rfl (show _≤_ by simp) rfl rfl (zyN (zaG (zat (zao (zat (zao (zao (zat (zao (zd9 (by simp) (zd8 zdc zdb 106 ?_)))))))))))
         cases h
         exact zaK (rs:=[.tmp 2,.cell 3 60]) (.pointer none) (.inl rfl) Tryz.results22 (.cons (.tmp rfl) (.cons (.cells zmA (k:=0) rfl rfl rfl) .nil)) rfl (zad [8] kr rfl)
        refine zar (zag ?_)
        exact zal (r3.1.From,r3.1.To,zb8 text1 r3.1.From r3.1.To,b6) h rfl (za0 rfl) (zad [0,1,2,3,4,5,6,7] kr rfl)
       refine zyR 4 rfl (zyN (zaS rfl (zyG (zyR 1 rfl (zaD rfl dc rfl (zab zeZ rfl dc rfl (show _=0 from rfl) (zab zhN rfl dc rfl (show _=1 from rfl) (zau (k:=4) zqK rfl dc rfl rfl rfl ?_))))))))
       refine zbg (k:=5) rfl dc rfl rfl Tryz.underlying26 (zaU rfl zaT (zyR 1 rfl (zyN ?_)))
       refine zyB rfl h (fun h => ?_) (fun h => ?_)
       ·
        refine zaI ?_
        refine zbn 4 [(0,79,zP b6),(1,80,zI r3.1.From),(2,81,.agg #[zI 3,zI r3.1.From]),(3,2,.pointer none)] mixed kr kr dc (by rfl) kr kr (zac ?_ (zac ?_ (zac ?_ (zac ?_ DrawPre.nil)))) ?_
        · exact fun D n d c u i=>zab zdt rfl dc (zbe (by rfl) rfl) (show _=0 from rfl) (zaf 0 u i rfl)
        · exact fun D n d c u i=>zau (k:=7) zbp rfl dc (zaa (m:=0) u rfl (d 0 dc)) rfl rfl (zaf 1 u i rfl)
        · exact fun D n d c u i=>zba (v:=.agg #[zI 3,zI r3.1.From]) (ps:=[(0,.const (zI 3)),(1,.tmp 80)]) rfl dc (evP.cons rfl (evP.cons (zaa (m:=1) u rfl (d 1 dc)) evP.nil)) (fun _=>by kernel_rfl) (zaf 2 u i rfl)
        · exact fun D n d c u i=>zyR 1 rfl (zaf 3 u i rfl)
        refine za6 (k:=0) (vs:=[zI 3,zI r3.1.From]) (l':=[zI 3,zI r3.1.From]) zkm rfl rfl rfl rfl rfl (show _≤_ by simp) rfl rfl (zyN (zaG (zat (zao (zat (zao (zao (zat (zao (zd9 (by simp) (zd8 zdc zdb 106 ?_)))))))))))
        cases h
        exact zaK (rs:=[.tmp 2,.cell 3 60]) (.pointer none) (.inl rfl) Tryz.results22 (.cons (.tmp rfl) (.cons (.cells zmA (k:=0) rfl rfl rfl) .nil)) rfl (zad [8] kr rfl)
       refine zar (zag ?_)
       exact zal (r3.1.From,r3.1.To,zb8 text1 r3.1.From r3.1.To,b6) h rfl (za0 rfl) (zad [0,1,2,3,4,5,6,7] kr rfl)
      rintro ⟨span1,span2,line1,b5⟩ h
      rw [hj3] at h
      obtain ⟨j4,hj4,h⟩:=zbG h
      refine zaX (β:=(List Gapi_Span)×Hd) 2 rfl (fun b=>j4 b.1=some r) (fun b=>[]) (fun b=>[(0,.string text1),(3,zP b1),(4,zP b4),(6,zP b3),(7,.bool false),(10,zP b5),(13,.string line1),(14,zI (p15.length:Int)),(30,zI r2),(31,zI x3)]) (fun b=>[cells b1 [zI 0,zI 0] 60,cells b4 [.string p4.text,hd3.v,hd4.v] 153,zv4 hd3.v p4.places,zv3 hd4.v p4.lines,cells b3 [.string p14,hd10.v,b.2.v,.string text1] 106,zv6 hd10.v p15,zv7 b.2.v b.1,cells b5 [zI span1,zI span2] 38]) (fun cut => ?_) ?_
      ·
       refine zyG (zyR 1 rfl (zyH (zyR 1 rfl (zaD rfl dc rfl (zab zeZ rfl dc rfl (show _=0 from rfl) (zab zhN rfl dc rfl (show _=1 from rfl) (zau (k:=4) zqK rfl dc rfl rfl rfl (zbg (k:=5) rfl dc rfl rfl Tryz.underlying26 (zyR 1 rfl ?_)))))))))
       refine zyN (cut (zyG (zyR 1 rfl (zee rfl dc rfl zcN (zyN ?_)))))
       refine zyB rfl h (fun h => ?_) (fun h => ?_)
       ·
        refine zav (zyR 2 rfl (zaD rfl dc rfl (zab zeZ rfl dc rfl (show _=0 from rfl) (zab ziQ rfl dc rfl (show _=2 from rfl) (zau (k:=4) zpa rfl dc rfl rfl rfl (zyR 2 rfl ?_))))))
        refine zba (v:=.agg #[zI (p15.length:Int),zI (p15.length:Int)]) (ps:=[(0,.tmp 96),(1,.tmp 97)]) rfl dc rfl (fun _=>by kernel_rfl) ?_
        refine zaV (cs:=[zI (p15.length:Int),zI (p15.length:Int)]) (te:=38) (ps:=[(0,.tmp 98)]) rfl dc rfl (fun _=>by kernel_rfl) (fun b7 => ?_)
        obtain ⟨hg4,h⟩:=zbr h
        refine za4 (k:=6) (k2:=8) (ys:=[(⟨(p15.length:Int),(p15.length:Int)⟩:Gapi_Span)]) Tryz.underlying102 zm2 zbB zcp rfl dc rfl rfl rfl rfl rfl rfl hg4 (fun v2 => ?_)
        refine zby (k:=6) rfl (fun hd15 he1 => ?_)
        subst he1
        refine zaD rfl dc rfl (zab zeZ rfl dc rfl (show _=0 from rfl) (zab ziQ rfl dc rfl (show _=2 from rfl) ?_))
        refine zbb (k:=4) (l':=[.string p14,hd10.v,hd15.v,.string text1]) zvj rfl rfl rfl rfl rfl (fun _ _=>rfl) rfl ?_
        refine zaO ?_
        exact zal (p16++[(⟨(p15.length:Int),(p15.length:Int)⟩:Gapi_Span)],hd15) h rfl (za0 rfl) (zad [0,1,2,3,4,5,6,7] kr rfl)
       refine zar ?_
       exact zal (p16,hd11) h rfl (za0 rfl) (zad [0,1,2,3,4,5,6,7] kr rfl)
      rintro ⟨p20,hd14⟩ h
      rw [hj4] at h
      refine zyG (zyR 1 rfl (zyN (zaI ?_)))
      obtain ⟨hg5,h⟩:=zbr h
      obtain ⟨q1,hq8,h⟩:=zbi h
      refine zbn 12 [(0,104,zP b3),(1,105,zP b3),(2,106,zP b3),(3,107,.pointer (some ⟨b3,2,none⟩)),(4,108,hd14.v),(5,109,zP b3),(6,110,zP b3),(7,111,zP b3),(8,112,.pointer (some ⟨b3,2,none⟩)),(9,113,hd14.v),(10,114,zI (p20.length:Int)),(11,115,zI ((p20.length:Int) - 1))] mixed kr kr dc (by rfl) kr kr (zyP 1 0 rfl (zac ?_ (zac ?_ (zac ?_ (zac ?_ (zyP 1 5 rfl (zac ?_ (zac ?_ (zac ?_ (zac ?_ (zac ?_ (zac ?_ DrawPre.nil)))))))))))) ?_
      · exact fun D n d c u i=>zaD rfl dc (zaa (m:=0) u rfl (d 0 dc)) (zaf 1 u i rfl)
      · exact fun D n d c u i=>zab zeZ rfl dc (zaa (m:=1) u rfl (d 1 dc)) (show _=0 from rfl) (zaf 2 u i rfl)
      · exact fun D n d c u i=>zab ziQ rfl dc (zaa (m:=2) u rfl (d 2 dc)) (show _=2 from rfl) (zaf 3 u i rfl)
      · exact fun D n d c u i=>zau (k:=4) zpa rfl dc (zaa (m:=3) u rfl (d 3 dc)) rfl rfl (zaf 4 u i rfl)
      · exact fun D n d c u i=>zaD rfl dc (zaa (m:=5) u rfl (d 5 dc)) (zaf 6 u i rfl)
      · exact fun D n d c u i=>zab zeZ rfl dc (zaa (m:=6) u rfl (d 6 dc)) (show _=0 from rfl) (zaf 7 u i rfl)
      · exact fun D n d c u i=>zab ziQ rfl dc (zaa (m:=7) u rfl (d 7 dc)) (show _=2 from rfl) (zaf 8 u i rfl)
      · exact fun D n d c u i=>zau (k:=4) zpa rfl dc (zaa (m:=8) u rfl (d 8 dc)) rfl rfl (zaf 9 u i rfl)
      · exact fun D n d c u i=>zbg (k:=6) rfl dc (zaa (m:=9) u rfl (d 9 dc)) rfl Tryz.underlying102 (zaf 10 u i rfl)
      · exact fun D n d c u i=>zbz rfl dc (zaa (m:=10) u rfl (d 10 dc)) rfl (zbt (r:=(p20.length:Int) - 1) (IntWalk.i64_in _ hg5)) (zaf 11 u i rfl)
      refine zaj (k:=6) hq8 Tryz.underlying102 zkn rfl dc rfl rfl rfl rfl (zyR 1 rfl (zyH (zyR 1 rfl ?_)))
      obtain ⟨r7,hq9,h⟩:=zbi h
      refine zbD (v:=zI r7) (vs:=[.string line1]) rfl dc rfl rfl rfl zxo (zlz hq9) (zyR 1 rfl (zyN (zaI ?_)))
      obtain ⟨hg6,h⟩:=zbr h
      obtain ⟨hg7,h⟩:=zbr h
      obtain ⟨hg8,h⟩:=zbr h
      obtain ⟨hg9,h⟩:=zbr h
      obtain ⟨hg10,h⟩:=zbr h
      refine zgs 1 ?_
      refine let vals1:(Nat×Hd)→List (Nat×Nat×Value):=fun b=>[(0,119,zP b3),(1,120,zP b3),(2,121,zP b3),(3,122,zP b3),(4,123,.pointer (some ⟨b3,1,none⟩)),(5,124,hd10.v),(6,125,.string line1),(7,126,zI r7),(8,127,.string (zb8 line1 r7 (line1.size:Int))),(9,128,zI r7),(10,129,zP b3),(11,130,zP b3),(12,131,zP b3),(13,132,.pointer (some ⟨b3,2,none⟩)),(14,133,hd14.v),(15,134,zI (p20.length:Int)),(16,135,zI ((p20.length:Int) - 1)),(17,136,zI (p15.length:Int)),(18,137,.pointer (some ⟨zbY hd14.v,((p20.length:Int) - 1:Int).toNat*2,none⟩)),(19,138,.pointer (some ⟨zbY hd14.v,((p20.length:Int) - 1:Int).toNat*2,none⟩)),(20,139,.pointer (some ⟨zbY hd14.v,(((p20.length:Int) - 1:Int).toNat)*2,none⟩)),(21,140,zI q1.From),(22,141,zI ((p15.length:Int) - q1.From)),(23,142,zP b5),(24,143,zI span1),(25,144,zI r7),(26,145,zI (span1+r7)),(27,146,.pointer (some ⟨b5,1,none⟩)),(28,147,zI span2),(29,148,.agg #[zI (span1+r7),zI span2]),(30,149,.agg #[.string (zb8 line1 r7 (line1.size:Int)),zI r7,zI ((p20.length:Int) - 1),zI ((p15.length:Int) - q1.From),zI (span1+r7),zI span2]),(31,150,.slice (some ⟨b.1,0,none⟩) 1 1),(32,151,b.2.v)]; let LL1:(Nat→Prop)→(Nat×Hd)→List Asn:=fun D b=>[cells b1 [zI 0,zI 0] 60,cells b4 [.string p4.text,hd3.v,hd4.v] 153,zv4 hd3.v p4.places,zv3 hd4.v p4.lines,cells b3 [.string p14,hd10.v,hd14.v,.string text1] 106,eD D (zv6 hd10.v p15) [(32,zv6 b.2.v (p15++[(⟨zb8 line1 r7 (line1.size:Int),r7,(p20.length:Int) - 1,(p15.length:Int) - q1.From,span1+r7,span2⟩:Gapi_Verse)]))],zv7 hd14.v p20,cells b5 [zI span1,zI span2] 38,eD D emp [(31,cells b.1 [.string (zb8 line1 r7 (line1.size:Int)),zI r7,zI ((p20.length:Int) - 1),zI ((p15.length:Int) - q1.From),zI (span1+r7),zI span2] 76)]]; ?_
      have zhq:zyQ [31,32] LL1:=fun i h D b=>zae rfl (zae rfl (zae rfl (zae rfl (zae rfl (zae (zjY rfl h) (zae rfl (zae rfl (zae (zjY rfl h) rfl))))))))
      refine zd3 (β:=Nat×Hd) 33 ((0:Nat),Hd.nil) vals1 LL1 mixed kr kr dc (fun _=>rfl) (zog (zae zb7 (zdh (zae zb7 rfl)))) (zmg zhq (fun _=>rfl) (fun _=>rfl) 2 0 (fun _=>rfl) rfl (zyq zhq rfl (fun _=>rfl) (fun _=>rfl) ?_ (zyq zhq rfl (fun _=>rfl) (fun _=>rfl) ?_ (zyq zhq rfl (fun _=>rfl) (fun _=>rfl) ?_ (zi5 zhq rfl (fun _=>rfl) (fun _=>rfl) ?_ (zmg zhq (fun _=>rfl) (fun _=>rfl) 2 6 (fun _=>rfl) rfl (zi5 zhq rfl (fun _=>rfl) (fun _=>rfl) ?_ (zmg zhq (fun _=>rfl) (fun _=>rfl) 2 9 (fun _=>rfl) rfl (zyq zhq rfl (fun _=>rfl) (fun _=>rfl) ?_ (zyq zhq rfl (fun _=>rfl) (fun _=>rfl) ?_ (zyq zhq rfl (fun _=>rfl) (fun _=>rfl) ?_ (zi5 zhq rfl (fun _=>rfl) (fun _=>rfl) ?_ (zi5 zhq rfl (fun _=>rfl) (fun _=>rfl) ?_ (zyq zhq rfl (fun _=>rfl) (fun _=>rfl) ?_ (zmg zhq (fun _=>rfl) (fun _=>rfl) 2 17 (fun _=>rfl) rfl (zyq zhq rfl (fun _=>rfl) (fun _=>rfl) ?_ (zyq zhq rfl (fun _=>rfl) (fun _=>rfl) ?_ (zi5 zhq rfl (fun _=>rfl) (fun _=>rfl) ?_ (zyq zhq rfl (fun _=>rfl) (fun _=>rfl) ?_ (zyq zhq rfl (fun _=>rfl) (fun _=>rfl) ?_ (zi5 zhq rfl (fun _=>rfl) (fun _=>rfl) ?_ (zmg zhq (fun _=>rfl) (fun _=>rfl) 1 25 (fun _=>rfl) rfl (zyq zhq rfl (fun _=>rfl) (fun _=>rfl) ?_ (zyq zhq rfl (fun _=>rfl) (fun _=>rfl) ?_ (zi5 zhq rfl (fun _=>rfl) (fun _=>rfl) ?_ (zyq zhq rfl (fun _=>rfl) (fun _=>rfl) ?_ (zyq zhq rfl (fun _=>rfl) (fun _=>rfl) ?_ (zaB ?_ (zaB ?_ DrawG.nil))))))))))))))))))))))))))))) ?_
      · exact fun D ⟨b8,hd16⟩ n d c u i=>zaD rfl dc (zaa (m:=1) u rfl (d 1 dc)) (zaf 2 u i rfl)
      · exact fun D ⟨b8,hd16⟩ n d c u i=>zab zeZ rfl dc (zaa (m:=2) u rfl (d 2 dc)) (show _=0 from rfl) (zaf 3 u i rfl)
      · exact fun D ⟨b8,hd16⟩ n d c u i=>zab zhN rfl dc (zaa (m:=3) u rfl (d 3 dc)) (show _=1 from rfl) (zaf 4 u i rfl)
      · exact fun D ⟨b8,hd16⟩ n d c u i=>⟨_,(zog (zae (zak (fun hD=>n (c 32 _ rfl hD 5 dc)) zaq) (zcK rfl))),zau (k:=4) zqK rfl dc (zaa (m:=4) u rfl (d 4 dc)) rfl rfl (zaf 5 u i rfl)⟩
      · exact fun D ⟨b8,hd16⟩ n d c u i=>⟨_,(zog (zae (zak (fun hD=>n (c 30 _ rfl (c 31 _ rfl (c 32 _ rfl hD 31 dc) 30 dc) 8 dc)) zaq) (zdh (zae (zak (fun hD=>n (c 30 _ rfl (c 31 _ rfl hD 30 dc) 8 dc)) zaq) rfl)))),zdG rfl dc (zaa (m:=6) u rfl (d 6 dc)) (evO.some (zaa (m:=7) u rfl (d 7 dc))) zm0 (zce (i:=r7) (j:=(line1.size:Int)) Tryz.underlying9 (.inr rfl) (.inl ⟨rfl,rfl⟩) hg6) (zaf 8 u i rfl)⟩
      · exact fun D ⟨b8,hd16⟩ n d c u i=>zaD rfl dc (zaa (m:=10) u rfl (d 10 dc)) (zaf 11 u i rfl)
      · exact fun D ⟨b8,hd16⟩ n d c u i=>zab zeZ rfl dc (zaa (m:=11) u rfl (d 11 dc)) (show _=0 from rfl) (zaf 12 u i rfl)
      · exact fun D ⟨b8,hd16⟩ n d c u i=>zab ziQ rfl dc (zaa (m:=12) u rfl (d 12 dc)) (show _=2 from rfl) (zaf 13 u i rfl)
      · exact fun D ⟨b8,hd16⟩ n d c u i=>⟨_,(zog (zae (zak (fun hD=>n (c 15 _ rfl (c 16 _ rfl (c 30 _ rfl (c 31 _ rfl (c 32 _ rfl hD 31 dc) 30 dc) 16 dc) 15 dc) 14 dc)) zaq) (zdh (zae (zak (fun hD=>n (c 15 _ rfl (c 16 _ rfl (c 30 _ rfl (c 31 _ rfl hD 30 dc) 16 dc) 15 dc) 14 dc)) zaq) rfl)))),zau (k:=4) zpa rfl dc (zaa (m:=13) u rfl (d 13 dc)) rfl rfl (zaf 14 u i rfl)⟩
      · exact fun D ⟨b8,hd16⟩ n d c u i=>⟨_,(zog (zae (zak (fun hD=>n (c 16 _ rfl (c 30 _ rfl (c 31 _ rfl (c 32 _ rfl hD 31 dc) 30 dc) 16 dc) 15 dc)) zaq) (zdh (zae (zak (fun hD=>n (c 16 _ rfl (c 30 _ rfl (c 31 _ rfl hD 30 dc) 16 dc) 15 dc)) zaq) rfl)))),zbg (k:=6) rfl dc (zaa (m:=14) u rfl (d 14 dc)) rfl Tryz.underlying102 (zaf 15 u i rfl)⟩
      · exact fun D ⟨b8,hd16⟩ n d c u i=>zbz rfl dc (zaa (m:=15) u rfl (d 15 dc)) rfl (zbt (r:=(p20.length:Int) - 1) (IntWalk.i64_in _ hg7)) (zaf 16 u i rfl)
      · exact fun D ⟨b8,hd16⟩ n d c u i=>zaD rfl dc (zaa (m:=18) u rfl (d 18 dc)) (zaf 19 u i rfl)
      · exact fun D ⟨b8,hd16⟩ n d c u i=>zab zdt rfl dc (zaa (m:=19) u rfl (d 19 dc)) (show _=(((p20.length:Int) - 1:Int).toNat)*2 from rfl) (zaf 20 u i rfl)
      · exact fun D ⟨b8,hd16⟩ n d c u i=>⟨_,(zog (zae (zak (fun hD=>n (c 22 _ rfl (c 30 _ rfl (c 31 _ rfl (c 32 _ rfl hD 31 dc) 30 dc) 22 dc) 21 dc)) zaq) (zdh (zae (zak (fun hD=>n (c 22 _ rfl (c 30 _ rfl (c 31 _ rfl hD 30 dc) 22 dc) 21 dc)) zaq) rfl)))),zaA (i:=((p20.length:Int) - 1:Int).toNat) (j:=0) (k:=6) (q:=q1) zbp zbB rfl dc (zaa (m:=20) u rfl (d 20 dc)) rfl (zaz hq8) rfl dc rfl (zaf 21 u i rfl)⟩
      · exact fun D ⟨b8,hd16⟩ n d c u i=>zbz rfl dc (zaa (m:=17) u rfl (d 17 dc)) (zaa (m:=21) u rfl (d 21 dc)) (zbt (r:=(p15.length:Int) - q1.From) (IntWalk.i64_in _ hg8)) (zaf 22 u i rfl)
      · exact fun D ⟨b8,hd16⟩ n d c u i=>zab zdt rfl dc (zbe (by rfl) rfl) (show _=0 from rfl) (zaf 23 u i rfl)
      · exact fun D ⟨b8,hd16⟩ n d c u i=>⟨_,(zog (zae (zak (fun hD=>n (c 26 _ rfl (c 29 _ rfl (c 30 _ rfl (c 31 _ rfl (c 32 _ rfl hD 31 dc) 30 dc) 29 dc) 26 dc) 24 dc)) zaq) (zdh (zae (zak (fun hD=>n (c 26 _ rfl (c 29 _ rfl (c 30 _ rfl (c 31 _ rfl hD 30 dc) 29 dc) 26 dc) 24 dc)) zaq) rfl)))),zau (k:=7) zbp rfl dc (zaa (m:=23) u rfl (d 23 dc)) rfl rfl (zaf 24 u i rfl)⟩
      · exact fun D ⟨b8,hd16⟩ n d c u i=>zbz rfl dc (zaa (m:=24) u rfl (d 24 dc)) (zaa (m:=25) u rfl (d 25 dc)) (zaR (r:=span1+r7) (IntWalk.i64_in _ hg9)) (zaf 26 u i rfl)
      · exact fun D ⟨b8,hd16⟩ n d c u i=>zab zdZ rfl dc (zbe (by rfl) rfl) (show _=1 from rfl) (zaf 27 u i rfl)
      · exact fun D ⟨b8,hd16⟩ n d c u i=>⟨_,(zog (zae (zak (fun hD=>n (c 29 _ rfl (c 30 _ rfl (c 31 _ rfl (c 32 _ rfl hD 31 dc) 30 dc) 29 dc) 28 dc)) zaq) (zdh (zae (zak (fun hD=>n (c 29 _ rfl (c 30 _ rfl (c 31 _ rfl hD 30 dc) 29 dc) 28 dc)) zaq) rfl)))),zau (k:=7) zbp rfl dc (zaa (m:=27) u rfl (d 27 dc)) rfl rfl (zaf 28 u i rfl)⟩
      · exact fun D ⟨b8,hd16⟩ n d c u i=>zba (v:=.agg #[zI (span1+r7),zI span2]) (ps:=[(0,.tmp 145),(1,.tmp 147)]) rfl dc (evP.cons (zaa (m:=26) u rfl (d 26 dc)) (evP.cons (zaa (m:=28) u rfl (d 28 dc)) evP.nil)) (fun _=>by kernel_rfl) (zaf 29 u i rfl)
      · exact fun D ⟨b8,hd16⟩ n d c u i=>zba (v:=.agg #[.string (zb8 line1 r7 (line1.size:Int)),zI r7,zI ((p20.length:Int) - 1),zI ((p15.length:Int) - q1.From),zI (span1+r7),zI span2]) (ps:=[(0,.tmp 127),(1,.tmp 128),(2,.tmp 135),(3,.tmp 141),(4,.tmp 148)]) rfl dc (evP.cons (zaa (m:=8) u rfl (d 8 dc)) (evP.cons (zaa (m:=9) u rfl (d 9 dc)) (evP.cons (zaa (m:=16) u rfl (d 16 dc)) (evP.cons (zaa (m:=22) u rfl (d 22 dc)) (evP.cons (zaa (m:=29) u rfl (d 29 dc)) evP.nil))))) (fun _=>by kernel_rfl) (zaf 30 u i rfl)
      ·
       intro D b hn hd hcl
       obtain ⟨zb0,hd16⟩:=b
       refine zaL (zog (zae (zak (fun hD=>hn (hcl 32 _ rfl hD 31 dc)) zaq) (zdh (zae (zak hn zaq) rfl)))) ?_
       refine zaV (cs:=[.string (zb8 line1 r7 (line1.size:Int)),zI r7,zI ((p20.length:Int) - 1),zI ((p15.length:Int) - q1.From),zI (span1+r7),zI span2]) (te:=76) (ps:=[(0,.tmp 149)]) rfl dc (evP.cons (zaa (m:=30) rfl rfl (hd 30 dc)) evP.nil) (fun _=>by kernel_rfl) (fun b8 => ?_)
       refine zcU 8 rfl rfl ?_
       exact zaW (b:=(zb0,hd16)) (b8,hd16) 31 (by rfl) (by rfl) rfl (zjP (zcL (zcL (zas (fun hD=>absurd hD hn) (zas (fun _=>rfl) rfl))))) (zog (zae ((zap (by rfl)).trans (zak (fun hD=>hn (hcl 32 _ rfl hD 31 dc)) zaq)) (zdh (zae (zaM (Or.inr rfl) rfl) rfl))))
      ·
       intro D b hn hd hcl
       obtain ⟨b8,zb1⟩:=b
       refine zaL (zog (zae (zak hn zaq) (zdh (zae (zaM (hd 31 dc) rfl) rfl)))) ?_
       refine za4 (k:=5) (k2:=8) (ys:=[(⟨zb8 line1 r7 (line1.size:Int),r7,(p20.length:Int) - 1,(p15.length:Int) - q1.From,span1+r7,span2⟩:Gapi_Verse)]) Tryz.underlying26 zwe zdR zgz rfl dc (zaa (m:=5) rfl rfl (hd 5 dc)) (zaa (m:=31) rfl rfl (hd 31 dc)) rfl rfl rfl rfl hg10 (fun v3 => ?_)
       refine zby (k:=5) rfl (fun hd16 he2 => ?_)
       subst he2
       exact zaW (b:=(b8,zb1)) (b8,hd16) 32 (by rfl) (by rfl) rfl (zi6 (zcL (zcL (zas (fun hD=>absurd hD hn) rfl)))) (zog (zae (zaM (Or.inr rfl) rfl) (zdh (zae ((zap (by rfl)).trans (zaM (hd 31 dc) rfl)) rfl))))
      intro D b hall
      obtain ⟨b8,hd16⟩:=b
      refine zaL (zog (zae (zaM (hall 32 dc) rfl) (zdh (zae (zaM (hall 31 dc) rfl) rfl)))) (zaD rfl dc rfl (zab zeZ rfl dc rfl (show _=0 from rfl) (zab zhN rfl dc rfl (show _=1 from rfl) ?_)))
      refine zbb (k:=4) (l':=[.string p14,hd16.v,hd14.v,.string text1]) zwR rfl rfl rfl rfl rfl (fun _ _=>rfl) rfl ?_
      refine zyN (zav (zyR 2 rfl ?_))
      obtain ⟨hg11,h⟩:=zbr h
      refine zaU rfl (zaR (r:=(p15.length:Int)+1) (IntWalk.i64_in _ hg11)) (zaD rfl dc rfl (zab zdZ rfl dc rfl (show _=(((p20.length:Int) - 1:Int).toNat)*2+1 from rfl) ?_))
      refine zbv (i:=((p20.length:Int) - 1:Int).toNat) (j:=1) (k:=6) (q:=q1) (q':=(⟨q1.From,(p15.length:Int)+1⟩:Gapi_Span)) zcs zbB rfl rfl rfl rfl (zaz hq8) rfl dc rfl (fun _ _=>rfl) ?_
      refine zaO (zag ?_)
      exact zal (p14,p15++[(⟨zb8 line1 r7 (line1.size:Int),r7,(p20.length:Int) - 1,(p15.length:Int) - q1.From,span1+r7,span2⟩:Gapi_Verse)],p20.set ((p20.length:Int) - 1:Int).toNat (⟨q1.From,(p15.length:Int)+1⟩:Gapi_Span),false,true,hd16,hd14) h rfl (za0 rfl) (zad [0,1,2,3,4,5,6] kr rfl)
     rintro ⟨p17,p18,p19,first4,row4,hd12,hd13⟩ h
     rw [hj2] at h
     refine zav ?_
     obtain ⟨hg12,h⟩:=zbr h
     refine zaU rfl (zaR (r:=x3+1) (IntWalk.i64_in _ hg12)) (zyR 1 rfl (zaO ?_))
     subst hag1
     exact za1 (n1,p17,p18,p19,first4,row4,x3+1,hd12,hd13) h (Nat.lt_succ_self _) rfl (za0 rfl) (zad [0,1,2,3,4,5,6] kr rfl)
    refine za3 (zan (zan (zax ?_)))
    exact zal (p14,p15,p16,b3,hd10,hd11) h rfl (za0 rfl) (zad [0,4,5,6] kr rfl)
  rintro ⟨p1,p2,p3,b2,hd1,hd2⟩ h
  rw [hj1] at h
  refine zyG (zyR 1 rfl ?_)
  refine zba (v:=.agg #[zI 0,zI 0]) (ps:=[]) rfl dc rfl (fun _=>by kernel_rfl) ?_
  refine zyR 1 rfl (za6 (k:=0) (vs:=[zI 0,zI 0]) (l':=[zI 0,zI 0]) zkm rfl rfl rfl rfl rfl (show _≤_ by simp) rfl rfl (zyN (zaG (zd9 (by simp) ?_))))
  refine zoM (As:=[cells b2 [.string p1,hd1.v,hd2.v,.string text1] 106,zv6 hd1.v p2,zv7 hd2.v p3]) (zad [1,2,3] kr rfl) (zjz (enc:=zdc) (nest:=zdb) (t:=106) (x:=(⟨p1,p2,p3,text1⟩:Gpoem_Poem)) (b:=b2) (hd:=(hd1,hd2))) (fun _ _ => ?_)
  cases h
  exact zaK (rs:=[.tmp 2,.cell 3 60]) (zP b2) (.inl rfl) Tryz.results22 (.cons (.tmp rfl) (.cons (.cells zmA (k:=0) rfl rfl rfl) .nil)) rfl (zad [4] kr rfl)
 exact fun b hb=>hb.elim
end Go.Proofs.YtbempdelckaccaaGreatDoor

namespace Go.Proofs.YtbempdelckaccaaGreatDoor
open Go.RowKit Go.Lib
set_option linter.unusedVariables false
set_option linter.unusedSimpArgs false
def zc3 (s1:ByteArray) (j1:ByteArray→(List (List ByteArray))→(List Gapi_Verse)→Option (Gref17_Poem×(List Gapi_Verse)×Gapi_Spot)) (r1:(List Gapi_Span)) (ag1:ByteArray→(List (List ByteArray))→(List Gapi_Verse)→Bool→Bool→Int→Option (Gref17_Poem×(List Gapi_Verse)×Gapi_Spot)) (p10:ByteArray) (p11:List (List ByteArray)) (l4:List Gapi_Verse) (first3:Bool) (row3:Bool) (i3:Int):Option (Gref17_Poem×(List Gapi_Verse)×Gapi_Spot) :=
zay (decide ((i3:Int)<(r1.length:Int))) (
zbk (fun (j2:ByteArray→(List (List ByteArray))→(List Gapi_Verse)→Bool→Bool→Option (Gref17_Poem×(List Gapi_Verse)×Gapi_Spot)) =>
zah (zbm r1 i3) fun (q1:Gapi_Span) =>
grd (0≤(q1.From:Int)∧(q1.From:Int)≤q1.To∧(q1.To:Int)≤(s1.size:Int)) <|
zah (zeH (zb8 s1 q1.From q1.To)) fun (r2:Bool) =>
zay (r2) (
j2 p10 p11 l4 first3 false
) (
zay (decide ((1024:Int)<((zb8 s1 q1.From q1.To).size:Int))) (
grd (I64 (q1.From+1024)) <|
some ((⟨ByteArray.empty,([]:List (List ByteArray))⟩:Gref17_Poem),([]:List Gapi_Verse),(⟨3,q1.From+1024⟩:Gapi_Spot))
) (
zbk (fun (j3:Option (Gref17_Poem×(List Gapi_Verse)×Gapi_Spot)) =>
zay (first3) (
zah (zeQ (zb8 s1 q1.From q1.To)) fun (r3:Bool) =>
zay (r3) (
zbk (fun (j4:ByteArray→Option (Gref17_Poem×(List Gapi_Verse)×Gapi_Spot)) =>
zay (decide ((2:Int)<((zb8 s1 q1.From q1.To).size:Int))) (
grd (0≤(2:Int)∧(2:Int)≤((zb8 s1 q1.From q1.To).size:Int)∧(((zb8 s1 q1.From q1.To).size:Int):Int)≤((zb8 s1 q1.From q1.To).size:Int)) <|
j4 (zb8 (zb8 s1 q1.From q1.To) 2 ((zb8 s1 q1.From q1.To).size:Int))
) (
j4 p10
)
) (fun (p14:ByteArray) =>
j2 p14 p11 l4 false row3
)
) (
j3
)
) (
j3
)
) (
zay (((l4.length:Int):Int)==512) (
some ((⟨ByteArray.empty,([]:List (List ByteArray))⟩:Gref17_Poem),([]:List Gapi_Verse),(⟨3,q1.From⟩:Gapi_Spot))
) (
zbk (fun (j5:(List (List ByteArray))→Option (Gref17_Poem×(List Gapi_Verse)×Gapi_Spot)) =>
zay (!row3) (
grd (p11.length+1≤2147483648) <|
j5 (p11++[([]:List ByteArray)])
) (
j5 p11
)
) (fun (p15:List (List ByteArray)) =>
grd (I64 ((p15.length:Int) - 1)) <|
zah (zcc (zb8 s1 q1.From q1.To)) fun (r4:Int) =>
grd (0≤(r4:Int)∧(r4:Int)≤((zb8 s1 q1.From q1.To).size:Int)∧(((zb8 s1 q1.From q1.To).size:Int):Int)≤((zb8 s1 q1.From q1.To).size:Int)) <|
zah (zcc (zb8 s1 q1.From q1.To)) fun (r5:Int) =>
zah (zbm p15 ((p15.length:Int) - 1)) fun (x1:List ByteArray) =>
zah (zcc (zb8 s1 q1.From q1.To)) fun (r6:Int) =>
grd (I64 (q1.From+r6)) <|
grd (l4.length+1≤2147483648) <|
zah (zbm p15 ((p15.length:Int) - 1)) fun (x2:List ByteArray) =>
grd (x2.length+1≤2147483648) <|
j2 p10 (p15.set ((p15.length:Int) - 1:Int).toNat (x2++[zb8 s1 q1.From q1.To])) (l4++[(⟨zb8 (zb8 s1 q1.From q1.To) r4 ((zb8 s1 q1.From q1.To).size:Int),r5,(p15.length:Int) - 1,(x1.length:Int),q1.From+r6,q1.To⟩:Gapi_Verse)]) false true
)
)
)
)
)
) (fun (p12:ByteArray) (p13:List (List ByteArray)) (l5:List Gapi_Verse) (first4:Bool) (row4:Bool) =>
grd (I64 (i3+1)) <|
ag1 p12 p13 l5 first4 row4 (i3+1)
)
) (
j1 p10 p11 l4
)
def zfQ (s1:ByteArray):Option (Gref17_Poem×(List Gapi_Verse)×Gapi_Spot) :=
zay (decide ((65536:Int)<(s1.size:Int))) (
some ((⟨ByteArray.empty,([]:List (List ByteArray))⟩:Gref17_Poem),([]:List Gapi_Verse),(⟨3,65536⟩:Gapi_Spot))
) (
zbk (fun (j1:ByteArray→(List (List ByteArray))→(List Gapi_Verse)→Option (Gref17_Poem×(List Gapi_Verse)×Gapi_Spot)) =>
zah (zfj s1) fun (r1:(List Gapi_Span)) =>
zaE (fun _ _ _ _ _ _=>none) (zc3 s1 j1 r1) zbN ByteArray.empty ([]:List (List ByteArray)) ([]:List Gapi_Verse) true false 0
) (fun (p1:ByteArray) (p2:List (List ByteArray)) (l1:List Gapi_Verse) =>
some ((⟨p1,p2⟩:Gref17_Poem),l1,(⟨0,0⟩:Gapi_Spot))
)
)
theorem zmN {s1:ByteArray} {r:(Gref17_Poem×(List Gapi_Verse)×Gapi_Spot)} (h:zfQ s1=some r):Fn Tryz.prog 68 [.string s1] [] (fun b:Hd×Value=>.tuple #[.agg #[.string r.1.Title,b.1.v],b.2,.agg (zr6 r.2.2).toArray]) (fun b=>[zgc zbL zbK 70 1 b.1.v r.1.Stanzas,zv6 b.2 r.2.1]):=by
 unfold zfQ at h
 refine Fn.intro Tryz.func68 rfl Tryz.ntmps68 (by simp) ?_
 intro w0 K
 refine zyG ?_
 refine zbE zqg rfl dc (fun b1 => ?_)
 refine zyR 1 rfl ?_
 refine zbE zr9 rfl dc (fun b2 => ?_)
 refine zyH ?_
 refine zbE zqg rfl dc (fun b3 => ?_)
 refine zyH (zyR 1 rfl (zyN (zaI (zyG (zyR 1 rfl (zcg rfl dc rfl Tryz.underlying9 (zaU rfl zct (zaO ?_))))))))
 refine zaH ?_
 refine zyB rfl h (fun h => ?_) (fun h => ?_)
 ·
  refine zyG (zbd (k:=2) (cs:=[.string ByteArray.empty,.slice none 0 0]) zlR rfl dc rfl rfl rfl rfl ?_)
  refine zba (v:=.agg #[zI 3,zI 65536]) (ps:=[(0,.const (zI 3)),(1,.const (zI 65536))]) rfl dc rfl (fun _=>by kernel_rfl) ?_
  refine za6 (k:=0) (vs:=[.string ByteArray.empty,.slice none 0 0]) (l':=[.string ByteArray.empty,.slice none 0 0]) znp rfl rfl rfl rfl rfl (show _≤_ by simp) rfl rfl ?_
  refine zyR 1 rfl (za6 (k:=1) (vs:=[zI 3,zI 65536]) (l':=[zI 3,zI 65536]) zkm rfl rfl rfl rfl rfl (show _≤_ by simp) rfl rfl (zyN (zaG (zao (zoL (enc:=zbL) (nest:=zbK) (e:=70) (size:=1) ?_)))))
  refine zdq (enc:=zbF) (e:=76) (size:=6) ?_
  cases h
  exact zaK (rs:=[.cell 2 135,.tmp 3,.cell 4 60]) (Hd.nil,(.slice none 0 0)) (.inl rfl) Tryz.results68 (.cons (.cells zlR (k:=0) rfl rfl rfl) (.cons (.tmp rfl) (.cons (.cells zmA (k:=1) rfl rfl rfl) .nil))) rfl (zad [3,4] kr rfl)
 refine zar (zaH ?_)
 obtain ⟨j1,hj1,h⟩:=zbG h
 refine zaX (β:=ByteArray×(List (List ByteArray))×(List Gapi_Verse)×Hd×Hd) 2 rfl (fun b=>j1 b.1 b.2.1 b.2.2.1=some r) (fun b=>[]) (fun b=>[(2,zP b1),(4,zP b2),(5,zP b3),(6,b.2.2.2.2.v)]) (fun b=>[cells b1 [.string ByteArray.empty,.slice none 0 0] 135,cells b2 [zI 0,zI 0] 60,cells b3 [.string b.1,b.2.2.2.1.v] 135,zgc zbL zbK 70 1 b.2.2.2.1.v b.2.1,zv6 b.2.2.2.2.v b.2.2.1]) (fun cut => ?_) ?_
 ·
  refine zyG (zyR 1 rfl ?_)
  obtain ⟨r1,hq1,h⟩:=zbi h
  refine zes (vs:=[.string s1]) rfl dc rfl rfl rfl zw5 (zlu hq1) Splits.nil ?_
  rintro v1
  refine zby (k:=3) rfl (fun hd3 he1 => ?_)
  subst he1
  refine zyR 1 rfl (zyH (zyR 2 rfl (zyN (cut (zyG (zyR 1 rfl (zaO ?_)))))))
  refine zaH (zaF (zrQ (enc:=zbL) (nest:=zbK) (e:=70) (size:=1) ?_))
  refine zcR (enc:=zbF) (e:=76) (size:=6) ?_
  refine zbj (β:=Nat×ByteArray×(List (List ByteArray))×(List Gapi_Verse)×Bool×Bool×Int×Hd×Hd) (fun b=>zaE (fun _ _ _ _ _ _=>none) (zc3 s1 j1 r1) b.1 b.2.1 b.2.2.1 b.2.2.2.1 b.2.2.2.2.1 b.2.2.2.2.2.1 b.2.2.2.2.2.2.1=some r) (fun b=>[]) (fun b=>[(0,.string s1),(2,zP b1),(4,zP b2),(5,zP b3),(6,b.2.2.2.2.2.2.2.2.v),(7,hd3.v),(8,.bool b.2.2.2.2.1),(9,.bool b.2.2.2.2.2.1),(10,zI b.2.2.2.2.2.2.1)]) (fun b=>[cells b1 [.string ByteArray.empty,.slice none 0 0] 135,cells b2 [zI 0,zI 0] 60,cells b3 [.string b.2.1,b.2.2.2.2.2.2.2.1.v] 135,zgc zbL zbK 70 1 b.2.2.2.2.2.2.2.1.v b.2.2.1,zv6 b.2.2.2.2.2.2.2.2.v b.2.2.2.1,zv7 hd3.v r1]) (fun b=>b.1) (zbN,ByteArray.empty,([]:List (List ByteArray)),([]:List Gapi_Verse),true,false,0,Hd.nil,Hd.nil) h rfl (za0 rfl) (zad [0,1,2,4,5,3] kr rfl) ?_
  rintro ⟨n1,p10,p11,l4,first3,row3,i3,hd9,hd10⟩ h
  cases n1 with
  | zero=>exact zdp h
  | succ n1 =>
   obtain ⟨ag1,hag1⟩:∃ ag,ag=zaE (fun _ _ _ _ _ _=>none) (zc3 s1 j1 r1) n1:=⟨_,rfl⟩
   have h:zc3 s1 j1 r1 ag1 p10 p11 l4 first3 row3 i3=some r:=by rw [hag1]; exact h
   unfold zc3 at h
   refine zaI (zyG (zyR 2 rfl (zbg (k:=5) rfl dc rfl rfl Tryz.underlying102 (zaU rfl zbc (zyN ?_)))))
   refine zyB rfl h (fun h => ?_) (fun h => ?_)
   ·
    refine zar (zaH ?_)
    obtain ⟨j2,hj2,h⟩:=zbG h
    refine zaX (β:=ByteArray×(List (List ByteArray))×(List Gapi_Verse)×Bool×Bool×Hd×Hd) 0 rfl (fun b=>j2 b.1 b.2.1 b.2.2.1 b.2.2.2.1 b.2.2.2.2.1=some r) (fun b=>[]) (fun b=>[(0,.string s1),(2,zP b1),(4,zP b2),(5,zP b3),(6,b.2.2.2.2.2.2.v),(7,hd3.v),(8,.bool b.2.2.2.1),(9,.bool b.2.2.2.2.1),(10,zI i3)]) (fun b=>[cells b1 [.string ByteArray.empty,.slice none 0 0] 135,cells b2 [zI 0,zI 0] 60,cells b3 [.string b.1,b.2.2.2.2.2.1.v] 135,zgc zbL zbK 70 1 b.2.2.2.2.2.1.v b.2.1,zv6 b.2.2.2.2.2.2.v b.2.2.1,zv7 hd3.v r1]) (fun cut => ?_) ?_
    ·
     refine cut (zaF (zyG (zyR 2 rfl ?_)))
     obtain ⟨q1,hq2,h⟩:=zbi h
     refine zaj (k:=5) hq2 Tryz.underlying102 zkn rfl dc rfl rfl rfl rfl (zcQ (i:=(i3:Int).toNat) (j:=0) (k:=5) (q:=q1) (cs:=(zr5 q1)) znw zbB rfl dc rfl rfl (zaz hq2) rfl rfl rfl ?_)
     refine zbE zqf rfl dc (fun b4 => ?_)
     refine za6 (k:=6) (vs:=(zr5 q1)) (l':=(zr5 q1)) zkn rfl rfl rfl rfl rfl (show _≤_ by simp) rfl rfl ?_
     refine zyH (zyR 1 rfl (zab zdt rfl dc rfl (show _=0 from rfl) (zau (k:=6) zbp rfl dc rfl rfl rfl (zab zdZ rfl dc rfl (show _=1 from rfl) (zau (k:=6) zbp rfl dc rfl rfl rfl ?_)))))
     obtain ⟨hg1,h⟩:=zbr h
     refine zdG rfl dc rfl rfl rfl (zce (i:=q1.From) (j:=q1.To) Tryz.underlying9 (.inr rfl) (.inr rfl) hg1) (zyR 1 rfl (zyN (zaI (zyG (zyR 1 rfl ?_)))))
     obtain ⟨r2,hq3,h⟩:=zbi h
     refine zbD (v:=.bool r2) (vs:=[.string (zb8 s1 q1.From q1.To)]) rfl dc rfl rfl rfl zw4 (zlv hq3) (zyN ?_)
     refine zyB rfl h (fun h => ?_) (fun h => ?_)
     ·
      refine zyG (zyR 1 rfl (zyN (za3 (zan (zax ?_)))))
      exact zal (p10,p11,l4,first3,false,hd9,hd10) h rfl (za0 rfl) (zad [0,1,2,3,4,5] kr rfl)
     refine zar (zaH (zaI (zyG (zyR 1 rfl (zcg rfl dc rfl Tryz.underlying9 (zaU rfl zct (zyN ?_)))))))
     refine zyB rfl h (fun h => ?_) (fun h => ?_)
     ·
      refine zaI ?_
      obtain ⟨hg2,h⟩:=zbr h
      refine zbn 7 [(0,43,.agg #[.string ByteArray.empty,.slice none 0 0]),(1,44,zP b4),(2,45,zI q1.From),(3,46,zI (q1.From+1024)),(4,47,.agg #[zI 3,zI (q1.From+1024)]),(6,3,.slice none 0 0)] mixed kr kr dc (by rfl) kr kr (zac ?_ (zac ?_ (zac ?_ (zac ?_ (zac ?_ (zac ?_ (zac ?_ DrawPre.nil))))))) ?_
      · exact fun D n d c u i=>zba (v:=.agg #[.string ByteArray.empty,.slice none 0 0]) (ps:=[]) rfl dc evP.nil (fun _=>by kernel_rfl) (zaf 0 u i rfl)
      · exact fun D n d c u i=>zab zdt rfl dc (zbe (by rfl) rfl) (show _=0 from rfl) (zaf 1 u i rfl)
      · exact fun D n d c u i=>zau (k:=6) zbp rfl dc (zaa (m:=1) u rfl (d 1 dc)) rfl rfl (zaf 2 u i rfl)
      · exact fun D n d c u i=>zbz rfl dc (zaa (m:=2) u rfl (d 2 dc)) rfl (zaR (r:=q1.From+1024) (IntWalk.i64_in _ hg2)) (zaf 3 u i rfl)
      · exact fun D n d c u i=>zba (v:=.agg #[zI 3,zI (q1.From+1024)]) (ps:=[(0,.const (zI 3)),(1,.tmp 46)]) rfl dc (evP.cons rfl (evP.cons (zaa (m:=3) u rfl (d 3 dc)) evP.nil)) (fun _=>by kernel_rfl) (zaf 4 u i rfl)
      · exact fun D n d c u i=>za6 (k:=0) (vs:=[.string ByteArray.empty,.slice none 0 0]) (l':=[.string ByteArray.empty,.slice none 0 0]) znp rfl (zbe (by rfl) rfl) (zaa (m:=0) u rfl (d 0 dc)) rfl rfl (show _≤_ by simp) rfl rfl (zod (by rfl))
      · exact fun D n d c u i=>zyR 1 rfl (zaf 5 u i rfl)
      refine za6 (k:=1) (vs:=[zI 3,zI (q1.From+1024)]) (l':=[zI 3,zI (q1.From+1024)]) zkm rfl rfl rfl rfl rfl (show _≤_ by simp) rfl rfl (zyN (zaG (zao (zat (zao (zao (zat (zao (zoL (enc:=zbL) (nest:=zbK) (e:=70) (size:=1) ?_)))))))))
      refine zdq (enc:=zbF) (e:=76) (size:=6) ?_
      cases h
      exact zaK (rs:=[.cell 2 135,.tmp 3,.cell 4 60]) (Hd.nil,(.slice none 0 0)) (.inl rfl) Tryz.results68 (.cons (.cells zlR (k:=0) rfl rfl rfl) (.cons (.tmp rfl) (.cons (.cells zmA (k:=1) rfl rfl rfl) .nil))) rfl (zad [7,8] kr rfl)
     refine zar (zaH ?_)
     obtain ⟨j3,hj3,h⟩:=zbG h
     refine zaX (β:=Unit) 0 rfl (fun b=>j3=some r) (fun b=>[]) (fun b=>[(0,.string s1),(2,zP b1),(4,zP b2),(5,zP b3),(6,hd10.v),(7,hd3.v),(9,.bool row3),(10,zI i3),(11,zP b4),(12,.string (zb8 s1 q1.From q1.To))]) (fun b=>[cells b1 [.string ByteArray.empty,.slice none 0 0] 135,cells b2 [zI 0,zI 0] 60,cells b3 [.string p10,hd9.v] 135,zgc zbL zbK 70 1 hd9.v p11,zv6 hd10.v l4,zv7 hd3.v r1,cells b4 (zr5 q1) 38]) (fun cut => ?_) ?_
     ·
      refine cut (zyG (zyR 2 rfl ?_))
      refine zyS (s:=49) rfl h (fun h => ?_) (fun h => ?_)
      ·
       refine zyR 1 rfl ?_
       obtain ⟨r3,hq4,h⟩:=zbi h
       refine zbD (v:=.bool r3) (vs:=[.string (zb8 s1 q1.From q1.To)]) rfl dc rfl rfl rfl zwc (zkx hq4) (zyR 1 rfl (zyN ?_))
       refine zyB rfl h (fun h => ?_) (fun h => ?_)
       ·
        obtain ⟨j4,hj4,h⟩:=zbG h
        refine zaX (β:=ByteArray) 1 rfl (fun b=>j4 b=some r) (fun b=>[]) (fun b=>[(0,.string s1),(2,zP b1),(4,zP b2),(5,zP b3),(6,hd10.v),(7,hd3.v),(8,.bool false),(9,.bool row3),(10,zI i3),(50,.string (zb8 s1 q1.From q1.To)),(51,.bool r3)]) (fun b=>[cells b1 [.string ByteArray.empty,.slice none 0 0] 135,cells b2 [zI 0,zI 0] 60,cells b3 [.string b,hd9.v] 135,zgc zbL zbK 70 1 hd9.v p11,zv6 hd10.v l4,zv7 hd3.v r1]) (fun cut => ?_) ?_
        ·
         refine zyG (zyR 1 rfl (zyN (cut (zyG (zyR 1 rfl (zcg rfl dc rfl Tryz.underlying9 (zaU rfl zct (zyN ?_))))))))
         refine zyB rfl h (fun h => ?_) (fun h => ?_)
         ·
          refine zav (zyR 1 rfl ?_)
          obtain ⟨hg3,h⟩:=zbr h
          refine zdG rfl dc rfl rfl rfl (zce (i:=2) (j:=((zb8 s1 q1.From q1.To).size:Int)) Tryz.underlying9 (.inr rfl) (.inl ⟨rfl,rfl⟩) hg3) (zab zsJ rfl dc rfl (show _=0 from rfl) ?_)
          refine zbb (k:=2) (l':=[.string (zb8 (zb8 s1 q1.From q1.To) 2 ((zb8 s1 q1.From q1.To).size:Int)),hd9.v]) ztO rfl rfl rfl rfl rfl (fun _ _=>rfl) rfl ?_
          refine zaO ?_
          exact zal (zb8 (zb8 s1 q1.From q1.To) 2 ((zb8 s1 q1.From q1.To).size:Int)) h rfl (za0 rfl) (zad [0,1,2,3,4,5] kr rfl)
         refine zar ?_
         exact zal p10 h rfl (za0 rfl) (zad [0,1,2,3,4,5] kr rfl)
        rintro p14 h
        rw [hj4] at h
        refine za3 (zan (zax ?_))
        exact zal (p14,p11,l4,false,row3,hd9,hd10) h rfl (za0 rfl) (zad [0,1,2,3,4,5] kr rfl)
       refine zar ?_
       exact zal () h rfl (za0 rfl) (zad [0,1,2,3,4,5,6] kr rfl)
      refine zyR 3 rfl (zyN (zaS rfl (zar ?_)))
      exact zal () h rfl (za0 rfl) (zad [0,1,2,3,4,5,6] kr rfl)
     rintro _ h
     rw [hj3] at h
     refine zyG (zyR 1 rfl (zyN (zaI (zyG (zyR 1 rfl (zbg (k:=4) rfl dc rfl rfl Tryz.underlying26 (zaU rfl zaT (zyN ?_))))))))
     refine zyB rfl h (fun h => ?_) (fun h => ?_)
     ·
      refine zaI ?_
      refine zbn 6 [(0,62,.agg #[.string ByteArray.empty,.slice none 0 0]),(1,63,zP b4),(2,64,zI q1.From),(3,65,.agg #[zI 3,zI q1.From]),(5,3,.slice none 0 0)] mixed kr kr dc (by rfl) kr kr (zac ?_ (zac ?_ (zac ?_ (zac ?_ (zac ?_ (zac ?_ DrawPre.nil)))))) ?_
      · exact fun D n d c u i=>zba (v:=.agg #[.string ByteArray.empty,.slice none 0 0]) (ps:=[]) rfl dc evP.nil (fun _=>by kernel_rfl) (zaf 0 u i rfl)
      · exact fun D n d c u i=>zab zdt rfl dc (zbe (by rfl) rfl) (show _=0 from rfl) (zaf 1 u i rfl)
      · exact fun D n d c u i=>zau (k:=6) zbp rfl dc (zaa (m:=1) u rfl (d 1 dc)) rfl rfl (zaf 2 u i rfl)
      · exact fun D n d c u i=>zba (v:=.agg #[zI 3,zI q1.From]) (ps:=[(0,.const (zI 3)),(1,.tmp 64)]) rfl dc (evP.cons rfl (evP.cons (zaa (m:=2) u rfl (d 2 dc)) evP.nil)) (fun _=>by kernel_rfl) (zaf 3 u i rfl)
      · exact fun D n d c u i=>za6 (k:=0) (vs:=[.string ByteArray.empty,.slice none 0 0]) (l':=[.string ByteArray.empty,.slice none 0 0]) znp rfl (zbe (by rfl) rfl) (zaa (m:=0) u rfl (d 0 dc)) rfl rfl (show _≤_ by simp) rfl rfl (zod (by rfl))
      · exact fun D n d c u i=>zyR 1 rfl (zaf 4 u i rfl)
      refine za6 (k:=1) (vs:=[zI 3,zI q1.From]) (l':=[zI 3,zI q1.From]) zkm rfl rfl rfl rfl rfl (show _≤_ by simp) rfl rfl (zyN (zaG (zao (zat (zao (zao (zat (zao (zoL (enc:=zbL) (nest:=zbK) (e:=70) (size:=1) ?_)))))))))
      refine zdq (enc:=zbF) (e:=76) (size:=6) ?_
      cases h
      exact zaK (rs:=[.cell 2 135,.tmp 3,.cell 4 60]) (Hd.nil,(.slice none 0 0)) (.inl rfl) Tryz.results68 (.cons (.cells zlR (k:=0) rfl rfl rfl) (.cons (.tmp rfl) (.cons (.cells zmA (k:=1) rfl rfl rfl) .nil))) rfl (zad [7,8] kr rfl)
     refine zar (zaH ?_)
     obtain ⟨j5,hj5,h⟩:=zbG h
     refine zaX (β:=(List (List ByteArray))×Hd) 0 rfl (fun b=>j5 b.1=some r) (fun b=>[]) (fun b=>[(0,.string s1),(2,zP b1),(4,zP b2),(5,zP b3),(6,hd10.v),(7,hd3.v),(8,.bool false),(10,zI i3),(11,zP b4),(12,.string (zb8 s1 q1.From q1.To))]) (fun b=>[cells b1 [.string ByteArray.empty,.slice none 0 0] 135,cells b2 [zI 0,zI 0] 60,cells b3 [.string p10,b.2.v] 135,zgc zbL zbK 70 1 b.2.v b.1,zv6 hd10.v l4,zv7 hd3.v r1,cells b4 (zr5 q1) 38]) (fun cut => ?_) ?_
     ·
      refine cut (zyG (zyR 1 rfl (zee rfl dc rfl zcN (zyN ?_))))
      refine zyB rfl h (fun h => ?_) (fun h => ?_)
      ·
       refine zav (zab zg8 rfl dc rfl (show _=1 from rfl) (zau (k:=2) zlQ rfl dc rfl rfl rfl ?_))
       refine zaV (cs:=[.slice none 0 0]) (te:=70) (ps:=[(0,.const (.slice none 0 0))]) rfl dc rfl (fun _=>by kernel_rfl) (fun b5 => ?_)
       refine zgW (enc:=zqa) (e:=9) (size:=1) ?_
       refine zmd (k:=3) rfl zsv (fun zs1 hz1 => ?_)
       obtain ⟨hg4,h⟩:=zbr h
       refine za4 (k:=3) (k2:=7) (ys:=[(([]:List ByteArray),Hd.nil)]) Tryz.underlying112 zxO zd7 zjr rfl dc rfl rfl rfl rfl rfl rfl (by rw [zwN hz1]; exact hg4) (fun v2 => ?_)
       refine zby (k:=3) rfl (fun hd14 he2 => ?_)
       subst he2
       refine zi4 (k:=9) rfl (zad [8] kr rfl) rfl (ztg (nest:=zbK) (zs:=zs1) (z:=(([]:List ByteArray),Hd.nil))) ?_
       refine zi4 (k:=3) rfl (zad [9] kr rfl) rfl (zrC (enc:=zbL) (nest:=zbK) (zx1 hz1)) ?_
       refine zep (L':=[cells b1 [.string ByteArray.empty,.slice none 0 0] 135,cells b2 [zI 0,zI 0] 60,cells b3 [.string p10,hd9.v] 135,zgc zbL zbK 70 1 hd14.v (p11++[([]:List ByteArray)]),zv6 hd10.v l4,zv7 hd3.v r1,cells b4 (zr5 q1) 38,cells b5 [.slice none 0 0] 70]) (zad [0,1,2,3,4,5,6,7] kr rfl) (zab zg8 rfl dc rfl (show _=1 from rfl) ?_)
       refine zbb (k:=2) (l':=[.string p10,hd14.v]) zvi rfl rfl rfl rfl rfl (fun _ _=>rfl) rfl ?_
       refine zaO ?_
       exact zal (p11++[([]:List ByteArray)],hd14) h rfl (za0 rfl) (zad [0,1,2,3,4,5,6] kr rfl)
      refine zar ?_
      exact zal (p11,hd9) h rfl (za0 rfl) (zad [0,1,2,3,4,5,6] kr rfl)
     rintro ⟨p15,hd13⟩ h
     rw [hj5] at h
     refine zyG (zyR 1 rfl (zyH (zab zg8 rfl dc rfl (show _=1 from rfl) (zau (k:=2) zlQ rfl dc rfl rfl rfl (zp6 (k:=3) rfl dc rfl rfl Tryz.underlying112 ?_)))))
     obtain ⟨hg5,h⟩:=zbr h
     refine zaU rfl (zbt (r:=(p15.length:Int) - 1) (IntWalk.i64_in _ hg5)) (zyR 1 rfl (zyN (zaI ?_)))
     refine zjy (k:=3) rfl zsv (fun zs2 hz2 => ?_)
     obtain ⟨r4,hq5,h⟩:=zbi h
     obtain ⟨hg6,h⟩:=zbr h
     obtain ⟨r5,hq6,h⟩:=zbi h
     obtain ⟨x1,hq7,h⟩:=zbi h
     obtain ⟨eh1,eq1⟩:=zpm hz2 hq7
     obtain ⟨r6,hq8,h⟩:=zbi h
     obtain ⟨hg7,h⟩:=zbr h
     refine zjy (k:=7) rfl (zvF (zaz eq1)) (fun _ _ => ?_)
     refine zhV (β:=Nat) 23 22 _ [(0,77,.string (zb8 s1 q1.From q1.To)),(1,78,.string (zb8 s1 q1.From q1.To)),(2,79,zI r4),(3,80,.string (zb8 (zb8 s1 q1.From q1.To) r4 ((zb8 s1 q1.From q1.To).size:Int))),(4,81,.string (zb8 s1 q1.From q1.To)),(5,82,zI r5),(6,83,zI ((p15.length:Int) - 1)),(7,84,.pointer (some ⟨b3,1,none⟩)),(8,85,hd13.v),(9,86,zI ((p15.length:Int) - 1)),(10,87,.pointer (some ⟨zbY hd13.v,((p15.length:Int) - 1:Int).toNat*1,none⟩)),(11,88,eh1.v),(12,89,zI (x1.length:Int)),(13,90,zP b4),(14,91,zI q1.From),(15,92,.string (zb8 s1 q1.From q1.To)),(16,93,zI r6),(17,94,zI (q1.From+r6)),(18,95,.pointer (some ⟨b4,1,none⟩)),(19,96,zI q1.To),(20,97,.agg #[zI (q1.From+r6),zI q1.To]),(21,98,.agg #[.string (zb8 (zb8 s1 q1.From q1.To) r4 ((zb8 s1 q1.From q1.To).size:Int)),zI r5,zI ((p15.length:Int) - 1),zI (x1.length:Int),zI (q1.From+r6),zI q1.To])] (fun b6=>[(14,zP b6)]) (fun b6=>[cells b1 [.string ByteArray.empty,.slice none 0 0] 135,cells b2 [zI 0,zI 0] 60,cells b3 [.string p10,hd13.v] 135,vec zbL 70 1 hd13.v zs2,zv6 hd10.v l4,zv7 hd3.v r1,cells b4 (zr5 q1) 38,own zbK (zs2.eraseIdx (((p15.length:Int) - 1:Int).toNat)),zv5 eh1.v x1,cells b6 [.string ByteArray.empty,zI 0,zI 0,zI 0,zI 0,zI 0] 76]) mixed kr kr rfl dc dc (by rfl) kr kr (zyE 2 0 rfl (zai ?_ (zai ?_ (zyE 1 4 rfl (zai ?_ (zyE 1 6 rfl (zai ?_ (zai ?_ (zyE 1 9 rfl (zai ?_ (zai ?_ (zai ?_ (zai ?_ (zai ?_ (zyE 1 15 rfl (zai ?_ (zai ?_ (zai ?_ (zai ?_ (zai ?_ (zai ?_ (zcD DrawPreX.nil)))))))))))))))))))))) (fun b6=>(zyE 2 0 rfl (zai ?_ (zai ?_ (zyE 1 4 rfl (zai ?_ (zyE 1 6 rfl (zai ?_ (zai ?_ (zyE 1 9 rfl (zai ?_ (zai ?_ (zai ?_ (zai ?_ (zai ?_ (zyE 1 15 rfl (zai ?_ (zai ?_ (zai ?_ (zai ?_ (zai ?_ (zai ?_ (zcD DrawPreX.nil))))))))))))))))))))))) ?_ ?_
     · exact fun D n d c u i=>zbD (v:=zI r4) (vs:=[.string (zb8 s1 q1.From q1.To)]) rfl dc rfl (evL.cons (zaa (m:=1) u rfl (d 1 dc)) evL.nil) rfl zl6 (zd4 hq5) (zaf 2 u i rfl)
     · exact fun D n d c u i=>zdG rfl dc (zaa (m:=0) u rfl (d 0 dc)) (evO.some (zaa (m:=2) u rfl (d 2 dc))) zm0 (zce (i:=r4) (j:=((zb8 s1 q1.From q1.To).size:Int)) Tryz.underlying9 (.inr rfl) (.inl ⟨rfl,rfl⟩) hg6) (zaf 3 u i rfl)
     · exact fun D n d c u i=>zbD (v:=zI r5) (vs:=[.string (zb8 s1 q1.From q1.To)]) rfl dc rfl (evL.cons (zaa (m:=4) u rfl (d 4 dc)) evL.nil) rfl zl6 (zd4 hq6) (zaf 5 u i rfl)
     · exact fun D n d c u i=>zab zg8 rfl dc (zbe (by rfl) rfl) (show _=1 from rfl) (zaf 7 u i rfl)
     · exact fun D n d c u i=>zau (k:=2) zlQ rfl dc (zaa (m:=7) u rfl (d 7 dc)) rfl rfl (zaf 8 u i rfl)
     · exact fun D n d c u i=>zaj (k:=3) eq1 Tryz.underlying112 zqs rfl dc (zaa (m:=8) u rfl (d 8 dc)) (zaa (m:=9) u rfl (d 9 dc)) rfl rfl (zaf 10 u i rfl)
     · exact fun D n d c u i=>zaA (i:=((p15.length:Int) - 1:Int).toNat) (j:=0) (k:=3) (q:=(x1,eh1)) ztV zd7 rfl dc (zaa (m:=10) u rfl (d 10 dc)) rfl (zaz eq1) rfl dc rfl (zaf 11 u i rfl)
     · exact fun D n d c u i=>zbg (k:=8) rfl dc (zaa (m:=11) u rfl (d 11 dc)) rfl Tryz.underlying70 (zaf 12 u i rfl)
     · exact fun D n d c u i=>zab zdt rfl dc (zbe (by rfl) rfl) (show _=0 from rfl) (zaf 13 u i rfl)
     · exact fun D n d c u i=>zau (k:=6) zbp rfl dc (zaa (m:=13) u rfl (d 13 dc)) rfl rfl (zaf 14 u i rfl)
     · exact fun D n d c u i=>zbD (v:=zI r6) (vs:=[.string (zb8 s1 q1.From q1.To)]) rfl dc rfl (evL.cons (zaa (m:=15) u rfl (d 15 dc)) evL.nil) rfl zl6 (zd4 hq8) (zaf 16 u i rfl)
     · exact fun D n d c u i=>zbz rfl dc (zaa (m:=14) u rfl (d 14 dc)) (zaa (m:=16) u rfl (d 16 dc)) (zaR (r:=q1.From+r6) (IntWalk.i64_in _ hg7)) (zaf 17 u i rfl)
     · exact fun D n d c u i=>zab zdZ rfl dc (zbe (by rfl) rfl) (show _=1 from rfl) (zaf 18 u i rfl)
     · exact fun D n d c u i=>zau (k:=6) zbp rfl dc (zaa (m:=18) u rfl (d 18 dc)) rfl rfl (zaf 19 u i rfl)
     · exact fun D n d c u i=>zba (v:=.agg #[zI (q1.From+r6),zI q1.To]) (ps:=[(0,.tmp 94),(1,.tmp 96)]) rfl dc (evP.cons (zaa (m:=17) u rfl (d 17 dc)) (evP.cons (zaa (m:=19) u rfl (d 19 dc)) evP.nil)) (fun _=>by kernel_rfl) (zaf 20 u i rfl)
     · exact fun D n d c u i=>zba (v:=.agg #[.string (zb8 (zb8 s1 q1.From q1.To) r4 ((zb8 s1 q1.From q1.To).size:Int)),zI r5,zI ((p15.length:Int) - 1),zI (x1.length:Int),zI (q1.From+r6),zI q1.To]) (ps:=[(0,.tmp 80),(1,.tmp 82),(2,.tmp 83),(3,.tmp 89),(4,.tmp 97)]) rfl dc (evP.cons (zaa (m:=3) u rfl (d 3 dc)) (evP.cons (zaa (m:=5) u rfl (d 5 dc)) (evP.cons (zaa (m:=6) u rfl (d 6 dc)) (evP.cons (zaa (m:=12) u rfl (d 12 dc)) (evP.cons (zaa (m:=20) u rfl (d 20 dc)) evP.nil))))) (fun _=>by kernel_rfl) (zaf 21 u i rfl)
     · exact fun D n d c u i=>zbD (v:=zI r4) (vs:=[.string (zb8 s1 q1.From q1.To)]) rfl dc rfl (evL.cons (zaa (m:=1) u rfl (d 1 dc)) evL.nil) rfl zl6 (zd4 hq5) (zaf 2 u i rfl)
     · exact fun D n d c u i=>zdG rfl dc (zaa (m:=0) u rfl (d 0 dc)) (evO.some (zaa (m:=2) u rfl (d 2 dc))) zm0 (zce (i:=r4) (j:=((zb8 s1 q1.From q1.To).size:Int)) Tryz.underlying9 (.inr rfl) (.inl ⟨rfl,rfl⟩) hg6) (zaf 3 u i rfl)
     · exact fun D n d c u i=>zbD (v:=zI r5) (vs:=[.string (zb8 s1 q1.From q1.To)]) rfl dc rfl (evL.cons (zaa (m:=4) u rfl (d 4 dc)) evL.nil) rfl zl6 (zd4 hq6) (zaf 5 u i rfl)
     · exact fun D n d c u i=>zab zg8 rfl dc (zbe (by rfl) rfl) (show _=1 from rfl) (zaf 7 u i rfl)
     · exact fun D n d c u i=>zau (k:=2) zlQ rfl dc (zaa (m:=7) u rfl (d 7 dc)) rfl rfl (zaf 8 u i rfl)
     · exact fun D n d c u i=>zaj (k:=3) eq1 Tryz.underlying112 zqs rfl dc (zaa (m:=8) u rfl (d 8 dc)) (zaa (m:=9) u rfl (d 9 dc)) rfl rfl (zaf 10 u i rfl)
     · exact fun D n d c u i=>zaA (i:=((p15.length:Int) - 1:Int).toNat) (j:=0) (k:=3) (q:=(x1,eh1)) ztV zd7 rfl dc (zaa (m:=10) u rfl (d 10 dc)) rfl (zaz eq1) rfl dc rfl (zaf 11 u i rfl)
     · exact fun D n d c u i=>zbg (k:=8) rfl dc (zaa (m:=11) u rfl (d 11 dc)) rfl Tryz.underlying70 (zaf 12 u i rfl)
     · exact fun D n d c u i=>zab zdt rfl dc (zbe (by rfl) rfl) (show _=0 from rfl) (zaf 13 u i rfl)
     · exact fun D n d c u i=>zau (k:=6) zbp rfl dc (zaa (m:=13) u rfl (d 13 dc)) rfl rfl (zaf 14 u i rfl)
     · exact fun D n d c u i=>zbD (v:=zI r6) (vs:=[.string (zb8 s1 q1.From q1.To)]) rfl dc rfl (evL.cons (zaa (m:=15) u rfl (d 15 dc)) evL.nil) rfl zl6 (zd4 hq8) (zaf 16 u i rfl)
     · exact fun D n d c u i=>zbz rfl dc (zaa (m:=14) u rfl (d 14 dc)) (zaa (m:=16) u rfl (d 16 dc)) (zaR (r:=q1.From+r6) (IntWalk.i64_in _ hg7)) (zaf 17 u i rfl)
     · exact fun D n d c u i=>zab zdZ rfl dc (zbe (by rfl) rfl) (show _=1 from rfl) (zaf 18 u i rfl)
     · exact fun D n d c u i=>zau (k:=6) zbp rfl dc (zaa (m:=18) u rfl (d 18 dc)) rfl rfl (zaf 19 u i rfl)
     · exact fun D n d c u i=>zba (v:=.agg #[zI (q1.From+r6),zI q1.To]) (ps:=[(0,.tmp 94),(1,.tmp 96)]) rfl dc (evP.cons (zaa (m:=17) u rfl (d 17 dc)) (evP.cons (zaa (m:=19) u rfl (d 19 dc)) evP.nil)) (fun _=>by kernel_rfl) (zaf 20 u i rfl)
     · exact fun D n d c u i=>zba (v:=.agg #[.string (zb8 (zb8 s1 q1.From q1.To) r4 ((zb8 s1 q1.From q1.To).size:Int)),zI r5,zI ((p15.length:Int) - 1),zI (x1.length:Int),zI (q1.From+r6),zI q1.To]) (ps:=[(0,.tmp 80),(1,.tmp 82),(2,.tmp 83),(3,.tmp 89),(4,.tmp 97)]) rfl dc (evP.cons (zaa (m:=3) u rfl (d 3 dc)) (evP.cons (zaa (m:=5) u rfl (d 5 dc)) (evP.cons (zaa (m:=6) u rfl (d 6 dc)) (evP.cons (zaa (m:=12) u rfl (d 12 dc)) (evP.cons (zaa (m:=20) u rfl (d 20 dc)) evP.nil))))) (fun _=>by kernel_rfl) (zaf 21 u i rfl)
     ·
      intro D hn hd hcl
      refine zbE ztF rfl dc (fun b6 => ?_)
      exact fun a w ha hw=>⟨b6,zld (by rfl) _ _ _ ha,hw⟩
     intro b6
     refine za6 (k:=9) (vs:=[.string (zb8 (zb8 s1 q1.From q1.To) r4 ((zb8 s1 q1.From q1.To).size:Int)),zI r5,zI ((p15.length:Int) - 1),zI (x1.length:Int),zI (q1.From+r6),zI q1.To]) (l':=[.string (zb8 (zb8 s1 q1.From q1.To) r4 ((zb8 s1 q1.From q1.To).size:Int)),zI r5,zI ((p15.length:Int) - 1),zI (x1.length:Int),zI (q1.From+r6),zI q1.To]) zlq rfl rfl rfl rfl rfl (show _≤_ by simp) rfl rfl (zyH (zyR 1 rfl (zbd (k:=9) (cs:=[.string (zb8 (zb8 s1 q1.From q1.To) r4 ((zb8 s1 q1.From q1.To).size:Int)),zI r5,zI ((p15.length:Int) - 1),zI (x1.length:Int),zI (q1.From+r6),zI q1.To]) ztY rfl dc rfl rfl rfl rfl ?_)))
     refine zaV (cs:=[.string (zb8 (zb8 s1 q1.From q1.To) r4 ((zb8 s1 q1.From q1.To).size:Int)),zI r5,zI ((p15.length:Int) - 1),zI (x1.length:Int),zI (q1.From+r6),zI q1.To]) (te:=76) (ps:=[(0,.tmp 100)]) rfl dc rfl (fun _=>by kernel_rfl) (fun b7 => ?_)
     obtain ⟨hg8,h⟩:=zbr h
     refine za4 (k:=4) (k2:=10) (ys:=[(⟨zb8 (zb8 s1 q1.From q1.To) r4 ((zb8 s1 q1.From q1.To).size:Int),r5,(p15.length:Int) - 1,(x1.length:Int),q1.From+r6,q1.To⟩:Gapi_Verse)]) Tryz.underlying26 zwe zdR zgz rfl dc rfl rfl rfl rfl rfl rfl hg8 (fun v3 => ?_)
     refine zby (k:=4) rfl (fun hd15 he3 => ?_)
     subst he3
     refine zyR 1 rfl (zyN (zsX (k:=7) rfl (zad [8] kr rfl) rfl (zvE (nest:=zbK) (zaz eq1) rfl) ?_))
     obtain ⟨x2,hq9,h⟩:=zbi h
     obtain ⟨eh2,eq2⟩:=zpm hz2 hq9
     obtain ⟨hg9,h⟩:=zbr h
     refine zjy (k:=7) rfl (zvF (zaz eq2)) (fun _ _ => ?_)
     refine zgs 1 ?_
     refine let vals1:(Nat×Hd)→List (Nat×Nat×Value):=fun b=>[(0,103,.pointer (some ⟨b3,1,none⟩)),(1,104,hd13.v),(2,105,zI ((p15.length:Int) - 1)),(3,106,.pointer (some ⟨b3,1,none⟩)),(4,107,hd13.v),(5,108,zI ((p15.length:Int) - 1)),(6,109,.pointer (some ⟨zbY hd13.v,((p15.length:Int) - 1:Int).toNat*1,none⟩)),(7,110,eh2.v),(8,111,.string (zb8 s1 q1.From q1.To)),(9,112,.slice (some ⟨b.1,0,none⟩) 1 1),(10,113,b.2.v)]; let LL1:(Nat→Prop)→(Nat×Hd)→List Asn:=fun D b=>[cells b1 [.string ByteArray.empty,.slice none 0 0] 135,cells b2 [zI 0,zI 0] 60,cells b3 [.string p10,hd13.v] 135,vec zbL 70 1 hd13.v zs2,zv6 hd15.v (l4++[(⟨zb8 (zb8 s1 q1.From q1.To) r4 ((zb8 s1 q1.From q1.To).size:Int),r5,(p15.length:Int) - 1,(x1.length:Int),q1.From+r6,q1.To⟩:Gapi_Verse)]),zv7 hd3.v r1,cells b4 (zr5 q1) 38,own zbK (zs2.eraseIdx (((p15.length:Int) - 1:Int).toNat)),emp,cells b6 [.string (zb8 (zb8 s1 q1.From q1.To) r4 ((zb8 s1 q1.From q1.To).size:Int)),zI r5,zI ((p15.length:Int) - 1),zI (x1.length:Int),zI (q1.From+r6),zI q1.To] 76,cells b7 [.string (zb8 (zb8 s1 q1.From q1.To) r4 ((zb8 s1 q1.From q1.To).size:Int)),zI r5,zI ((p15.length:Int) - 1),zI (x1.length:Int),zI (q1.From+r6),zI q1.To] 76,eD D (zv5 eh2.v x2) [(10,zv5 b.2.v (x2++[zb8 s1 q1.From q1.To]))],eD D emp [(9,cells b.1 [.string (zb8 s1 q1.From q1.To)] 9)]]; ?_
     have zhq:zyQ [9,10] LL1:=fun i h D b=>zae rfl (zae rfl (zae rfl (zae rfl (zae rfl (zae rfl (zae rfl (zae rfl (zae rfl (zae rfl (zae rfl (zae (zjY rfl h) (zae (zjY rfl h) rfl))))))))))))
     refine zd3 (β:=Nat×Hd) 11 ((0:Nat),Hd.nil) vals1 LL1 mixed kr kr dc (fun _=>rfl) (zlm (zae zb7 (zae zb7 rfl))) (zyq zhq rfl (fun _=>rfl) (fun _=>rfl) ?_ (zi5 zhq rfl (fun _=>rfl) (fun _=>rfl) ?_ (zmg zhq (fun _=>rfl) (fun _=>rfl) 1 2 (fun _=>rfl) rfl (zyq zhq rfl (fun _=>rfl) (fun _=>rfl) ?_ (zi5 zhq rfl (fun _=>rfl) (fun _=>rfl) ?_ (zmg zhq (fun _=>rfl) (fun _=>rfl) 1 5 (fun _=>rfl) rfl (zi5 zhq rfl (fun _=>rfl) (fun _=>rfl) ?_ (zi5 zhq rfl (fun _=>rfl) (fun _=>rfl) ?_ (zmg zhq (fun _=>rfl) (fun _=>rfl) 1 8 (fun _=>rfl) rfl (zaB ?_ (zaB ?_ DrawG.nil))))))))))) ?_
     · exact fun D ⟨b8,hd16⟩ n d c u i=>zab zg8 rfl dc (zbe (by rfl) rfl) (show _=1 from rfl) (zaf 0 u i rfl)
     · exact fun D ⟨b8,hd16⟩ n d c u i=>⟨_,(zae rfl (ztA rfl)),zau (k:=2) zlQ rfl dc (zaa (m:=0) u rfl (d 0 dc)) rfl rfl (zaf 1 u i rfl)⟩
     · exact fun D ⟨b8,hd16⟩ n d c u i=>zab zg8 rfl dc (zbe (by rfl) rfl) (show _=1 from rfl) (zaf 3 u i rfl)
     · exact fun D ⟨b8,hd16⟩ n d c u i=>⟨_,(zlm (zae (zak (fun hD=>n (c 6 _ rfl (c 7 _ rfl (c 10 _ rfl hD 7 dc) 6 dc) 4 dc)) zaq) rfl)),zau (k:=2) zlQ rfl dc (zaa (m:=3) u rfl (d 3 dc)) rfl rfl (zaf 4 u i rfl)⟩
     · exact fun D ⟨b8,hd16⟩ n d c u i=>⟨_,(zlm (zae (zak (fun hD=>n (c 7 _ rfl (c 10 _ rfl hD 7 dc) 6 dc)) zaq) rfl)),zaj (k:=3) eq2 Tryz.underlying112 zqs rfl dc (zaa (m:=4) u rfl (d 4 dc)) (zaa (m:=5) u rfl (d 5 dc)) rfl rfl (zaf 6 u i rfl)⟩
     · exact fun D ⟨b8,hd16⟩ n d c u i=>⟨_,(zlm (zae (zak (fun hD=>n (c 10 _ rfl hD 7 dc)) zaq) rfl)),zaA (i:=((p15.length:Int) - 1:Int).toNat) (j:=0) (k:=3) (q:=(x2,eh2)) ztV zd7 rfl dc (zaa (m:=6) u rfl (d 6 dc)) rfl (zaz eq2) rfl dc rfl (zaf 7 u i rfl)⟩
     ·
      intro D b hn hd hcl
      obtain ⟨zb0,hd16⟩:=b
      refine zaL (zlm (zae (zak (fun hD=>hn (hcl 10 _ rfl hD 9 dc)) zaq) (zae (zak hn zaq) rfl))) ?_
      refine zaV (cs:=[.string (zb8 s1 q1.From q1.To)]) (te:=9) (ps:=[(0,.tmp 111)]) rfl dc (evP.cons (zaa (m:=8) rfl rfl (hd 8 dc)) evP.nil) (fun _=>by kernel_rfl) (fun b8 => ?_)
      refine zcU 12 rfl rfl ?_
      exact zaW (b:=(zb0,hd16)) (b8,hd16) 9 (by rfl) (by rfl) rfl (zwJ (zas (fun hD=>absurd hD hn) (zas (fun _=>rfl) rfl))) (zlm (zae ((zap (by rfl)).trans (zak (fun hD=>hn (hcl 10 _ rfl hD 9 dc)) zaq)) (zae (zaM (Or.inr rfl) rfl) rfl)))
     ·
      intro D b hn hd hcl
      obtain ⟨b8,zb1⟩:=b
      refine zaL (zlm (zae (zak hn zaq) (zae (zaM (hd 9 dc) rfl) rfl))) ?_
      refine za4 (k:=11) (k2:=12) (ys:=[zb8 s1 q1.From q1.To]) Tryz.underlying70 zxN zg9 zm1 rfl dc (zaa (m:=7) rfl rfl (hd 7 dc)) (zaa (m:=9) rfl rfl (hd 9 dc)) rfl rfl rfl rfl hg9 (fun v4 => ?_)
      refine zby (k:=11) rfl (fun hd16 he4 => ?_)
      subst he4
      exact zaW (b:=(b8,zb1)) (b8,hd16) 10 (by rfl) (by rfl) rfl (zrZ (zas (fun hD=>absurd hD hn) rfl)) (zlm (zae (zaM (Or.inr rfl) rfl) (zae ((zap (by rfl)).trans (zaM (hd 9 dc) rfl)) rfl)))
     intro D b hall
     obtain ⟨b8,hd16⟩:=b
     refine zaL (zlm (zae (zaM (hall 10 dc) rfl) (zae (zaM (hall 9 dc) rfl) rfl))) (zaj (k:=3) eq2 Tryz.underlying112 zqs rfl dc rfl rfl rfl rfl ?_)
     refine zbv (i:=((p15.length:Int) - 1:Int).toNat) (j:=0) (k:=3) (q:=(x2,eh2)) (q':=(x2++[zb8 s1 q1.From q1.To],hd16)) zqs zd7 rfl rfl rfl rfl (zaz eq2) rfl dc rfl (fun _ _=>rfl) ?_
     refine zi4 (k:=7) rfl (zad [11] kr rfl) rfl (zvE (nest:=zbK) (zs:=zs2) (z:=(x2++[zb8 s1 q1.From q1.To],hd16)) (ztS (zaz eq2)) zqC) ?_
     refine zaO (zag (zsV (k:=3) rfl (zad [7] kr rfl) rfl (zrC (enc:=zbL) (nest:=zbK) (zx9 hz2)) ?_))
     exact zal (p10,p15.set ((p15.length:Int) - 1:Int).toNat (x2++[zb8 s1 q1.From q1.To]),l4++[(⟨zb8 (zb8 s1 q1.From q1.To) r4 ((zb8 s1 q1.From q1.To).size:Int),r5,(p15.length:Int) - 1,(x1.length:Int),q1.From+r6,q1.To⟩:Gapi_Verse)],false,true,hd13,hd15) h rfl (za0 rfl) (zad [0,1,2,3,4,5] kr rfl)
    rintro ⟨p12,p13,l5,first4,row4,hd11,hd12⟩ h
    rw [hj2] at h
    refine zav (zyR 1 rfl ?_)
    obtain ⟨hg10,h⟩:=zbr h
    refine zaU rfl (zaR (r:=i3+1) (IntWalk.i64_in _ hg10)) (zyR 1 rfl (zaO ?_))
    subst hag1
    exact za1 (n1,p12,p13,l5,first4,row4,i3+1,hd11,hd12) h (Nat.lt_succ_self _) rfl (za0 rfl) (zad [0,1,2,3,4,5] kr rfl)
   refine za3 (zan (zan (zax ?_)))
   exact zal (p10,p11,l4,hd9,hd10) h rfl (za0 rfl) (zad [0,1,2,3,4] kr rfl)
 rintro ⟨p1,p2,l1,hd1,hd2⟩ h
 rw [hj1] at h
 refine zyG (zbd (k:=2) (cs:=[.string p1,hd1.v]) zlR rfl dc rfl rfl rfl rfl (zyR 1 rfl ?_))
 refine zba (v:=.agg #[zI 0,zI 0]) (ps:=[]) rfl dc rfl (fun _=>by kernel_rfl) ?_
 refine za6 (k:=0) (vs:=[.string p1,hd1.v]) (l':=[.string p1,hd1.v]) znp rfl rfl rfl rfl rfl (show _≤_ by simp) rfl rfl (zyR 1 rfl (za6 (k:=1) (vs:=[zI 0,zI 0]) (l':=[zI 0,zI 0]) zkm rfl rfl rfl rfl rfl (show _≤_ by simp) rfl rfl ?_))
 refine zyN (zaG ?_)
 cases h
 exact zaK (rs:=[.cell 2 135,.tmp 3,.cell 4 60]) (hd1,hd2.v) (.inl rfl) Tryz.results68 (.cons (.cells zlR (k:=0) rfl rfl rfl) (.cons (.tmp rfl) (.cons (.cells zmA (k:=1) rfl rfl rfl) .nil))) rfl (zad [3,4] kr rfl)
end Go.Proofs.YtbempdelckaccaaGreatDoor

namespace Go.Proofs.YtbempdelckaccaaGreatDoor
open Go.RowKit Go.Lib
set_option linter.unusedVariables false
set_option linter.unusedSimpArgs false
def mkB (l:List UInt8):ByteArray:=⟨l.toArray⟩
theorem ziH (l:List UInt8):(mkB l).data.toList=l:=rfl
theorem zbq (l:List UInt8):(mkB l).size=l.length:=by rw [← zmb,ziH]
theorem zkF {a b:List UInt8} (h:mkB a=mkB b):a=b:=by
 have:=congrArg (fun s:ByteArray=>s.data.toList) h
 exact this
theorem zvK (s:ByteArray):∃ l,s=mkB l:=⟨s.data.toList,rfl⟩
theorem zm9 (l:List UInt8) (i j:Nat):zb8 (mkB l) (i:Int) (j:Int)=mkB ((l.drop i).take (j - i)):=by
 unfold zb8
 have h:∀ a b:ByteArray,a.data.toList=b.data.toList→a=b:=fun a b h=>by
  have:mkB a.data.toList=mkB b.data.toList:=by rw [h]
  exact this
 apply h
 rw [ziH]
 simp only [Int.toNat_natCast,ByteArray.data_extract,Array.toList_extract,List.extract,ziH]
theorem zk0 (l:List UInt8) (i:Nat):zb8 (mkB l) (i:Int) ((mkB l).size:Int)=mkB (l.drop i):=by
 rw [zm9,zbq,List.take_of_length_le (by rw [List.length_drop]; omega)]
def isB (b:UInt8):Bool:=b==32||b==9
def zi1 (l:List UInt8):Bool:=l.all isB
theorem zh8 {p:UInt8→Bool}:∀ {l:List UInt8} {c:UInt8} {t:List UInt8},l.dropWhile p=c::t→p c=false
 | [],c,t,h=>by cases h
 | b::l,c,t,h=>by
  rw [List.dropWhile_cons] at h
  split at h
  ·exact zh8 h
  ·rename_i hb
   rw [← (List.cons.inj h).1]; simpa using hb
theorem zfY {p:UInt8→Bool}:∀ (l:List UInt8),l.dropWhile p=[]↔l.all p=true
 | []=>by simp
 | b::l=>by
  rw [List.dropWhile_cons,List.all_cons]
  split
  ·rename_i h; rw [zfY l,h,Bool.true_and]
  ·rename_i h; rw [Bool.not_eq_true] at h; rw [h]; simp
theorem zlI (l:List UInt8):Lib.trimS l [32,9]=[]↔zi1 l=true:=by
 have hc:(fun x=>([32,9]:List UInt8).contains x)=isB:=by
  funext x; unfold isB; simp only [List.contains_cons,List.contains_nil,Bool.or_false]
 unfold Lib.trimS Lib.trimLeftS Lib.trimRightS zi1
 rw [hc]
 cases hd:l.reverse.dropWhile isB with
 | nil =>
  have:=(zfY l.reverse).1 hd
  rw [List.all_reverse] at this
  rw [this]; simp
 | cons c t =>
  have h1:=zh8 hd
  rw [zfY,List.all_reverse,List.all_cons,h1]
  have h2:l.all isB=false:=by
   cases h:l.all isB with
   | false=>rfl
   | true =>
    rw [← List.all_reverse,← zfY,hd] at h; cases h
  rw [h2]; simp
theorem zuC (l:List UInt8) (h:l.length≤9223372036854775807):zfa (mkB l)=some (zi1 l):=by
 unfold zfa
 refine zbl (by rw [zbq]; exact h) (congrArg some ?_)
 unfold zoZ
 rw [ziH]
 have:(⟨(Lib.trimS l [32,9]).toArray⟩:ByteArray)=mkB (Lib.trimS l [32,9]):=rfl
 rw [this,show (⟨#[]⟩:ByteArray)=mkB [] from rfl]
 cases hb:zi1 l with
 | true=>exact decide_eq_true (by rw [(zlI l).2 hb])
 | false=>exact decide_eq_false (fun e=>by have:=(zlI l).1 (zkF e); rw [hb] at this; cases this)
theorem zrG {R:Type} {F:(Int→Option R)→Int→Option R} {bot:Int→Option R} (l:List UInt8) (g:UInt8→Option (Option R)) (J:Option R)
  (hs:∀ ag (i:Nat) b t,l.drop i=b::t→F ag (i:Int)=(g b).getD (ag ((i+1:Nat):Int))) (he:∀ ag,F ag (l.length:Int)=J) :
  ∀ (n i:Nat),i≤l.length→l.length - i<n→zaE bot F n (i:Int)=((l.drop i).findSome? g).getD J:=by
 intro n
 induction n with
 | zero=>intro i h1 h2; omega
 | succ n ih =>
  intro i hi hn
  rw [zdK]
  cases hd:l.drop i with
  | nil =>
   have:l.length≤i:=List.drop_eq_nil_iff.1 hd
   obtain rfl:i=l.length:=by omega
   rw [he]; rfl
  | cons b t =>
   have hlt:i<l.length:=by
    rcases Nat.lt_or_ge i l.length with h | h
    ·exact h
    ·rw [List.drop_eq_nil_of_le h] at hd; cases hd
   rw [hs _ i b t hd,List.findSome?_cons]
   cases hg:g b with
   | some x=>rfl
   | none =>
    show zaE bot F n _=_
    rw [ih (i+1) (by omega) (by omega),zfS hd]
theorem zxS {l:List UInt8} (h:l.length≤1073741824):l.length - 0<zbN:=by unfold zbN; omega
theorem zpN (l:List UInt8) (h:l.length≤1073741824):zeH (mkB l)=some (zi1 l):=by
 unfold zeH
 refine zbs ?_
 refine (zrG l (fun b=>if isB b then none else some (some false)) (some true) (fun ag i b t hd => ?_) (fun ag => ?_) zbN 0 (Nat.zero_le _) (zxS h)).trans ?_
 ·unfold zdV
  obtain ⟨hb,hlt⟩:=zgo (s:=mkB l) hd
  refine zaC (decide_eq_true (by omega)) (zbs (zaJ hb ?_))
  rw [zbq] at hlt
  have go:(grd (I64 ((i:Int)+1))<|ag ((i:Int)+1))=ag ((i+1:Nat):Int):=zbl ⟨by omega,by omega⟩ (by rw [show (i:Int)+1=((i+1:Nat):Int) by omega])
  unfold isB
  by_cases h32:b=32
  ·refine zaw (by unfold bne; rw [n32,decide_eq_true h32]; rfl) ?_
   rw [h32]; exact go
  ·refine zaC (by unfold bne; rw [n32,decide_eq_false h32]; rfl) ?_
   rw [beq_eq_false_iff_ne.2 h32,Bool.false_or]
   by_cases h9:b=9
   ·refine zaw (by unfold bne; rw [n9,decide_eq_true h9]; rfl) ?_
    rw [h9]; exact go
   ·refine zaC (by unfold bne; rw [n9,decide_eq_false h9]; rfl) ?_
    rw [beq_eq_false_iff_ne.2 h9]; rfl
 ·unfold zdV
  exact zaw (decide_eq_false (by rw [zbq]; omega)) rfl
 ·rw [List.drop_zero]
  unfold zi1
  clear h
  induction l with
  | nil=>rfl
  | cons b l ih =>
   rw [List.findSome?_cons,List.all_cons]
   cases hb:isB b with
   | true=>simpa using ih
   | false=>rfl
def zpF:List UInt8→Bool
 | []=>false
 | [b]=>b==35
 | b::c::_=>b==35&&c==32
theorem zvG (l p:List UInt8):zbJ (mkB l) (mkB p)=some (decide (p.length≤l.length)&&decide (l.take p.length=p)):=by
 unfold zbJ
 rw [zbq,zbq]
 by_cases h:p.length≤l.length
 ·refine zaC (decide_eq_true (by omega)) (zbl ⟨by omega,by omega,by omega⟩ (congrArg some ?_))
  have:=zm9 l 0 p.length
  rw [show ((0:Nat):Int)=0 from rfl] at this
  rw [this,List.drop_zero,Nat.sub_zero,decide_eq_true h,Bool.true_and]
  by_cases e:l.take p.length=p
  ·rw [decide_eq_true e,decide_eq_true (by rw [e])]
  ·rw [decide_eq_false e,decide_eq_false (fun x=>e (zkF x))]
 ·refine zaw (decide_eq_false (by omega)) ?_
  rw [decide_eq_false h]; rfl
theorem zo1 (l:List UInt8):zeI (mkB l)=some (zpF l):=by
 unfold zeI zec
 rw [show (⟨#[35]⟩:ByteArray)=mkB [35] from rfl,show (⟨#[35,32]⟩:ByteArray)=mkB [35,32] from rfl]
 by_cases h:l=[35]
 ·subst h; exact zaC (decide_eq_true rfl) rfl
 ·refine zaw (decide_eq_false (fun e=>h (zkF e))) (zaJ (zaJ (zvG _ _) rfl) (congrArg some ?_))
  match l with
  | []=>rfl
  | [b] =>
   have hb:b≠35:=fun e=>h (by rw [e])
   show _=(b==35)
   rw [beq_eq_false_iff_ne.2 hb]; rfl
  | b::c::t =>
   show _=(b==35&&c==32)
   rw [decide_eq_true (by simp),Bool.true_and]
   show decide ([b,c]=[35,32])=_
   by_cases hb:b=35 <;> by_cases hc:c=32 <;> simp [hb,hc]
theorem zoq (l:List UInt8):zeQ (mkB l)=some (zpF l):=by
 unfold zeQ
 rw [show (⟨#[35]⟩:ByteArray)=mkB [35] from rfl]
 by_cases h:l=[35]
 ·subst h; exact zaC (decide_eq_true rfl) rfl
 ·refine zaw (decide_eq_false (fun e=>h (zkF e))) ?_
  match l with
  | []=>exact zaw (decide_eq_false (by rw [zbq]; simp)) rfl
  | [b] =>
   have hb:b≠35:=fun e=>h (by rw [e])
   refine zaw (decide_eq_false (by rw [zbq]; simp)) ?_
   show _=some (b==35)
   rw [beq_eq_false_iff_ne.2 hb]
  | b::c::t =>
   have h0:=(zgo (s:=mkB (b::c::t)) (i:=0) (b:=b) (t:=c::t) rfl).1
   have h1:=(zgo (s:=mkB (b::c::t)) (i:=1) (b:=c) (t:=t) rfl).1
   refine zaC (decide_eq_true (by rw [zbq]; simp; omega)) (zaJ h0 ?_)
   show _=some (b==35&&c==32)
   by_cases hb:b=35
   ·refine zaC (by rw [n35]; exact decide_eq_true hb) (zaJ h1 (congrArg some ?_))
    rw [n32,beq_iff_eq.2 hb,Bool.true_and]
    by_cases hc:c=32
    ·rw [decide_eq_true hc,hc]; rfl
    ·rw [decide_eq_false hc,beq_eq_false_iff_ne.2 hc]
   ·refine zaw (by rw [n35]; exact decide_eq_false hb) ?_
    rw [beq_eq_false_iff_ne.2 hb]; rfl
theorem ztL (l:List UInt8) (h:zpF l=true):zdo (mkB (l.drop 1)) (mkB [32])=some (mkB (l.drop 2)):=by
 unfold zdo zcf
 refine zaJ (zaJ (zvG _ _) (?_:_=some (mkB (l.drop 2)))) rfl
 match l with
 | []=>cases h
 | [b]=>exact zaw (by simp) rfl
 | b::c::t =>
  have hc:c=32:=by
   unfold zpF at h; rw [Bool.and_eq_true] at h; exact beq_iff_eq.1 h.2
  subst hc
  refine zaC (by simp) (zbl ⟨by omega,by rw [zbq,zbq,List.drop_one,List.tail_cons,List.length_cons]; simp only [List.length_cons,List.length_nil]; omega,by omega⟩ (congrArg some ?_))
  exact zk0 (32::t) 1
def ind (l:List UInt8):Nat:=(l.takeWhile (· == 32)).length
theorem zj6 (b:UInt8) (l:List UInt8):ind (b::l)=if b=32 then ind l+1 else 0:=by
 unfold ind
 rw [List.takeWhile_cons]
 by_cases h:b=32
 ·subst h; simp
 ·rw [if_neg h,beq_eq_false_iff_ne.2 h]; rfl
theorem zpk (l:List UInt8):ind l≤l.length:=by
 induction l with
 | nil=>exact Nat.le_refl _
 | cons b l ih=>rw [zj6,List.length_cons]; split <;> omega
theorem zib (l:List UInt8) (h:l.length≤1073741824):zcc (mkB l)=some (ind l:Int):=by
 unfold zcc
 refine zbs ?_
 have key:∀ (n i:Nat),i≤l.length→l.length - i<n→zaE (fun _=>none) (zda (mkB l) (fun (n1:Int)=>some n1)) n (i:Int)=some ((i+ind (l.drop i):Nat):Int):=by
  intro n
  induction n with
  | zero=>intro i h1 h2; omega
  | succ n ih =>
   intro i hi hn
   rw [zdK]
   obtain ⟨ag,hag⟩:∃ ag,ag=zaE (fun _=>none) (zda (mkB l) (fun (n1:Int)=>some n1)) n:=⟨_,rfl⟩
   rw [← hag] at ih ⊢
   unfold zda
   cases hd:l.drop i with
   | nil =>
    have:l.length≤i:=List.drop_eq_nil_iff.1 hd
    exact zaw (decide_eq_false (by rw [zbq]; omega)) rfl
   | cons b t =>
    obtain ⟨hb,hlt⟩:=zgo (s:=mkB l) hd
    rw [zbq] at hlt
    refine zaC (decide_eq_true (by rw [zbq]; omega)) (zaJ hb ?_)
    rw [zj6]
    by_cases h32:b=32
    ·refine zaC (by rw [n32]; exact decide_eq_true h32) (zbl ⟨by omega,by omega⟩ ?_)
     have:=ih (i+1) (by omega) (by omega)
     rw [zfS hd] at this
     rw [if_pos h32,show (i:Int)+1=((i+1:Nat):Int) by omega,this]
     congr 1; omega
    ·refine zaw (by rw [n32]; exact decide_eq_false h32) ?_
     rw [if_neg h32]; rfl
 have:=key zbN 0 (Nat.zero_le _) (by unfold zbN; omega)
 rw [List.drop_zero,Nat.zero_add] at this
 exact this
theorem zsF (l:List UInt8) (h:l.length≤1073741824):zed (mkB l)=some (ind l:Int):=by
 unfold zed
 refine zbs ?_
 have key:∀ (n i:Nat),i≤l.length→l.length - i<n→(pcs l).drop i=zdI i (l.drop i)→zaE (fun _ _=>none) (zdv (mkB l) (fun (n1:Int)=>some n1)) n (i:Int) i=some ((i+ind (l.drop i):Nat):Int):=by
  intro n
  induction n with
  | zero=>intro i h1 h2; omega
  | succ n ih =>
   intro i hi hn hp
   rw [zdK]
   obtain ⟨ag,hag⟩:∃ ag,ag=zaE (fun _ _=>none) (zdv (mkB l) (fun (n1:Int)=>some n1)) n:=⟨_,rfl⟩
   rw [← hag] at ih ⊢
   unfold zdv
   rw [ziH]
   cases hd:l.drop i with
   | nil =>
    rw [hd,zdi] at hp
    have:=List.drop_eq_nil_iff.1 hp
    exact zaw (decide_eq_false (by omega)) rfl
   | cons b t =>
    obtain ⟨hb,hlt⟩:=zgo (s:=mkB l) hd
    rw [zbq] at hlt
    rw [hd,zcF i (b::t) (by simp)] at hp
    have hlm:i<(pcs l).length:=by
     rcases Nat.lt_or_ge i (pcs l).length with h | h
     ·exact h
     ·rw [List.drop_eq_nil_of_le h] at hp; cases hp
    have hq:(pcs l)[i]?=some ⟨i,(decodeL (b::t)).2,(decodeL (b::t)).1⟩:=by
     have hp2:=hp
     rw [List.drop_eq_getElem_cons hlm] at hp2
     rw [List.getElem?_eq_getElem hlm,(List.cons.inj hp2).1]
    refine zaC (decide_eq_true hlm) (zaJ hq ?_)
    rw [zj6]
    by_cases h32:b=32
    ·subst h32
     have hdec:=decodeL_ascii 32 t (by decide)
     rw [hdec] at hp ⊢
     refine zaw rfl (zbl ⟨by omega,by omega⟩ ?_)
     have:=ih (i+1) (by omega) (by omega) (by
      rw [← List.drop_drop,hp,zfS hd]; rfl)
     rw [zfS hd] at this
     rw [if_pos rfl,show (i:Int)+1=((i+1:Nat):Int) by omega]
     refine this.trans ?_
     congr 2; omega
    ·refine zaC ?_ (by rw [if_neg h32]; rfl)
     show (((decodeL (b::t)).1:Int) != 32)=true
     refine bne_iff_ne.2 (fun e => ?_)
     by_cases hbig:128≤b.toNat
     ·have:=(zob (t:=t) hbig).1; omega
     ·rw [decodeL_ascii b t (by omega)] at e
      exact h32 (UInt8.toNat.inj (by show b.toNat=32; have:((b.toNat:Nat):Int)=32:=e; omega))
 have:=key zbN 0 (Nat.zero_le _) (by unfold zbN; omega) (by rw [List.drop_zero,List.drop_zero]; rfl)
 rw [List.drop_zero,Nat.zero_add] at this
 exact this
end Go.Proofs.YtbempdelckaccaaGreatDoor

namespace Go.Proofs.YtbempdelckaccaaGreatDoor
open Go.RowKit Go.Lib
set_option linter.unusedVariables false
set_option linter.unusedSimpArgs false
theorem znr (T:List UInt8):∀ (l:List UInt8) (p:Bool) (f a:Nat),T.drop a=l→f≤a→(p=true→l.head?=some 10→f+1≤a) →
  (∀ b∈(T.drop f).take ((if p=true∧l.head?=some 10 then a - 1 else a) - f),isE b=false)→a≤T.length →
  ∀ x∈spP p f a l,x.1≤x.2∧x.2≤T.length∧∀ b∈(T.drop x.1).take (x.2 - x.1),isE b=false
 | [],p,f,a,hd,hf,hp,hb,ha=>by
  intro x hx
  rw [spP,List.mem_singleton] at hx
  subst hx
  have:T.length≤a:=List.drop_eq_nil_iff.1 hd
  refine ⟨hf,ha,?_⟩
  rw [if_neg (by simp)] at hb
  exact hb
 | b::t,p,f,a,hd,hf,hp,hb,ha=>by
  intro x hx
  have hlt:a<T.length:=by
   rcases Nat.lt_or_ge a T.length with h | h
   ·exact h
   ·rw [List.drop_eq_nil_of_le h] at hd; cases hd
  have hd1:=zfS hd
  have hsnoc:∀ f',f'≤a→(T.drop f').take (a+1 - f')=(T.drop f').take (a - f')++[b]:=fun f' hf'=>by
   rw [show a+1 - f'=(a - f')+1 by omega,List.take_add_one,List.getElem?_drop,show f'+(a - f')=a by omega]
   have:T[a]?=some b:=by
    have h0:(T.drop a)[0]?=some b:=by rw [hd]; rfl
    rw [List.getElem?_drop] at h0; exact h0
   rw [this]; rfl
  rw [spP] at hx
  by_cases h13:b=13
  ·rw [if_pos h13] at hx
   have hne:¬ (p=true∧(b::t).head?=some 10):=by rw [h13]; simp
   rw [if_neg hne] at hb
   by_cases ht:t.head?=some 10
   ·rw [if_pos ht] at hx
    refine znr T t true f (a+1) hd1 (by omega) (fun _ _=>by omega) ?_ (by omega) x hx
    rw [if_pos ⟨rfl,ht⟩]; exact hb
   ·rw [if_neg ht] at hx
    rcases List.mem_cons.1 hx with rfl | hx
    ·exact ⟨hf,ha,hb⟩
    ·refine znr T t true (a+1) (a+1) hd1 (Nat.le_refl _) (fun _ h=>absurd h ht) ?_ (by omega) x hx
     rw [if_neg (fun h=>ht h.2),Nat.sub_self,List.take_zero]
     intro y hy; cases hy
  ·rw [if_neg h13] at hx
   by_cases h10:b=10
   ·rw [if_pos h10] at hx
    rcases List.mem_cons.1 hx with rfl | hx
    ·cases p with
     | true =>
      have:=hp rfl (by rw [h10]; rfl)
      rw [if_pos ⟨rfl,by rw [h10]; rfl⟩] at hb
      exact ⟨by show f≤a - 1; omega,by show a - 1≤_; omega,hb⟩
     | false =>
      rw [if_neg (by simp)] at hb
      exact ⟨hf,ha,hb⟩
    ·refine znr T t false (a+1) (a+1) hd1 (Nat.le_refl _) (fun h=>by cases h) ?_ (by omega) x hx
     rw [if_neg (by simp),Nat.sub_self,List.take_zero]
     intro y hy; cases hy
   ·rw [if_neg h10] at hx
    refine znr T t false f (a+1) hd1 (by omega) (fun h=>by cases h) ?_ (by omega) x hx
    rw [if_neg (by simp),hsnoc f hf]
    have hne:¬ (p=true∧(b::t).head?=some 10):=fun h=>h10 (Option.some.inj h.2)
    rw [if_neg hne] at hb
    intro y hy
    rcases List.mem_append.1 hy with hy | hy
    ·exact hb y hy
    ·rw [List.mem_singleton] at hy
     subst hy
     unfold isE
     rw [beq_eq_false_iff_ne.2 h13,beq_eq_false_iff_ne.2 h10]; rfl
theorem zmv (T:List UInt8):∀ x∈zcV T,x.1≤x.2∧x.2≤T.length∧∀ b∈(T.drop x.1).take (x.2 - x.1),isE b=false :=
 znr T T false 0 0 (List.drop_zero) (Nat.le_refl _) (fun h=>by cases h) (by intro b hb; simp at hb) (Nat.zero_le _)
theorem zhs:∀ (l:List UInt8) (p:Bool) (f a:Nat),(spP p f a l).length≤l.length+1
 | [],p,f,a=>Nat.le_refl _
 | b::t,p,f,a=>by
  rw [spP,List.length_cons]
  split
  ·split
   ·have:=zhs t true f (a+1); omega
   ·rw [List.length_cons]; have:=zhs t true (a+1) (a+1); omega
  ·split
   ·rw [List.length_cons]; have:=zhs t false (a+1) (a+1); omega
   ·have:=zhs t false f (a+1); omega
def zhj (T:List UInt8):List (Nat×List UInt8):=(zcV T).map fun x=>(x.1,(T.drop x.1).take (x.2 - x.1))
structure RS where
 t:List UInt8
 stz:List (List (List UInt8))
 vs:List Gapi_Verse
 first:Bool
 row:Bool
def zgG (z:List (List (List UInt8))):List (List UInt8):=z.getLastD []
def zdj (st:RS):List (List (List UInt8)):=if st.row then st.stz else st.stz++[[]]
def zhn (f:Nat) (x:List UInt8) (z:List (List (List UInt8))):Gapi_Verse:=⟨mkB (x.drop (ind x)),ind x,(z.length:Int) - 1,(zgG z).length,(f:Int)+ind x,((f+x.length:Nat):Int)⟩
def zof (st:RS) (f:Nat) (x:List UInt8):RS :=
 ⟨st.t,(zdj st).dropLast++[zgG (zdj st)++[x]],st.vs++[zhn f x (zdj st)],false,true⟩
def zgi (st:RS) (x:Nat×List UInt8):Except Gapi_Spot RS :=
 if zi1 x.2=true then .ok { st with row:=false }
 else if 1024<x.2.length then .error ⟨3,(x.1:Int)+1024⟩
 else if st.first=true∧zpF x.2=true then .ok { st with first:=false,t:=x.2.drop 2 }
 else if st.vs.length=512 then .error ⟨3,x.1⟩
 else .ok (zof st x.1 x.2)
def zhe:RS→List (Nat×List UInt8)→Except Gapi_Spot RS
 | st,[]=>.ok st
 | st,x::xs=>match zgi st x with
  | .ok st'=>zhe st' xs
  | .error e=>.error e
def rs0:RS:=⟨[],[],[],true,false⟩
def rd (T:List UInt8):Except Gapi_Spot RS:=if 65536<T.length then .error ⟨3,65536⟩ else zhe rs0 (zhj T)
def tot (z:List (List (List UInt8))):Nat:=(z.map List.length).sum
def zi9:Nat→List (List (List UInt8))→List Gapi_Span
 | _,[]=>[]
 | n,r::rs=>⟨n,((n+r.length:Nat):Int)⟩::zi9 (n+r.length) rs
theorem zj1:∀ (a b:List (List (List UInt8))) (n:Nat),zi9 n (a++b)=zi9 n a++zi9 (n+tot a) b
 | [],b,n=>rfl
 | r::a,b,n=>by
  show _::zi9 (n+r.length) (a++b)=_
  rw [zj1 a b]
  have:n+tot (r::a)=n+r.length+tot a:=by unfold tot; rw [List.map_cons,List.sum_cons]; omega
  rw [this]; rfl
theorem zhK:∀ (a:List (List (List UInt8))) (n:Nat),(zi9 n a).length=a.length
 | [],n=>rfl
 | r::a,n=>by rw [zi9,List.length_cons,List.length_cons,zhK a]
theorem zkk (a b:List (List (List UInt8))):tot (a++b)=tot a+tot b:=by unfold tot; rw [List.map_append,List.sum_append]
theorem zkj (r:List (List UInt8)):tot [r]=r.length:=by unfold tot; simp
theorem zkJ {z:List (List (List UInt8))} (h:z≠[]):z=z.dropLast++[zgG z]:=by
 unfold zgG
 rw [List.getLastD_eq_getLast?,List.getLast?_eq_some_getLast h]
 exact (List.dropLast_concat_getLast h).symm
structure RInv (st:RS):Prop where
 tot:st.vs.length=tot st.stz
 row:st.row=true→st.stz≠[]
 most:st.vs.length≤512
 ne:∀ r∈st.stz,r≠[]
 t0:st.first=true→st.t=[]
theorem zqq:∀ (z:List (List (List UInt8))),(∀ r∈z,r≠[])→z.length≤tot z
 | [],h=>Nat.le_refl _
 | r::z,h=>by
  have h1:=zqq z fun y hy=>h y (by simp [hy])
  have h2:0<r.length:=List.length_pos_iff.2 (h r (by simp))
  have:tot (r::z)=r.length+tot z:=by unfold tot; rw [List.map_cons,List.sum_cons]
  rw [this,List.length_cons]; omega
theorem RInv.stzLen {st:RS} (h:RInv st):st.stz.length≤512:=Nat.le_trans (zqq _ h.ne) (h.tot ▸ h.most)
theorem zpe {st:RS} (h:RInv st):zdj st≠[]:=by
 unfold zdj
 split
 ·rename_i hr; exact h.row hr
 ·simp
theorem znM {st:RS} {n:Nat} (h:st.stz.length≤n):(zdj st).length≤n+1:=by
 unfold zdj
 split
 ·omega
 ·rw [List.length_append,List.length_singleton]; omega
theorem zkE (st:RS):tot (zdj st)=tot st.stz:=by
 unfold zdj
 split
 ·rfl
 ·rw [zkk,zkj]; rfl
theorem RInv.step {st st':RS} {x:Nat×List UInt8} (h:RInv st) (hs:zgi st x=.ok st'):RInv st':=by
 unfold zgi at hs
 split at hs
 ·cases hs; exact ⟨h.tot,(fun e=>by cases e),h.most,h.ne,h.t0⟩
 ·split at hs
  ·cases hs
  ·split at hs
   ·cases hs; exact ⟨h.tot,h.row,h.most,h.ne,(fun e=>by cases e)⟩
   ·split at hs
    ·cases hs
    ·rename_i h512
     cases hs
     have e:=zkJ (zpe h)
     refine ⟨?_,(fun _=>by simp [zof]),?_,?_,(fun e=>by cases e)⟩
     ·show (st.vs++[_]).length=Go.Proofs.YtbempdelckaccaaGreatDoor.tot ((zdj st).dropLast++[zgG (zdj st)++[x.2]])
      have h2:=zkE st
      rw [e,zkk,zkj] at h2
      rw [zkk,zkj,List.length_append,List.length_append,List.length_singleton,List.length_singleton,h.tot,← h2]
      omega
     ·show (st.vs++[_]).length≤512
      rw [List.length_append,List.length_singleton]
      have:=h.most; omega
     ·intro r hr
      rcases List.mem_append.1 hr with hr | hr
      ·have hm:r∈zdj st:=(List.dropLast_sublist _).mem hr
       unfold zdj at hm hr
       split at hm
       ·exact h.ne r hm
       ·rename_i hrow
        rw [if_neg hrow,List.dropLast_concat] at hr
        exact h.ne r hr
      ·rw [List.mem_singleton] at hr
       subst hr; simp
theorem zon:RInv rs0:=⟨rfl,(fun e=>by cases e),Nat.zero_le _,(fun r hr=>by cases hr),(fun _=>rfl)⟩
theorem RInv.fold:∀ {xs:List (Nat×List UInt8)} {st st':RS},RInv st→zhe st xs=.ok st'→RInv st'
 | [],st,st',h,hs=>by cases hs; exact h
 | x::xs,st,st',h,hs=>by
  unfold zhe at hs
  cases he:zgi st x with
  | ok s1=>rw [he] at hs; exact RInv.fold (h.step he) hs
  | error e=>rw [he] at hs; cases hs
theorem ziu {α:Type} (a:List α) (x y:α):(a++[x]).set a.length y=a++[y]:=by simp
def mkZ (z:List (List (List UInt8))):List (List ByteArray):=z.map (·.map mkB)
section
variable {T:List UInt8} {st:RS} {sp:Nat×Nat} {k:Nat}
theorem zmR {st:RS} (h:RInv st):∃ init r,zdj st=init++[r]∧zgG (zdj st)=r∧(zdj st).dropLast=init∧tot init+r.length=st.vs.length∧zi9 0 (zdj st)=zi9 0 init++[⟨(tot init:Int),(st.vs.length:Int)⟩]:=by
 have e:=zkJ (zpe h)
 refine ⟨_,_,e,rfl,rfl,?_,?_⟩
 ·have h2:=zkE st
  rw [e,zkk,zkj] at h2
  rw [h.tot]; exact h2
 ·have h2:=zkE st
  rw [e,zkk,zkj] at h2
  conv=>lhs; rw [e]
  rw [zj1,Nat.zero_add]
  show _++[(⟨(tot (zdj st).dropLast:Int),((tot (zdj st).dropLast+(zgG (zdj st)).length:Nat):Int)⟩:Gapi_Span)]=_
  rw [h2,h.tot]
theorem zqQ {J:ByteArray→(List Gapi_Verse)→(List Gapi_Span)→Option ((Option Gpoem_Poem)×Gapi_Spot)} {m:Gplace_Map} {n:Int} {ag:ByteArray→(List Gapi_Verse)→(List Gapi_Span)→Bool→Bool→Int→Option ((Option Gpoem_Poem)×Gapi_Spot)}
  (hT:T.length≤65536) (hI:RInv st) (hk:(zcV T)[k]?=some sp) (hm:m.lines.map spE=(zcV T).map mkS) (hn:(k:Int)<n) :
  zdw (mkB T) J m n ag (mkB st.t) st.vs (zi9 0 st.stz) st.first st.row (k:Int) =
   match zgi st (sp.1,(T.drop sp.1).take (sp.2 - sp.1)) with
   | .error e=>some (none,e)
   | .ok st'=>ag (mkB st'.t) st'.vs (zi9 0 st'.stz) st'.first st'.row ((k+1:Nat):Int):=by
 obtain ⟨h1,h2,_⟩:=zmv T sp (List.mem_of_getElem? hk)
 have hkl:=(List.getElem?_eq_some_iff.1 hk).1
 have hkb:=zhs T false 0 0
 have hkb2:(zcV T).length≤T.length+1:=hkb
 obtain ⟨q,hq,hqs⟩:∃ q,m.lines[k]?=some q∧spE q=mkS sp:=by
  have h3:(m.lines.map spE)[k]?=some (mkS sp):=by rw [hm,List.getElem?_map,hk]; rfl
  rw [List.getElem?_map] at h3
  obtain ⟨q,a,b⟩:=Option.map_eq_some_iff.1 h3
  exact ⟨q,a,b⟩
 have hlen:m.lines.length=(zcV T).length:=by have:=congrArg List.length hm; simpa using this
 have hq1:q.span_From=(sp.1:Int):=congrArg Gapi_Span.From hqs
 have hq2:q.span_To=(sp.2:Int):=congrArg Gapi_Span.To hqs
 have hspan:zeh m (k:Int)=some ((⟨(sp.1:Int),(sp.2:Int)⟩:Gapi_Span),q.end_,0):=by
  unfold zeh
  refine zaw (decide_eq_false (by omega)) (zaw (decide_eq_false (by omega)) (zaJ (zcv hq) ?_))
  rw [hq1,hq2]
 have hcut:zb8 (mkB T) (sp.1:Int) (sp.2:Int)=mkB ((T.drop sp.1).take (sp.2 - sp.1)):=zm9 T sp.1 sp.2
 generalize hx:(T.drop sp.1).take (sp.2 - sp.1)=x at hcut ⊢
 have hxl:x.length=sp.2 - sp.1:=by rw [← hx,List.length_take,List.length_drop]; omega
 unfold zdw
 refine zaC (decide_eq_true hn) (zbs (zbs (zaJ hspan (zbl ⟨by show (0:Int)≤(sp.1:Int); omega,by show (sp.1:Int)≤sp.2; omega,by show (sp.2:Int)≤_; rw [zbq]; omega⟩ ?_))))
 show zah (zfa (zb8 (mkB T) (sp.1:Int) (sp.2:Int))) _=_
 rw [hcut]
 refine zaJ (zuC x (by omega)) ?_
 unfold zgi
 have goOn:∀ (a:ByteArray) (b:List Gapi_Verse) (c:List Gapi_Span) (d e:Bool),(grd (I64 ((k:Int)+1))<|ag a b c d e ((k:Int)+1))=ag a b c d e ((k+1:Nat):Int):=fun a b c d e=>zbl ⟨by omega,by omega⟩ (by rw [show (k:Int)+1=((k+1:Nat):Int) by omega])
 cases hb:zi1 x with
 | true =>
  rw [if_pos rfl]
  exact zaC rfl (goOn _ _ _ _ _)
 | false =>
  rw [if_neg (by decide)]
  refine zaw rfl ?_
  by_cases hbig:1024<x.length
  ·rw [if_pos hbig]
   exact zaC (decide_eq_true (by rw [zbq]; omega)) (zbl ⟨by show _≤(sp.1:Int)+1024; omega,by show (sp.1:Int)+1024≤_; omega⟩ rfl)
  ·rw [if_neg hbig]
   refine zaw (decide_eq_false (by rw [zbq]; omega)) ?_
   have h512:=hI.most
   have verse:¬ (st.first=true∧zpF x=true)→(zay (((st.vs.length:Int):Int)==512) (some (none,(⟨3,(sp.1:Int)⟩:Gapi_Spot))) (zbk (fun (j4:(List Gapi_Span)→Option ((Option Gpoem_Poem)×Gapi_Spot)) =>
     zay (!st.row) (grd ((zi9 0 st.stz).length+1≤2147483648)<|j4 (zi9 0 st.stz++[(⟨(st.vs.length:Int),(st.vs.length:Int)⟩:Gapi_Span)])) (j4 (zi9 0 st.stz))) (fun (p20:List Gapi_Span) =>
      grd (I64 ((p20.length:Int) - 1)) <|
      zah (zbm p20 ((p20.length:Int) - 1)) fun (q1:Gapi_Span) =>
      zah (zed (mkB x)) fun (r7:Int) =>
      grd (0≤(r7:Int)∧(r7:Int)≤((mkB x).size:Int)∧(((mkB x).size:Int):Int)≤((mkB x).size:Int)) <|
      grd (I64 ((p20.length:Int) - 1)) <|
      grd (I64 ((st.vs.length:Int) - q1.From)) <|
      grd (I64 ((sp.1:Int)+r7)) <|
      grd (st.vs.length+1≤2147483648) <|
      grd (I64 ((st.vs.length:Int)+1)) <|
      (grd (I64 ((k:Int)+1))<|ag (mkB st.t) (st.vs++[(⟨zb8 (mkB x) r7 ((mkB x).size:Int),r7,(p20.length:Int) - 1,(st.vs.length:Int) - q1.From,(sp.1:Int)+r7,(sp.2:Int)⟩:Gapi_Verse)]) (p20.set ((p20.length:Int) - 1:Int).toNat (⟨q1.From,(st.vs.length:Int)+1⟩:Gapi_Span)) false true ((k:Int)+1))))) =
     match (if st.vs.length=512 then Except.error (⟨3,(sp.1:Int)⟩:Gapi_Spot) else Except.ok (zof st sp.1 x)) with
     | .error e=>some (none,e)
     | .ok st'=>ag (mkB st'.t) st'.vs (zi9 0 st'.stz) st'.first st'.row ((k+1:Nat):Int):=fun hnt=>by
    by_cases hfull:st.vs.length=512
    ·rw [if_pos hfull]; exact zaC (beq_iff_eq.2 (by omega)) rfl
    ·rw [if_neg hfull]
     refine zaw (beq_eq_false_iff_ne.2 (by omega)) (zbs ?_)
     obtain ⟨init,r,he,hl,hdl,htot,hsp⟩:=zmR hI
     have hzl:=hI.stzLen
     have hol:(zdj st).length≤513:=znM hzl
     have hil:init.length+1=(zdj st).length:=by rw [he]; simp
     have tail:∀ p20:List Gapi_Span,p20=zi9 0 (zdj st)→(grd (I64 ((p20.length:Int) - 1)) <|
      zah (zbm p20 ((p20.length:Int) - 1)) fun (q1:Gapi_Span) =>
      zah (zed (mkB x)) fun (r7:Int) =>
      grd (0≤(r7:Int)∧(r7:Int)≤((mkB x).size:Int)∧(((mkB x).size:Int):Int)≤((mkB x).size:Int)) <|
      grd (I64 ((p20.length:Int) - 1)) <|
      grd (I64 ((st.vs.length:Int) - q1.From)) <|
      grd (I64 ((sp.1:Int)+r7)) <|
      grd (st.vs.length+1≤2147483648) <|
      grd (I64 ((st.vs.length:Int)+1)) <|
      (grd (I64 ((k:Int)+1))<|ag (mkB st.t) (st.vs++[(⟨zb8 (mkB x) r7 ((mkB x).size:Int),r7,(p20.length:Int) - 1,(st.vs.length:Int) - q1.From,(sp.1:Int)+r7,(sp.2:Int)⟩:Gapi_Verse)]) (p20.set ((p20.length:Int) - 1:Int).toNat (⟨q1.From,(st.vs.length:Int)+1⟩:Gapi_Span)) false true ((k:Int)+1))) =
       ag (mkB (zof st sp.1 x).t) (zof st sp.1 x).vs (zi9 0 (zof st sp.1 x).stz) (zof st sp.1 x).first (zof st sp.1 x).row ((k+1:Nat):Int):=fun p20 hp=>by
      have hpl:p20.length=(zdj st).length:=by rw [hp,zhK]
      have hg:zbm p20 ((p20.length:Int) - 1)=some ⟨(tot init:Int),(st.vs.length:Int)⟩:=by
       refine zdk (n:=init.length) (by omega) ?_
       rw [hp,hsp,List.getElem?_append_right (by rw [zhK]; exact Nat.le_refl _),zhK,Nat.sub_self]; rfl
      have hind:=zpk x
      refine zbl ⟨by omega,by omega⟩ (zaJ hg (zaJ (zsF x (by omega)) (zbl ⟨by omega,by rw [zbq]; omega,by omega⟩ (zbl ⟨by omega,by omega⟩ (zbl ⟨by show _≤(st.vs.length:Int) - (tot init:Int); omega,by show (st.vs.length:Int) - (tot init:Int)≤_; omega⟩ (zbl ⟨by omega,by omega⟩ (zbl (by omega) (zbl ⟨by omega,by omega⟩ ?_))))))))
      refine (goOn _ _ _ _ _).trans ?_
      have e1:(p20.set ((p20.length:Int) - 1:Int).toNat (⟨(tot init:Int),(st.vs.length:Int)+1⟩:Gapi_Span))=zi9 0 (zof st sp.1 x).stz:=by
       rw [show ((p20.length:Int) - 1:Int).toNat=(zi9 0 init).length by rw [zhK]; omega,hp,hsp,ziu]
       show _=zi9 0 ((zdj st).dropLast++[zgG (zdj st)++[x]])
       rw [hdl,hl,zj1,Nat.zero_add]
       show _=_++[(⟨(tot init:Int),((tot init+(r++[x]).length:Nat):Int)⟩:Gapi_Span)]
       rw [List.length_append,List.length_singleton]
       congr 3
       omega
      have e2:(⟨zb8 (mkB x) (ind x:Int) ((mkB x).size:Int),(ind x:Int),(p20.length:Int) - 1,(st.vs.length:Int) - (tot init:Int),(sp.1:Int)+(ind x:Int),(sp.2:Int)⟩:Gapi_Verse)=zhn sp.1 x (zdj st):=by
       unfold zhn
       rw [zk0,hpl,hl]
       congr 1
       ·omega
       ·omega
      show ag _ (st.vs++[_]) _ _ _ _=_
      rw [e2]
      show ag _ _ (p20.set _ _) _ _ _=_
      rw [e1]
      rfl
     cases hr:st.row with
     | true =>
      refine zaw rfl ?_
      exact tail _ (by unfold zdj; rw [hr]; rfl)
     | false =>
      refine zaC rfl (zbl (by rw [zhK]; omega) ?_)
      refine tail _ ?_
      unfold zdj; rw [hr,if_neg (by decide),zj1,Nat.zero_add,← hI.tot]
      rfl
   cases hf:st.first with
   | true =>
    refine zaC rfl (zaJ (zo1 x) ?_)
    cases ht:zpF x with
    | true =>
     rw [if_pos ⟨rfl,rfl⟩]
     have hx1:1≤x.length:=by
      cases x with
      | nil=>cases ht
      | cons b t=>simp
     refine zaC rfl (zbl ⟨by omega,by rw [zbq]; omega,by omega⟩ (zaJ (a:=mkB (x.drop 2)) ?_ (goOn _ _ _ _ _)))
     have:=zk0 x 1
     rw [show ((1:Nat):Int)=1 from rfl] at this
     rw [this]
     exact ztL x ht
    | false =>
     rw [if_neg (by simp)]
     refine zaw rfl ?_
     exact verse (by rw [ht]; simp)
   | false =>
    rw [if_neg (by simp)]
    refine zaw rfl ?_
    exact verse (by rw [hf]; simp)
end
theorem zqR {T:List UInt8} {J:ByteArray→(List Gapi_Verse)→(List Gapi_Span)→Option ((Option Gpoem_Poem)×Gapi_Spot)} {m:Gplace_Map} (hT:T.length≤65536) (hm:m.lines.map spE=(zcV T).map mkS) :
  ∀ (n k:Nat) (st:RS),RInv st→k≤(zcV T).length→(zcV T).length - k<n →
   zaE (fun _ _ _ _ _ _=>none) (zdw (mkB T) J m (m.lines.length:Int)) n (mkB st.t) st.vs (zi9 0 st.stz) st.first st.row (k:Int) =
    match zhe st ((zhj T).drop k) with
    | .error e=>some (none,e)
    | .ok st'=>J (mkB st'.t) st'.vs (zi9 0 st'.stz):=by
 have hlen:m.lines.length=(zcV T).length:=by have:=congrArg List.length hm; simpa using this
 intro n
 induction n with
 | zero=>intro k st h1 h2 h3; omega
 | succ n ih =>
  intro k st hI hk hn
  rw [zdK]
  obtain ⟨ag,hag⟩:∃ ag,ag=zaE (fun _ _ _ _ _ _=>none) (zdw (mkB T) J m (m.lines.length:Int)) n:=⟨_,rfl⟩
  rw [← hag] at ih ⊢
  rcases Nat.lt_or_ge k (zcV T).length with h | h
  ·obtain ⟨sp,hsp⟩:∃ sp,(zcV T)[k]?=some sp:=⟨_,List.getElem?_eq_getElem h⟩
   rw [zqQ hT hI hsp hm (by omega)]
   have hi:(zhj T).drop k=(sp.1,(T.drop sp.1).take (sp.2 - sp.1))::(zhj T).drop (k+1):=by
    have hl:k<(zhj T).length:=by unfold zhj; rw [List.length_map]; exact h
    rw [List.drop_eq_getElem_cons hl]
    congr 1
    have:(zhj T)[k]?=some (sp.1,(T.drop sp.1).take (sp.2 - sp.1)):=by unfold zhj; rw [List.getElem?_map,hsp]; rfl
    rw [List.getElem?_eq_getElem hl] at this
    exact Option.some.inj this
   rw [hi,zhe]
   cases hs:zgi st (sp.1,(T.drop sp.1).take (sp.2 - sp.1)) with
   | error e=>rfl
   | ok st'=>exact ih (k+1) st' (hI.step hs) (by omega) (by omega)
  ·rw [List.drop_eq_nil_of_le (by unfold zhj; rw [List.length_map]; exact h)]
   unfold zdw
   exact zaw (decide_eq_false (by omega)) rfl
theorem zvx (T:List UInt8):ze1 (mkB T)=match rd T with
  | .error e=>some (none,e)
  | .ok st=>some (some (⟨mkB st.t,st.vs,zi9 0 st.stz,mkB T⟩:Gpoem_Poem),(⟨0,0⟩:Gapi_Spot)):=by
 unfold ze1 rd
 by_cases h:65536<T.length
 ·rw [if_pos h]
  exact zaJ (zsz _ (by rw [zbq]; exact h)) (zaC rfl rfl)
 ·rw [if_neg h]
  obtain ⟨m,h1,h2,h3⟩:=zw0 (mkB T) (by rw [zbq]; omega)
  refine zaJ h1 (zaw rfl (zbs (zaJ rfl (zaJ rfl ?_))))
  have hl:=zhs T false 0 0
  have hl2:(zcV T).length≤T.length+1:=hl
  have:=zqR (J:=fun (p1:ByteArray) (p2:List Gapi_Verse) (p3:List Gapi_Span)=>some ((some (⟨p1,p2,p3,mkB T⟩:Gpoem_Poem)),(⟨0,0⟩:Gapi_Spot))) (T:=T) (m:=m) (by omega) h3 zbN 0 rs0 zon (Nat.zero_le _) (by unfold zbN; omega)
  rw [List.drop_zero] at this
  exact this
end Go.Proofs.YtbempdelckaccaaGreatDoor

namespace Go.Proofs.YtbempdelckaccaaGreatDoor
open Go.RowKit Go.Lib
set_option linter.unusedVariables false
set_option linter.unusedSimpArgs false
theorem zhv (a b:List (List (List UInt8))):mkZ (a++b)=mkZ a++mkZ b:=List.map_append
theorem zfC (a:List (List (List UInt8))):(mkZ a).length=a.length:=List.length_map ..
section
variable {T:List UInt8} {st:RS} {sp:Nat×Nat} {k:Nat}
theorem znD {J:ByteArray→(List (List ByteArray))→(List Gapi_Verse)→Option (Gref17_Poem×(List Gapi_Verse)×Gapi_Spot)} {ag:ByteArray→(List (List ByteArray))→(List Gapi_Verse)→Bool→Bool→Int→Option (Gref17_Poem×(List Gapi_Verse)×Gapi_Spot)}
  (hT:T.length≤65536) (hI:RInv st) (hk:(zcV T)[k]?=some sp) :
  zc3 (mkB T) J ((zcV T).map mkS) ag (mkB st.t) (mkZ st.stz) st.vs st.first st.row (k:Int) =
   match zgi st (sp.1,(T.drop sp.1).take (sp.2 - sp.1)) with
   | .error e=>some ((⟨ByteArray.empty,([]:List (List ByteArray))⟩:Gref17_Poem),([]:List Gapi_Verse),e)
   | .ok st'=>ag (mkB st'.t) (mkZ st'.stz) st'.vs st'.first st'.row ((k+1:Nat):Int):=by
 obtain ⟨h1,h2,_⟩:=zmv T sp (List.mem_of_getElem? hk)
 have hkl:=(List.getElem?_eq_some_iff.1 hk).1
 have hkb:=zhs T false 0 0
 have hkb2:(zcV T).length≤T.length+1:=hkb
 have hq:zbm ((zcV T).map mkS) (k:Int)=some (mkS sp):=zcv (by rw [List.getElem?_map,hk]; rfl)
 have hcut:zb8 (mkB T) (sp.1:Int) (sp.2:Int)=mkB ((T.drop sp.1).take (sp.2 - sp.1)):=zm9 T sp.1 sp.2
 generalize hx:(T.drop sp.1).take (sp.2 - sp.1)=x at hcut ⊢
 have hxl:x.length=sp.2 - sp.1:=by rw [← hx,List.length_take,List.length_drop]; omega
 unfold zc3
 refine zaC (decide_eq_true (by rw [List.length_map]; omega)) (zbs (zaJ hq (zbl ⟨by show (0:Int)≤(sp.1:Int); omega,by show (sp.1:Int)≤sp.2; omega,by show (sp.2:Int)≤_; rw [zbq]; omega⟩ ?_)))
 show zah (zeH (zb8 (mkB T) (sp.1:Int) (sp.2:Int))) _=_
 have hcut2:zb8 (mkB T) (mkS sp).From (mkS sp).To=mkB x:=hcut
 rw [hcut,hcut2]
 refine zaJ (zpN x (by omega)) ?_
 unfold zgi
 have goOn:∀ (a:ByteArray) (b:List (List ByteArray)) (c:List Gapi_Verse) (d e:Bool),(grd (I64 ((k:Int)+1))<|ag a b c d e ((k:Int)+1))=ag a b c d e ((k+1:Nat):Int):=fun a b c d e=>zbl ⟨by omega,by omega⟩ (by rw [show (k:Int)+1=((k+1:Nat):Int) by omega])
 cases hb:zi1 x with
 | true =>
  rw [if_pos rfl]
  exact zaC rfl (goOn _ _ _ _ _)
 | false =>
  rw [if_neg (by decide)]
  refine zaw rfl ?_
  by_cases hbig:1024<x.length
  ·rw [if_pos hbig]
   exact zaC (decide_eq_true (by rw [zbq]; omega)) (zbl ⟨by show _≤(sp.1:Int)+1024; omega,by show (sp.1:Int)+1024≤_; omega⟩ rfl)
  ·rw [if_neg hbig]
   refine zaw (decide_eq_false (by rw [zbq]; omega)) ?_
   have h512:=hI.most
   have verse:∀ Z:Option (Gref17_Poem×(List Gapi_Verse)×Gapi_Spot),Z=(zay (((st.vs.length:Int):Int)==512) (some ((⟨ByteArray.empty,([]:List (List ByteArray))⟩:Gref17_Poem),([]:List Gapi_Verse),(⟨3,(mkS sp).From⟩:Gapi_Spot))) (zbk (fun (j5:(List (List ByteArray))→Option (Gref17_Poem×(List Gapi_Verse)×Gapi_Spot)) =>
     zay (!st.row) (grd ((mkZ st.stz).length+1≤2147483648)<|j5 (mkZ st.stz++[([]:List ByteArray)])) (j5 (mkZ st.stz))) (fun (p15:List (List ByteArray)) =>
      grd (I64 ((p15.length:Int) - 1)) <|
      zah (zcc (mkB x)) fun (r4:Int) =>
      grd (0≤(r4:Int)∧(r4:Int)≤((mkB x).size:Int)∧(((mkB x).size:Int):Int)≤((mkB x).size:Int)) <|
      zah (zcc (mkB x)) fun (r5:Int) =>
      zah (zbm p15 ((p15.length:Int) - 1)) fun (x1:List ByteArray) =>
      zah (zcc (mkB x)) fun (r6:Int) =>
      grd (I64 ((mkS sp).From+r6)) <|
      grd (st.vs.length+1≤2147483648) <|
      zah (zbm p15 ((p15.length:Int) - 1)) fun (x2:List ByteArray) =>
      grd (x2.length+1≤2147483648) <|
      (grd (I64 ((k:Int)+1))<|ag (mkB st.t) (p15.set ((p15.length:Int) - 1:Int).toNat (x2++[mkB x])) (st.vs++[(⟨zb8 (mkB x) r4 ((mkB x).size:Int),r5,(p15.length:Int) - 1,(x1.length:Int),(mkS sp).From+r6,(mkS sp).To⟩:Gapi_Verse)]) false true ((k:Int)+1))))) →
     ¬ (st.first=true∧zpF x=true)→Z =
     match (if st.vs.length=512 then Except.error (⟨3,(sp.1:Int)⟩:Gapi_Spot) else Except.ok (zof st sp.1 x)) with
     | .error e=>some ((⟨ByteArray.empty,([]:List (List ByteArray))⟩:Gref17_Poem),([]:List Gapi_Verse),e)
     | .ok st'=>ag (mkB st'.t) (mkZ st'.stz) st'.vs st'.first st'.row ((k+1:Nat):Int):=fun Z hZ hnt=>by
    rw [hZ]
    by_cases hfull:st.vs.length=512
    ·rw [if_pos hfull]; exact zaC (beq_iff_eq.2 (by omega)) rfl
    ·rw [if_neg hfull]
     refine zaw (beq_eq_false_iff_ne.2 (by omega)) (zbs ?_)
     obtain ⟨init,r,he,hl,hdl,htot,hsp⟩:=zmR hI
     have hzl:=hI.stzLen
     have hol:(zdj st).length≤513:=znM hzl
     have hil:init.length+1=(zdj st).length:=by rw [he]; simp
     have tail:∀ p15:List (List ByteArray),p15=mkZ (zdj st)→(grd (I64 ((p15.length:Int) - 1)) <|
      zah (zcc (mkB x)) fun (r4:Int) =>
      grd (0≤(r4:Int)∧(r4:Int)≤((mkB x).size:Int)∧(((mkB x).size:Int):Int)≤((mkB x).size:Int)) <|
      zah (zcc (mkB x)) fun (r5:Int) =>
      zah (zbm p15 ((p15.length:Int) - 1)) fun (x1:List ByteArray) =>
      zah (zcc (mkB x)) fun (r6:Int) =>
      grd (I64 ((mkS sp).From+r6)) <|
      grd (st.vs.length+1≤2147483648) <|
      zah (zbm p15 ((p15.length:Int) - 1)) fun (x2:List ByteArray) =>
      grd (x2.length+1≤2147483648) <|
      (grd (I64 ((k:Int)+1))<|ag (mkB st.t) (p15.set ((p15.length:Int) - 1:Int).toNat (x2++[mkB x])) (st.vs++[(⟨zb8 (mkB x) r4 ((mkB x).size:Int),r5,(p15.length:Int) - 1,(x1.length:Int),(mkS sp).From+r6,(mkS sp).To⟩:Gapi_Verse)]) false true ((k:Int)+1))) =
       ag (mkB (zof st sp.1 x).t) (mkZ (zof st sp.1 x).stz) (zof st sp.1 x).vs (zof st sp.1 x).first (zof st sp.1 x).row ((k+1:Nat):Int):=fun p15 hp=>by
      have hpl:p15.length=(zdj st).length:=by rw [hp,zfC]
      have hg:zbm p15 ((p15.length:Int) - 1)=some (r.map mkB):=by
       refine zdk (n:=init.length) (by omega) ?_
       rw [hp,he,zhv,List.getElem?_append_right (by rw [zfC]; exact Nat.le_refl _),zfC,Nat.sub_self]; rfl
      have hind:=zpk x
      refine zbl ⟨by omega,by omega⟩ (zaJ (zib x (by omega)) (zbl ⟨by omega,by rw [zbq]; omega,by omega⟩ (zaJ (zib x (by omega)) (zaJ hg (zaJ (zib x (by omega)) (zbl ⟨by show _≤(sp.1:Int)+_; omega,by show (sp.1:Int)+_≤_; omega⟩ (zbl (by omega) (zaJ hg (zbl (by rw [List.length_map]; omega) ?_)))))))))
      refine (goOn _ _ _ _ _).trans ?_
      have e1:(p15.set ((p15.length:Int) - 1:Int).toNat (r.map mkB++[mkB x]))=mkZ (zof st sp.1 x).stz:=by
       rw [show ((p15.length:Int) - 1:Int).toNat=(mkZ init).length by rw [zfC]; omega,hp,he,zhv]
       show ((mkZ init++[r.map mkB]).set _ _)=mkZ ((zdj st).dropLast++[zgG (zdj st)++[x]])
       rw [ziu,hdl,hl,zhv]
       show _=_++[(r++[x]).map mkB]
       rw [List.map_append]; rfl
      have e2:(⟨zb8 (mkB x) (ind x:Int) ((mkB x).size:Int),(ind x:Int),(p15.length:Int) - 1,((r.map mkB).length:Int),(mkS sp).From+(ind x:Int),(mkS sp).To⟩:Gapi_Verse)=zhn sp.1 x (zdj st):=by
       unfold zhn
       rw [zk0,hpl,hl,List.length_map]
       congr 1
       show (sp.2:Int)=_
       omega
      rw [e2,e1]
      rfl
     cases hr:st.row with
     | true =>
      refine zaw rfl ?_
      exact tail _ (by unfold zdj; rw [hr]; rfl)
     | false =>
      refine zaC rfl (zbl (by rw [zfC]; omega) ?_)
      refine tail _ ?_
      unfold zdj; rw [hr,if_neg (by decide),zhv]
      rfl
   refine zbs ?_
   cases hf:st.first with
   | true =>
    refine zaC rfl (zaJ (zoq x) ?_)
    cases ht:zpF x with
    | true =>
     rw [if_pos ⟨rfl,rfl⟩]
     refine zaC rfl (zbs ?_)
     by_cases h2l:2<x.length
     ·refine zaC (decide_eq_true (by rw [zbq]; omega)) (zbl ⟨by omega,by rw [zbq]; omega,by omega⟩ ?_)
      have:=zk0 x 2
      rw [show ((2:Nat):Int)=2 from rfl] at this
      rw [this]
      exact goOn _ _ _ _ _
     ·refine zaw (decide_eq_false (by rw [zbq]; omega)) ?_
      rw [hI.t0 hf,List.drop_eq_nil_of_le (by show x.length≤2; omega)]
      exact goOn _ _ _ _ _
    | false =>
     rw [if_neg (by simp)]
     refine zaw rfl ?_
     exact verse _ rfl (by rw [ht]; simp)
   | false =>
    rw [if_neg (by simp)]
    refine zaw rfl ?_
    exact verse _ rfl (by rw [hf]; simp)
end
theorem znE {T:List UInt8} {J:ByteArray→(List (List ByteArray))→(List Gapi_Verse)→Option (Gref17_Poem×(List Gapi_Verse)×Gapi_Spot)} (hT:T.length≤65536) :
  ∀ (n k:Nat) (st:RS),RInv st→k≤(zcV T).length→(zcV T).length - k<n →
   zaE (fun _ _ _ _ _ _=>none) (zc3 (mkB T) J ((zcV T).map mkS)) n (mkB st.t) (mkZ st.stz) st.vs st.first st.row (k:Int) =
    match zhe st ((zhj T).drop k) with
    | .error e=>some ((⟨ByteArray.empty,([]:List (List ByteArray))⟩:Gref17_Poem),([]:List Gapi_Verse),e)
    | .ok st'=>J (mkB st'.t) (mkZ st'.stz) st'.vs:=by
 intro n
 induction n with
 | zero=>intro k st h1 h2 h3; omega
 | succ n ih =>
  intro k st hI hk hn
  rw [zdK]
  obtain ⟨ag,hag⟩:∃ ag,ag=zaE (fun _ _ _ _ _ _=>none) (zc3 (mkB T) J ((zcV T).map mkS)) n:=⟨_,rfl⟩
  rw [← hag] at ih ⊢
  rcases Nat.lt_or_ge k (zcV T).length with h | h
  ·obtain ⟨sp,hsp⟩:∃ sp,(zcV T)[k]?=some sp:=⟨_,List.getElem?_eq_getElem h⟩
   rw [znD hT hI hsp]
   have hi:(zhj T).drop k=(sp.1,(T.drop sp.1).take (sp.2 - sp.1))::(zhj T).drop (k+1):=by
    have hl:k<(zhj T).length:=by unfold zhj; rw [List.length_map]; exact h
    rw [List.drop_eq_getElem_cons hl]
    congr 1
    have:(zhj T)[k]?=some (sp.1,(T.drop sp.1).take (sp.2 - sp.1)):=by unfold zhj; rw [List.getElem?_map,hsp]; rfl
    rw [List.getElem?_eq_getElem hl] at this
    exact Option.some.inj this
   rw [hi,zhe]
   cases hs:zgi st (sp.1,(T.drop sp.1).take (sp.2 - sp.1)) with
   | error e=>rfl
   | ok st'=>exact ih (k+1) st' (hI.step hs) (by omega) (by omega)
  ·rw [List.drop_eq_nil_of_le (by unfold zhj; rw [List.length_map]; exact h)]
   unfold zc3
   exact zaw (decide_eq_false (by rw [List.length_map]; omega)) rfl
theorem zqP (T:List UInt8):zfQ (mkB T)=match rd T with
  | .error e=>some ((⟨ByteArray.empty,([]:List (List ByteArray))⟩:Gref17_Poem),([]:List Gapi_Verse),e)
  | .ok st=>some ((⟨mkB st.t,mkZ st.stz⟩:Gref17_Poem),st.vs,(⟨0,0⟩:Gapi_Spot)):=by
 unfold zfQ rd
 by_cases h:65536<T.length
 ·rw [if_pos h]
  exact zaC (decide_eq_true (by rw [zbq]; omega)) rfl
 ·rw [if_neg h]
  refine zaw (decide_eq_false (by rw [zbq]; omega)) (zbs (zaJ (zpM _ (by rw [zbq]; omega)) ?_))
  have hl:=zhs T false 0 0
  have hl2:(zcV T).length≤T.length+1:=hl
  have:=znE (J:=fun (p1:ByteArray) (p2:List (List ByteArray)) (l1:List Gapi_Verse)=>some ((⟨p1,p2⟩:Gref17_Poem),l1,(⟨0,0⟩:Gapi_Spot))) (T:=T) (by omega) zbN 0 rs0 zon (Nat.zero_le _) (by unfold zbN; omega)
  rw [List.drop_zero] at this
  exact this
end Go.Proofs.YtbempdelckaccaaGreatDoor

namespace Go.Proofs.YtbempdelckaccaaGreatDoor
open Go.RowKit Go.Lib
set_option linter.unusedVariables false
set_option linter.unusedSimpArgs false
def zci (c0:Gpoem_Poem) (ag1:Int→Option (List (Int×Gapi_Verse))) (x3:Int):Option (List (Int×Gapi_Verse)) :=
zay (decide ((x3:Int)<(c0.told_lines.length:Int))) (
zah (zbm c0.told_lines x3) fun (q1:Gapi_Verse) =>
zhH (x3,q1) <|
grd (I64 (x3+1)) <|
ag1 (x3+1)
) (
some []
)
def zdf (c0:Gpoem_Poem):Option (List (Int×Gapi_Verse)) :=
zaE (fun _=>none) (zci c0) zbN 0
theorem zhX {b_c0 p_c0:Nat} {c0:Gpoem_Poem} {c0_h0 c0_h1:Hd} {xs:(List (Int×Gapi_Verse))} (h:zdf c0=some xs):ItrR Tryz.prog 115 [zP b_c0] (fun q:Int×Gapi_Verse=>[zI q.1,.agg (zr4 q.2).toArray]) xs [cells b_c0 [zP p_c0] 58,cells p_c0 [.string c0.told_title,c0_h0.v,c0_h1.v,.string c0.source] 106,zv6 c0_h0.v c0.told_lines,zv7 c0_h1.v c0.told_stanzas]:=by
 unfold zdf at h
 refine ItrR.intro Tryz.func115 rfl Tryz.ntmps115 (by simp) ?_
 intro l w0 K I X hrd hy
 obtain ⟨r0,hx0⟩:∃ r,xs=[]++r:=⟨xs,rfl⟩
 have hr0:xs=r0:=hx0
 rw [hr0] at h
 refine zaI (zyG (zbw (i:=0) hrd rfl zvn rfl dc rfl rfl (zaU rfl (zc6 Tryz.underlying58) (zyN (zaS rfl (zar (zaH (zyG (zbw (i:=0) hrd rfl zvn rfl dc rfl rfl (zaD rfl dc rfl ?_))))))))))
 refine zab zeZ rfl dc rfl (show _=0 from rfl) (zab zhN rfl dc rfl (show _=1 from rfl) (zbw (i:=1) hrd rfl zqK rfl dc rfl rfl (zdT (hrd.vw (i:=2) rfl) rfl dc rfl Tryz.underlying26 (zyR 1 rfl (zyN (zaF ?_))))))
 refine zbj (β:=Nat×Int×(List (Int×Gapi_Verse))×(List (Int×Gapi_Verse))) (fun b=>zaE (fun _=>none) (zci c0) b.1 b.2.1=some b.2.2.2∧xs=b.2.2.1++b.2.2.2) (fun b=>[]) (fun b=>[(0,.func (.yield l) #[] #[]),(11,c0_h0.v),(12,zI (c0.told_lines.length:Int)),(13,zI b.2.1)]) (fun b=>[I b.2.2.1]) (fun b=>b.1) (zbN,0,([]:List (Int×Gapi_Verse)),r0) ⟨h,hx0⟩ rfl (za0 rfl) (zad [0] kr rfl) ?_
 rintro ⟨n1,x3,acc3,rr3⟩ ⟨h,hx3⟩
 cases n1 with
 | zero=>exact zdp h
 | succ n1 =>
  obtain ⟨ag1,hag1⟩:∃ ag,ag=zaE (fun _=>none) (zci c0) n1:=⟨_,rfl⟩
  have h:zci c0 ag1 x3=some rr3:=by rw [hag1]; exact h
  unfold zci at h
  refine zyG (zaU rfl zbc (zyN (zaI ?_)))
  refine zyB rfl h (fun h => ?_) (fun h => ?_)
  ·
   refine zar (zaH (zaI (zaF (zyG (zyR 1 rfl ?_)))))
   obtain ⟨q1,hq1,h⟩:=zbi h
   refine za9 (hrd.vw (i:=2) rfl) hq1 Tryz.underlying26 zlq rfl dc rfl rfl rfl (zeN (m:=0+(x3:Int).toNat) (j:=0) (i:=2) (q:=q1) (cs:=(zr4 q1)) hrd rfl ztY zdR rfl dc rfl (Vw.get (hrd.vw (i:=2) rfl) hq1) rfl rfl rfl ?_)
   refine zbE ztF rfl dc (fun b1 => ?_)
   refine zyR 1 rfl (za6 (k:=1) (vs:=(zr4 q1)) (l':=(zr4 q1)) zlq rfl rfl rfl rfl rfl (show _≤_ by simp) rfl rfl ?_)
   refine zyH (zyR 2 rfl (zbd (k:=1) (cs:=(zr4 q1)) ztY rfl dc rfl rfl rfl rfl ?_))
   obtain ⟨rr4,hr1,h⟩:=zk2 h
   have hx4:xs=acc3++(x3,q1)::rr4:=by rw [hx3,hr1]
   refine zfs hy rfl dc rfl hx4 rfl (k:=0) rfl ?_ ?_
   ·
    have hx5:xs=(acc3++[(x3,q1)])++rr4:=by rw [hx4]; simp
    refine zee rfl dc rfl zcN (zyN (zaS rfl (zar (zag (zaH (zav ?_))))))
    obtain ⟨hg1,h⟩:=zbr h
    refine zaU rfl (zaR (r:=x3+1) (IntWalk.i64_in _ hg1)) (zyR 1 rfl (zaO ?_))
    subst hag1
    exact za1 (n1,x3+1,acc3++[(x3,q1)],rr4) ⟨h,hx5⟩ (Nat.lt_succ_self _) rfl (za0 rfl) (zad [0] kr rfl)
   refine zee rfl dc rfl zcN (zyN (za5 rfl (zaG (zat (zao (zao (zat ?_)))))))
   exact zng (ds:=[]) acc3 (x3,q1) rr4 hx4 (.inl rfl) Splits.nil Tryz.results115 (zad [0] kr rfl)
  refine za3 (zan (zan (zax ?_)))
  cases h
  exact znf (ds:=[]) (.inr rfl) Splits.nil Tryz.results115 (congrArg I (hx3.trans (List.append_nil _))) (zad [0] kr rfl)
def zeg (p1:Gpoem_Poem):Option Unit :=
some ()
theorem zjb {bp1:Nat} {p1:Gpoem_Poem} {p1_h0 p1_h1:Hd} {r:Unit} (h:zeg p1=some r):FnR Tryz.prog 86 [zP bp1] [cells bp1 [.string p1.told_title,p1_h0.v,p1_h1.v,.string p1.source] 106,zv6 p1_h0.v p1.told_lines,zv7 p1_h1.v p1.told_stanzas] [] (fun v0:Nat=>.func (.func 115) #[] #[zP v0]) (fun v0=>[cells v0 [zP bp1] 58]):=by
 unfold zeg at h
 refine FnR.intro Tryz.func86 rfl Tryz.ntmps86 (by simp) ?_
 intro w0 K hrd
 refine zyG ?_
 refine zea rfl dc rfl (fun b1 => ?_)
 refine zyR 1 rfl (zyH (zin (x1:=[]) (x2:=[.tmp 1]) rfl dc rfl rfl (zyR 1 rfl (zyN (zaG ?_)))))
 cases h
 exact zaK (rs:=[.tmp 2]) b1 (.inl rfl) Tryz.results86 (.cons (.tmp rfl) .nil) rfl (zad [0] kr rfl)
end Go.Proofs.YtbempdelckaccaaGreatDoor

namespace Go.Proofs.YtbempdelckaccaaGreatDoor
open Go.RowKit Go.Lib
set_option linter.unusedVariables false
set_option linter.unusedSimpArgs false
end Go.Proofs.YtbempdelckaccaaGreatDoor

namespace Go.Proofs.YtbempdelckaccaaGreatDoor
open Go.RowKit Go.Lib Go.Shelf
set_option linter.unusedVariables false
set_option linter.unusedSimpArgs false
end Go.Proofs.YtbempdelckaccaaGreatDoor

namespace Go.Proofs.YtbempdelckaccaaGreatDoor
open Go.RowKit Go.Lib
set_option linter.unusedVariables false
set_option linter.unusedSimpArgs false
end Go.Proofs.YtbempdelckaccaaGreatDoor

namespace Go.Proofs.YtbempdelckaccaaGreatDoor
open Go.RowKit Go.Lib
set_option linter.unusedVariables false
set_option linter.unusedSimpArgs false
def zfl (j3:ByteArray→Option ByteArray) (x5:List ByteArray) (ag2:ByteArray→Int→Option ByteArray) (b12:ByteArray) (x8:Int):Option ByteArray :=
zay (decide ((x8:Int)<(x5.length:Int))) (
zah (zbm x5 x8) fun (q2:ByteArray) =>
grd (q2.size+(⟨#[10]⟩:ByteArray).size≤9223372036854775807) <|
grd (b12.size+(q2++(⟨#[10]⟩:ByteArray)).size≤140737488355328) <|
grd (I64 (x8+1)) <|
ag2 (b12++(q2++(⟨#[10]⟩:ByteArray))) (x8+1)
) (
j3 b12
)
def zdC (stanzas1:List (List ByteArray)) (j2:ByteArray→Option ByteArray) (ag1:ByteArray→Int→Option ByteArray) (b7:ByteArray) (x4:Int):Option ByteArray :=
zay (decide ((x4:Int)<(stanzas1.length:Int))) (
zbk (fun (j3:ByteArray→Option ByteArray) =>
zah (zbm stanzas1 x4) fun (x5:List ByteArray) =>
zbk (fun (j4:ByteArray→Option ByteArray) =>
zay (decide ((0:Int)<(b7.size:Int))) (
grd (b7.size+(⟨#[10]⟩:ByteArray).size≤140737488355328) <|
j4 (b7++(⟨#[10]⟩:ByteArray))
) (
j4 b7
)
) (fun (b9:ByteArray) =>
zaE (fun _ _=>none) (zfl j3 x5) zbN b9 0
)
) (fun (b8:ByteArray) =>
grd (I64 (x4+1)) <|
ag1 b8 (x4+1)
)
) (
j2 b7
)
def zgF (title1:ByteArray) (stanzas1:List (List ByteArray)):Option ByteArray :=
zbk (fun (j1:ByteArray→Option ByteArray) =>
zay (!decide (title1=(⟨#[]⟩:ByteArray))) (
grd ((⟨#[35,32]⟩:ByteArray).size+title1.size≤9223372036854775807) <|
grd (((⟨#[35,32]⟩:ByteArray)++title1).size+(⟨#[10]⟩:ByteArray).size≤9223372036854775807) <|
grd ((⟨#[]⟩:ByteArray).size+(((⟨#[35,32]⟩:ByteArray)++title1)++(⟨#[10]⟩:ByteArray)).size≤140737488355328) <|
j1 ((⟨#[]⟩:ByteArray)++(((⟨#[35,32]⟩:ByteArray)++title1)++(⟨#[10]⟩:ByteArray)))
) (
zay (decide ((0:Int)<(stanzas1.length:Int))) (
zah (zbm stanzas1 0) fun (x1:List ByteArray) =>
zah (zbm x1 0) fun (q1:ByteArray) =>
zah (zeI q1) fun (r1:Bool) =>
zay (r1) (
grd ((⟨#[35,32]⟩:ByteArray).size+title1.size≤9223372036854775807) <|
grd (((⟨#[35,32]⟩:ByteArray)++title1).size+(⟨#[10]⟩:ByteArray).size≤9223372036854775807) <|
grd ((⟨#[]⟩:ByteArray).size+(((⟨#[35,32]⟩:ByteArray)++title1)++(⟨#[10]⟩:ByteArray)).size≤140737488355328) <|
j1 ((⟨#[]⟩:ByteArray)++(((⟨#[35,32]⟩:ByteArray)++title1)++(⟨#[10]⟩:ByteArray)))
) (
j1 (⟨#[]⟩:ByteArray)
)
) (
j1 (⟨#[]⟩:ByteArray)
)
)
) (fun (b2:ByteArray) =>
zbk (fun (j2:ByteArray→Option ByteArray) =>
zaE (fun _ _=>none) (zdC stanzas1 j2) zbN b2 0
) (fun (b4:ByteArray) =>
some b4
)
)
def zeJ (from1:Int) (to1:Int) (x1:Int×Gapi_Verse) (ag1:(List (List ByteArray))→Int→Option (List (List ByteArray))) (out4:List (List ByteArray)) (stanza3:Int):Option (List (List ByteArray)) :=
zay (decide ((x1.1:Int)<from1)) (
ag1 out4 stanza3
) (
zay (decide ((to1:Int)≤x1.1)) (
ag1 out4 stanza3
) (
zbk (fun (j2:(List (List ByteArray))→Int→Option (List (List ByteArray))) =>
zay ((x1.2.Stanza:Int) != stanza3) (
grd (out4.length+1≤2147483648) <|
j2 (out4++[([]:List ByteArray)]) x1.2.Stanza
) (
j2 out4 stanza3
)
) (fun (out5:List (List ByteArray)) (stanza4:Int) =>
grd (I64 ((out5.length:Int) - 1)) <|
zah (zbm out5 ((out5.length:Int) - 1)) fun (x2:List ByteArray) =>
grd (0≤x1.2.Indent∧x1.2.Indent≤140737488355328) <|
grd ((zhr x1.2.Indent).size+x1.2.Text.size≤9223372036854775807) <|
grd (x2.length+1≤2147483648) <|
ag1 (out5.set ((out5.length:Int) - 1:Int).toNat (x2++[(zhr x1.2.Indent)++x1.2.Text])) stanza4
)
)
)
def zeV (p1:Gpoem_Poem) (from1:Int) (to1:Int):Option (List (List ByteArray)) :=
zbk (fun (j1:(List (List ByteArray))→Option (List (List ByteArray))) =>
zah (zeg p1) fun (r1:Unit) =>
zah (zdf p1) fun (its1:(List (Int×Gapi_Verse))) =>
zbk (fun (dn1:(List (List ByteArray))→Int→Option (List (List ByteArray))) =>
zev dn1 (zeJ from1 to1) its1 ([]:List (List ByteArray)) (-1)
) (fun (out4:List (List ByteArray)) (stanza3:Int) =>
j1 out4
)
) (fun (out1:List (List ByteArray)) =>
some out1
)
def zgO (p1:Gpoem_Poem):Option ByteArray :=
zah (zeV p1 0 (p1.told_lines.length:Int)) fun (r1:(List (List ByteArray))) =>
zah (zgF p1.told_title r1) fun (r2:ByteArray) =>
some r2
end Go.Proofs.YtbempdelckaccaaGreatDoor

namespace Go.Proofs.YtbempdelckaccaaGreatDoor
open Go.RowKit Go.Lib
set_option linter.unusedVariables false
set_option linter.unusedSimpArgs false
theorem zih (a b:List UInt8):mkB a++mkB b=mkB (a++b):=by
 have h:∀ a b:ByteArray,a.data.toList=b.data.toList→a=b:=fun a b h=>by
  have:mkB a.data.toList=mkB b.data.toList:=by rw [h]
  exact this
 apply h
 rw [ByteArray.data_append,Array.toList_append]
 rfl
abbrev Row:=List (List UInt8)
def lnT (r:Row):List UInt8:=r.flatMap (· ++ [10])
def ztT (a:List UInt8):List UInt8:=if a=[] then a else a++[10]
def zq6 (t:List UInt8):List Row→Bool
 | (x::_)::_=>decide (t≠[])||zpF x
 | _=>decide (t≠[])
def zoy (t:List UInt8) (z:List Row):List UInt8:=if zq6 t z then 35::32::t++[10] else []
def prF (a:List UInt8) (z:List Row):List UInt8:=z.foldl (fun a r=>ztT a++lnT r) a
def prT (t:List UInt8) (z:List Row):List UInt8:=prF (zoy t z) z
def wtR (r:Row):Nat:=(r.map fun x=>x.length+1).sum
def wtZ (z:List Row):Nat:=(z.map fun r=>1+wtR r).sum
theorem zj0 (x:List UInt8) (r:Row):wtR (x::r)=x.length+1+wtR r:=by unfold wtR; rw [List.map_cons,List.sum_cons]
theorem zmk (r:Row) (z:List Row):wtZ (r::z)=1+wtR r+wtZ z:=by unfold wtZ; rw [List.map_cons,List.sum_cons]
theorem zpg (x:List UInt8) (r:Row):lnT (x::r)=x++[10]++lnT r:=List.flatMap_cons
theorem zui (r:Row):(lnT r).length=wtR r:=by
 induction r with
 | nil=>rfl
 | cons x r ih=>rw [zpg,zj0,List.length_append,List.length_append,ih]; rfl
theorem zqi (r:Row):r.length≤wtR r:=by
 induction r with
 | nil=>exact Nat.le_refl _
 | cons x r ih=>rw [zj0,List.length_cons]; omega
theorem zqh (z:List Row):z.length≤wtZ z:=by
 induction z with
 | nil=>exact Nat.le_refl _
 | cons r z ih=>rw [zmk,List.length_cons]; omega
theorem zsi (a:List UInt8):(ztT a).length≤a.length+1:=by
 unfold ztT; split
 ·omega
 ·rw [List.length_append]; simp
theorem zra (t:List UInt8) (z:List Row):(zoy t z).length≤t.length+3:=by
 unfold zoy; split
 ·simp
 ·simp
theorem zpQ (r:Row) (J:ByteArray→Option ByteArray) (a0:List UInt8) (hb:a0.length+wtR r≤140737488354000):∀ (n i:Nat) (a:List UInt8),i≤r.length→r.length - i<n→a.length+wtR (r.drop i)≤140737488354000 →
  zaE (fun _ _=>none) (zfl J (r.map mkB)) n (mkB a) (i:Int)=J (mkB (a++lnT (r.drop i))):=by
 intro n
 induction n with
 | zero=>intro i a h1 h2; omega
 | succ n ih =>
  intro i a hi hn ha
  rw [zdK]
  obtain ⟨ag,hag⟩:∃ ag,ag=zaE (fun _ _=>none) (zfl J (r.map mkB)) n:=⟨_,rfl⟩
  rw [← hag] at ih ⊢
  unfold zfl
  have hrl:=zqi r
  rcases Nat.lt_or_ge i r.length with h | h
  ·have hd:r.drop i=r[i]::r.drop (i+1):=List.drop_eq_getElem_cons h
   rw [hd,zj0] at ha
   have hg:zbm (r.map mkB) (i:Int)=some (mkB r[i]):=zcv (by rw [List.getElem?_map,List.getElem?_eq_getElem h]; rfl)
   refine zaC (decide_eq_true (by rw [List.length_map]; omega)) (zaJ hg ?_)
   rw [show (⟨#[10]⟩:ByteArray)=mkB [10] from rfl,zih,zih]
   refine zbl (by rw [zbq,zbq]; simp only [List.length_singleton]; omega) (zbl (by rw [zbq,zbq,List.length_append]; simp only [List.length_singleton]; omega) (zbl ⟨by omega,by omega⟩ ?_))
   rw [show (i:Int)+1=((i+1:Nat):Int) by omega,ih (i+1) _ (by omega) (by omega) (by rw [List.length_append,List.length_append]; simp only [List.length_singleton]; omega),hd,zpg]
   simp only [List.append_assoc]
  ·rw [List.drop_eq_nil_of_le h]
   refine zaw (decide_eq_false (by rw [List.length_map]; omega)) ?_
   show J (mkB a)=J (mkB (a++[]))
   rw [List.append_nil]
theorem zor (z:List Row) (hz:z.length≤140737488354000) (J:ByteArray→Option ByteArray):∀ (n i:Nat) (a:List UInt8),i≤z.length→z.length - i<n→a.length+wtZ (z.drop i)≤140737488354000 →
  zaE (fun _ _=>none) (zdC (mkZ z) J) n (mkB a) (i:Int)=J (mkB (prF a (z.drop i))):=by
 intro n
 induction n with
 | zero=>intro i a h1 h2; omega
 | succ n ih =>
  intro i a hi hn ha
  rw [zdK]
  obtain ⟨ag,hag⟩:∃ ag,ag=zaE (fun _ _=>none) (zdC (mkZ z) J) n:=⟨_,rfl⟩
  rw [← hag] at ih ⊢
  unfold zdC
  rcases Nat.lt_or_ge i z.length with h | h
  ·have hd:z.drop i=z[i]::z.drop (i+1):=List.drop_eq_getElem_cons h
   have hdl:=zqh (z.drop i)
   rw [List.length_drop] at hdl
   rw [hd,zmk] at ha
   have hg:zbm (mkZ z) (i:Int)=some (z[i].map mkB):=zcv (by unfold mkZ; rw [List.getElem?_map,List.getElem?_eq_getElem h]; rfl)
   have hsl:=zsi a
   refine zaC (decide_eq_true (by rw [zfC]; omega)) (zbs (zaJ hg (zbs ?_)))
   have hin:=zpQ z[i] (fun (b8:ByteArray)=>grd (I64 ((i:Int)+1))<|ag b8 ((i:Int)+1)) (ztT a) (by omega) zbN 0 (ztT a) (Nat.zero_le _) (by have:=zqi z[i]; unfold zbN; omega) (by rw [List.drop_zero]; omega)
   have fin:(grd (I64 ((i:Int)+1))<|ag (mkB (ztT a++lnT z[i])) ((i:Int)+1))=J (mkB (prF a (z.drop i))):=by
    rw [hd]
    refine zbl ⟨by omega,by omega⟩ ?_
    rw [show (i:Int)+1=((i+1:Nat):Int) by omega,ih (i+1) _ (by omega) (by omega) (by rw [List.length_append,zui]; omega)]
    rfl
   by_cases ha0:a=[]
   ·subst ha0
    refine zaw (decide_eq_false (by rw [zbq]; simp)) ?_
    refine hin.trans ?_
    rw [List.drop_zero]; exact fin
   ·have hpos:0<a.length:=List.length_pos_iff.2 ha0
    refine zaC (decide_eq_true (by rw [zbq]; omega)) (zbl (by rw [zbq]; show a.length+1≤_; omega) ?_)
    have e:ztT a=a++[10]:=if_neg ha0
    rw [show (⟨#[10]⟩:ByteArray)=mkB [10] from rfl,zih,← e]
    refine hin.trans ?_
    rw [List.drop_zero]; exact fin
  ·rw [List.drop_eq_nil_of_le h]
   exact zaw (decide_eq_false (by rw [zfC]; omega)) rfl
theorem zqU (t:List UInt8) (z:List Row) (hne:∀ r∈z,r≠[]) (hw:t.length+3+wtZ z≤140737488354000):zgF (mkB t) (mkZ z)=some (mkB (prT t z)):=by
 have hzl:=zqh z
 unfold zgF
 refine zbs ?_
 have tail:∀ b:List UInt8,b=zoy t z→(zbk (fun (j2:ByteArray→Option ByteArray)=>zaE (fun _ _=>none) (zdC (mkZ z) j2) zbN (mkB b) 0) (fun (b4:ByteArray)=>some b4))=some (mkB (prT t z)):=fun b hb=>by
  have hl:=zra t z
  have:=zor z (by omega) (fun (b4:ByteArray)=>some b4) zbN 0 b (Nat.zero_le _) (by unfold zbN; omega) (by rw [List.drop_zero,hb]; omega)
  rw [List.drop_zero] at this
  refine zbs (this.trans ?_)
  rw [hb]; rfl
 have hd:(grd ((⟨#[35,32]⟩:ByteArray).size+(mkB t).size≤9223372036854775807)<|grd (((⟨#[35,32]⟩:ByteArray)++mkB t).size+(⟨#[10]⟩:ByteArray).size≤9223372036854775807) <|
   grd ((⟨#[]⟩:ByteArray).size+(((⟨#[35,32]⟩:ByteArray)++mkB t)++(⟨#[10]⟩:ByteArray)).size≤140737488355328) <|
   (zbk (fun (j2:ByteArray→Option ByteArray)=>zaE (fun _ _=>none) (zdC (mkZ z) j2) zbN ((⟨#[]⟩:ByteArray)++(((⟨#[35,32]⟩:ByteArray)++mkB t)++(⟨#[10]⟩:ByteArray))) 0) (fun (b4:ByteArray)=>some b4))) =
    (zbk (fun (j2:ByteArray→Option ByteArray)=>zaE (fun _ _=>none) (zdC (mkZ z) j2) zbN (mkB (35::32::t++[10])) 0) (fun (b4:ByteArray)=>some b4)):=by
  rw [show (⟨#[35,32]⟩:ByteArray)=mkB [35,32] from rfl,show (⟨#[10]⟩:ByteArray)=mkB [10] from rfl,show (⟨#[]⟩:ByteArray)=mkB [] from rfl,zih,zih,zih]
  refine zbl ?_ (zbl ?_ (zbl ?_ rfl))
  ·rw [zbq,zbq]; simp only [List.length_cons,List.length_nil]; omega
  ·rw [zbq,zbq,List.length_append]; simp only [List.length_cons,List.length_nil]; omega
  ·rw [zbq,zbq,List.length_append,List.length_append]; simp only [List.length_cons,List.length_nil]; omega
 by_cases ht:t=[]
 ·subst ht
  refine zaw (by rw [show (⟨#[]⟩:ByteArray)=mkB [] from rfl]; simp) ?_
  cases z with
  | nil=>exact zaw (decide_eq_false (by simp [mkZ])) (tail [] rfl)
  | cons r z =>
   have hr:=hne r (by simp)
   obtain ⟨x,r',rfl⟩:=List.exists_cons_of_ne_nil hr
   refine zaC (decide_eq_true (by rw [zfC,List.length_cons]; omega)) (zaJ (a:=(x::r').map mkB) rfl (zaJ (a:=mkB x) rfl (zaJ (zo1 x) ?_)))
   cases hti:zpF x with
   | true =>
    refine zaC rfl (hd.trans (tail _ ?_))
    have:zq6 [] ((x::r')::z)=true:=by show (decide (([]:List UInt8)≠[])||zpF x)=true; rw [hti]; rfl
    unfold zoy; rw [this]; rfl
   | false =>
    refine zaw rfl (tail [] ?_)
    have:zq6 [] ((x::r')::z)=false:=by show (decide (([]:List UInt8)≠[])||zpF x)=false; rw [hti]; rfl
    unfold zoy; rw [this]; rfl
 ·refine zaC (by rw [show (⟨#[]⟩:ByteArray)=mkB [] from rfl,decide_eq_false (fun e=>ht (zkF e))]; rfl) (hd.trans (tail _ ?_))
  unfold zoy
  have:zq6 t z=true:=by
   unfold zq6
   split <;> simp [ht]
  rw [this]; rfl
end Go.Proofs.YtbempdelckaccaaGreatDoor

namespace Go.Proofs.YtbempdelckaccaaGreatDoor
open Go.RowKit Go.Lib
set_option linter.unusedVariables false
set_option linter.unusedSimpArgs false
theorem zmp (r:Row) (z:List Row):tot (r::z)=r.length+tot z:=by unfold tot; rw [List.map_cons,List.sum_cons]
end Go.Proofs.YtbempdelckaccaaGreatDoor

namespace Go.Proofs.YtbempdelckaccaaGreatDoor
open Go.RowKit Go.Lib
set_option linter.unusedVariables false
set_option linter.unusedSimpArgs false
def noE (x:List UInt8):Prop:=∀ b∈x,isE b=false
structure GLn (x:List UInt8):Prop where
 bl:zi1 x=false
 le:x.length≤1024
 ne:noE x
def zgS:Nat→Row→List (Nat×List UInt8)
 | _,[]=>[]
 | i,x::r=>(i,x)::zgS (i+1) r
def zfR:Nat→List Row→List (Nat×Nat×List UInt8)
 | _,[]=>[]
 | k,r::z=>(zgS 0 r).map (fun p=>(k,p))++zfR (k+1) z
def zpj (v:Gapi_Verse):ByteArray×Int×Int×Int:=(v.Text,v.Indent,v.Stanza,v.In)
def zp9 (p:Nat×Nat×List UInt8):ByteArray×Int×Int×Int:=(mkB (p.2.2.drop (ind p.2.2)),(ind p.2.2:Int),(p.1:Int),(p.2.1:Int))
def VOk (vs:List Gapi_Verse) (z:List Row):Prop:=vs.map zpj=(zfR 0 z).map zp9
theorem znX (x:List UInt8):∀ (r:Row) (i:Nat),zgS i (r++[x])=zgS i r++[(i+r.length,x)]
 | [],i=>rfl
 | y::r,i=>by
  show (i,y)::zgS (i+1) (r++[x])=_
  rw [znX x r (i+1),List.length_cons,show i+1+r.length=i+(r.length+1) by omega]; rfl
theorem ziK:∀ (a b:List Row) (k:Nat),zfR k (a++b)=zfR k a++zfR (k+a.length) b
 | [],b,k=>rfl
 | r::a,b,k=>by
  show _++zfR (k+1) (a++b)=_
  rw [ziK a b (k+1),List.length_cons,show k+1+a.length=k+(a.length+1) by omega,← List.append_assoc]; rfl
theorem zkQ (r:Row) (k:Nat):zfR k [r]=(zgS 0 r).map (fun p=>(k,p)):=List.append_nil _
structure PInv (st:RS):Prop extends RInv st where
 vok:VOk st.vs st.stz
 tE:noE st.t
 tL:st.t.length≤1022
 ln:∀ r∈st.stz,∀ x∈r,GLn x
 fr:∀ v∈st.vs,0≤v.Span_From
theorem zpZ (st:RS):zfR 0 (zdj st)=zfR 0 st.stz:=by
 unfold zdj
 split
 ·rfl
 ·rw [ziK,zkQ]; exact List.append_nil _
theorem PInv.step {st st':RS} {x:Nat×List UInt8} (h:PInv st) (hx:noE x.2) (hs:zgi st x=.ok st'):PInv st':=by
 refine ⟨h.toRInv.step hs,?_,?_,?_,?_,?_⟩ <;> unfold zgi at hs
 all_goals
  split at hs
  ·cases hs; first | exact h.vok | exact h.tE | exact h.tL | exact h.ln | exact h.fr
  split at hs
  ·cases hs
  split at hs
 ·cases hs; exact h.vok
 ·split at hs
  ·cases hs
  ·cases hs
   obtain ⟨init,r,he,hl,hdl,htot,hsp⟩:=zmR h.toRInv
   show (st.vs++[zhn x.1 x.2 (zdj st)]).map zpj=(zfR 0 ((zdj st).dropLast++[zgG (zdj st)++[x.2]])).map zp9
   rw [hdl,hl,ziK,zkQ,znX,List.map_append,List.map_append,List.map_append,List.map_append,← List.append_assoc]
   have h2:zfR 0 st.stz=zfR 0 init++(zgS 0 r).map (fun p=>(init.length,p)):=by
    rw [← zpZ,he,ziK,zkQ,Nat.zero_add]
   have h3:=h.vok
   unfold VOk at h3
   rw [h3,h2,List.map_append,Nat.zero_add]
   congr 1
   unfold zhn zpj
   rw [hl,he]
   simp [zp9]
 ·rename_i ht
  cases hs
  intro b hb
  exact hx b (List.mem_of_mem_drop hb)
 ·split at hs
  ·cases hs
  ·cases hs; exact h.tE
 ·rename_i hl ht
  cases hs
  show (x.2.drop 2).length≤1022
  rw [List.length_drop]; omega
 ·split at hs
  ·cases hs
  ·cases hs; exact h.tL
 ·cases hs; exact h.ln
 ·rename_i hb hl ht
  split at hs
  ·cases hs
  ·cases hs
   obtain ⟨init,r,he,hl2,hdl,htot,hsp⟩:=zmR h.toRInv
   intro r' hr' y hy
   have hold:∀ r∈zdj st,∀ x∈r,GLn x:=fun r hr x hx=>by
    unfold zdj at hr
    split at hr
    ·exact h.ln r hr x hx
    ·rcases List.mem_append.1 hr with hr | hr
     ·exact h.ln r hr x hx
     ·rw [List.mem_singleton] at hr; subst hr; cases hx
   have hr2:r'∈(zdj st).dropLast++[zgG (zdj st)++[x.2]]:=hr'
   rw [hdl,hl2] at hr2
   rcases List.mem_append.1 hr2 with hr2 | hr2
   ·exact hold r' (by rw [he]; exact List.mem_append_left _ hr2) y hy
   ·rw [List.mem_singleton] at hr2
    subst hr2
    rcases List.mem_append.1 hy with hy | hy
    ·exact hold r (by rw [he]; simp) y hy
    ·rw [List.mem_singleton] at hy
     subst hy
     exact ⟨by simpa using hb,by omega,hx⟩
 ·cases hs; exact h.fr
 ·split at hs
  ·cases hs
  ·cases hs
   intro v hv
   rcases List.mem_append.1 (show v∈st.vs++[zhn x.1 x.2 (zdj st)] from hv) with hv | hv
   ·exact h.fr v hv
   ·rw [List.mem_singleton] at hv; subst hv
    show (0:Int)≤(x.1:Int)+(ind x.2:Int)
    omega
theorem zwT:PInv rs0:=⟨zon,rfl,(fun b hb=>by cases hb),Nat.zero_le _,(fun r hr=>by cases hr),(fun v hv=>by cases hv)⟩
theorem PInv.fold:∀ {xs:List (Nat×List UInt8)} {st st':RS},PInv st→(∀ x∈xs,noE x.2)→zhe st xs=.ok st'→PInv st'
 | [],st,st',h,hx,hs=>by cases hs; exact h
 | x::xs,st,st',h,hx,hs=>by
  unfold zhe at hs
  cases he:zgi st x with
  | ok s1=>rw [he] at hs; exact PInv.fold (h.step (hx x (by simp)) he) (fun y hy=>hx y (by simp [hy])) hs
  | error e=>rw [he] at hs; cases hs
theorem zq8 (T:List UInt8):∀ x∈zhj T,noE x.2:=by
 intro x hx
 obtain ⟨y,hy,rfl⟩:=List.mem_map.1 hx
 exact (zmv T y hy).2.2
theorem zwW {T:List UInt8} {st:RS} (h:rd T=.ok st):PInv st∧T.length≤65536:=by
 unfold rd at h
 split at h
 ·cases h
 ·exact ⟨PInv.fold zwT (zq8 T) h,by omega⟩
structure GoodP (t:List UInt8) (z:List Row):Prop where
 tE:noE t
 tL:t.length≤1022
 ne:∀ r∈z,r≠[]
 ln:∀ r∈z,∀ x∈r,GLn x
theorem PInv.good {st:RS} (h:PInv st):GoodP st.t st.stz:=⟨h.tE,h.tL,h.ne,h.ln⟩
end Go.Proofs.YtbempdelckaccaaGreatDoor

namespace Go.Proofs.YtbempdelckaccaaGreatDoor
open Go.RowKit Go.Lib
set_option linter.unusedVariables false
set_option linter.unusedSimpArgs false
theorem zop (n:Nat):Lib.repeatL [32] n=List.replicate n 32:=by
 induction n with
 | zero=>rfl
 | succ n ih=>rw [Lib.repeatL,ih,List.replicate_succ]; rfl
theorem zkK:∀ x:List UInt8,List.replicate (ind x) 32++x.drop (ind x)=x
 | []=>rfl
 | b::x=>by
  rw [zj6]
  by_cases h:b=32
  ·rw [if_pos h,List.replicate_succ,List.drop_succ_cons,List.cons_append,zkK x,h]
  ·rw [if_neg h]; rfl
theorem ztk (x:List UInt8):zhr (ind x:Int)++mkB (x.drop (ind x))=mkB x:=by
 unfold zhr
 rw [Int.toNat_natCast,zop]
 have:(⟨(List.replicate (ind x) (32:UInt8)).toArray⟩:ByteArray)=mkB (List.replicate (ind x) 32):=rfl
 rw [this,zih,zkK]
def zlC:Nat→List Gapi_Verse→List (Int×Gapi_Verse)
 | _,[]=>[]
 | i,v::vs=>((i:Int),v)::zlC (i+1) vs
theorem zqX (p:Gpoem_Poem) (h:p.told_lines.length≤4611686018427387904):zdf p=some (zlC 0 p.told_lines):=by
 unfold zdf
 have key:∀ (n i:Nat),i≤p.told_lines.length→p.told_lines.length - i<n→zaE (fun _=>none) (zci p) n (i:Int)=some (zlC i (p.told_lines.drop i)):=by
  intro n
  induction n with
  | zero=>intro i h1 h2; omega
  | succ n ih =>
   intro i hi hn
   rw [zdK]
   obtain ⟨ag,hag⟩:∃ ag,ag=zaE (fun _=>none) (zci p) n:=⟨_,rfl⟩
   rw [← hag] at ih ⊢
   unfold zci
   rcases Nat.lt_or_ge i p.told_lines.length with hl | hl
   ·have hd:=List.drop_eq_getElem_cons hl
    refine zaC (decide_eq_true (by omega)) (zaJ (zcv (List.getElem?_eq_getElem hl)) ?_)
    have h1:(grd (I64 ((i:Int)+1))<|ag ((i:Int)+1))=some (zlC (i+1) (p.told_lines.drop (i+1))):=zbl ⟨by omega,by omega⟩ (by rw [show (i:Int)+1=((i+1:Nat):Int) by omega]; exact ih (i+1) (by omega) (by omega))
    rw [h1,hd]; rfl
   ·rw [List.drop_eq_nil_of_le hl]
    exact zaw (decide_eq_false (by omega)) rfl
 have:=key zbN 0 (Nat.zero_le _) (by unfold zbN; omega)
 rw [List.drop_zero] at this
 exact this
abbrev LnE:=Nat×Nat×List UInt8
def zgu (from_ to_:Nat):Nat→List LnE→List Row×Int→List Row×Int
 | _,[],a=>a
 | i,p::L,a =>
  if i<from_∨to_≤i then zgu from_ to_ (i+1) L a
  else if (p.1:Int)≠a.2 then zgu from_ to_ (i+1) L (a.1++[[p.2.2]],(p.1:Int))
  else zgu from_ to_ (i+1) L (a.1.dropLast++[zgG a.1++[p.2.2]],a.2)
theorem zqN (from_ to_:Nat) (d:(List (List ByteArray))→Int→Option (List (List ByteArray))):∀ (L:List LnE) (vs:List Gapi_Verse) (i:Nat) (out:List Row) (s:Int),vs.map zpj=L.map zp9→(∀ p∈L,p.2.2.length≤1024)→i+L.length≤1000000 →
  out.length≤i→(∀ r∈out,r.length≤i)→(s≠-1→out≠[])→zev d (zeJ from_ to_) (zlC i vs) (mkZ out) s=d (mkZ (zgu from_ to_ i L (out,s)).1) (zgu from_ to_ i L (out,s)).2
 | [],vs,i,out,s,hk,hx,hi,ho,hr,hs=>by
  have:vs=[]:=by cases vs with | nil=>rfl | cons v vs=>cases hk
  subst this; rfl
 | p::L,vs,i,out,s,hk,hx,hi,ho,hr,hs=>by
  cases vs with
  | nil=>cases hk
  | cons v vs =>
   rw [List.map_cons,List.map_cons] at hk
   obtain ⟨hv,hk⟩:=List.cons.inj hk
   rw [List.length_cons] at hi
   have hv1:v.Text=mkB (p.2.2.drop (ind p.2.2)):=congrArg (fun q=>q.1) hv
   have hv2:v.Indent=(ind p.2.2:Int):=congrArg (fun q=>q.2.1) hv
   have hv3:v.Stanza=(p.1:Int):=congrArg (fun q=>q.2.2.1) hv
   have hxl:=hx p (by simp)
   have hil:=zpk p.2.2
   show zev d _ (((i:Int),v)::zlC (i+1) vs) _ _=_
   rw [zg2]
   have ih:=fun out s h1 h2 h3=>zqN from_ to_ d L vs (i+1) out s hk (fun q hq=>hx q (by simp [hq])) (by omega) h1 h2 h3
   obtain ⟨ag,hag⟩:∃ ag,ag=zev d (zeJ from_ to_) (zlC (i+1) vs):=⟨_,rfl⟩
   rw [← hag] at ih ⊢
   unfold zeJ zgu
   by_cases h1:i<from_
   ·rw [if_pos (.inl h1)]
    exact zaC (decide_eq_true (by show (i:Int)<_; omega)) (ih out s (by omega) (fun r h=>by have:=hr r h; omega) hs)
   ·refine zaw (decide_eq_false (by show ¬ (i:Int)<_; omega)) ?_
    by_cases h2:to_≤i
    ·rw [if_pos (.inr h2)]
     exact zaC (decide_eq_true (by show _≤(i:Int); omega)) (ih out s (by omega) (fun r h=>by have:=hr r h; omega) hs)
    ·rw [if_neg (by omega)]
     refine zaw (decide_eq_false (by show ¬ _≤(i:Int); omega)) (zbs ?_)
     have tail:∀ (z:List Row) (s':Int),z≠[]→z.length≤i+1→(∀ r∈z,r.length≤i)→s'≠-1→(grd (I64 (((mkZ z).length:Int) - 1)) <|
       zah (zbm (mkZ z) (((mkZ z).length:Int) - 1)) fun (x2:List ByteArray) =>
       grd (0≤v.Indent∧v.Indent≤140737488355328) <|
       grd ((zhr v.Indent).size+v.Text.size≤9223372036854775807) <|
       grd (x2.length+1≤2147483648) <|
       ag ((mkZ z).set (((mkZ z).length:Int) - 1:Int).toNat (x2++[(zhr v.Indent)++v.Text])) s')=d (mkZ (zgu from_ to_ (i+1) L (z.dropLast++[zgG z++[p.2.2]],s')).1) (zgu from_ to_ (i+1) L (z.dropLast++[zgG z++[p.2.2]],s')).2:=fun z s' hz hzl hzr hs'=>by
      obtain ⟨w,r,rfl⟩:∃ w r,z=w++[r]:=⟨_,_,zkJ hz⟩
      have hl9:zgG (w++[r])=r:=by unfold zgG; rw [List.getLastD_concat]
      rw [List.dropLast_concat,hl9]
      rw [List.length_append,List.length_singleton] at hzl
      have hlen:(mkZ (w++[r])).length=w.length+1:=by rw [zfC,List.length_append,List.length_singleton]
      have hg:zbm (mkZ (w++[r])) (((mkZ (w++[r])).length:Int) - 1)=some (r.map mkB):=by
       refine zdk (n:=w.length) (by rw [hlen]; omega) ?_
       rw [zhv,List.getElem?_append_right (by rw [zfC]; exact Nat.le_refl _),zfC,Nat.sub_self]; rfl
      have hll:r.length≤i:=hzr _ (by simp)
      refine zbl ⟨by omega,by rw [hlen]; omega⟩ (zaJ hg (zbl ⟨by rw [hv2]; omega,by rw [hv2]; omega⟩ ?_))
      rw [hv1,hv2,ztk]
      have hsz:(zhr (ind p.2.2:Int)).size+(mkB (p.2.2.drop (ind p.2.2))).size≤9223372036854775807:=by
       have:(zhr (ind p.2.2:Int)++mkB (p.2.2.drop (ind p.2.2))).size=(mkB p.2.2).size:=by rw [ztk]
       rw [ByteArray.size_append,zbq p.2.2] at this
       omega
      refine zbl hsz (zbl (by rw [List.length_map]; omega) ?_)
      have es:(mkZ (w++[r])).set (((mkZ (w++[r])).length:Int) - 1:Int).toNat (r.map mkB++[mkB p.2.2])=mkZ (w++[r++[p.2.2]]):=by
       rw [show (((mkZ (w++[r])).length:Int) - 1:Int).toNat=(mkZ w).length by rw [hlen,zfC]; omega,zhv]
       show ((mkZ w++[r.map mkB]).set _ _)=_
       rw [ziu,zhv]
       show _=_++[(r++[p.2.2]).map mkB]
       rw [List.map_append]; rfl
      rw [es]
      refine ih _ s' (by rw [List.length_append,List.length_singleton]; omega) (fun r' h => ?_) (fun _=>by simp)
      rcases List.mem_append.1 h with h | h
      ·have:=hzr r' (by simp [h]); omega
      ·rw [List.mem_singleton] at h; subst h; rw [List.length_append,List.length_singleton]; omega
     by_cases h3:(p.1:Int)=s
     ·rw [if_neg (by simpa using h3)]
      refine zaw (by rw [hv3,h3]; exact bne_self_eq_false _) ?_
      refine tail out s (hs (by omega)) (by omega) (fun r h=>by have:=hr r h; omega) (by omega)
     ·rw [if_pos h3]
      refine zaC (by rw [hv3]; exact bne_iff_ne.2 h3) (zbl (by rw [zfC]; omega) ?_)
      have h5:=tail (out++[[]]) (p.1:Int) (by simp) (by rw [List.length_append,List.length_singleton]; omega) (fun r h=>by
       rcases List.mem_append.1 h with h | h
       ·exact hr r h
       ·rw [List.mem_singleton] at h; subst h; exact Nat.zero_le _) (by omega)
      have h6:zgG (out++[[]])=[]:=by unfold zgG; rw [List.getLastD_concat]
      rw [List.dropLast_concat,h6,zhv] at h5
      refine Eq.trans ?_ h5
      rw [hv3]; rfl
def zqc (from_ to_:Nat):Nat→Row→Row
 | _,[]=>[]
 | at_,x::r=>if from_≤at_∧at_<to_ then x::zqc from_ to_ (at_+1) r else zqc from_ to_ (at_+1) r
def zuW (from_ to_:Nat):Nat→List Row→List Row
 | _,[]=>[]
 | at_,r::z=>(if zqc from_ to_ at_ r=[] then [] else [zqc from_ to_ at_ r])++zuW from_ to_ (at_+r.length) z
theorem znW:∀ (r:Row) (j:Nat),(zgS j r).length=r.length
 | [],j=>rfl
 | x::r,j=>by show (zgS (j+1) r).length+1=_; rw [znW r]; rfl
theorem zkR:∀ (z:List Row) (k:Nat),(zfR k z).length=tot z
 | [],k=>rfl
 | r::z,k=>by
  show ((zgS 0 r).map _++zfR (k+1) z).length=_
  rw [List.length_append,List.length_map,znW,zkR z,zmp]
theorem zmE (from_ to_ k:Nat) (out:List Row):∀ (r:Row) (j at_:Nat) (acc:Row) (L:List LnE),zgu from_ to_ at_ ((zgS j r).map (fun p=>(k,p))++L) (out++[acc],(k:Int))=zgu from_ to_ (at_+r.length) L (out++[acc++zqc from_ to_ at_ r],(k:Int))
 | [],j,at_,acc,L=>by
  show zgu from_ to_ at_ L _=zgu from_ to_ at_ L (out++[acc++[]],_)
  rw [List.append_nil]
 | x::r,j,at_,acc,L=>by
  show zgu from_ to_ at_ ((k,j,x)::((zgS (j+1) r).map (fun p=>(k,p))++L)) _=_
  rw [zgu,zqc,List.length_cons,show at_+(r.length+1)=at_+1+r.length by omega]
  by_cases h:from_≤at_∧at_<to_
  ·rw [if_neg (by omega),if_neg (by simp),if_pos h]
   show zgu from_ to_ (at_+1) _ ((out++[acc]).dropLast++[zgG (out++[acc])++[x]],(k:Int))=_
   have h6:zgG (out++[acc])=acc:=by unfold zgG; rw [List.getLastD_concat]
   rw [List.dropLast_concat,h6,zmE from_ to_ k out r (j+1) (at_+1) (acc++[x]) L,List.append_assoc]; rfl
  ·rw [if_pos (by omega),if_neg h,zmE from_ to_ k out r (j+1) (at_+1) acc L]
theorem znz (from_ to_ k:Nat) (out:List Row) (s:Int) (hs:s≠(k:Int)):∀ (r:Row) (j at_:Nat) (L:List LnE),zgu from_ to_ at_ ((zgS j r).map (fun p=>(k,p))++L) (out,s) =
  if zqc from_ to_ at_ r=[] then zgu from_ to_ (at_+r.length) L (out,s) else zgu from_ to_ (at_+r.length) L (out++[zqc from_ to_ at_ r],(k:Int))
 | [],j,at_,L=>by rw [show zqc from_ to_ at_ []=[] from rfl,if_pos rfl]; rfl
 | x::r,j,at_,L=>by
  show zgu from_ to_ at_ ((k,j,x)::((zgS (j+1) r).map (fun p=>(k,p))++L)) _=_
  rw [zgu,zqc,List.length_cons,show at_+(r.length+1)=at_+1+r.length by omega]
  by_cases h:from_≤at_∧at_<to_
  ·rw [if_neg (by omega),if_pos (by show (k:Int)≠s; omega),if_pos h,if_neg (by simp)]
   exact zmE from_ to_ k out r (j+1) (at_+1) [x] L
  ·rw [if_pos (by omega),if_neg h,znz from_ to_ k out s hs r (j+1) (at_+1) L]
theorem zku (from_ to_:Nat):∀ (z:List Row) (k at_:Nat) (out:List Row) (s:Int),s<(k:Int)→(zgu from_ to_ at_ (zfR k z) (out,s)).1=out++zuW from_ to_ at_ z
 | [],k,at_,out,s,hs=>(List.append_nil _).symm
 | r::z,k,at_,out,s,hs=>by
  show (zgu from_ to_ at_ ((zgS 0 r).map (fun p=>(k,p))++zfR (k+1) z) (out,s)).1=_
  rw [znz from_ to_ k out s (by omega),zuW]
  split
  ·rw [zku from_ to_ z (k+1) _ out s (by omega)]; rfl
  ·rw [zku from_ to_ z (k+1) _ _ (k:Int) (by omega),List.append_assoc]
theorem zn6 (to_:Nat):∀ (r:Row) (at_:Nat),at_+r.length≤to_→zqc 0 to_ at_ r=r
 | [],at_,h=>rfl
 | x::r,at_,h=>by
  rw [List.length_cons] at h
  rw [zqc,if_pos ⟨Nat.zero_le _,by omega⟩,zn6 to_ r (at_+1) (by omega)]
theorem zn5 (to_:Nat):∀ (z:List Row) (at_:Nat),(∀ r∈z,r≠[])→at_+tot z≤to_→zuW 0 to_ at_ z=z
 | [],at_,hne,h=>rfl
 | r::z,at_,hne,h=>by
  rw [zmp] at h
  rw [zuW,zn6 to_ r at_ (by omega),if_neg (hne r (by simp)),zn5 to_ z (at_+r.length) (fun y hy=>hne y (by simp [hy])) (by omega)]
  rfl
structure OkP (p:Gpoem_Poem) (t:List UInt8) (z:List Row):Prop extends GoodP t z where
 title:p.told_title=mkB t
 vok:VOk p.told_lines z
 sp:p.told_stanzas=zi9 0 z
 most:tot z≤512
theorem OkP.len {p:Gpoem_Poem} {t:List UInt8} {z:List Row} (h:OkP p t z):p.told_lines.length=tot z:=by
 have:=congrArg List.length h.vok
 rw [List.length_map,List.length_map,zkR] at this
 exact this
theorem PInv.ok {st:RS} (h:PInv st) (src:ByteArray):OkP (⟨mkB st.t,st.vs,zi9 0 st.stz,src⟩:Gpoem_Poem) st.t st.stz:=⟨h.good,rfl,h.vok,rfl,by have:=h.tot; have:=h.most; omega⟩
theorem znP:∀ (r:Row) (j:Nat) (p:Nat×List UInt8),p∈zgS j r→p.2∈r
 | [],j,p,h=>by cases h
 | x::r,j,p,h=>by
  rcases List.mem_cons.1 h with rfl | h
  ·simp
  ·exact List.mem_cons_of_mem _ (znP r _ p h)
theorem zkG:∀ (z:List Row) (k:Nat) (p:LnE),p∈zfR k z→∃ r∈z,p.2.2∈r
 | [],k,p,h=>by cases h
 | r::z,k,p,h=>by
  rcases List.mem_append.1 (show p∈(zgS 0 r).map (fun p=>(k,p))++zfR (k+1) z from h) with h | h
  ·obtain ⟨q,hq,rfl⟩:=List.mem_map.1 h
   exact ⟨r,by simp,znP r 0 q hq⟩
  ·obtain ⟨r',h1,h2⟩:=zkG z _ p h
   exact ⟨r',by simp [h1],h2⟩
theorem zvv {p:Gpoem_Poem} {t:List UInt8} {z:List Row} (h:OkP p t z) (from_ to_:Nat):zeV p (from_:Int) (to_:Int)=some (mkZ (zuW from_ to_ 0 z)):=by
 unfold zeV
 have hm:=h.most
 refine zbs (zaJ rfl (zaJ (zqX p (by rw [h.len]; omega)) (zbs ?_)))
 have:=zqN from_ to_ (fun (out4:List (List ByteArray)) (stanza3:Int)=>some out4) (zfR 0 z) p.told_lines 0 [] (-1) h.vok (fun q hq=>by
  obtain ⟨r,h1,h2⟩:=zkG z 0 q hq
  exact (h.ln r h1 _ h2).le) (by rw [zkR]; omega) (Nat.zero_le _) (fun r h=>by cases h) (fun h=>absurd rfl h)
 refine this.trans ?_
 rw [zku from_ to_ z 0 0 [] (-1) (by omega)]
 rfl
theorem zs5:∀ (r:Row),(∀ x∈r,x.length≤1024)→wtR r≤r.length*1025
 | [],h=>Nat.zero_le _
 | x::r,h=>by
  have h1:=zs5 r fun y hy=>h y (by simp [hy])
  have h2:=h x (by simp)
  rw [zj0,List.length_cons]; omega
theorem zs4:∀ (z:List Row),(∀ r∈z,∀ x∈r,x.length≤1024)→wtZ z≤z.length+tot z*1025
 | [],h=>Nat.zero_le _
 | r::z,h=>by
  have h1:=zs4 z fun y hy=>h y (by simp [hy])
  have h2:=zs5 r (h r (by simp))
  rw [zmk,zmp,List.length_cons]; omega
theorem OkP.wt {p:Gpoem_Poem} {t:List UInt8} {z:List Row} (h:OkP p t z):t.length+3+wtZ z≤1000000:=by
 have h1:=zs4 z fun r hr x hx=>(h.ln r hr x hx).le
 have h2:=zqq z h.ne
 have h3:=h.most
 have h4:=h.tL
 omega
theorem OkP.full {p:Gpoem_Poem} {t:List UInt8} {z:List Row} (h:OkP p t z):zeV p 0 (p.told_lines.length:Int)=some (mkZ z):=by
 have:=zvv h 0 p.told_lines.length
 rw [zn5 _ z 0 h.ne (by rw [h.len]; omega)] at this
 exact this
theorem zwn {p:Gpoem_Poem} {t:List UInt8} {z:List Row} (h:OkP p t z):zgO p=some (mkB (prT t z)):=by
 unfold zgO
 have:=h.wt
 refine zaJ h.full (zaJ ?_ rfl)
 rw [h.title]
 exact zqU t z h.ne (by omega)
end Go.Proofs.YtbempdelckaccaaGreatDoor
