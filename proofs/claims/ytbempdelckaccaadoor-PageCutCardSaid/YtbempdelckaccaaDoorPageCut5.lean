/-
  Texts laid together: LqQ, PqA, PqB, LqS, LqR, LqZ, PqC, PqD, PqE, LqE, LqB, Cb, LqG, LqH, PqF, PqG, PqH, PqI, LgC. Nothing is assumed.
-/
import Derived.Test.YtbempdelckaccaaDoorPageCut2
import Derived.Test.YtbempdelckaccaaDoorPageCut4
set_option maxRecDepth 100000
set_option maxHeartbeats 4000000

namespace Go.Proofs.YtbempdelckaccaaDoor
open Go.RowKit Go.Lib
set_option linter.unusedVariables false
set_option linter.unusedSimpArgs false
def zdz (s1:ByteArray) (j1:Option Bool) (ag1:Int→Option Bool) (i3:Int):Option Bool :=
zaw (decide ((i3:Int)<(s1.size:Int))) (
zbl (fun (j2:Option Bool) =>
zal (ziA s1 i3) fun (c1:Int) =>
zaw ((c1:Int) != 32) (
zaw ((c1:Int) != 9) (
some false
) (
j2
)
) (
j2
)
) (
grd (I64 (i3+1)) <|
ag1 (i3+1)
)
) (
j1
)
def zel (s1:ByteArray):Option Bool :=
zbl (fun (j1:Option Bool) =>
zaF (fun _=>none) (zdz s1 j1) zbW 0
) (
some true
)
theorem zkA {s1:ByteArray} {r:Bool} (h:zel s1=some r):FnP Tryd.prog 57 [.string s1] (.bool r):=by
 unfold zel at h
 refine FnP.intro Tryd.func57 rfl Tryd.ntmps57 (by simp) ?_
 intro w0 K
 obtain ⟨j1,hj1,h⟩:=zbK h
 refine zaX (β:=Unit) 1 rfl (fun b=>j1=some r) (fun b=>[]) (fun b=>[]) (fun b=>[]) (fun cut => ?_) ?_
 ·
  refine zyG (zyR 1 rfl (zyN (cut (zyG (zyR 1 rfl (zyN (zaE ?_)))))))
  refine zbn (β:=Nat×Int) (fun b=>zaF (fun _=>none) (zdz s1 j1) b.1 b.2=some r) (fun b=>[]) (fun b=>[(0,.string s1),(3,zI b.2)]) (fun b=>[]) (fun b=>b.1) (zbW,0) h rfl (za0 rfl) Splits.nil ?_
  rintro ⟨n1,i3⟩ h
  cases n1 with
  | zero=>exact zdG h
  | succ n1 =>
   obtain ⟨ag1,hag1⟩:∃ ag,ag=zaF (fun _=>none) (zdz s1 j1) n1:=⟨_,rfl⟩
   have h:zdz s1 j1 ag1 i3=some r:=by rw [hag1]; exact h
   unfold zdz at h
   refine zaJ (zyG (zyR 2 rfl (zb6 rfl dc rfl Tryd.underlying9 (zaT rfl zbf (zyN ?_)))))
   refine zyB rfl h (fun h => ?_) (fun h => ?_)
   ·
    refine zas (zaL ?_)
    obtain ⟨j2,hj2,h⟩:=zbK h
    refine zaX (β:=Unit) 0 rfl (fun b=>j2=some r) (fun b=>[]) (fun b=>[(0,.string s1),(3,zI i3)]) (fun b=>[]) (fun cut => ?_) ?_
    ·
     refine cut (zaE (zyG (zyR 2 rfl ?_)))
     obtain ⟨c1,hq1,h⟩:=zbg h
     refine zcO rfl dc rfl rfl (zbi Tryd.underlying9 hq1) (zaT rfl zce (zyR 1 rfl ?_))
     refine zyS (s:=14) rfl h (fun h => ?_) (fun h => ?_)
     ·
      refine zyR 2 rfl (zcO rfl dc rfl rfl (zbi Tryd.underlying9 hq1) (zaT rfl zce (zyR 1 rfl (zyN ?_))))
      refine zyB rfl h (fun h => ?_) (fun h => ?_)
      ·
       refine zyG (zyR 1 rfl (zyN (zaI (zaD (zau (zau (zaD (zau ?_))))))))
       cases h
       exact zaK (rs:=[.tmp 2]) () (.inl rfl) Tryd.results57 (.cons (.tmp rfl) .nil) rfl Splits.nil
      refine zas (zag ?_)
      exact zak () h rfl (za0 rfl) Splits.nil
     refine zyR 5 rfl (zyN (zaN rfl (zas (zag ?_))))
     exact zak () h rfl (za0 rfl) Splits.nil
    rintro _ h
    rw [hj2] at h
    refine zax (zyR 1 rfl ?_)
    obtain ⟨hg1,h⟩:=zbk h
    refine zaT rfl (zaQ (r:=i3+1) (IntWalk.i64_in _ hg1)) (zyR 1 rfl (zaR ?_))
    subst hag1
    exact za4 (n1,i3+1) h (Nat.lt_succ_self _) rfl (za0 rfl) Splits.nil
   refine za2 (zam (zam (zav ?_)))
   exact zak () h rfl (zkj) Splits.nil
 rintro _ h
 rw [hj1] at h
 refine zyG (zyR 1 rfl (zyN (zaI ?_)))
 cases h
 exact zaK (rs:=[.tmp 2]) () (.inl rfl) Tryd.results57 (.cons (.tmp rfl) .nil) rfl Splits.nil
def zet (s1:ByteArray):Option Bool :=
zaw (decide (s1=(⟨#[35]⟩:ByteArray))) (
some true
) (
zaw (decide ((1:Int)<(s1.size:Int))) (
zal (ziA s1 0) fun (c1:Int) =>
zaw ((c1:Int)==35) (
zal (ziA s1 1) fun (c2:Int) =>
some ((c2:Int)==32)
) (
some false
)
) (
some false
)
)
theorem zjH {s1:ByteArray} {r:Bool} (h:zet s1=some r):FnP Tryd.prog 58 [.string s1] (.bool r):=by
 unfold zet at h
 refine FnP.intro Tryd.func58 rfl Tryd.ntmps58 (by simp) ?_
 intro w0 K
 refine zyG (zyR 1 rfl (zyH (zyR 1 rfl (zaT rfl zg8 (zyR 1 rfl ?_)))))
 refine zyS (s:=5) rfl h (fun h => ?_) (fun h => ?_)
 ·
  refine zyR 14 rfl ?_
  refine zyR 1 rfl (zyN (zaI ?_))
  cases h
  exact zaK (rs:=[.tmp 2]) () (.inl rfl) Tryd.results58 (.cons (.tmp rfl) .nil) rfl Splits.nil
 refine zyR 1 rfl (zb6 rfl dc rfl Tryd.underlying9 (zaT rfl zcA (zyR 1 rfl ?_)))
 refine zyS (s:=9) rfl h (fun h => ?_) (fun h => ?_)
 ·
  refine zyR 1 rfl ?_
  obtain ⟨c1,hq1,h⟩:=zbg h
  refine zcO rfl dc rfl rfl (zbi Tryd.underlying9 hq1) (zaT rfl zaP (zyR 2 rfl ?_))
  refine zyS (s:=14) rfl h (fun h => ?_) (fun h => ?_)
  ·
   refine zyR 1 rfl ?_
   obtain ⟨c2,hq2,h⟩:=zbg h
   refine zcO rfl dc rfl rfl (zbi Tryd.underlying9 hq2) (zaT rfl zaP (zyR 3 rfl (zyN (zaI ?_))))
   cases h
   exact zaK (rs:=[.tmp 2]) () (.inl rfl) Tryd.results58 (.cons (.tmp rfl) .nil) rfl Splits.nil
  refine zyR 6 rfl (zyN (zaI ?_))
  cases h
  exact zaK (rs:=[.tmp 2]) () (.inl rfl) Tryd.results58 (.cons (.tmp rfl) .nil) rfl Splits.nil
 refine zyR 11 rfl (zyN (zaI ?_))
 cases h
 exact zaK (rs:=[.tmp 2]) () (.inl rfl) Tryd.results58 (.cons (.tmp rfl) .nil) rfl Splits.nil
def zcR (s1:ByteArray) (j1:Int→Option Int) (ag1:Int→Option Int) (n4:Int):Option Int :=
zaw (decide ((n4:Int)<(s1.size:Int))) (
zal (ziA s1 n4) fun (c1:Int) =>
zaw ((c1:Int)==32) (
grd (I64 (n4+1)) <|
ag1 (n4+1)
) (
j1 n4
)
) (
j1 n4
)
def zbX (s1:ByteArray):Option Int :=
zbl (fun (j1:Int→Option Int) =>
zaF (fun _=>none) (zcR s1 j1) zbW 0
) (fun (n1:Int) =>
some n1
)
theorem zdJ {s1:ByteArray} {r:Int} (h:zbX s1=some r):FnP Tryd.prog 59 [.string s1] (zI r):=by
 unfold zbX at h
 refine FnP.intro Tryd.func59 rfl Tryd.ntmps59 (by simp) ?_
 intro w0 K
 obtain ⟨j1,hj1,h⟩:=zbK h
 refine zaX (β:=Int) 2 rfl (fun b=>j1 b=some r) (fun b=>[]) (fun b=>[(3,zI b)]) (fun b=>[]) (fun cut => ?_) ?_
 ·
  refine zyG (zyR 1 rfl (zyH (zyR 1 rfl (zyN (cut (zaE ?_))))))
  refine zbn (β:=Nat×Int) (fun b=>zaF (fun _=>none) (zcR s1 j1) b.1 b.2=some r) (fun b=>[]) (fun b=>[(0,.string s1),(3,zI b.2)]) (fun b=>[]) (fun b=>b.1) (zbW,0) h rfl (za0 rfl) Splits.nil ?_
  rintro ⟨n5,n4⟩ h
  cases n5 with
  | zero=>exact zdG h
  | succ n5 =>
   obtain ⟨ag1,hag1⟩:∃ ag,ag=zaF (fun _=>none) (zcR s1 j1) n5:=⟨_,rfl⟩
   have h:zcR s1 j1 ag1 n4=some r:=by rw [hag1]; exact h
   unfold zcR at h
   refine zaJ (zyG (zyR 2 rfl (zb6 rfl dc rfl Tryd.underlying9 (zaT rfl zbf (zyR 1 rfl ?_)))))
   refine zyS (s:=8) rfl h (fun h => ?_) (fun h => ?_)
   ·
    refine zyR 2 rfl ?_
    obtain ⟨c1,hq1,h⟩:=zbg h
    refine zcO rfl dc rfl rfl (zbi Tryd.underlying9 hq1) (zaT rfl zaP (zyR 1 rfl (zyN ?_)))
    refine zyB rfl h (fun h => ?_) (fun h => ?_)
    ·
     refine zas (zaL (zaE (zax (zyR 1 rfl ?_))))
     obtain ⟨hg1,h⟩:=zbk h
     refine zaT rfl (zaQ (r:=n4+1) (IntWalk.i64_in _ hg1)) (zyR 1 rfl (zaR (zag ?_)))
     subst hag1
     exact za4 (n5,n4+1) h (Nat.lt_succ_self _) rfl (za0 rfl) Splits.nil
    refine za2 (zam (zam (zav ?_)))
    exact zak n4 h rfl (za0 rfl) Splits.nil
   refine zyR 5 rfl (zyN (zaN rfl (za2 (zam (zam (zav ?_))))))
   exact zak n4 h rfl (za0 rfl) Splits.nil
 rintro n1 h
 rw [hj1] at h
 refine zyG (zyR 2 rfl (zyN (zaI ?_)))
 cases h
 exact zaK (rs:=[.tmp 2]) () (.inl rfl) Tryd.results59 (.cons (.tmp rfl) .nil) rfl Splits.nil
def zdo (s1:ByteArray) (j1:(List Gapi_Span)→Option (List Gapi_Span)) (ag1:(List Gapi_Span)→Int→Option (List Gapi_Span)) (l4:List Gapi_Span) (i3:Int):Option (List Gapi_Span) :=
zaw (decide ((i3:Int)<(s1.size:Int))) (
zbl (fun (j2:(List Gapi_Span)→Int→Option (List Gapi_Span)) =>
zal (ziA s1 i3) fun (c1:Int) =>
zaw ((c1:Int)==13) (
grd (I64 (i3+1)) <|
zaw (decide (((i3+1):Int)<(s1.size:Int))) (
grd (I64 (i3+1)) <|
zal (ziA s1 (i3+1)) fun (c2:Int) =>
zaw ((c2:Int)==10) (
grd (I64 (i3+2)) <|
grd (l4.length+1≤2147483648) <|
grd (I64 (i3+1)) <|
j2 (l4++[(⟨i3,i3+2⟩:Gapi_Span)]) (i3+1)
) (
zal (ziA s1 i3) fun (c3:Int) =>
zaw ((c3:Int)==13) (
grd (I64 (i3+1)) <|
grd (l4.length+1≤2147483648) <|
j2 (l4++[(⟨i3,i3+1⟩:Gapi_Span)]) i3
) (
zaw ((c3:Int)==10) (
grd (I64 (i3+1)) <|
grd (l4.length+1≤2147483648) <|
j2 (l4++[(⟨i3,i3+1⟩:Gapi_Span)]) i3
) (
j2 l4 i3
)
)
)
) (
zal (ziA s1 i3) fun (c4:Int) =>
zaw ((c4:Int)==13) (
grd (I64 (i3+1)) <|
grd (l4.length+1≤2147483648) <|
j2 (l4++[(⟨i3,i3+1⟩:Gapi_Span)]) i3
) (
zaw ((c4:Int)==10) (
grd (I64 (i3+1)) <|
grd (l4.length+1≤2147483648) <|
j2 (l4++[(⟨i3,i3+1⟩:Gapi_Span)]) i3
) (
j2 l4 i3
)
)
)
) (
zal (ziA s1 i3) fun (c5:Int) =>
zaw ((c5:Int)==13) (
grd (I64 (i3+1)) <|
grd (l4.length+1≤2147483648) <|
j2 (l4++[(⟨i3,i3+1⟩:Gapi_Span)]) i3
) (
zaw ((c5:Int)==10) (
grd (I64 (i3+1)) <|
grd (l4.length+1≤2147483648) <|
j2 (l4++[(⟨i3,i3+1⟩:Gapi_Span)]) i3
) (
j2 l4 i3
)
)
)
) (fun (l5:List Gapi_Span) (i4:Int) =>
grd (I64 (i4+1)) <|
ag1 l5 (i4+1)
)
) (
j1 l4
)
def zeK (s1:ByteArray):Option (List Gapi_Span) :=
zbl (fun (j1:(List Gapi_Span)→Option (List Gapi_Span)) =>
zaF (fun _ _=>none) (zdo s1 j1) zbW ([]:List Gapi_Span) 0
) (fun (l1:List Gapi_Span) =>
some l1
)
theorem zhU {s1:ByteArray} {r:(List Gapi_Span)} (h:zeK s1=some r):Fn Tryd.prog 85 [.string s1] [] (fun v0:Value=>v0) (fun v0=>[zv6 v0 r]):=by
 unfold zeK at h
 refine Fn.intro Tryd.func85 rfl Tryd.ntmps85 (by simp) ?_
 intro w0 K
 obtain ⟨j1,hj1,h⟩:=zbK h
 refine zaX (β:=(List Gapi_Span)×Value) 2 rfl (fun b=>j1 b.1=some r) (fun b=>[]) (fun b=>[(3,b.2)]) (fun b=>[zv6 b.2 b.1]) (fun cut => ?_) ?_
 ·
  refine zyG (zyR 1 rfl (zyH (zyR 1 rfl (zyN (cut (zyG (zyR 1 rfl ?_)))))))
  refine zyN (zaE (zcX (enc:=zdv) (e:=55) (size:=2) ?_))
  refine zbn (β:=Nat×(List Gapi_Span)×Int×Value) (fun b=>zaF (fun _ _=>none) (zdo s1 j1) b.1 b.2.1 b.2.2.1=some r) (fun b=>[]) (fun b=>[(0,.string s1),(3,b.2.2.2),(4,zI b.2.2.1)]) (fun b=>[zv6 b.2.2.2 b.2.1]) (fun b=>b.1) (zbW,([]:List Gapi_Span),0,(.slice none 0 0)) h rfl (za0 rfl) (zae [0] kr rfl) ?_
  rintro ⟨n1,l4,i3,v4⟩ h
  cases n1 with
  | zero=>exact zdG h
  | succ n1 =>
   obtain ⟨ag1,hag1⟩:∃ ag,ag=zaF (fun _ _=>none) (zdo s1 j1) n1:=⟨_,rfl⟩
   have h:zdo s1 j1 ag1 l4 i3=some r:=by rw [hag1]; exact h
   unfold zdo at h
   refine zaJ (zyG (zyR 2 rfl (zb6 rfl dc rfl Tryd.underlying9 (zaT rfl zbf (zyN ?_)))))
   refine zyB rfl h (fun h => ?_) (fun h => ?_)
   ·
    refine zas (zaL ?_)
    obtain ⟨j2,hj2,h⟩:=zbK h
    refine zaX (β:=(List Gapi_Span)×Int×Value) 0 rfl (fun b=>j2 b.1 b.2.1=some r) (fun b=>[]) (fun b=>[(0,.string s1),(3,b.2.2),(4,zI b.2.1)]) (fun b=>[zv6 b.2.2 b.1]) (fun cut => ?_) ?_
    ·
     refine cut (zaE (zaE (zyG (zyR 2 rfl ?_))))
     obtain ⟨c1,hq1,h⟩:=zbg h
     refine zcO rfl dc rfl rfl (zbi Tryd.underlying9 hq1) (zaT rfl zaP (zyR 1 rfl ?_))
     refine zyS (s:=16) rfl h (fun h => ?_) (fun h => ?_)
     ·
      refine zyR 1 rfl ?_
      obtain ⟨hg1,h⟩:=zbk h
      refine zaT rfl (zaQ (r:=i3+1) (IntWalk.i64_in _ hg1)) (zyR 1 rfl (zb6 rfl dc rfl Tryd.underlying9 (zaT rfl zbf (zyR 2 rfl ?_))))
      refine zyS (s:=23) rfl h (fun h => ?_) (fun h => ?_)
      ·
       refine zyR 2 rfl ?_
       obtain ⟨hg2,h⟩:=zbk h
       refine zaT rfl (zaQ (r:=i3+1) (IntWalk.i64_in _ hg2)) ?_
       obtain ⟨c2,hq2,h⟩:=zbg h
       refine zcO rfl dc rfl rfl (zbi Tryd.underlying9 hq2) (zaT rfl zaP (zyR 2 rfl (zyN ?_)))
       refine zyB rfl h (fun h => ?_) (fun h => ?_)
       ·
        refine zyG (zyR 3 rfl ?_)
        obtain ⟨hg3,h⟩:=zbk h
        refine zaT rfl (zaQ (r:=i3+2) (IntWalk.i64_in _ hg3)) ?_
        refine za3 (v:=.agg #[zI i3,zI (i3+2)]) (ps:=[(0,.tmp 31),(1,.tmp 33)]) rfl dc rfl (fun _=>by kernel_rfl) ?_
        refine zaS (cs:=[zI i3,zI (i3+2)]) (te:=55) (ps:=[(0,.tmp 34)]) rfl dc rfl (fun _=>by kernel_rfl) (fun b1 => ?_)
        obtain ⟨hg4,h⟩:=zbk h
        refine za1 (k:=0) (k2:=1) (ys:=[(⟨i3,i3+2⟩:Gapi_Span)]) Tryd.underlying77 zlW zbo zcd rfl dc rfl rfl rfl rfl rfl rfl hg4 (fun v6 => ?_)
        refine zyR 1 rfl (zyN (zax (zyR 1 rfl ?_)))
        obtain ⟨hg5,h⟩:=zbk h
        refine zaT rfl (zaQ (r:=i3+1) (IntWalk.i64_in _ hg5)) (zyR 1 rfl (zaR (zag (zag ?_))))
        exact zak (l4++[(⟨i3,i3+2⟩:Gapi_Span)],i3+1,v6) h rfl (za0 rfl) (zae [0] kr rfl)
       refine zyG (zyR 2 rfl ?_)
       obtain ⟨c3,hq3,h⟩:=zbg h
       refine zcO rfl dc rfl rfl (zbi Tryd.underlying9 hq3) (zaT rfl zaP (zyR 1 rfl ?_))
       refine zyS (s:=44) rfl h (fun h => ?_) (fun h => ?_)
       ·
        refine zyR 6 rfl (zyN (za7 rfl (zax (zyR 3 rfl ?_))))
        obtain ⟨hg6,h⟩:=zbk h
        refine zaT rfl (zaQ (r:=i3+1) (IntWalk.i64_in _ hg6)) ?_
        refine za3 (v:=.agg #[zI i3,zI (i3+1)]) (ps:=[(0,.tmp 51),(1,.tmp 53)]) rfl dc rfl (fun _=>by kernel_rfl) ?_
        refine zaS (cs:=[zI i3,zI (i3+1)]) (te:=55) (ps:=[(0,.tmp 54)]) rfl dc rfl (fun _=>by kernel_rfl) (fun b2 => ?_)
        obtain ⟨hg7,h⟩:=zbk h
        refine za1 (k:=0) (k2:=1) (ys:=[(⟨i3,i3+1⟩:Gapi_Span)]) Tryd.underlying77 zlW zbo zcd rfl dc rfl rfl rfl rfl rfl rfl hg7 (fun v7 => ?_)
        refine zyR 1 rfl (zaR (zag (zag ?_)))
        exact zak (l4++[(⟨i3,i3+1⟩:Gapi_Span)],i3,v7) h rfl (za0 rfl) (zae [0] kr rfl)
       refine zyR 2 rfl (zcO rfl dc rfl rfl (zbi Tryd.underlying9 hq3) (zaT rfl zaP (zyR 2 rfl (zyN ?_))))
       refine zyB rfl h (fun h => ?_) (fun h => ?_)
       ·
        refine zax (zyR 3 rfl ?_)
        obtain ⟨hg8,h⟩:=zbk h
        refine zaT rfl (zaQ (r:=i3+1) (IntWalk.i64_in _ hg8)) ?_
        refine za3 (v:=.agg #[zI i3,zI (i3+1)]) (ps:=[(0,.tmp 51),(1,.tmp 53)]) rfl dc rfl (fun _=>by kernel_rfl) ?_
        refine zaS (cs:=[zI i3,zI (i3+1)]) (te:=55) (ps:=[(0,.tmp 54)]) rfl dc rfl (fun _=>by kernel_rfl) (fun b3 => ?_)
        obtain ⟨hg9,h⟩:=zbk h
        refine za1 (k:=0) (k2:=1) (ys:=[(⟨i3,i3+1⟩:Gapi_Span)]) Tryd.underlying77 zlW zbo zcd rfl dc rfl rfl rfl rfl rfl rfl hg9 (fun v8 => ?_)
        refine zyR 1 rfl (zaR (zag (zag ?_)))
        exact zak (l4++[(⟨i3,i3+1⟩:Gapi_Span)],i3,v8) h rfl (za0 rfl) (zae [0] kr rfl)
       refine zas (zag (zag ?_))
       exact zak (l4,i3,v4) h rfl (za0 rfl) (zae [0] kr rfl)
      refine zyR 7 rfl (zyN (zaN rfl (zyG (zyR 2 rfl ?_))))
      obtain ⟨c4,hq4,h⟩:=zbg h
      refine zcO rfl dc rfl rfl (zbi Tryd.underlying9 hq4) (zaT rfl zaP (zyR 1 rfl ?_))
      refine zyS (s:=44) rfl h (fun h => ?_) (fun h => ?_)
      ·
       refine zyR 6 rfl (zyN (za7 rfl (zax (zyR 3 rfl ?_))))
       obtain ⟨hg10,h⟩:=zbk h
       refine zaT rfl (zaQ (r:=i3+1) (IntWalk.i64_in _ hg10)) ?_
       refine za3 (v:=.agg #[zI i3,zI (i3+1)]) (ps:=[(0,.tmp 51),(1,.tmp 53)]) rfl dc rfl (fun _=>by kernel_rfl) ?_
       refine zaS (cs:=[zI i3,zI (i3+1)]) (te:=55) (ps:=[(0,.tmp 54)]) rfl dc rfl (fun _=>by kernel_rfl) (fun b4 => ?_)
       obtain ⟨hg11,h⟩:=zbk h
       refine za1 (k:=0) (k2:=1) (ys:=[(⟨i3,i3+1⟩:Gapi_Span)]) Tryd.underlying77 zlW zbo zcd rfl dc rfl rfl rfl rfl rfl rfl hg11 (fun v9 => ?_)
       refine zyR 1 rfl (zaR (zag (zag ?_)))
       exact zak (l4++[(⟨i3,i3+1⟩:Gapi_Span)],i3,v9) h rfl (za0 rfl) (zae [0] kr rfl)
      refine zyR 2 rfl (zcO rfl dc rfl rfl (zbi Tryd.underlying9 hq4) (zaT rfl zaP (zyR 2 rfl (zyN ?_))))
      refine zyB rfl h (fun h => ?_) (fun h => ?_)
      ·
       refine zax (zyR 3 rfl ?_)
       obtain ⟨hg12,h⟩:=zbk h
       refine zaT rfl (zaQ (r:=i3+1) (IntWalk.i64_in _ hg12)) ?_
       refine za3 (v:=.agg #[zI i3,zI (i3+1)]) (ps:=[(0,.tmp 51),(1,.tmp 53)]) rfl dc rfl (fun _=>by kernel_rfl) ?_
       refine zaS (cs:=[zI i3,zI (i3+1)]) (te:=55) (ps:=[(0,.tmp 54)]) rfl dc rfl (fun _=>by kernel_rfl) (fun b5 => ?_)
       obtain ⟨hg13,h⟩:=zbk h
       refine za1 (k:=0) (k2:=1) (ys:=[(⟨i3,i3+1⟩:Gapi_Span)]) Tryd.underlying77 zlW zbo zcd rfl dc rfl rfl rfl rfl rfl rfl hg13 (fun v10 => ?_)
       refine zyR 1 rfl (zaR (zag (zag ?_)))
       exact zak (l4++[(⟨i3,i3+1⟩:Gapi_Span)],i3,v10) h rfl (za0 rfl) (zae [0] kr rfl)
      refine zas (zag (zag ?_))
      exact zak (l4,i3,v4) h rfl (za0 rfl) (zae [0] kr rfl)
     refine zyR 14 rfl ?_
     refine zyN (zaN rfl (zyG (zyR 2 rfl ?_)))
     obtain ⟨c5,hq5,h⟩:=zbg h
     refine zcO rfl dc rfl rfl (zbi Tryd.underlying9 hq5) (zaT rfl zaP (zyR 1 rfl ?_))
     refine zyS (s:=44) rfl h (fun h => ?_) (fun h => ?_)
     ·
      refine zyR 6 rfl (zyN (za7 rfl (zax (zyR 3 rfl ?_))))
      obtain ⟨hg14,h⟩:=zbk h
      refine zaT rfl (zaQ (r:=i3+1) (IntWalk.i64_in _ hg14)) ?_
      refine za3 (v:=.agg #[zI i3,zI (i3+1)]) (ps:=[(0,.tmp 51),(1,.tmp 53)]) rfl dc rfl (fun _=>by kernel_rfl) ?_
      refine zaS (cs:=[zI i3,zI (i3+1)]) (te:=55) (ps:=[(0,.tmp 54)]) rfl dc rfl (fun _=>by kernel_rfl) (fun b6 => ?_)
      obtain ⟨hg15,h⟩:=zbk h
      refine za1 (k:=0) (k2:=1) (ys:=[(⟨i3,i3+1⟩:Gapi_Span)]) Tryd.underlying77 zlW zbo zcd rfl dc rfl rfl rfl rfl rfl rfl hg15 (fun v11 => ?_)
      refine zyR 1 rfl (zaR (zag (zag ?_)))
      exact zak (l4++[(⟨i3,i3+1⟩:Gapi_Span)],i3,v11) h rfl (za0 rfl) (zae [0] kr rfl)
     refine zyR 2 rfl (zcO rfl dc rfl rfl (zbi Tryd.underlying9 hq5) (zaT rfl zaP (zyR 2 rfl (zyN ?_))))
     refine zyB rfl h (fun h => ?_) (fun h => ?_)
     ·
      refine zax (zyR 3 rfl ?_)
      obtain ⟨hg16,h⟩:=zbk h
      refine zaT rfl (zaQ (r:=i3+1) (IntWalk.i64_in _ hg16)) ?_
      refine za3 (v:=.agg #[zI i3,zI (i3+1)]) (ps:=[(0,.tmp 51),(1,.tmp 53)]) rfl dc rfl (fun _=>by kernel_rfl) ?_
      refine zaS (cs:=[zI i3,zI (i3+1)]) (te:=55) (ps:=[(0,.tmp 54)]) rfl dc rfl (fun _=>by kernel_rfl) (fun b7 => ?_)
      obtain ⟨hg17,h⟩:=zbk h
      refine za1 (k:=0) (k2:=1) (ys:=[(⟨i3,i3+1⟩:Gapi_Span)]) Tryd.underlying77 zlW zbo zcd rfl dc rfl rfl rfl rfl rfl rfl hg17 (fun v12 => ?_)
      refine zyR 1 rfl (zaR (zag (zag ?_)))
      exact zak (l4++[(⟨i3,i3+1⟩:Gapi_Span)],i3,v12) h rfl (za0 rfl) (zae [0] kr rfl)
     refine zas (zag (zag ?_))
     exact zak (l4,i3,v4) h rfl (za0 rfl) (zae [0] kr rfl)
    rintro ⟨l5,i4,v5⟩ h
    rw [hj2] at h
    refine zax (zyR 1 rfl ?_)
    obtain ⟨hg18,h⟩:=zbk h
    refine zaT rfl (zaQ (r:=i4+1) (IntWalk.i64_in _ hg18)) (zyR 1 rfl (zaR ?_))
    subst hag1
    exact za4 (n1,l5,i4+1,v5) h (Nat.lt_succ_self _) rfl (za0 rfl) (zae [0] kr rfl)
   refine za2 (zam (zam (zav ?_)))
   exact zak (l4,v4) h rfl (za0 rfl) (zae [0] kr rfl)
 rintro ⟨l1,v1⟩ h
 rw [hj1] at h
 refine zyG (zyR 2 rfl (zyN (zaI ?_)))
 cases h
 exact zaK (rs:=[.tmp 2]) v1 (.inl rfl) Tryd.results85 (.cons (.tmp rfl) .nil) rfl (zae [0] kr rfl)
def zcM (s1:ByteArray) (j1:(List Gapi_Span)→Option (List Gapi_Span)) (r1:(List Gapi_Span)) (r2:(List Gapi_Span)) (ag1:(List Gapi_Span)→Int→Int→Option (List Gapi_Span)) (l4:List Gapi_Span) (from3:Int) (i3:Int):Option (List Gapi_Span) :=
zaw (decide ((i3:Int)<((r1.length:Int)+1))) (
zbl (fun (j2:Int→Int→Option (List Gapi_Span)) =>
zaw (decide ((i3:Int)<(r2.length:Int))) (
zal (zbF r2 i3) fun (q1:Gapi_Span) =>
zal (zbF r2 i3) fun (q2:Gapi_Span) =>
j2 q2.To q1.From
) (
j2 from3 (s1.size:Int)
)
) (fun (from4:Int) (x1:Int) =>
grd (l4.length+1≤2147483648) <|
grd (I64 (i3+1)) <|
ag1 (l4++[(⟨from3,x1⟩:Gapi_Span)]) from4 (i3+1)
)
) (
j1 l4
)
def zeT (s1:ByteArray):Option (List Gapi_Span) :=
zbl (fun (j1:(List Gapi_Span)→Option (List Gapi_Span)) =>
zal (zeK s1) fun (r1:(List Gapi_Span)) =>
grd (I64 ((r1.length:Int)+1)) <|
zal (zeK s1) fun (r2:(List Gapi_Span)) =>
zaF (fun _ _ _=>none) (zcM s1 j1 r1 r2) zbW ([]:List Gapi_Span) 0 0
) (fun (l1:List Gapi_Span) =>
some l1
)
theorem zkz {s1:ByteArray} {r:(List Gapi_Span)} (h:zeT s1=some r):Fn Tryd.prog 56 [.string s1] [] (fun v0:Value=>v0) (fun v0=>[zv6 v0 r]):=by
 unfold zeT at h
 refine Fn.intro Tryd.func56 rfl Tryd.ntmps56 (by simp) ?_
 intro w0 K
 obtain ⟨j1,hj1,h⟩:=zbK h
 refine zaX (β:=(List Gapi_Span)×Value) 5 rfl (fun b=>j1 b.1=some r) (fun b=>[]) (fun b=>[(4,b.2)]) (fun b=>[zv6 b.2 b.1]) (fun cut => ?_) ?_
 ·
  refine zyG (zyR 1 rfl (zyH (zyR 1 rfl ?_)))
  obtain ⟨r1,hq1,h⟩:=zbg h
  refine zea (vs:=[.string s1]) rfl dc rfl rfl rfl zug (zhU hq1) Splits.nil ?_
  rintro v2
  refine zbd (k:=0) rfl dc rfl rfl Tryd.underlying77 ?_
  obtain ⟨hg1,h⟩:=zbk h
  refine zaT rfl (zaQ (r:=(r1.length:Int)+1) (IntWalk.i64_in _ hg1)) (zyR 1 rfl (zyH (zyR 1 rfl (zyH (zyR 1 rfl ?_)))))
  obtain ⟨r2,hq2,h⟩:=zbg h
  refine zea (vs:=[.string s1]) rfl dc rfl rfl rfl zug (zhU hq2) Splits.nil ?_
  rintro v3
  refine zyR 1 rfl (zyH (zyR 1 rfl (zyN (cut (zyG (zyR 1 rfl (zyN ?_)))))))
  refine zaE (zcX (enc:=zdv) (e:=55) (size:=2) ?_)
  refine zbn (β:=Nat×(List Gapi_Span)×Int×Int×Value) (fun b=>zaF (fun _ _ _=>none) (zcM s1 j1 r1 r2) b.1 b.2.1 b.2.2.1 b.2.2.2.1=some r) (fun b=>[]) (fun b=>[(0,.string s1),(3,zI ((r1.length:Int)+1)),(4,b.2.2.2.2),(5,v3),(6,zI b.2.2.1),(7,zI b.2.2.2.1)]) (fun b=>[zv6 b.2.2.2.2 b.2.1,zv6 v3 r2]) (fun b=>b.1) (zbW,([]:List Gapi_Span),0,0,(.slice none 0 0)) h rfl (za0 rfl) (zae [2,1] kr rfl) ?_
  rintro ⟨n1,l4,from3,i3,v6⟩ h
  cases n1 with
  | zero=>exact zdG h
  | succ n1 =>
   obtain ⟨ag1,hag1⟩:∃ ag,ag=zaF (fun _ _ _=>none) (zcM s1 j1 r1 r2) n1:=⟨_,rfl⟩
   have h:zcM s1 j1 r1 r2 ag1 l4 from3 i3=some r:=by rw [hag1]; exact h
   unfold zcM at h
   refine zaJ (zyG (zyR 2 rfl (zaT rfl zbf (zyN ?_))))
   refine zyB rfl h (fun h => ?_) (fun h => ?_)
   ·
    refine zas (zaL (zaJ (zaE ?_)))
    obtain ⟨j2,hj2,h⟩:=zbK h
    refine zaX (β:=Int×Int×Nat) 1 rfl (fun b=>j2 b.1 b.2.1=some r) (fun b=>[]) (fun b=>[(0,.string s1),(3,zI ((r1.length:Int)+1)),(4,v6),(5,v3),(6,zI b.1),(7,zI i3),(8,zP b.2.2)]) (fun b=>[zv6 v6 l4,zv6 v3 r2,cells b.2.2 [zI from3,zI b.2.1] 55]) (fun cut => ?_) ?_
    ·
     refine zyG (zyR 2 rfl (zb6 rfl dc rfl Tryd.underlying9 ?_))
     refine za3 (v:=.agg #[zI from3,zI (s1.size:Int)]) (ps:=[(0,.tmp 20),(1,.tmp 22)]) rfl dc rfl (fun _=>by kernel_rfl) ?_
     refine zbt zoY rfl dc (fun b2 => ?_)
     refine zaY (k:=2) (vs:=[zI from3,zI (s1.size:Int)]) (l':=[zI from3,zI (s1.size:Int)]) zjz rfl rfl rfl rfl rfl (show _≤_ by simp) rfl rfl ?_
     refine zyN (cut (zyG (zyR 2 rfl (zbd (k:=1) rfl dc rfl rfl Tryd.underlying77 (zaT rfl zbf (zyN ?_))))))
     refine zyB rfl h (fun h => ?_) (fun h => ?_)
     ·
      refine zyG (zyR 2 rfl ?_)
      obtain ⟨q1,hq3,h⟩:=zbg h
      refine zan (k:=1) hq3 Tryd.underlying77 zjz rfl dc rfl rfl rfl rfl (zab zc5 rfl dc rfl (show _=((i3:Int).toNat)*2 from rfl) (zaB (i:=(i3:Int).toNat) (j:=0) (k:=1) (q:=q1) zbh zbo rfl dc rfl rfl (zaC hq3) rfl dc rfl (zab zdD rfl dc rfl (show _=1 from rfl) ?_)))
      refine za5 (k:=2) (l':=[zI from3,zI q1.From]) zde rfl rfl rfl rfl rfl (fun _ _=>rfl) rfl ?_
      refine zyN (zax (zyR 2 rfl ?_))
      obtain ⟨q2,hq4,h⟩:=zbg h
      refine zan (k:=1) hq4 Tryd.underlying77 zjz rfl dc rfl rfl rfl rfl (zab zdD rfl dc rfl (show _=((i3:Int).toNat)*2+1 from rfl) (zaB (i:=(i3:Int).toNat) (j:=1) (k:=1) (q:=q2) zbh zbo rfl dc rfl rfl (zaC hq4) rfl dc rfl (zyR 1 rfl (zaR ?_))))
      exact zak (q2.To,q1.From,b2) h rfl (za0 rfl) (zae [0,1,2] kr rfl)
     refine zas ?_
     exact zak (from3,(s1.size:Int),b2) h rfl (za0 rfl) (zae [0,1,2] kr rfl)
    rintro ⟨from4,x1,b1⟩ h
    rw [hj2] at h
    refine zax (zyR 1 rfl (zba (k:=2) (cs:=[zI from3,zI x1]) zmq rfl dc rfl rfl rfl rfl ?_))
    refine zaS (cs:=[zI from3,zI x1]) (te:=55) (ps:=[(0,.tmp 40)]) rfl dc rfl (fun _=>by kernel_rfl) (fun b3 => ?_)
    obtain ⟨hg2,h⟩:=zbk h
    refine za1 (k:=0) (k2:=3) (ys:=[(⟨from3,x1⟩:Gapi_Span)]) Tryd.underlying77 zlW zbo zcd rfl dc rfl rfl rfl rfl rfl rfl hg2 (fun v7 => ?_)
    refine zyR 1 rfl (zaR (zag (zaL (zax (zyR 1 rfl ?_)))))
    obtain ⟨hg3,h⟩:=zbk h
    refine zaT rfl (zaQ (r:=i3+1) (IntWalk.i64_in _ hg3)) (zyR 1 rfl (zaR ?_))
    subst hag1
    exact za4 (n1,l4++[(⟨from3,x1⟩:Gapi_Span)],from4,i3+1,v7) h (Nat.lt_succ_self _) rfl (za0 rfl) (zae [0,1] kr rfl)
   refine za2 (zam (zam (zav ?_)))
   exact zak (l4,v6) h rfl (za0 rfl) (zae [0] kr rfl)
 rintro ⟨l1,v1⟩ h
 rw [hj1] at h
 refine zyG (zyR 2 rfl (zyN (zaI ?_)))
 cases h
 exact zaK (rs:=[.tmp 2]) v1 (.inl rfl) Tryd.results56 (.cons (.tmp rfl) .nil) rfl (zae [0] kr rfl)
end Go.Proofs.YtbempdelckaccaaDoor

namespace Go.Proofs.YtbempdelckaccaaDoor
open Go.RowKit Go.Lib
set_option linter.unusedVariables false
set_option linter.unusedSimpArgs false
theorem zk8 (s:ByteArray):s.data.toList.length=s.size:=by rw [Array.length_toList]; rfl
theorem zfQ {s:ByteArray} {i:Nat} {b:UInt8} {t:List UInt8} (h:s.data.toList.drop i=b::t):ziA s (i:Int)=some (b.toNat:Int)∧i<s.size:=by
 have hl:i<s.data.toList.length:=by
  rcases Nat.lt_or_ge i s.data.toList.length with h1 | h1
  ·exact h1
  ·rw [List.drop_eq_nil_of_le h1] at h; cases h
 have hs:i<s.size:=by rw [← zk8]; exact hl
 refine ⟨?_,hs⟩
 rw [zlL rfl hs]
 rw [List.drop_eq_getElem_cons hl] at h
 have h2:=(List.cons.inj h).1
 rw [Array.getElem_toList] at h2
 rw [← h2]; rfl
theorem ze0 {s:ByteArray} {i:Nat} (h:s.data.toList.drop i=[]) (hi:i≤s.size):i=s.size:=by
 rw [List.drop_eq_nil_iff,zk8] at h; omega
theorem zfq {l:List UInt8} {i:Nat} {b:UInt8} {t:List UInt8} (h:l.drop i=b::t):l.drop (i+1)=t:=by
 rw [← List.drop_drop,h]; rfl
theorem n13 (b:UInt8):((b.toNat:Int)==13)=decide (b=13):=by
 by_cases h:b=13
 ·subst h; rfl
 ·rw [decide_eq_false h]; exact beq_eq_false_iff_ne.2 (fun e=>h (UInt8.toNat.inj (by show b.toNat=13; omega)))
theorem n10 (b:UInt8):((b.toNat:Int)==10)=decide (b=10):=by
 by_cases h:b=10
 ·subst h; rfl
 ·rw [decide_eq_false h]; exact beq_eq_false_iff_ne.2 (fun e=>h (UInt8.toNat.inj (by show b.toNat=10; omega)))
theorem n32 (b:UInt8):((b.toNat:Int)==32)=decide (b=32):=by
 by_cases h:b=32
 ·subst h; rfl
 ·rw [decide_eq_false h]; exact beq_eq_false_iff_ne.2 (fun e=>h (UInt8.toNat.inj (by show b.toNat=32; omega)))
theorem n9 (b:UInt8):((b.toNat:Int)==9)=decide (b=9):=by
 by_cases h:b=9
 ·subst h; rfl
 ·rw [decide_eq_false h]; exact beq_eq_false_iff_ne.2 (fun e=>h (UInt8.toNat.inj (by show b.toNat=9; omega)))
theorem n35 (b:UInt8):((b.toNat:Int)==35)=decide (b=35):=by
 by_cases h:b=35
 ·subst h; rfl
 ·rw [decide_eq_false h]; exact beq_eq_false_iff_ne.2 (fun e=>h (UInt8.toNat.inj (by show b.toNat=35; omega)))
def spP:Bool→Nat→Nat→List UInt8→List (Nat×Nat)
 | _,f,a,[]=>[(f,a)]
 | p,f,a,b::t =>
  if b=13 then (if t.head?=some 10 then spP true f (a+1) t else (f,a)::spP true (a+1) (a+1) t)
  else if b=10 then (f,if p then a - 1 else a)::spP false (a+1) (a+1) t
  else spP false f (a+1) t
def zcE (l:List UInt8):List (Nat×Nat):=spP false 0 0 l
def mkS (x:Nat×Nat):Gapi_Span:=⟨x.1,x.2⟩
def enP:Bool→Nat→List UInt8→List (Nat×Nat)
 | _,_,[]=>[]
 | p,a,b::t =>
  if b=13 then (if t.head?=some 10 then enP true (a+1) t else (a,a+1)::enP true (a+1) t)
  else if b=10 then ((if p then a - 1 else a),a+1)::enP false (a+1) t
  else enP false (a+1) t
def liE (n:Nat):Nat→List (Nat×Nat)→List (Nat×Nat)
 | f,[]=>[(f,n)]
 | f,(x,y)::es=>(f,x)::liE n y es
theorem zjO:∀ (l:List UInt8) (p:Bool) (f a:Nat),liE (a+l.length) f (enP p a l)=spP p f a l
 | [],p,f,a=>rfl
 | b::t,p,f,a=>by
  have e:a+(b::t).length=a+1+t.length:=by rw [List.length_cons]; omega
  rw [e]
  unfold enP spP
  split
  ·split
   ·exact zjO t _ _ _
   ·show (f,a)::liE _ _ _=_
    rw [zjO t]
  ·split
   ·show (f,_)::liE _ _ _=_
    rw [zjO t]
   ·exact zjO t _ _ _
theorem zs5 {t:List UInt8} (h:t.head?≠some 10) (a:Nat):enP true a t=enP false a t:=by
 cases t with
 | nil=>rfl
 | cons b t =>
  have hb:b≠10:=fun e=>h (by rw [e]; rfl)
  unfold enP
  rw [if_neg hb,if_neg hb]
theorem zj6:∀ (l:List UInt8) (p:Bool) (a:Nat),(enP p a l).length≤l.length
 | [],p,a=>Nat.le_refl _
 | b::t,p,a=>by
  unfold enP
  rw [List.length_cons]
  split
  ·split
   ·have:=zj6 t true (a+1); omega
   ·rw [List.length_cons]; have:=zj6 t true (a+1); omega
  ·split
   ·rw [List.length_cons]; have:=zj6 t false (a+1); omega
   ·have:=zj6 t false (a+1); omega
theorem zp2 (s:ByteArray) (J:List Gapi_Span→Option (List Gapi_Span)) (hs:s.size≤1073741824):∀ (n i:Nat) (acc:List Gapi_Span),i≤s.size→s.size - i<n→acc.length≤i →
  zaF (fun _ _=>none) (zdo s J) n acc (i:Int)=J (acc++(enP false i (s.data.toList.drop i)).map mkS):=by
 intro n
 induction n with
 | zero=>intro i acc h1 h2; omega
 | succ n ih =>
  intro i acc hi hn ha
  rw [zd3]
  obtain ⟨ag,hag⟩:∃ ag,ag=zaF (fun _ _=>none) (zdo s J) n:=⟨_,rfl⟩
  have ihn:∀ (i:Nat) (acc:List Gapi_Span),i≤s.size→s.size - i<n→acc.length≤i→ag acc (i:Int)=J (acc++(enP false i (s.data.toList.drop i)).map mkS):=by rw [hag]; exact ih
  rw [← hag]
  clear ih hag
  unfold zdo
  cases hd:s.data.toList.drop i with
  | nil =>
   have:=ze0 hd hi
   refine zay (decide_eq_false (by omega)) ?_
   show J acc=J (acc++[])
   rw [List.append_nil]
  | cons b t =>
   obtain ⟨hb,hlt⟩:=zfQ hd
   have hd1:=zfq hd
   refine zaz (decide_eq_true (by omega)) (zbE (zaM hb ?_))
   have hcast:(i:Int)+1=((i+1:Nat):Int):=by omega
   have goOn:∀ (acc2:List Gapi_Span),acc2.length≤i+1→(grd (I64 ((i:Int)+1))<|ag acc2 ((i:Int)+1))=J (acc2++(enP false (i+1) t).map mkS):=fun acc2 h2=>by
    refine zbm ⟨by omega,by omega⟩ ?_
    rw [hcast,ihn (i+1) acc2 (by omega) (by omega) h2,hd1]
   by_cases h13:b=13
   ·refine zaz (by rw [n13]; exact decide_eq_true h13) (zbm ⟨by omega,by omega⟩ ?_)
    have one:(grd (I64 ((i:Int)+1))<|grd (acc.length+1≤2147483648)<|(grd (I64 ((i:Int)+1))<|ag (acc++[(⟨i,(i:Int)+1⟩:Gapi_Span)]) ((i:Int)+1)))=J (acc++((i,i+1)::enP false (i+1) t).map mkS):=by
     refine zbm ⟨by omega,by omega⟩ (zbm (by omega) ?_)
     rw [goOn _ (by simp; omega),List.map_cons,List.append_assoc]
     rfl
    cases t with
    | nil =>
     have hsz:i+1=s.size:=ze0 hd1 (by omega)
     refine zay (decide_eq_false (by omega)) (zaM hb (zaz (by rw [n13]; exact decide_eq_true h13) ?_))
     refine one.trans ?_
     unfold enP; rw [if_pos h13,if_neg (by simp)]; rfl
    | cons c u =>
     obtain ⟨hc,hlt2⟩:=zfQ hd1
     refine zaz (decide_eq_true (by omega)) (zbm ⟨by omega,by omega⟩ (zaM (by rw [hcast]; exact hc) ?_))
     by_cases h10:c=10
     ·refine zaz (by rw [n10]; exact decide_eq_true h10) (zbm ⟨by omega,by omega⟩ (zbm (by omega) (zbm ⟨by omega,by omega⟩ ?_)))
      refine zbm ⟨by omega,by omega⟩ ?_
      have hd2:=zfq hd1
      show ag _ ((i:Int)+1+1)=_
      rw [show (i:Int)+1+1=((i+2:Nat):Int) by omega,ihn (i+2) _ (by omega) (by omega) (by simp; omega),hd2,List.append_assoc]
      have e2:enP false i (b::c::u)=(i,i+2)::enP false (i+2) u:=by
       rw [enP,if_pos h13,if_pos (by rw [h10]; rfl),enP,if_neg (by rw [h10]; decide),if_pos h10,if_pos rfl]
       rfl
      rw [e2]
      rfl
     ·refine zay (by rw [n10]; exact decide_eq_false h10) (zaM hb (zaz (by rw [n13]; exact decide_eq_true h13) ?_))
      refine one.trans ?_
      rw [show enP false i (b::c::u)=(i,i+1)::enP true (i+1) (c::u) by rw [enP,if_pos h13,if_neg (by simp [h10])],zs5 (by simp [h10])]
   ·refine zay (by rw [n13]; exact decide_eq_false h13) (zaM hb (zay (by rw [n13]; exact decide_eq_false h13) ?_))
    by_cases h10:b=10
    ·refine zaz (by rw [n10]; exact decide_eq_true h10) (zbm ⟨by omega,by omega⟩ (zbm (by omega) ?_))
     refine (goOn _ (by simp; omega)).trans ?_
     rw [List.append_assoc]
     rw [enP,if_neg h13,if_pos h10]; rfl
    ·refine zay (by rw [n10]; exact decide_eq_false h10) ?_
     refine (goOn _ (by omega)).trans ?_
     rw [enP,if_neg h13,if_neg h10]
theorem zrN (s:ByteArray) (hs:s.size≤1073741824):zeK s=some ((enP false 0 s.data.toList).map mkS):=by
 unfold zeK
 refine zbE ?_
 have:=zp2 s (fun l=>some l) hs zbW 0 [] (Nat.zero_le _) (by unfold zbW; omega) (Nat.le_refl _)
 rw [List.drop_zero,List.nil_append] at this
 exact this
theorem zoH (s:ByteArray) (J:List Gapi_Span→Option (List Gapi_Span)) (E:List (Nat×Nat)) (hE:E.length≤1073741824):∀ (n i f:Nat) (acc:List Gapi_Span),i≤E.length→E.length+1 - i<n→acc.length=i →
  zaF (fun _ _ _=>none) (zcM s J (E.map mkS) (E.map mkS)) n acc (f:Int) (i:Int)=J (acc++(liE s.size f (E.drop i)).map mkS):=by
 intro n
 induction n with
 | zero=>intro i f acc h1 h2; omega
 | succ n ih =>
  intro i f acc hi hn ha
  rw [zd3]
  obtain ⟨ag,hag⟩:∃ ag,ag=zaF (fun _ _ _=>none) (zcM s J (E.map mkS) (E.map mkS)) n:=⟨_,rfl⟩
  rw [← hag]
  unfold zcM
  refine zaz (decide_eq_true (by rw [List.length_map]; omega)) (zbE ?_)
  cases hd:E.drop i with
  | nil =>
   have hl:E.length≤i:=List.drop_eq_nil_iff.1 hd
   obtain rfl:i=E.length:=by omega
   refine zay (decide_eq_false (by rw [List.length_map]; omega)) (zbm (by omega) (zbm ⟨by omega,by omega⟩ ?_))
   obtain ⟨n,rfl⟩:∃ m,n=m+1:=⟨n - 1,by omega⟩
   rw [hag,zd3]
   unfold zcM
   refine zay (decide_eq_false (by rw [List.length_map]; omega)) rfl
  | cons x es =>
   have hl:i<E.length:=by
    rcases Nat.lt_or_ge i E.length with h | h
    ·exact h
    ·rw [List.drop_eq_nil_of_le h] at hd; cases hd
   have hx:E[i]?=some x:=by
    rw [List.drop_eq_getElem_cons hl] at hd
    rw [List.getElem?_eq_getElem hl,(List.cons.inj hd).1]
   have hg:zbF (E.map mkS) (i:Int)=some (mkS x):=zfw (by rw [List.getElem?_map,hx]; rfl)
   refine zaz (decide_eq_true (by rw [List.length_map]; omega)) (zaM hg (zaM hg (zbm (by omega) (zbm ⟨by omega,by omega⟩ ?_))))
   have hd1:E.drop (i+1)=es:=by rw [← List.drop_drop,hd]; rfl
   have:=ih (i+1) x.2 (acc++[(⟨f,x.1⟩:Gapi_Span)]) (by omega) (by omega) (by simp; omega)
   rw [hd1,List.append_assoc,← hag] at this
   exact this
theorem zoA (s:ByteArray) (hs:s.size≤65536):zeT s=some ((zcE s.data.toList).map mkS):=by
 unfold zeT
 have hl:=zj6 s.data.toList false 0
 rw [zk8] at hl
 refine zbE (zaM (zrN s (by omega)) (zbm ⟨by omega,by rw [List.length_map]; omega⟩ (zaM (zrN s (by omega)) ?_)))
 have:=zoH s (fun l=>some l) (enP false 0 s.data.toList) (by omega) zbW 0 0 [] (Nat.zero_le _) (by unfold zbW; omega) rfl
 rw [List.drop_zero,List.nil_append] at this
 refine this.trans ?_
 unfold zcE
 rw [← zjO,zk8,Nat.zero_add]
end Go.Proofs.YtbempdelckaccaaDoor

namespace Go.Proofs.YtbempdelckaccaaDoor
open Go.RowKit Go.Lib
set_option linter.unusedVariables false
set_option linter.unusedSimpArgs false
theorem zna {b:UInt8} {t:List UInt8} (hb:128≤b.toNat):128≤(decodeL (b::t)).1∧∀ x∈(b::t).take (decodeL (b::t)).2,128≤x.toNat:=by
 have hd:=zrh (b::t) (by simp)
 generalize (decodeL (b::t)).1=r at hd ⊢
 generalize (decodeL (b::t)).2=w at hd ⊢
 obtain ⟨w,rfl⟩:∃ v,w=v+1:=⟨w - 1,by have:=hd.pos; omega⟩
 by_cases hbr:r=65533∧w+1=1
 ·obtain ⟨rfl,hw⟩:=hbr
  obtain rfl:w=0:=by omega
  refine ⟨by omega,fun x hx => ?_⟩
  simp at hx; subst hx; omega
 ·have he:=hd.bytes hbr
  have hr:128≤r:=by
   rcases Nat.lt_or_ge r 128 with h1 | h1
   ·rw [zsY r h1,List.take_succ_cons] at he
    have h2:r.toUInt8=b:=(List.cons.inj he).1
    have h3:b.toNat=r:=by rw [← h2]; simp; omega
    omega
   ·exact h1
  refine ⟨hr,?_⟩
  rw [← he]
  exact (zsZ r hd.valid hr).2.2
def spE (e:Gplace_ended):Gapi_Span:=⟨e.span_From,e.span_To⟩
def pv (l:List UInt8) (i:Nat):Bool:=decide (0<i)&&l.getD (i - 1) 0==13
theorem zpR {l:List UInt8} {i:Nat} {b:UInt8} {t:List UInt8} (h:l.drop i=b::t):l.getD i 0=b:=by
 have h2:(l.drop i)[0]?=some b:=by rw [h]; rfl
 rw [List.getElem?_drop] at h2
 rw [List.getD_eq_getElem?_getD,show i=i+0 from rfl,h2]; rfl
theorem zpA {l:List UInt8} {i:Nat} {b:UInt8} {t:List UInt8} (h:l.drop i=b::t):pv l (i+1)=(b==13):=by
 unfold pv
 rw [Nat.add_sub_cancel,zpR h,decide_eq_true (by omega),Bool.true_and]
theorem zsG {l:List UInt8} {i w:Nat} (hw:1≤w) (hle:w≤(l.drop i).length) (h:∀ x∈(l.drop i).take w,128≤x.toNat):pv l (i+w)=false:=by
 unfold pv
 obtain ⟨w,rfl⟩:∃ v,w=v+1:=⟨w - 1,by omega⟩
 have hlt:w<(l.drop i).length:=by omega
 have h1:(l.drop i)[w]?=some ((l.drop i)[w]):=List.getElem?_eq_getElem hlt
 have h2:(l.drop i)[w]∈(l.drop i).take (w+1):=by
  refine List.mem_of_getElem? (i:=w) ?_
  rw [List.getElem?_take,if_pos (by omega)]; exact h1
 have h3:=h _ h2
 rw [List.getElem?_drop] at h1
 rw [show i+(w+1) - 1=i+w by omega,List.getD_eq_getElem?_getD,h1,Option.getD_some]
 have:((l.drop i)[w]==13)=false:=beq_eq_false_iff_ne.2 (fun e=>by rw [e] at h3; exact absurd h3 (by decide))
 rw [this,Bool.and_false]
theorem zph:∀ (x t:List UInt8) (p:Bool) (f i:Nat),(∀ b∈x,128≤b.toNat)→x≠[]→spP p f i (x++t)=spP false f (i+x.length) t
 | [],t,p,f,i,h,hx=>absurd rfl hx
 | b::x,t,p,f,i,h,hx=>by
  have hb:=h b (by simp)
  have h13:b≠13:=fun e=>by rw [e] at hb; exact absurd hb (by decide)
  have h10:b≠10:=fun e=>by rw [e] at hb; exact absurd hb (by decide)
  rw [List.cons_append,spP,if_neg h13,if_neg h10]
  by_cases hx2:x=[]
  ·subst hx2; rfl
  ·rw [zph x t false f (i+1) (fun y hy=>h y (by simp [hy])) hx2,List.length_cons]
   rw [show i+1+x.length=i+(x.length+1) by omega]
section
variable {s:ByteArray} {j1:(List Gapi_Place)→(List Gplace_ended)→Int→Int→Int→Int→Int→Int→Int→Option ((Option Gplace_Map)×Int)} {ag:(List Gapi_Place)→(List Gplace_ended)→Int→Int→Int→Int→Int→Int→Int→Nat→Option ((Option Gplace_Map)×Int)}
 {M:List Gapi_Place} {E:List Gplace_ended} {p16 p17 p18 p19 p20 f7 f8:Int} {m:Nat} {p:Pc}
def u22 (p:Pc) (p18:Int):Int:=if 65536≤p.r then p18+1+1 else p18+1
theorem zve {X:Option ((Option Gplace_Map)×Int)} {A B C D:Prop} [Decidable A] [Decidable B] [Decidable C] [Decidable D] (hA:A) (hB:B) (hC:C) (hD:D) (h18:I64 (p18+1+1)) {K:Int→Option ((Option Gplace_Map)×Int)} (h:K (u22 p p18)=X) :
  zbl (fun (j2:Int→Option ((Option Gplace_Map)×Int))=>grd A<|grd B<|grd C<|grd D<|zaw (decide ((65536:Int)≤(p.r:Int))) (grd (I64 ((p18+1)+1))<|j2 ((p18+1)+1)) (j2 (p18+1))) K=X:=by
 refine zbE (zbm hA (zbm hB (zbm hC (zbm hD ?_))))
 unfold u22 at h
 by_cases h1:65536≤p.r
 ·rw [if_pos h1] at h; exact zaz (decide_eq_true (by omega)) (zbm h18 h)
 ·rw [if_neg h1] at h; exact zay (decide_eq_false (by omega)) h
theorem zq1 {X:Option ((Option Gplace_Map)×Int)} (hp:(pcs s.data.toList)[m]?=some p) (hm:M.length+1≤2147483648) (h17:I64 (p17+1)) (h18:I64 (p18+1+1)) (h18':I64 (p18+1)) (h20:I64 (p20+1))
  (hi:p.i<s.size) (hs:s.size≤65536) (hE:E.length+1≤2147483648) (h19:I64 (p19+1))
  (hX:(p.r≠13∧p.r≠10∨p.r=13∧∃ c u,s.data.toList.drop (p.i+1)=c::u∧c=10)∧ag (M++[(⟨p.i,p17,p18,p19,p20⟩:Gapi_Place)]) E p.i (p17+1) (u22 p p18) p19 (p20+1) f7 f8 (m+1)=X ∨
   ∃ w:Nat,w≤p.i+1∧(p.r=13∧s.data.toList[p.i+1]?≠some 10∧w=1∨p.r=10∧w=(if pv s.data.toList p.i then 2 else 1)) ∧
    ag (M++[(⟨p.i,p17,p18,p19,p20⟩:Gapi_Place)]) (E++[(⟨f7,((p.i+1 - w:Nat):Int),w,f8⟩:Gplace_ended)]) p.i (p17+1) (u22 p p18) (p19+1) 0 ((p.i+1:Nat):Int) ((M.length+1:Nat):Int) (m+1)=X) :
  zda s j1 ag M E p16 p17 p18 p19 p20 f7 f8 m=X:=by
 have hl:=(List.getElem?_eq_some_iff.1 hp).1
 unfold zda
 refine zaz (decide_eq_true hl) (zaM hp (zve hm h17 h18' h20 h18 ?_))
 refine zbE ?_
 have e13:((p.r:Int)==13)=decide (p.r=13):=by
  by_cases h:p.r=13
  ·rw [h]; rfl
  ·rw [decide_eq_false h]; exact beq_eq_false_iff_ne.2 (by omega)
 have e10:((p.r:Int)==10)=decide (p.r=10):=by
  by_cases h:p.r=10
  ·rw [h]; rfl
  ·rw [decide_eq_false h]; exact beq_eq_false_iff_ne.2 (by omega)
 have n13':((p.r:Int) != 13)=!decide (p.r=13):=by unfold bne; rw [e13]
 have n10':((p.r:Int) != 10)=!decide (p.r=10):=by unfold bne; rw [e10]
 have hsucc:(p.i:Int)+1=((p.i+1:Nat):Int):=by omega
 have fin:∀ w:Nat,w≤p.i+1→ag (M++[(⟨p.i,p17,p18,p19,p20⟩:Gapi_Place)]) (E++[(⟨f7,((p.i+1 - w:Nat):Int),w,f8⟩:Gplace_ended)]) p.i (p17+1) (u22 p p18) (p19+1) 0 ((p.i+1:Nat):Int) ((M.length+1:Nat):Int) (m+1)=X →
   (grd (I64 ((p.i:Int)+1))<|grd (I64 (((p.i:Int)+1) - (w:Int)))<|grd (E.length+1≤2147483648)<|grd (I64 ((p.i:Int)+1))<|grd (I64 (p19+1)) <|
    ag (M++[(⟨(p.i:Int),p17,p18,p19,p20⟩:Gapi_Place)]) (E++[(⟨f7,((p.i:Int)+1) - (w:Int),(w:Int),f8⟩:Gplace_ended)]) (p.i:Int) (p17+1) (u22 p p18) (p19+1) 0 ((p.i:Int)+1) ((M++[(⟨(p.i:Int),p17,p18,p19,p20⟩:Gapi_Place)]).length:Int) (m+1))=X:=fun w hw h=>by
  refine zbm ⟨by omega,by omega⟩ (zbm ⟨by omega,by omega⟩ (zbm hE (zbm ⟨by omega,by omega⟩ (zbm h19 ?_))))
  rw [← h]
  rw [show ((p.i:Int)+1) - (w:Int)=((p.i+1 - w:Nat):Int) by omega,show (p.i:Int)+1=((p.i+1:Nat):Int) by omega,List.length_append]
  rfl
 by_cases h13:p.r=13
 ·refine zaz (by rw [e13]; exact decide_eq_true h13) (zbm ⟨by omega,by omega⟩ ?_)
  have no10:p.r≠10:=by omega
  rcases hX with ⟨hc,hX⟩ | ⟨w,hw,hc,hX⟩
  ·rcases hc with ⟨h,_⟩ | ⟨_,c,u,hd,hc⟩
   ·exact absurd h13 h
   ·obtain ⟨hg,hlt⟩:=zfQ hd
    refine zaz (decide_eq_true (by omega)) (zbm ⟨by omega,by omega⟩ (zaM (by rw [hsucc]; exact hg) (zaz (by rw [n10]; exact decide_eq_true hc) hX)))
  ·have hw1:w=1∧s.data.toList[p.i+1]?≠some 10:=by
    rcases hc with ⟨_,h,rfl⟩ | ⟨h,_⟩
    ·exact ⟨rfl,h⟩
    ·exact absurd h no10
   obtain ⟨rfl,hne⟩:=hw1
   have tail:(zaw (((p.r:Int):Int) != 13) (zaw (((p.r:Int):Int) != 10) (ag (M++[(⟨(p.i:Int),p17,p18,p19,p20⟩:Gapi_Place)]) E (p.i:Int) (p17+1) (u22 p p18) p19 (p20+1) f7 f8 (m+1)) ((grd (I64 ((p.i:Int)+1))<|grd (I64 (((p.i:Int)+1) - (1:Int)))<|grd (E.length+1≤2147483648)<|grd (I64 ((p.i:Int)+1))<|grd (I64 (p19+1)) <|
    ag (M++[(⟨(p.i:Int),p17,p18,p19,p20⟩:Gapi_Place)]) (E++[(⟨f7,((p.i:Int)+1) - (1:Int),(1:Int),f8⟩:Gplace_ended)]) (p.i:Int) (p17+1) (u22 p p18) (p19+1) 0 ((p.i:Int)+1) ((M++[(⟨(p.i:Int),p17,p18,p19,p20⟩:Gapi_Place)]).length:Int) (m+1)))) ((grd (I64 ((p.i:Int)+1))<|grd (I64 (((p.i:Int)+1) - (1:Int)))<|grd (E.length+1≤2147483648)<|grd (I64 ((p.i:Int)+1))<|grd (I64 (p19+1)) <|
    ag (M++[(⟨(p.i:Int),p17,p18,p19,p20⟩:Gapi_Place)]) (E++[(⟨f7,((p.i:Int)+1) - (1:Int),(1:Int),f8⟩:Gplace_ended)]) (p.i:Int) (p17+1) (u22 p p18) (p19+1) 0 ((p.i:Int)+1) ((M++[(⟨(p.i:Int),p17,p18,p19,p20⟩:Gapi_Place)]).length:Int) (m+1))))=X :=
    zay (by rw [n13',decide_eq_true h13]; rfl) (fin 1 hw hX)
   cases hd:s.data.toList.drop (p.i+1) with
   | nil =>
    have hsz:=ze0 hd (by omega)
    refine zay (decide_eq_false (by omega)) (zay (by rw [e10]; exact decide_eq_false no10) tail)
   | cons c u =>
    obtain ⟨hg,hlt⟩:=zfQ hd
    have hc10:c≠10:=fun e=>hne (by
     have:(s.data.toList.drop (p.i+1))[0]?=some c:=by rw [hd]; rfl
     rw [List.getElem?_drop] at this; rw [← e]; exact this)
    refine zaz (decide_eq_true (by omega)) (zbm ⟨by omega,by omega⟩ (zaM (by rw [hsucc]; exact hg) (zay (by rw [n10]; exact decide_eq_false hc10) (zay (by rw [e10]; exact decide_eq_false no10) tail))))
 ·refine zay (by rw [e13]; exact decide_eq_false h13) ?_
  by_cases h10:p.r=10
  ·refine zaz (by rw [e10]; exact decide_eq_true h10) ?_
   rcases hX with ⟨hc,hX⟩ | ⟨w,hw,hc,hX⟩
   ·rcases hc with ⟨_,h⟩ | ⟨h,_⟩
    ·exact absurd h10 h
    ·exact absurd h h13
   ·have hw1:w=(if pv s.data.toList p.i then 2 else 1):=by
     rcases hc with ⟨h,_⟩ | ⟨_,h⟩
     ·exact absurd h h13
     ·exact h
    have t13:((p.r:Int) != 13)=true:=by rw [n13',decide_eq_false h13]; rfl
    have t10:((p.r:Int) != 10)=false:=by rw [n10',decide_eq_true h10]; rfl
    by_cases h0:0<p.i
    ·refine zaz (decide_eq_true (by omega)) (zbm ⟨by omega,by omega⟩ ?_)
     obtain ⟨c,u,hd⟩:∃ c u,s.data.toList.drop (p.i - 1)=c::u:=by
      cases hd:s.data.toList.drop (p.i - 1) with
      | nil=>have:=ze0 hd (by omega); omega
      | cons c u=>exact ⟨c,u,rfl⟩
     obtain ⟨hg,_⟩:=zfQ hd
     have hpv:pv s.data.toList p.i=(c==13):=by
      have:=zpA hd
      rwa [show p.i - 1+1=p.i by omega] at this
     refine zaM (by rw [show (p.i:Int) - 1=((p.i - 1:Nat):Int) by omega]; exact hg) ?_
     by_cases hc13:c=13
     ·have:w=2:=by rw [hw1,hpv,hc13]; rfl
      subst this
      exact zaz (by rw [n13]; exact decide_eq_true hc13) (fin 2 hw hX)
     ·have:w=1:=by rw [hw1,hpv,beq_eq_false_iff_ne.2 hc13]; rfl
      subst this
      exact zay (by rw [n13]; exact decide_eq_false hc13) (zaz t13 (zay t10 (fin 1 hw hX)))
    ·have:w=1:=by rw [hw1]; unfold pv; rw [decide_eq_false h0]; rfl
     subst this
     exact zay (decide_eq_false (by omega)) (zaz t13 (zay t10 (fin 1 hw hX)))
  ·refine zay (by rw [e10]; exact decide_eq_false h10) ?_
   rcases hX with ⟨hc,hX⟩ | ⟨w,hw,hc,hX⟩
   ·exact zaz (by rw [n13',decide_eq_false h13]; rfl) (zaz (by rw [n10',decide_eq_false h10]; rfl) hX)
   ·rcases hc with ⟨h,_⟩ | ⟨h,_⟩
    ·exact absurd h h13
    ·exact absurd h h10
end
theorem zq2 (s:ByteArray) (J:(List Gapi_Place)→(List Gplace_ended)→Int→Int→Int→Int→Int→Int→Int→Option ((Option Gplace_Map)×Int)) (hs:s.size≤65536) :
  ∀ (n m i:Nat) (M:List Gapi_Place) (E:List Gplace_ended) (p16 p17 p18 p19 p20 f8:Int) (f:Nat),(pcs s.data.toList).drop m=zdl i (s.data.toList.drop i)→i≤s.size→s.size - i<n→M.length≤i→E.length≤i →
   0≤p17→p17≤i→0≤p18→p18≤2*i→0≤p19→p19≤i→0≤p20→p20≤i →
   ∃ M' E' q1 q2 q3 q4 q5 g8,∃ g:Nat,zaF (fun _ _ _ _ _ _ _ _ _ _=>none) (zda s J) n M E p16 p17 p18 p19 p20 (f:Int) f8 m=J M' E' q1 q2 q3 q4 q5 (g:Int) g8∧M'.length≤s.size∧E'.length≤s.size ∧
    E'.map spE++[mkS (g,s.size)]=E.map spE++(spP (pv s.data.toList i) f i (s.data.toList.drop i)).map mkS:=by
 intro n
 induction n with
 | zero=>intro m i M E p16 p17 p18 p19 p20 f8 f h1 h2 h3; omega
 | succ n ih =>
  intro m i M E p16 p17 p18 p19 p20 f8 f hd hi hn hM hE a1 a2 a3 a4 a5 a6 a7 a8
  rw [zd3]
  obtain ⟨ag,hag⟩:∃ ag,ag=zaF (fun _ _ _ _ _ _ _ _ _ _=>none) (zda s J) n:=⟨_,rfl⟩
  rw [← hag] at ih ⊢
  cases hl:s.data.toList.drop i with
  | nil =>
   have hsz:=ze0 hl hi
   rw [hl,zc0] at hd
   have hge:=List.drop_eq_nil_iff.1 hd
   refine ⟨M,E,p16,p17,p18,p19,p20,f8,f,?_,by omega,by omega,?_⟩
   ·unfold zda
    exact zay (decide_eq_false (by omega)) rfl
   ·subst hsz; rfl
  | cons b t =>
   have hlt:=(zfQ hl).2
   rw [hl,zcr i (b::t) (by simp)] at hd
   have hlm:m<(pcs s.data.toList).length:=by
    rcases Nat.lt_or_ge m (pcs s.data.toList).length with h | h
    ·exact h
    ·rw [List.drop_eq_nil_of_le h] at hd; cases hd
   have hq:(pcs s.data.toList)[m]?=some ⟨i,(decodeL (b::t)).2,(decodeL (b::t)).1⟩:=by
    rw [List.drop_eq_getElem_cons hlm] at hd
    rw [List.getElem?_eq_getElem hlm,(List.cons.inj hd).1]
   have hw1:=zgt (b::t)
   have hwl:=zk5 (b::t) (by simp)
   have hd2:(pcs s.data.toList).drop (m+1)=zdl (i+(decodeL (b::t)).2) (s.data.toList.drop (i+(decodeL (b::t)).2)):=by
    rw [← List.drop_drop,hd,← List.drop_drop,hl]; rfl
   have hisz:i+(decodeL (b::t)).2≤s.size:=by
    have:(s.data.toList.drop i).length=(b::t).length:=by rw [hl]
    rw [List.length_drop,zk8] at this; omega
   have hup:∀ (q:Pc),0≤u22 q p18∧u22 q p18≤p18+2:=fun q=>by unfold u22; split <;> omega
   obtain ⟨hu1,hu2⟩:=hup ⟨i,(decodeL (b::t)).2,(decodeL (b::t)).1⟩
   have hst:=@zq1 s J ag M E p16 p17 p18 p19 p20 (f:Int) f8 m ⟨i,(decodeL (b::t)).2,(decodeL (b::t)).1⟩
   by_cases hb:128≤b.toNat
   ·obtain ⟨hr,hall⟩:=zna (t:=t) hb
    obtain ⟨M',E',q1,q2,q3,q4,q5,g8,g,h1,h2,h3,h4⟩:=ih (m+1) (i+(decodeL (b::t)).2) (M++[(⟨i,p17,p18,p19,p20⟩:Gapi_Place)]) E i (p17+1) (u22 ⟨i,(decodeL (b::t)).2,(decodeL (b::t)).1⟩ p18) p19 (p20+1) f8 f hd2 hisz (by omega) (by simp; omega) (by omega) (by omega) (by omega) hu1 (by omega) a5 (by omega) (by omega) (by omega)
    refine ⟨M',E',q1,q2,q3,q4,q5,g8,g,hst hq (by omega) ⟨by omega,by omega⟩ ⟨by omega,by omega⟩ ⟨by omega,by omega⟩ ⟨by omega,by omega⟩ hlt hs (by omega) ⟨by omega,by omega⟩ (.inl ⟨.inl ⟨by show (decodeL (b::t)).1≠13; omega,by show (decodeL (b::t)).1≠10; omega⟩,h1⟩),h2,h3,?_⟩
    rw [h4,zsG hw1 (by rw [hl]; exact hwl) (by rw [hl]; exact hall)]
    congr 2
    have hsplit:b::t=(b::t).take (decodeL (b::t)).2++(b::t).drop (decodeL (b::t)).2:=(List.take_append_drop _ _).symm
    have hlen:((b::t).take (decodeL (b::t)).2).length=(decodeL (b::t)).2:=by rw [List.length_take]; omega
    conv=>rhs; rw [hsplit]
    rw [zph _ _ _ _ _ hall (by intro e; rw [e] at hlen; simp at hlen; omega),hlen,← List.drop_drop,hl]
   ·have hdec:=decodeL_ascii b t (by omega)
    rw [hdec] at hst hq hd2 hisz
    dsimp only at hst hq hd2 hisz
    obtain ⟨hu3,hu4⟩:=hup ⟨i,1,b.toNat⟩
    clear hu1 hu2
    have hd1:=zfq hl
    have hpn:=zpA hl
    by_cases h13:b=13
    ·by_cases ht:t.head?=some 10
     ·obtain ⟨c,u,rfl⟩:∃ c u,t=c::u:=by cases t with | nil=>cases ht | cons c u=>exact ⟨c,u,rfl⟩
      have hc:c=10:=Option.some.inj ht
      obtain ⟨M',E',q1,q2,q3,q4,q5,g8,g,h1,h2,h3,h4⟩:=ih (m+1) (i+1) (M++[(⟨i,p17,p18,p19,p20⟩:Gapi_Place)]) E i (p17+1) (u22 ⟨i,1,b.toNat⟩ p18) p19 (p20+1) f8 f hd2 hisz (by omega) (by simp; omega) (by omega) (by omega) (by omega) hu3 (by omega) a5 (by omega) (by omega) (by omega)
      refine ⟨M',E',q1,q2,q3,q4,q5,g8,g,hst hq (by omega) ⟨by omega,by omega⟩ ⟨by omega,by omega⟩ ⟨by omega,by omega⟩ ⟨by omega,by omega⟩ hlt hs (by omega) ⟨by omega,by omega⟩ (.inl ⟨.inr ⟨by rw [h13]; rfl,c,u,hd1,hc⟩,h1⟩),h2,h3,?_⟩
      rw [h4,hpn,hd1]
      congr 2
      conv=>rhs; rw [spP,if_pos h13,if_pos ht]
      rw [h13]; rfl
     ·obtain ⟨M',E',q1,q2,q3,q4,q5,g8,g,h1,h2,h3,h4⟩:=ih (m+1) (i+1) (M++[(⟨i,p17,p18,p19,p20⟩:Gapi_Place)]) (E++[(⟨f,((i+1 - 1:Nat):Int),(1:Nat),f8⟩:Gplace_ended)]) i (p17+1) (u22 ⟨i,1,b.toNat⟩ p18) (p19+1) 0 ((M.length+1:Nat):Int) (i+1) hd2 hisz (by omega) (by simp; omega) (by simp; omega) (by omega) (by omega) hu3 (by omega) (by omega) (by omega) (by omega) (by omega)
      refine ⟨M',E',q1,q2,q3,q4,q5,g8,g,hst hq (by omega) ⟨by omega,by omega⟩ ⟨by omega,by omega⟩ ⟨by omega,by omega⟩ ⟨by omega,by omega⟩ hlt hs (by omega) ⟨by omega,by omega⟩ (.inr ⟨1,by show 1≤i+1; omega,.inl ⟨by rw [h13]; rfl,?_,rfl⟩,h1⟩),h2,h3,?_⟩
      ·show s.data.toList[i+1]?≠some 10
       rw [← hd1,List.head?_eq_getElem?,List.getElem?_drop] at ht
       exact ht
      ·rw [h4,hpn,hd1,List.map_append,List.append_assoc]
       congr 1
       conv=>rhs; rw [spP,if_pos h13,if_neg ht]
       rw [h13]
       show spE _::List.map mkS (spP true (i+1) (i+1) t)=mkS (f,i)::_
       rfl
    ·by_cases h10:b=10
     ·have hw2:(if pv s.data.toList i then 2 else 1)≤i+1:=by
       split
       ·rename_i h; unfold pv at h; rw [Bool.and_eq_true,decide_eq_true_iff] at h; omega
       ·omega
      obtain ⟨M',E',q1,q2,q3,q4,q5,g8,g,h1,h2,h3,h4⟩:=ih (m+1) (i+1) (M++[(⟨i,p17,p18,p19,p20⟩:Gapi_Place)]) (E++[(⟨f,((i+1 - (if pv s.data.toList i then 2 else 1):Nat):Int),((if pv s.data.toList i then 2 else 1:Nat):Int),f8⟩:Gplace_ended)]) i (p17+1) (u22 ⟨i,1,b.toNat⟩ p18) (p19+1) 0 ((M.length+1:Nat):Int) (i+1) hd2 hisz (by omega) (by simp; omega) (by simp; omega) (by omega) (by omega) hu3 (by omega) (by omega) (by omega) (by omega) (by omega)
      refine ⟨M',E',q1,q2,q3,q4,q5,g8,g,hst hq (by omega) ⟨by omega,by omega⟩ ⟨by omega,by omega⟩ ⟨by omega,by omega⟩ ⟨by omega,by omega⟩ hlt hs (by omega) ⟨by omega,by omega⟩ (.inr ⟨_,hw2,.inr ⟨by rw [h10]; rfl,rfl⟩,h1⟩),h2,h3,?_⟩
      rw [h4,hpn,hd1,List.map_append,List.append_assoc]
      congr 1
      conv=>rhs; rw [spP,if_neg h13,if_pos h10]
      show spE _::List.map mkS (spP (b==13) (i+1) (i+1) t)=mkS (f,_)::_
      rw [beq_eq_false_iff_ne.2 h13]
      congr 1
      unfold spE mkS
      congr 1
      cases pv s.data.toList i <;> rfl
     ·obtain ⟨M',E',q1,q2,q3,q4,q5,g8,g,h1,h2,h3,h4⟩:=ih (m+1) (i+1) (M++[(⟨i,p17,p18,p19,p20⟩:Gapi_Place)]) E i (p17+1) (u22 ⟨i,1,b.toNat⟩ p18) p19 (p20+1) f8 f hd2 hisz (by omega) (by simp; omega) (by omega) (by omega) (by omega) hu3 (by omega) a5 (by omega) (by omega) (by omega)
      refine ⟨M',E',q1,q2,q3,q4,q5,g8,g,hst hq (by omega) ⟨by omega,by omega⟩ ⟨by omega,by omega⟩ ⟨by omega,by omega⟩ ⟨by omega,by omega⟩ hlt hs (by omega) ⟨by omega,by omega⟩ (.inl ⟨.inl ⟨fun e=>h13 (UInt8.toNat.inj e),fun e=>h10 (UInt8.toNat.inj e)⟩,h1⟩),h2,h3,?_⟩
      rw [h4,hpn,hd1,beq_eq_false_iff_ne.2 h13]
      congr 2
      conv=>rhs; rw [spP,if_neg h13,if_neg h10]
theorem zvd (s:ByteArray) (hs:s.size≤65536):∃ m:Gplace_Map,zeD s=some (some m,0)∧m.text=s∧m.lines.map spE=(zcE s.data.toList).map mkS:=by
 obtain ⟨M',E',q1,q2,q3,q4,q5,g8,g,h1,h2,h3,h4⟩:=zq2 s (fun (m1:List Gapi_Place) (m2:List Gplace_ended) (p1:Int) (p2:Int) (p3:Int) (p4:Int) (p5:Int) (line1:Int) (line2:Int) =>
  grd (m1.length+1≤2147483648)<|grd (m2.length+1≤2147483648)<|some ((some (⟨s,m1++[(⟨(s.size:Int),p2,p3,p4,p5⟩:Gapi_Place)],m2++[(⟨line1,(s.size:Int),0,line2⟩:Gplace_ended)]⟩:Gplace_Map)),0)) hs zbW 0 0 [] [] 0 0 0 0 0 0 0
  (by rw [List.drop_zero,List.drop_zero]; rfl) (Nat.zero_le _) (by unfold zbW; omega) (Nat.le_refl _) (Nat.le_refl _) (by omega) (by omega) (by omega) (by omega) (by omega) (by omega) (by omega) (by omega)
 refine ⟨⟨s,M'++[(⟨(s.size:Int),q2,q3,q4,q5⟩:Gapi_Place)],E'++[(⟨(g:Int),(s.size:Int),0,g8⟩:Gplace_ended)]⟩,?_,rfl,?_⟩
 ·unfold zeD
  refine zay (decide_eq_false (by omega)) (zbE (h1.trans ?_))
  exact zbm (by omega) (zbm (by omega) rfl)
 ·show List.map spE (E'++[_])=_
  rw [List.map_append]
  exact h4
theorem zq3 (s:ByteArray) (hs:65536<s.size):zeD s=some (none,3):=by
 unfold zeD
 exact zaz (decide_eq_true (by omega)) rfl
end Go.Proofs.YtbempdelckaccaaDoor

namespace Go.Proofs.YtbempdelckaccaaDoor
open Go.RowKit Go.Lib
set_option linter.unusedVariables false
set_option linter.unusedSimpArgs false
def zby (s1:ByteArray) (prefix1:ByteArray):Option Bool :=
zaw (decide (((prefix1.size:Int):Int)≤(s1.size:Int))) (
grd (0≤(0:Int)∧(0:Int)≤(prefix1.size:Int)∧((prefix1.size:Int):Int)≤(s1.size:Int)) <|
some (decide (zbT s1 0 (prefix1.size:Int)=prefix1))
) (
some false
)
theorem zdt {s1:ByteArray} {prefix1:ByteArray} {r:Bool} (h:zby s1 prefix1=some r):FnP Tryd.prog 44 [.string s1,.string prefix1] (.bool r):=by
 unfold zby at h
 refine FnP.intro Tryd.func44 rfl Tryd.ntmps44 (by simp) ?_
 intro w0 K
 refine zyG (zyR 1 rfl (zyH (zyR 1 rfl (zb6 rfl dc rfl Tryd.underlying9 (zyR 1 rfl (zb6 rfl dc rfl Tryd.underlying9 (zaT rfl ze2 (zyR 1 rfl ?_))))))))
 refine zyS (s:=10) rfl h (fun h => ?_) (fun h => ?_)
 ·
  refine zyR 2 rfl (zb6 rfl dc rfl Tryd.underlying9 ?_)
  obtain ⟨hg1,h⟩:=zbk h
  refine zdx rfl dc rfl rfl rfl (zbZ (i:=0) (j:=(prefix1.size:Int)) Tryd.underlying9 (.inl ⟨rfl,rfl⟩) (.inr rfl) hg1) (zyR 1 rfl (zaT rfl zg8 (zyR 2 rfl (zyN (zaI ?_)))))
  cases h
  exact zaK (rs:=[.tmp 4]) () (.inl rfl) Tryd.results44 (.cons (.tmp rfl) .nil) rfl Splits.nil
 refine zyR 8 rfl (zyN (zaI ?_))
 cases h
 exact zaK (rs:=[.tmp 4]) () (.inl rfl) Tryd.results44 (.cons (.tmp rfl) .nil) rfl Splits.nil
def zdR (s1:ByteArray) (prefix1:ByteArray):Option Bool :=
zal (zby s1 prefix1) fun (r1:Bool) =>
some r1
theorem zhe {s1:ByteArray} {prefix1:ByteArray} {r:Bool} (h:zdR s1 prefix1=some r):FnP Tryd.prog 23 [.string s1,.string prefix1] (.bool r):=by
 unfold zdR at h
 refine FnP.intro Tryd.func23 rfl Tryd.ntmps23 (by simp) ?_
 intro w0 K
 refine zyG (zyR 1 rfl (zyH (zyR 2 rfl ?_)))
 obtain ⟨r1,hq1,h⟩:=zbg h
 refine zbq (v:=.bool r1) (vs:=[.string s1,.string prefix1]) rfl dc rfl rfl rfl zuj (zdt hq1) (zyR 1 rfl (zyN (zaI ?_)))
 cases h
 exact zaK (rs:=[.tmp 4]) () (.inl rfl) Tryd.results23 (.cons (.tmp rfl) .nil) rfl Splits.nil
def zb4 (s1:ByteArray) (prefix1:ByteArray):Option ByteArray :=
zal (zby s1 prefix1) fun (r1:Bool) =>
zaw (r1) (
grd (0≤((prefix1.size:Int):Int)∧((prefix1.size:Int):Int)≤(s1.size:Int)∧((s1.size:Int):Int)≤(s1.size:Int)) <|
some (zbT s1 (prefix1.size:Int) (s1.size:Int))
) (
some s1
)
theorem zeP {s1:ByteArray} {prefix1:ByteArray} {r:ByteArray} (h:zb4 s1 prefix1=some r):FnP Tryd.prog 60 [.string s1,.string prefix1] (.string r):=by
 unfold zb4 at h
 refine FnP.intro Tryd.func60 rfl Tryd.ntmps60 (by simp) ?_
 intro w0 K
 refine zyG (zyR 1 rfl (zyN (zaJ (zyG (zyR 2 rfl ?_)))))
 obtain ⟨r1,hq1,h⟩:=zbg h
 refine zbq (v:=.bool r1) (vs:=[.string s1,.string prefix1]) rfl dc rfl rfl rfl zuj (zdt hq1) (zyN ?_)
 refine zyB rfl h (fun h => ?_) (fun h => ?_)
 ·
  refine zyG (zyR 2 rfl (zb6 rfl dc rfl Tryd.underlying9 ?_))
  obtain ⟨hg1,h⟩:=zbk h
  refine zdx rfl dc rfl rfl rfl (zbZ (i:=(prefix1.size:Int)) (j:=(s1.size:Int)) Tryd.underlying9 (.inr rfl) (.inl ⟨rfl,rfl⟩) hg1) (zyR 1 rfl (zyN (zaI (zau ?_))))
  cases h
  exact zaK (rs:=[.tmp 4]) () (.inl rfl) Tryd.results60 (.cons (.tmp rfl) .nil) rfl Splits.nil
 refine zas (zaL (zyG (zyR 2 rfl (zyN (zaI ?_)))))
 cases h
 exact zaK (rs:=[.tmp 4]) () (.inl rfl) Tryd.results60 (.cons (.tmp rfl) .nil) rfl Splits.nil
def zc3 (s1:ByteArray) (prefix1:ByteArray):Option ByteArray :=
zal (zb4 s1 prefix1) fun (r1:ByteArray) =>
some r1
theorem zgJ {s1:ByteArray} {prefix1:ByteArray} {r:ByteArray} (h:zc3 s1 prefix1=some r):FnP Tryd.prog 36 [.string s1,.string prefix1] (.string r):=by
 unfold zc3 at h
 refine FnP.intro Tryd.func36 rfl Tryd.ntmps36 (by simp) ?_
 intro w0 K
 refine zyG (zyR 1 rfl (zyH (zyR 2 rfl ?_)))
 obtain ⟨r1,hq1,h⟩:=zbg h
 refine zbq (v:=.string r1) (vs:=[.string s1,.string prefix1]) rfl dc rfl rfl rfl zvr (zeP hq1) (zyR 1 rfl (zyN (zaI ?_)))
 cases h
 exact zaK (rs:=[.tmp 4]) () (.inl rfl) Tryd.results36 (.cons (.tmp rfl) .nil) rfl Splits.nil
end Go.Proofs.YtbempdelckaccaaDoor

namespace Go.Proofs.YtbempdelckaccaaDoor
open Go.RowKit Go.Lib
set_option linter.unusedVariables false
set_option linter.unusedSimpArgs false
def zeM (s1:ByteArray):Option Bool :=
grd (s1.size≤9223372036854775807) <|
some (decide (znV s1=(⟨#[]⟩:ByteArray)))
theorem zlE {s1:ByteArray} {r:Bool} (h:zeM s1=some r):FnP Tryd.prog 27 [.string s1] (.bool r):=by
 unfold zeM at h
 refine FnP.intro Tryd.func27 rfl Tryd.ntmps27 (by simp) ?_
 intro w0 K
 refine zyG (zyR 1 rfl (zyH (zyR 1 rfl ?_)))
 obtain ⟨hg1,h⟩:=zbk h
 refine zbq (v:=.string (znV s1)) (vs:=[.string s1,.string (⟨#[32,9]⟩:ByteArray)]) rfl dc rfl rfl rfl zvy (ztE s1 hg1) (zaT rfl zg8 (zyR 1 rfl (zyN (zaI ?_))))
 cases h
 exact zaK (rs:=[.tmp 2]) () (.inl rfl) Tryd.results27 (.cons (.tmp rfl) .nil) rfl Splits.nil
def zeV (s1:ByteArray):Option Bool :=
zaw (decide (s1=(⟨#[35]⟩:ByteArray))) (
some true
) (
zal (zdR s1 (⟨#[35,32]⟩:ByteArray)) fun (r1:Bool) =>
some r1
)
theorem zkC {s1:ByteArray} {r:Bool} (h:zeV s1=some r):FnP Tryd.prog 35 [.string s1] (.bool r):=by
 unfold zeV at h
 refine FnP.intro Tryd.func35 rfl Tryd.ntmps35 (by simp) ?_
 intro w0 K
 refine zyG (zyR 1 rfl (zyH (zyR 1 rfl (zaT rfl zg8 (zyR 1 rfl ?_)))))
 refine zyS (s:=5) rfl h (fun h => ?_) (fun h => ?_)
 ·
  refine zyR 4 rfl (zyN (zaI ?_))
  cases h
  exact zaK (rs:=[.tmp 2]) () (.inl rfl) Tryd.results35 (.cons (.tmp rfl) .nil) rfl Splits.nil
 refine zyR 1 rfl ?_
 obtain ⟨r1,hq1,h⟩:=zbg h
 refine zbq (v:=.bool r1) (vs:=[.string s1,.string (⟨#[35,32]⟩:ByteArray)]) rfl dc rfl rfl rfl zvN (zhe hq1) (zyR 2 rfl (zyN (zaI ?_)))
 cases h
 exact zaK (rs:=[.tmp 2]) () (.inl rfl) Tryd.results35 (.cons (.tmp rfl) .nil) rfl Splits.nil
def zc8 (s1:ByteArray) (j1:Int→Option Int) (ag1:Int→Nat→Option Int) (n4:Int) (m3:Nat):Option Int :=
zaw (decide (m3<(pcs s1.data.toList).length)) (
zal ((pcs s1.data.toList)[m3]?) fun (p1:Pc) =>
zaw (((p1.r:Int):Int) != 32) (
j1 n4
) (
grd (I64 (n4+1)) <|
ag1 (n4+1) (m3+1)
)
) (
j1 n4
)
def zdS (s1:ByteArray):Option Int :=
zbl (fun (j1:Int→Option Int) =>
zaF (fun _ _=>none) (zc8 s1 j1) zbW 0 0
) (fun (n1:Int) =>
some n1
)
theorem zkD {s1:ByteArray} {r:Int} (h:zdS s1=some r):FnP Tryd.prog 37 [.string s1] (zI r):=by
 unfold zdS at h
 refine FnP.intro Tryd.func37 rfl Tryd.ntmps37 (by simp) ?_
 intro w0 K
 obtain ⟨j1,hj1,h⟩:=zbK h
 refine zaX (β:=Int) 2 rfl (fun b=>j1 b=some r) (fun b=>[]) (fun b=>[(3,zI b)]) (fun b=>[]) (fun cut => ?_) ?_
 ·
  refine zyG (zyR 1 rfl (zyH (zyR 1 rfl (zyN (cut (zyG (zyR 1 rfl ?_)))))))
  refine zfd Tryd.underlying9 rfl dc rfl (fun b1 => ?_)
  refine zyN (zaE ?_)
  refine zbn (β:=Nat×Int×Nat) (fun b=>zaF (fun _ _=>none) (zc8 s1 j1) b.1 b.2.1 b.2.2=some r) (fun b=>[]) (fun b=>[(3,zI b.2.1),(7,zP b1)]) (fun b=>[obj b1 (.stringIter s1 (zfv s1 b.2.2))]) (fun b=>b.1) (zbW,0,0) (by exact h) rfl (za0 rfl) (zae [0] kr rfl) ?_
  rintro ⟨n5,n4,m3⟩ h
  cases n5 with
  | zero=>exact zdG h
  | succ n5 =>
   obtain ⟨ag1,hag1⟩:∃ ag,ag=zaF (fun _ _=>none) (zc8 s1 j1) n5:=⟨_,rfl⟩
   have h:zc8 s1 j1 ag1 n4 m3=some r:=by rw [hag1]; exact h
   unfold zc8 at h
   refine zyG ?_
   refine zfe (b:=decide (m3<(pcs s1.data.toList).length)) (fun hb1 => ?_) (fun hb1 => ?_)
   ·
    have h:=zgv hb1 h
    obtain ⟨p1,hq1,h⟩:=zbg h
    refine zfE (k:=0) (m:=m3) (p:=p1) rfl dc rfl rfl hq1 (zaU rfl dc rfl rfl (zyN (zaJ (za7 rfl (zas (zaL (zaE (zyG (zaU rfl dc rfl rfl (zyR 1 rfl (zaR ?_)))))))))))
    refine zaL (zaJ (zyG (zyR 1 rfl (zaT rfl zce (zyN ?_)))))
    refine zyB rfl h (fun h => ?_) (fun h => ?_)
    ·
     refine za2 (zam (zct dc (zam (zav ?_))))
     exact zak n4 h rfl (za0 rfl) Splits.nil
    refine zas (zaL (zax (zyR 1 rfl ?_)))
    obtain ⟨hg1,h⟩:=zbk h
    refine zaT rfl (zaQ (r:=n4+1) (IntWalk.i64_in _ hg1)) (zyR 1 rfl (zaR (zag ?_)))
    subst hag1
    exact za4 (n5,n4+1,m3+1) h (Nat.lt_succ_self _) rfl (za0 rfl) (zae [0] kr rfl)
   have h:=zgw hb1 h
   refine zfF (k:=0) (m:=m3) rfl dc rfl rfl (Nat.le_of_not_lt (of_decide_eq_false hb1)) (zaU rfl dc rfl rfl (zyN (zaJ (zaN rfl (za2 (zam (zam (zav ?_))))))))
   exact zak n4 h rfl (za0 rfl) Splits.nil
 rintro n1 h
 rw [hj1] at h
 refine zyG (zyR 2 rfl (zyN (zaI ?_)))
 cases h
 exact zaK (rs:=[.tmp 2]) () (.inl rfl) Tryd.results37 (.cons (.tmp rfl) .nil) rfl Splits.nil
def zc9 (text1:ByteArray) (j1:ByteArray→(List Gapi_Verse)→(List Gapi_Span)→Option ((Option Gpoem_Poem)×Gapi_Spot)) (p4:Gplace_Map) (r2:Int) (ag1:ByteArray→(List Gapi_Verse)→(List Gapi_Span)→Bool→Bool→Int→Option ((Option Gpoem_Poem)×Gapi_Spot)) (p14:ByteArray) (p15:List Gapi_Verse) (p16:List Gapi_Span) (first3:Bool) (row3:Bool) (x3:Int):Option ((Option Gpoem_Poem)×Gapi_Spot) :=
zaw (decide ((x3:Int)<r2)) (
zbl (fun (j2:ByteArray→(List Gapi_Verse)→(List Gapi_Span)→Bool→Bool→Option ((Option Gpoem_Poem)×Gapi_Spot)) =>
zbl (fun (j3:Int→Int→ByteArray→Option ((Option Gpoem_Poem)×Gapi_Spot)) =>
zal (zdW p4 x3) fun (r3:(Gapi_Span×Int×Int)) =>
grd (0≤(r3.1.From:Int)∧(r3.1.From:Int)≤r3.1.To∧(r3.1.To:Int)≤(text1.size:Int)) <|
zal (zeM (zbT text1 r3.1.From r3.1.To)) fun (r4:Bool) =>
zaw (r4) (
j2 p14 p15 p16 first3 false
) (
zaw (decide ((1024:Int)<((zbT text1 r3.1.From r3.1.To).size:Int))) (
grd (I64 (r3.1.From+1024)) <|
some (none,(⟨3,r3.1.From+1024⟩:Gapi_Spot))
) (
zaw (first3) (
zal (zeV (zbT text1 r3.1.From r3.1.To)) fun (r5:Bool) =>
zaw (r5) (
grd (0≤(1:Int)∧(1:Int)≤((zbT text1 r3.1.From r3.1.To).size:Int)∧(((zbT text1 r3.1.From r3.1.To).size:Int):Int)≤((zbT text1 r3.1.From r3.1.To).size:Int)) <|
zal (zc3 (zbT (zbT text1 r3.1.From r3.1.To) 1 ((zbT text1 r3.1.From r3.1.To).size:Int)) (⟨#[32]⟩:ByteArray)) fun (r6:ByteArray) =>
j2 r6 p15 p16 false row3
) (
zaw (((p15.length:Int):Int)==512) (
some (none,(⟨3,r3.1.From⟩:Gapi_Spot))
) (
j3 r3.1.From r3.1.To (zbT text1 r3.1.From r3.1.To)
)
)
) (
zaw (((p15.length:Int):Int)==512) (
some (none,(⟨3,r3.1.From⟩:Gapi_Spot))
) (
j3 r3.1.From r3.1.To (zbT text1 r3.1.From r3.1.To)
)
)
)
)
) (fun (span1:Int) (span2:Int) (line1:ByteArray) =>
zbl (fun (j4:(List Gapi_Span)→Option ((Option Gpoem_Poem)×Gapi_Spot)) =>
zaw (!row3) (
grd (p16.length+1≤2147483648) <|
j4 (p16++[(⟨(p15.length:Int),(p15.length:Int)⟩:Gapi_Span)])
) (
j4 p16
)
) (fun (p20:List Gapi_Span) =>
grd (I64 ((p20.length:Int) - 1)) <|
zal (zbF p20 ((p20.length:Int) - 1)) fun (q1:Gapi_Span) =>
zal (zdS line1) fun (r7:Int) =>
grd (0≤(r7:Int)∧(r7:Int)≤(line1.size:Int)∧((line1.size:Int):Int)≤(line1.size:Int)) <|
grd (I64 ((p20.length:Int) - 1)) <|
grd (I64 ((p15.length:Int) - q1.From)) <|
grd (I64 (span1+r7)) <|
grd (p15.length+1≤2147483648) <|
grd (I64 ((p15.length:Int)+1)) <|
j2 p14 (p15++[(⟨zbT line1 r7 (line1.size:Int),r7,(p20.length:Int) - 1,(p15.length:Int) - q1.From,span1+r7,span2⟩:Gapi_Verse)]) (p20.set ((p20.length:Int) - 1:Int).toNat (⟨q1.From,(p15.length:Int)+1⟩:Gapi_Span)) false true
)
)
) (fun (p17:ByteArray) (p18:List Gapi_Verse) (p19:List Gapi_Span) (first4:Bool) (row4:Bool) =>
grd (I64 (x3+1)) <|
ag1 p17 p18 p19 first4 row4 (x3+1)
)
) (
j1 p14 p15 p16
)
def zeC (text1:ByteArray):Option ((Option Gpoem_Poem)×Gapi_Spot) :=
zal (zeD text1) fun (r1:((Option Gplace_Map)×Int)) =>
zaw ((r1.2:Int) != 0) (
some (none,(⟨r1.2,65536⟩:Gapi_Spot))
) (
zbl (fun (j1:ByteArray→(List Gapi_Verse)→(List Gapi_Span)→Option ((Option Gpoem_Poem)×Gapi_Spot)) =>
zal (r1.1) fun (p4:Gplace_Map) =>
zal (zfb p4) fun (r2:Int) =>
zaF (fun _ _ _ _ _ _=>none) (zc9 text1 j1 p4 r2) zbW ByteArray.empty ([]:List Gapi_Verse) ([]:List Gapi_Span) true false 0
) (fun (p1:ByteArray) (p2:List Gapi_Verse) (p3:List Gapi_Span) =>
some ((some (⟨p1,p2,p3,text1⟩:Gpoem_Poem)),(⟨0,0⟩:Gapi_Spot))
)
)
theorem zmC {text1:ByteArray} {r:((Option Gpoem_Poem)×Gapi_Spot)} (h:zeC text1=some r):Fn Tryd.prog 18 [.string text1] [] (fun v0:Value=>.tuple #[v0,.agg (zr6 r.2).toArray]) (fun v0=>[zi7 zcU zcS 81 v0 r.1]):=by
 unfold zeC at h
 refine Fn.intro Tryd.func18 rfl Tryd.ntmps18 (by simp) ?_
 intro w0 K
 refine zyG (zyR 1 rfl ?_)
 refine zbt zqC rfl dc (fun b1 => ?_)
 refine zyN ?_
 refine zjs (β:=Unit) (l:=0) (fun _=>False) (fun _=>[]) (fun _=>[]) rfl ?_ ?_
 ·
  refine zyG (zyR 1 rfl ?_)
  obtain ⟨r1,hq1,h⟩:=zbg h
  refine zea (vs:=[.string text1]) rfl dc rfl rfl rfl zvK (zmE hq1) Splits.nil ?_
  rintro v1
  refine zd7 (L':=[cells b1 [zI 0,zI 0] 59,zi7 zeg zef 128 v1 r1.1]) (zae [0,1] kr rfl) (zyR 1 rfl (zaU rfl dc rfl rfl (zaU rfl dc rfl rfl (zyR 2 rfl (zyN (zaJ (zyG (zyR 1 rfl (zaT rfl zce (zaR ?_))))))))))
  refine zaL ?_
  refine zyB rfl h (fun h => ?_) (fun h => ?_)
  ·
   refine zyG (zyR 1 rfl ?_)
   refine za3 (v:=.agg #[zI r1.2,zI 65536]) (ps:=[(0,.tmp 24),(1,.const (zI 65536))]) rfl dc rfl (fun _=>by kernel_rfl) ?_
   refine zyR 1 rfl (zaY (k:=0) (vs:=[zI r1.2,zI 65536]) (l':=[zI r1.2,zI 65536]) zjy rfl rfl rfl rfl rfl (show _≤_ by simp) rfl rfl (zyN (zaI (zau (zdP (by simp) (zdO zcU zcS 81 ?_))))))
   cases h
   exact zaK (rs:=[.tmp 2,.cell 3 59]) (.pointer none) (.inl rfl) Tryd.results18 (.cons (.tmp rfl) (.cons (.cells zls (k:=0) rfl rfl rfl) .nil)) rfl (zae [2] kr rfl)
  refine zas (zaL ?_)
  obtain ⟨j1,hj1,h⟩:=zbK h
  refine zaX (β:=ByteArray×(List Gapi_Verse)×(List Gapi_Span)×Nat×Hd×Hd) 3 rfl (fun b=>j1 b.1 b.2.1 b.2.2.1=some r) (fun b=>[]) (fun b=>[(3,zP b1),(6,zP b.2.2.2.1)]) (fun b=>[cells b1 [zI 0,zI 0] 59,cells b.2.2.2.1 [.string b.1,b.2.2.2.2.1.v,b.2.2.2.2.2.v,.string text1] 81,zv7 b.2.2.2.2.1.v b.2.1,zv6 b.2.2.2.2.2.v b.2.2.1]) (fun cut => ?_) ?_
  ·
   refine zyG (zyR 1 rfl ?_)
   refine za3 (v:=.agg #[.string ByteArray.empty,.slice none 0 0,.slice none 0 0,.string text1]) (ps:=[(1,.tmp 26)]) rfl dc rfl (fun _=>by kernel_rfl) ?_
   refine zdQ rfl dc rfl (fun b3 => ?_)
   refine zyR 1 rfl (zyH (zyR 2 rfl (zyN (zaJ (zjt (zaL (cut (zaJ ?_))))))))
   refine zax (zyR 1 rfl ?_)
   obtain ⟨p4,hq2,h⟩:=zbg h
   refine znQ (As:=[zi7 zeg zef 128 v1 r1.1]) (zae [1] kr rfl) (zg0 hq2) ?_
   rintro ⟨b4,hd3,hd4⟩ hv1
   subst hv1
   obtain ⟨r2,hq3,h⟩:=zbg h
   refine zco (v:=zI r2) (vs:=[zP b4]) (Rd.nil:Rd _ _ []) rfl dc rfl rfl rfl zvJ (zhV (bm1:=b4) (m1:=p4) (m1_h0:=hd3) (m1_h1:=hd4) hq3) (.own (zae [3] (by kernel_rfl) rfl) (fun _ _ h=>sepL.one1.1 h) (.own (zae [4] (by kernel_rfl) rfl) (fun _ _ h=>sepL.one1.1 h) (.own (zae [5] (by kernel_rfl) rfl) (fun _ _ h=>sepL.one1.1 h) .nil))) ?_
   refine zyR 1 rfl (zyN (zaE (zcX (enc:=zbr) (e:=57) (size:=6) ?_)))
   refine zcX (enc:=zdv) (e:=55) (size:=2) ?_
   refine zbn (β:=Nat×ByteArray×(List Gapi_Verse)×(List Gapi_Span)×Bool×Bool×Int×Hd×Hd) (fun b=>zaF (fun _ _ _ _ _ _=>none) (zc9 text1 j1 p4 r2) b.1 b.2.1 b.2.2.1 b.2.2.2.1 b.2.2.2.2.1 b.2.2.2.2.2.1 b.2.2.2.2.2.2.1=some r) (fun b=>[]) (fun b=>[(0,.string text1),(3,zP b1),(4,zP b4),(6,zP b3),(7,.bool b.2.2.2.2.1),(8,.bool b.2.2.2.2.2.1),(30,zI r2),(31,zI b.2.2.2.2.2.2.1)]) (fun b=>[cells b1 [zI 0,zI 0] 59,cells b4 [.string p4.text,hd3.v,hd4.v] 128,zv4 hd3.v p4.places,zv3 hd4.v p4.lines,cells b3 [.string b.2.1,b.2.2.2.2.2.2.2.1.v,b.2.2.2.2.2.2.2.2.v,.string text1] 81,zv7 b.2.2.2.2.2.2.2.1.v b.2.2.1,zv6 b.2.2.2.2.2.2.2.2.v b.2.2.2.1]) (fun b=>b.1) (zbW,ByteArray.empty,([]:List Gapi_Verse),([]:List Gapi_Span),true,false,0,Hd.nil,Hd.nil) h rfl (za0 rfl) (zae [0,3,4,5,2,6,7] kr rfl) ?_
   rintro ⟨n1,p14,p15,p16,first3,row3,x3,hd10,hd11⟩ h
   cases n1 with
   | zero=>exact zdG h
   | succ n1 =>
    obtain ⟨ag1,hag1⟩:∃ ag,ag=zaF (fun _ _ _ _ _ _=>none) (zc9 text1 j1 p4 r2) n1:=⟨_,rfl⟩
    have h:zc9 text1 j1 p4 r2 ag1 p14 p15 p16 first3 row3 x3=some r:=by rw [hag1]; exact h
    unfold zc9 at h
    refine zyG (zaT rfl zbf (zyN (zaJ ?_)))
    refine zyB rfl h (fun h => ?_) (fun h => ?_)
    ·
     refine zas (zaL ?_)
     obtain ⟨j2,hj2,h⟩:=zbK h
     refine zaX (β:=ByteArray×(List Gapi_Verse)×(List Gapi_Span)×Bool×Bool×Hd×Hd) 0 rfl (fun b=>j2 b.1 b.2.1 b.2.2.1 b.2.2.2.1 b.2.2.2.2.1=some r) (fun b=>[]) (fun b=>[(0,.string text1),(3,zP b1),(4,zP b4),(6,zP b3),(7,.bool b.2.2.2.1),(8,.bool b.2.2.2.2.1),(30,zI r2),(31,zI x3)]) (fun b=>[cells b1 [zI 0,zI 0] 59,cells b4 [.string p4.text,hd3.v,hd4.v] 128,zv4 hd3.v p4.places,zv3 hd4.v p4.lines,cells b3 [.string b.1,b.2.2.2.2.2.1.v,b.2.2.2.2.2.2.v,.string text1] 81,zv7 b.2.2.2.2.2.1.v b.2.1,zv6 b.2.2.2.2.2.2.v b.2.2.1]) (fun cut => ?_) ?_
     ·
      refine cut (zaE ?_)
      obtain ⟨j3,hj3,h⟩:=zbK h
      refine zaX (β:=Int×Int×ByteArray×Nat) 3 rfl (fun b=>j3 b.1 b.2.1 b.2.2.1=some r) (fun b=>[]) (fun b=>[(0,.string text1),(3,zP b1),(4,zP b4),(6,zP b3),(8,.bool row3),(10,zP b.2.2.2),(13,.string b.2.2.1),(30,zI r2),(31,zI x3)]) (fun b=>[cells b1 [zI 0,zI 0] 59,cells b4 [.string p4.text,hd3.v,hd4.v] 128,zv4 hd3.v p4.places,zv3 hd4.v p4.lines,cells b3 [.string p14,hd10.v,hd11.v,.string text1] 81,zv7 hd10.v p15,zv6 hd11.v p16,cells b.2.2.2 [zI b.1,zI b.2.1] 55]) (fun cut => ?_) ?_
      ·
       refine zyG (zyR 2 rfl (zyH (zyR 2 rfl ?_)))
       obtain ⟨r3,hq4,h⟩:=zbg h
       refine zco (v:=.tuple #[.agg (zr5 r3.1).toArray,zI r3.2.1,zI r3.2.2]) (vs:=[zP b4,zI x3]) (Rd.nil:Rd _ _ []) rfl dc rfl rfl rfl zvI (zix (bm1:=b4) (m1:=p4) (m1_h0:=hd3) (m1_h1:=hd4) hq4) (.own (zae [1] (by kernel_rfl) rfl) (fun _ _ h=>sepL.one1.1 h) (.own (zae [2] (by kernel_rfl) rfl) (fun _ _ h=>sepL.one1.1 h) (.own (zae [3] (by kernel_rfl) rfl) (fun _ _ h=>sepL.one1.1 h) .nil))) ?_
       refine zyR 1 rfl (zaU rfl dc rfl rfl (zaU rfl dc rfl rfl (zaU rfl dc rfl rfl ?_)))
       refine zbt zoY rfl dc (fun b6 => ?_)
       refine zaY (k:=7) (vs:=(zr5 r3.1)) (l':=(zr5 r3.1)) zjz rfl rfl rfl rfl rfl (show _≤_ by simp) rfl rfl ?_
       refine zyR 2 rfl (zyH (zyR 1 rfl (zab zc5 rfl dc rfl (show _=0 from rfl) (zar (k:=7) zbh rfl dc rfl rfl rfl (zab zdD rfl dc rfl (show _=1 from rfl) (zar (k:=7) zbh rfl dc rfl rfl rfl ?_))))))
       obtain ⟨hg1,h⟩:=zbk h
       refine zdx rfl dc rfl rfl rfl (zbZ (i:=r3.1.From) (j:=r3.1.To) Tryd.underlying9 (.inr rfl) (.inr rfl) hg1) (zyR 1 rfl (zyN (cut (zaE (zyG (zyR 1 rfl ?_))))))
       obtain ⟨r4,hq5,h⟩:=zbg h
       refine zbq (v:=.bool r4) (vs:=[.string (zbT text1 r3.1.From r3.1.To)]) rfl dc rfl rfl rfl zvM (zlE hq5) (zyR 1 rfl (zyN ?_))
       refine zyB rfl h (fun h => ?_) (fun h => ?_)
       ·
        refine zyG (zyR 1 rfl (zyN (za2 (zct dc (zam (zav ?_))))))
        exact zak (p14,p15,p16,first3,false,hd10,hd11) h rfl (za0 rfl) (zae [0,1,2,3,4,5,6] kr rfl)
       refine zyG (zyR 1 rfl (zb6 rfl dc rfl Tryd.underlying9 (zaT rfl zcA (zyR 1 rfl (zyN ?_)))))
       refine zyB rfl h (fun h => ?_) (fun h => ?_)
       ·
        refine zaJ ?_
        obtain ⟨hg2,h⟩:=zbk h
        refine zbu 5 [(0,54,zP b6),(1,55,zI r3.1.From),(2,56,zI (r3.1.From+1024)),(3,57,.agg #[zI 3,zI (r3.1.From+1024)]),(4,2,.pointer none)] mixed kr kr dc (by rfl) kr kr (zad ?_ (zad ?_ (zad ?_ (zad ?_ (zad ?_ DrawPre.nil))))) ?_
        · exact fun D n d c u i=>zab zc5 rfl dc (za9 (by rfl) rfl) (show _=0 from rfl) (zaf 0 u i rfl)
        · exact fun D n d c u i=>zar (k:=7) zbh rfl dc (zaa (m:=0) u rfl (d 0 dc)) rfl rfl (zaf 1 u i rfl)
        · exact fun D n d c u i=>zbM rfl dc (zaa (m:=1) u rfl (d 1 dc)) rfl (zaQ (r:=r3.1.From+1024) (IntWalk.i64_in _ hg2)) (zaf 2 u i rfl)
        · exact fun D n d c u i=>za3 (v:=.agg #[zI 3,zI (r3.1.From+1024)]) (ps:=[(0,.const (zI 3)),(1,.tmp 56)]) rfl dc (evP.cons rfl (evP.cons (zaa (m:=2) u rfl (d 2 dc)) evP.nil)) (fun _=>by kernel_rfl) (zaf 3 u i rfl)
        · exact fun D n d c u i=>zyR 1 rfl (zaf 4 u i rfl)
        refine zaY (k:=0) (vs:=[zI 3,zI (r3.1.From+1024)]) (l':=[zI 3,zI (r3.1.From+1024)]) zjy rfl rfl rfl rfl rfl (show _≤_ by simp) rfl rfl (zyN (zaI (zaD (zau (zaD (zau (zau (zaD (zau (zdP (by simp) (zdO zcU zcS 81 ?_)))))))))))
        cases h
        exact zaK (rs:=[.tmp 2,.cell 3 59]) (.pointer none) (.inl rfl) Tryd.results18 (.cons (.tmp rfl) (.cons (.cells zls (k:=0) rfl rfl rfl) .nil)) rfl (zae [8] kr rfl)
       refine zyG (zyR 2 rfl ?_)
       refine zyS (s:=60) rfl h (fun h => ?_) (fun h => ?_)
       ·
        refine zyR 1 rfl ?_
        obtain ⟨r5,hq6,h⟩:=zbg h
        refine zbq (v:=.bool r5) (vs:=[.string (zbT text1 r3.1.From r3.1.To)]) rfl dc rfl rfl rfl zvH (zkC hq6) (zyR 2 rfl (zyN ?_))
        refine zyB rfl h (fun h => ?_) (fun h => ?_)
        ·
         refine zyG (zyR 1 rfl (zyH (zyR 2 rfl ?_)))
         obtain ⟨hg3,h⟩:=zbk h
         refine zdx rfl dc rfl rfl rfl (zbZ (i:=1) (j:=((zbT text1 r3.1.From r3.1.To).size:Int)) Tryd.underlying9 (.inr rfl) (.inl ⟨rfl,rfl⟩) hg3) ?_
         obtain ⟨r6,hq7,h⟩:=zbg h
         refine zbq (v:=.string r6) (vs:=[.string (zbT (zbT text1 r3.1.From r3.1.To) 1 ((zbT text1 r3.1.From r3.1.To).size:Int)),.string (⟨#[32]⟩:ByteArray)]) rfl dc rfl rfl rfl zvG (zgJ hq7) (zaA rfl dc rfl (zab zfs rfl dc rfl (show _=0 from rfl) (zab zsW rfl dc rfl (show _=0 from rfl) ?_)))
         refine za5 (k:=4) (l':=[.string r6,hd10.v,hd11.v,.string text1]) ztm rfl rfl rfl rfl rfl (fun _ _=>rfl) rfl ?_
         refine zyN (za2 (zct dc (zam (zav ?_))))
         exact zak (r6,p15,p16,false,row3,hd10,hd11) h rfl (za0 rfl) (zae [0,1,2,3,4,5,6] kr rfl)
        refine zyG (zyR 1 rfl (zaA rfl dc rfl (zab zfs rfl dc rfl (show _=0 from rfl) (zab ziC rfl dc rfl (show _=1 from rfl) (zar (k:=4) zps rfl dc rfl rfl rfl (zbd (k:=5) rfl dc rfl rfl Tryd.underlying27 (zaT rfl zaP (zyR 1 rfl (zyN ?_)))))))))
        refine zyB rfl h (fun h => ?_) (fun h => ?_)
        ·
         refine zaJ ?_
         refine zbu 4 [(0,79,zP b6),(1,80,zI r3.1.From),(2,81,.agg #[zI 3,zI r3.1.From]),(3,2,.pointer none)] mixed kr kr dc (by rfl) kr kr (zad ?_ (zad ?_ (zad ?_ (zad ?_ DrawPre.nil)))) ?_
         · exact fun D n d c u i=>zab zc5 rfl dc (za9 (by rfl) rfl) (show _=0 from rfl) (zaf 0 u i rfl)
         · exact fun D n d c u i=>zar (k:=7) zbh rfl dc (zaa (m:=0) u rfl (d 0 dc)) rfl rfl (zaf 1 u i rfl)
         · exact fun D n d c u i=>za3 (v:=.agg #[zI 3,zI r3.1.From]) (ps:=[(0,.const (zI 3)),(1,.tmp 80)]) rfl dc (evP.cons rfl (evP.cons (zaa (m:=1) u rfl (d 1 dc)) evP.nil)) (fun _=>by kernel_rfl) (zaf 2 u i rfl)
         · exact fun D n d c u i=>zyR 1 rfl (zaf 3 u i rfl)
         refine zaY (k:=0) (vs:=[zI 3,zI r3.1.From]) (l':=[zI 3,zI r3.1.From]) zjy rfl rfl rfl rfl rfl (show _≤_ by simp) rfl rfl (zyN (zaI (zaD (zau (zaD (zau (zau (zaD (zau (zdP (by simp) (zdO zcU zcS 81 ?_)))))))))))
         cases h
         exact zaK (rs:=[.tmp 2,.cell 3 59]) (.pointer none) (.inl rfl) Tryd.results18 (.cons (.tmp rfl) (.cons (.cells zls (k:=0) rfl rfl rfl) .nil)) rfl (zae [8] kr rfl)
        refine zas (zag ?_)
        exact zak (r3.1.From,r3.1.To,zbT text1 r3.1.From r3.1.To,b6) h rfl (za0 rfl) (zae [0,1,2,3,4,5,6,7] kr rfl)
       refine zyR 4 rfl (zyN (zaN rfl (zyG (zyR 1 rfl (zaA rfl dc rfl (zab zfs rfl dc rfl (show _=0 from rfl) (zab ziC rfl dc rfl (show _=1 from rfl) (zar (k:=4) zps rfl dc rfl rfl rfl ?_))))))))
       refine zbd (k:=5) rfl dc rfl rfl Tryd.underlying27 (zaT rfl zaP (zyR 1 rfl (zyN ?_)))
       refine zyB rfl h (fun h => ?_) (fun h => ?_)
       ·
        refine zaJ ?_
        refine zbu 4 [(0,79,zP b6),(1,80,zI r3.1.From),(2,81,.agg #[zI 3,zI r3.1.From]),(3,2,.pointer none)] mixed kr kr dc (by rfl) kr kr (zad ?_ (zad ?_ (zad ?_ (zad ?_ DrawPre.nil)))) ?_
        · exact fun D n d c u i=>zab zc5 rfl dc (za9 (by rfl) rfl) (show _=0 from rfl) (zaf 0 u i rfl)
        · exact fun D n d c u i=>zar (k:=7) zbh rfl dc (zaa (m:=0) u rfl (d 0 dc)) rfl rfl (zaf 1 u i rfl)
        · exact fun D n d c u i=>za3 (v:=.agg #[zI 3,zI r3.1.From]) (ps:=[(0,.const (zI 3)),(1,.tmp 80)]) rfl dc (evP.cons rfl (evP.cons (zaa (m:=1) u rfl (d 1 dc)) evP.nil)) (fun _=>by kernel_rfl) (zaf 2 u i rfl)
        · exact fun D n d c u i=>zyR 1 rfl (zaf 3 u i rfl)
        refine zaY (k:=0) (vs:=[zI 3,zI r3.1.From]) (l':=[zI 3,zI r3.1.From]) zjy rfl rfl rfl rfl rfl (show _≤_ by simp) rfl rfl (zyN (zaI (zaD (zau (zaD (zau (zau (zaD (zau (zdP (by simp) (zdO zcU zcS 81 ?_)))))))))))
        cases h
        exact zaK (rs:=[.tmp 2,.cell 3 59]) (.pointer none) (.inl rfl) Tryd.results18 (.cons (.tmp rfl) (.cons (.cells zls (k:=0) rfl rfl rfl) .nil)) rfl (zae [8] kr rfl)
       refine zas (zag ?_)
       exact zak (r3.1.From,r3.1.To,zbT text1 r3.1.From r3.1.To,b6) h rfl (za0 rfl) (zae [0,1,2,3,4,5,6,7] kr rfl)
      rintro ⟨span1,span2,line1,b5⟩ h
      rw [hj3] at h
      obtain ⟨j4,hj4,h⟩:=zbK h
      refine zaX (β:=(List Gapi_Span)×Hd) 2 rfl (fun b=>j4 b.1=some r) (fun b=>[]) (fun b=>[(0,.string text1),(3,zP b1),(4,zP b4),(6,zP b3),(7,.bool false),(10,zP b5),(13,.string line1),(14,zI (p15.length:Int)),(30,zI r2),(31,zI x3)]) (fun b=>[cells b1 [zI 0,zI 0] 59,cells b4 [.string p4.text,hd3.v,hd4.v] 128,zv4 hd3.v p4.places,zv3 hd4.v p4.lines,cells b3 [.string p14,hd10.v,b.2.v,.string text1] 81,zv7 hd10.v p15,zv6 b.2.v b.1,cells b5 [zI span1,zI span2] 55]) (fun cut => ?_) ?_
      ·
       refine zyG (zyR 1 rfl (zyH (zyR 1 rfl (zaA rfl dc rfl (zab zfs rfl dc rfl (show _=0 from rfl) (zab ziC rfl dc rfl (show _=1 from rfl) (zar (k:=4) zps rfl dc rfl rfl rfl (zbd (k:=5) rfl dc rfl rfl Tryd.underlying27 (zyR 1 rfl ?_)))))))))
       refine zyN (cut (zyG (zyR 1 rfl (zdU rfl dc rfl zcy (zyN ?_)))))
       refine zyB rfl h (fun h => ?_) (fun h => ?_)
       ·
        refine zax (zyR 2 rfl (zaA rfl dc rfl (zab zfs rfl dc rfl (show _=0 from rfl) (zab zj0 rfl dc rfl (show _=2 from rfl) (zar (k:=4) zqQ rfl dc rfl rfl rfl (zyR 2 rfl ?_))))))
        refine za3 (v:=.agg #[zI (p15.length:Int),zI (p15.length:Int)]) (ps:=[(0,.tmp 96),(1,.tmp 97)]) rfl dc rfl (fun _=>by kernel_rfl) ?_
        refine zaS (cs:=[zI (p15.length:Int),zI (p15.length:Int)]) (te:=55) (ps:=[(0,.tmp 98)]) rfl dc rfl (fun _=>by kernel_rfl) (fun b7 => ?_)
        obtain ⟨hg4,h⟩:=zbk h
        refine za1 (k:=6) (k2:=8) (ys:=[(⟨(p15.length:Int),(p15.length:Int)⟩:Gapi_Span)]) Tryd.underlying77 zlW zbo zcd rfl dc rfl rfl rfl rfl rfl rfl hg4 (fun v2 => ?_)
        refine zbL (k:=6) rfl (fun hd15 he1 => ?_)
        subst he1
        refine zaA rfl dc rfl (zab zfs rfl dc rfl (show _=0 from rfl) (zab zj0 rfl dc rfl (show _=2 from rfl) ?_))
        refine za5 (k:=4) (l':=[.string p14,hd10.v,hd15.v,.string text1]) zu1 rfl rfl rfl rfl rfl (fun _ _=>rfl) rfl ?_
        refine zaR ?_
        exact zak (p16++[(⟨(p15.length:Int),(p15.length:Int)⟩:Gapi_Span)],hd15) h rfl (za0 rfl) (zae [0,1,2,3,4,5,6,7] kr rfl)
       refine zas ?_
       exact zak (p16,hd11) h rfl (za0 rfl) (zae [0,1,2,3,4,5,6,7] kr rfl)
      rintro ⟨p20,hd14⟩ h
      rw [hj4] at h
      refine zyG (zyR 1 rfl (zyN (zaJ ?_)))
      obtain ⟨hg5,h⟩:=zbk h
      obtain ⟨q1,hq8,h⟩:=zbg h
      refine zbu 12 [(0,104,zP b3),(1,105,zP b3),(2,106,zP b3),(3,107,.pointer (some ⟨b3,2,none⟩)),(4,108,hd14.v),(5,109,zP b3),(6,110,zP b3),(7,111,zP b3),(8,112,.pointer (some ⟨b3,2,none⟩)),(9,113,hd14.v),(10,114,zI (p20.length:Int)),(11,115,zI ((p20.length:Int) - 1))] mixed kr kr dc (by rfl) kr kr (zyP 1 0 rfl (zad ?_ (zad ?_ (zad ?_ (zad ?_ (zyP 1 5 rfl (zad ?_ (zad ?_ (zad ?_ (zad ?_ (zad ?_ (zad ?_ DrawPre.nil)))))))))))) ?_
      · exact fun D n d c u i=>zaA rfl dc (zaa (m:=0) u rfl (d 0 dc)) (zaf 1 u i rfl)
      · exact fun D n d c u i=>zab zfs rfl dc (zaa (m:=1) u rfl (d 1 dc)) (show _=0 from rfl) (zaf 2 u i rfl)
      · exact fun D n d c u i=>zab zj0 rfl dc (zaa (m:=2) u rfl (d 2 dc)) (show _=2 from rfl) (zaf 3 u i rfl)
      · exact fun D n d c u i=>zar (k:=4) zqQ rfl dc (zaa (m:=3) u rfl (d 3 dc)) rfl rfl (zaf 4 u i rfl)
      · exact fun D n d c u i=>zaA rfl dc (zaa (m:=5) u rfl (d 5 dc)) (zaf 6 u i rfl)
      · exact fun D n d c u i=>zab zfs rfl dc (zaa (m:=6) u rfl (d 6 dc)) (show _=0 from rfl) (zaf 7 u i rfl)
      · exact fun D n d c u i=>zab zj0 rfl dc (zaa (m:=7) u rfl (d 7 dc)) (show _=2 from rfl) (zaf 8 u i rfl)
      · exact fun D n d c u i=>zar (k:=4) zqQ rfl dc (zaa (m:=8) u rfl (d 8 dc)) rfl rfl (zaf 9 u i rfl)
      · exact fun D n d c u i=>zbd (k:=6) rfl dc (zaa (m:=9) u rfl (d 9 dc)) rfl Tryd.underlying77 (zaf 10 u i rfl)
      · exact fun D n d c u i=>zbM rfl dc (zaa (m:=10) u rfl (d 10 dc)) rfl (zbj (r:=(p20.length:Int) - 1) (IntWalk.i64_in _ hg5)) (zaf 11 u i rfl)
      refine zan (k:=6) hq8 Tryd.underlying77 zjz rfl dc rfl rfl rfl rfl (zyR 1 rfl (zyH (zyR 1 rfl ?_)))
      obtain ⟨r7,hq9,h⟩:=zbg h
      refine zbq (v:=zI r7) (vs:=[.string line1]) rfl dc rfl rfl rfl zvF (zkD hq9) (zyR 1 rfl (zyN (zaJ ?_)))
      obtain ⟨hg6,h⟩:=zbk h
      obtain ⟨hg7,h⟩:=zbk h
      obtain ⟨hg8,h⟩:=zbk h
      obtain ⟨hg9,h⟩:=zbk h
      obtain ⟨hg10,h⟩:=zbk h
      refine zfU 1 ?_
      refine let vals1:(Nat×Hd)→List (Nat×Nat×Value):=fun b=>[(0,119,zP b3),(1,120,zP b3),(2,121,zP b3),(3,122,zP b3),(4,123,.pointer (some ⟨b3,1,none⟩)),(5,124,hd10.v),(6,125,.string line1),(7,126,zI r7),(8,127,.string (zbT line1 r7 (line1.size:Int))),(9,128,zI r7),(10,129,zP b3),(11,130,zP b3),(12,131,zP b3),(13,132,.pointer (some ⟨b3,2,none⟩)),(14,133,hd14.v),(15,134,zI (p20.length:Int)),(16,135,zI ((p20.length:Int) - 1)),(17,136,zI (p15.length:Int)),(18,137,.pointer (some ⟨zb7 hd14.v,((p20.length:Int) - 1:Int).toNat*2,none⟩)),(19,138,.pointer (some ⟨zb7 hd14.v,((p20.length:Int) - 1:Int).toNat*2,none⟩)),(20,139,.pointer (some ⟨zb7 hd14.v,(((p20.length:Int) - 1:Int).toNat)*2,none⟩)),(21,140,zI q1.From),(22,141,zI ((p15.length:Int) - q1.From)),(23,142,zP b5),(24,143,zI span1),(25,144,zI r7),(26,145,zI (span1+r7)),(27,146,.pointer (some ⟨b5,1,none⟩)),(28,147,zI span2),(29,148,.agg #[zI (span1+r7),zI span2]),(30,149,.agg #[.string (zbT line1 r7 (line1.size:Int)),zI r7,zI ((p20.length:Int) - 1),zI ((p15.length:Int) - q1.From),zI (span1+r7),zI span2]),(31,150,.slice (some ⟨b.1,0,none⟩) 1 1),(32,151,b.2.v)]; let LL1:(Nat→Prop)→(Nat×Hd)→List Asn:=fun D b=>[cells b1 [zI 0,zI 0] 59,cells b4 [.string p4.text,hd3.v,hd4.v] 128,zv4 hd3.v p4.places,zv3 hd4.v p4.lines,cells b3 [.string p14,hd10.v,hd14.v,.string text1] 81,eD D (zv7 hd10.v p15) [(32,zv7 b.2.v (p15++[(⟨zbT line1 r7 (line1.size:Int),r7,(p20.length:Int) - 1,(p15.length:Int) - q1.From,span1+r7,span2⟩:Gapi_Verse)]))],zv6 hd14.v p20,cells b5 [zI span1,zI span2] 55,eD D emp [(31,cells b.1 [.string (zbT line1 r7 (line1.size:Int)),zI r7,zI ((p20.length:Int) - 1),zI ((p15.length:Int) - q1.From),zI (span1+r7),zI span2] 57)]]; ?_
      have zhq:zyQ [31,32] LL1:=fun i h D b=>zac rfl (zac rfl (zac rfl (zac rfl (zac rfl (zac (zjd rfl h) (zac rfl (zac rfl (zac (zjd rfl h) rfl))))))))
      refine zdI (β:=Nat×Hd) 33 ((0:Nat),Hd.nil) vals1 LL1 mixed kr kr dc (fun _=>rfl) (zni (zac zbS (zcZ (zac zbS rfl)))) (zld zhq (fun _=>rfl) (fun _=>rfl) 2 0 (fun _=>rfl) rfl (zyq zhq rfl (fun _=>rfl) (fun _=>rfl) ?_ (zyq zhq rfl (fun _=>rfl) (fun _=>rfl) ?_ (zyq zhq rfl (fun _=>rfl) (fun _=>rfl) ?_ (ziq zhq rfl (fun _=>rfl) (fun _=>rfl) ?_ (zld zhq (fun _=>rfl) (fun _=>rfl) 2 6 (fun _=>rfl) rfl (ziq zhq rfl (fun _=>rfl) (fun _=>rfl) ?_ (zld zhq (fun _=>rfl) (fun _=>rfl) 2 9 (fun _=>rfl) rfl (zyq zhq rfl (fun _=>rfl) (fun _=>rfl) ?_ (zyq zhq rfl (fun _=>rfl) (fun _=>rfl) ?_ (zyq zhq rfl (fun _=>rfl) (fun _=>rfl) ?_ (ziq zhq rfl (fun _=>rfl) (fun _=>rfl) ?_ (ziq zhq rfl (fun _=>rfl) (fun _=>rfl) ?_ (zyq zhq rfl (fun _=>rfl) (fun _=>rfl) ?_ (zld zhq (fun _=>rfl) (fun _=>rfl) 2 17 (fun _=>rfl) rfl (zyq zhq rfl (fun _=>rfl) (fun _=>rfl) ?_ (zyq zhq rfl (fun _=>rfl) (fun _=>rfl) ?_ (ziq zhq rfl (fun _=>rfl) (fun _=>rfl) ?_ (zyq zhq rfl (fun _=>rfl) (fun _=>rfl) ?_ (zyq zhq rfl (fun _=>rfl) (fun _=>rfl) ?_ (ziq zhq rfl (fun _=>rfl) (fun _=>rfl) ?_ (zld zhq (fun _=>rfl) (fun _=>rfl) 1 25 (fun _=>rfl) rfl (zyq zhq rfl (fun _=>rfl) (fun _=>rfl) ?_ (zyq zhq rfl (fun _=>rfl) (fun _=>rfl) ?_ (ziq zhq rfl (fun _=>rfl) (fun _=>rfl) ?_ (zyq zhq rfl (fun _=>rfl) (fun _=>rfl) ?_ (zyq zhq rfl (fun _=>rfl) (fun _=>rfl) ?_ (zat ?_ (zat ?_ DrawG.nil))))))))))))))))))))))))))))) ?_
      · exact fun D ⟨b8,hd16⟩ n d c u i=>zaA rfl dc (zaa (m:=1) u rfl (d 1 dc)) (zaf 2 u i rfl)
      · exact fun D ⟨b8,hd16⟩ n d c u i=>zab zfs rfl dc (zaa (m:=2) u rfl (d 2 dc)) (show _=0 from rfl) (zaf 3 u i rfl)
      · exact fun D ⟨b8,hd16⟩ n d c u i=>zab ziC rfl dc (zaa (m:=3) u rfl (d 3 dc)) (show _=1 from rfl) (zaf 4 u i rfl)
      · exact fun D ⟨b8,hd16⟩ n d c u i=>⟨_,(zni (zac (zai (fun hD=>n (c 32 _ rfl hD 5 dc)) zap) (zcw rfl))),zar (k:=4) zps rfl dc (zaa (m:=4) u rfl (d 4 dc)) rfl rfl (zaf 5 u i rfl)⟩
      · exact fun D ⟨b8,hd16⟩ n d c u i=>⟨_,(zni (zac (zai (fun hD=>n (c 30 _ rfl (c 31 _ rfl (c 32 _ rfl hD 31 dc) 30 dc) 8 dc)) zap) (zcZ (zac (zai (fun hD=>n (c 30 _ rfl (c 31 _ rfl hD 30 dc) 8 dc)) zap) rfl)))),zdx rfl dc (zaa (m:=6) u rfl (d 6 dc)) (evO.some (zaa (m:=7) u rfl (d 7 dc))) zlU (zbZ (i:=r7) (j:=(line1.size:Int)) Tryd.underlying9 (.inr rfl) (.inl ⟨rfl,rfl⟩) hg6) (zaf 8 u i rfl)⟩
      · exact fun D ⟨b8,hd16⟩ n d c u i=>zaA rfl dc (zaa (m:=10) u rfl (d 10 dc)) (zaf 11 u i rfl)
      · exact fun D ⟨b8,hd16⟩ n d c u i=>zab zfs rfl dc (zaa (m:=11) u rfl (d 11 dc)) (show _=0 from rfl) (zaf 12 u i rfl)
      · exact fun D ⟨b8,hd16⟩ n d c u i=>zab zj0 rfl dc (zaa (m:=12) u rfl (d 12 dc)) (show _=2 from rfl) (zaf 13 u i rfl)
      · exact fun D ⟨b8,hd16⟩ n d c u i=>⟨_,(zni (zac (zai (fun hD=>n (c 15 _ rfl (c 16 _ rfl (c 30 _ rfl (c 31 _ rfl (c 32 _ rfl hD 31 dc) 30 dc) 16 dc) 15 dc) 14 dc)) zap) (zcZ (zac (zai (fun hD=>n (c 15 _ rfl (c 16 _ rfl (c 30 _ rfl (c 31 _ rfl hD 30 dc) 16 dc) 15 dc) 14 dc)) zap) rfl)))),zar (k:=4) zqQ rfl dc (zaa (m:=13) u rfl (d 13 dc)) rfl rfl (zaf 14 u i rfl)⟩
      · exact fun D ⟨b8,hd16⟩ n d c u i=>⟨_,(zni (zac (zai (fun hD=>n (c 16 _ rfl (c 30 _ rfl (c 31 _ rfl (c 32 _ rfl hD 31 dc) 30 dc) 16 dc) 15 dc)) zap) (zcZ (zac (zai (fun hD=>n (c 16 _ rfl (c 30 _ rfl (c 31 _ rfl hD 30 dc) 16 dc) 15 dc)) zap) rfl)))),zbd (k:=6) rfl dc (zaa (m:=14) u rfl (d 14 dc)) rfl Tryd.underlying77 (zaf 15 u i rfl)⟩
      · exact fun D ⟨b8,hd16⟩ n d c u i=>zbM rfl dc (zaa (m:=15) u rfl (d 15 dc)) rfl (zbj (r:=(p20.length:Int) - 1) (IntWalk.i64_in _ hg7)) (zaf 16 u i rfl)
      · exact fun D ⟨b8,hd16⟩ n d c u i=>zaA rfl dc (zaa (m:=18) u rfl (d 18 dc)) (zaf 19 u i rfl)
      · exact fun D ⟨b8,hd16⟩ n d c u i=>zab zc5 rfl dc (zaa (m:=19) u rfl (d 19 dc)) (show _=(((p20.length:Int) - 1:Int).toNat)*2 from rfl) (zaf 20 u i rfl)
      · exact fun D ⟨b8,hd16⟩ n d c u i=>⟨_,(zni (zac (zai (fun hD=>n (c 22 _ rfl (c 30 _ rfl (c 31 _ rfl (c 32 _ rfl hD 31 dc) 30 dc) 22 dc) 21 dc)) zap) (zcZ (zac (zai (fun hD=>n (c 22 _ rfl (c 30 _ rfl (c 31 _ rfl hD 30 dc) 22 dc) 21 dc)) zap) rfl)))),zaB (i:=((p20.length:Int) - 1:Int).toNat) (j:=0) (k:=6) (q:=q1) zbh zbo rfl dc (zaa (m:=20) u rfl (d 20 dc)) rfl (zaC hq8) rfl dc rfl (zaf 21 u i rfl)⟩
      · exact fun D ⟨b8,hd16⟩ n d c u i=>zbM rfl dc (zaa (m:=17) u rfl (d 17 dc)) (zaa (m:=21) u rfl (d 21 dc)) (zbj (r:=(p15.length:Int) - q1.From) (IntWalk.i64_in _ hg8)) (zaf 22 u i rfl)
      · exact fun D ⟨b8,hd16⟩ n d c u i=>zab zc5 rfl dc (za9 (by rfl) rfl) (show _=0 from rfl) (zaf 23 u i rfl)
      · exact fun D ⟨b8,hd16⟩ n d c u i=>⟨_,(zni (zac (zai (fun hD=>n (c 26 _ rfl (c 29 _ rfl (c 30 _ rfl (c 31 _ rfl (c 32 _ rfl hD 31 dc) 30 dc) 29 dc) 26 dc) 24 dc)) zap) (zcZ (zac (zai (fun hD=>n (c 26 _ rfl (c 29 _ rfl (c 30 _ rfl (c 31 _ rfl hD 30 dc) 29 dc) 26 dc) 24 dc)) zap) rfl)))),zar (k:=7) zbh rfl dc (zaa (m:=23) u rfl (d 23 dc)) rfl rfl (zaf 24 u i rfl)⟩
      · exact fun D ⟨b8,hd16⟩ n d c u i=>zbM rfl dc (zaa (m:=24) u rfl (d 24 dc)) (zaa (m:=25) u rfl (d 25 dc)) (zaQ (r:=span1+r7) (IntWalk.i64_in _ hg9)) (zaf 26 u i rfl)
      · exact fun D ⟨b8,hd16⟩ n d c u i=>zab zdD rfl dc (za9 (by rfl) rfl) (show _=1 from rfl) (zaf 27 u i rfl)
      · exact fun D ⟨b8,hd16⟩ n d c u i=>⟨_,(zni (zac (zai (fun hD=>n (c 29 _ rfl (c 30 _ rfl (c 31 _ rfl (c 32 _ rfl hD 31 dc) 30 dc) 29 dc) 28 dc)) zap) (zcZ (zac (zai (fun hD=>n (c 29 _ rfl (c 30 _ rfl (c 31 _ rfl hD 30 dc) 29 dc) 28 dc)) zap) rfl)))),zar (k:=7) zbh rfl dc (zaa (m:=27) u rfl (d 27 dc)) rfl rfl (zaf 28 u i rfl)⟩
      · exact fun D ⟨b8,hd16⟩ n d c u i=>za3 (v:=.agg #[zI (span1+r7),zI span2]) (ps:=[(0,.tmp 145),(1,.tmp 147)]) rfl dc (evP.cons (zaa (m:=26) u rfl (d 26 dc)) (evP.cons (zaa (m:=28) u rfl (d 28 dc)) evP.nil)) (fun _=>by kernel_rfl) (zaf 29 u i rfl)
      · exact fun D ⟨b8,hd16⟩ n d c u i=>za3 (v:=.agg #[.string (zbT line1 r7 (line1.size:Int)),zI r7,zI ((p20.length:Int) - 1),zI ((p15.length:Int) - q1.From),zI (span1+r7),zI span2]) (ps:=[(0,.tmp 127),(1,.tmp 128),(2,.tmp 135),(3,.tmp 141),(4,.tmp 148)]) rfl dc (evP.cons (zaa (m:=8) u rfl (d 8 dc)) (evP.cons (zaa (m:=9) u rfl (d 9 dc)) (evP.cons (zaa (m:=16) u rfl (d 16 dc)) (evP.cons (zaa (m:=22) u rfl (d 22 dc)) (evP.cons (zaa (m:=29) u rfl (d 29 dc)) evP.nil))))) (fun _=>by kernel_rfl) (zaf 30 u i rfl)
      ·
       intro D b hn hd hcl
       obtain ⟨_,hd16⟩:=b
       refine zaG (zni (zac (zai (fun hD=>hn (hcl 32 _ rfl hD 31 dc)) zap) (zcZ (zac (zai hn zap) rfl)))) ?_
       refine zaS (cs:=[.string (zbT line1 r7 (line1.size:Int)),zI r7,zI ((p20.length:Int) - 1),zI ((p15.length:Int) - q1.From),zI (span1+r7),zI span2]) (te:=57) (ps:=[(0,.tmp 149)]) rfl dc (evP.cons (zaa (m:=30) rfl rfl (hd 30 dc)) evP.nil) (fun _=>by kernel_rfl) (fun b8 => ?_)
       refine zcD 8 rfl rfl ?_
       exact zaO (b8,hd16) 31 (by rfl) (by rfl) rfl (zi4 (zcx (zcx (zaq (fun hD=>absurd hD hn) (zaq (fun _=>rfl) rfl))))) (zni (zac ((zao (by rfl)).trans (zai (fun hD=>hn (hcl 32 _ rfl hD 31 dc)) zap)) (zcZ (zac (zaH (Or.inr rfl) rfl) rfl))))
      ·
       intro D b hn hd hcl
       obtain ⟨b8,_⟩:=b
       refine zaG (zni (zac (zai hn zap) (zcZ (zac (zaH (hd 31 dc) rfl) rfl)))) ?_
       refine za1 (k:=5) (k2:=8) (ys:=[(⟨zbT line1 r7 (line1.size:Int),r7,(p20.length:Int) - 1,(p15.length:Int) - q1.From,span1+r7,span2⟩:Gapi_Verse)]) Tryd.underlying27 zur zdu zf1 rfl dc (zaa (m:=5) rfl rfl (hd 5 dc)) (zaa (m:=31) rfl rfl (hd 31 dc)) rfl rfl rfl rfl hg10 (fun v3 => ?_)
       refine zbL (k:=5) rfl (fun hd16 he2 => ?_)
       subst he2
       exact zaO (b8,hd16) 32 (by rfl) (by rfl) rfl (zir (zcx (zcx (zaq (fun hD=>absurd hD hn) rfl)))) (zni (zac (zaH (Or.inr rfl) rfl) (zcZ (zac ((zao (by rfl)).trans (zaH (hd 31 dc) rfl)) rfl))))
      intro D b hall
      obtain ⟨b8,hd16⟩:=b
      refine zaG (zni (zac (zaH (hall 32 dc) rfl) (zcZ (zac (zaH (hall 31 dc) rfl) rfl)))) (zaA rfl dc rfl (zab zfs rfl dc rfl (show _=0 from rfl) (zab ziC rfl dc rfl (show _=1 from rfl) ?_)))
      refine za5 (k:=4) (l':=[.string p14,hd16.v,hd14.v,.string text1]) zu5 rfl rfl rfl rfl rfl (fun _ _=>rfl) rfl ?_
      refine zyN (zax (zyR 2 rfl ?_))
      obtain ⟨hg11,h⟩:=zbk h
      refine zaT rfl (zaQ (r:=(p15.length:Int)+1) (IntWalk.i64_in _ hg11)) (zaA rfl dc rfl (zab zdD rfl dc rfl (show _=(((p20.length:Int) - 1:Int).toNat)*2+1 from rfl) ?_))
      refine zb9 (i:=((p20.length:Int) - 1:Int).toNat) (j:=1) (k:=6) (q:=q1) (q':=(⟨q1.From,(p15.length:Int)+1⟩:Gapi_Span)) zde zbo rfl rfl rfl rfl (zaC hq8) rfl dc rfl (fun _ _=>rfl) ?_
      refine zaR (zag ?_)
      exact zak (p14,p15++[(⟨zbT line1 r7 (line1.size:Int),r7,(p20.length:Int) - 1,(p15.length:Int) - q1.From,span1+r7,span2⟩:Gapi_Verse)],p20.set ((p20.length:Int) - 1:Int).toNat (⟨q1.From,(p15.length:Int)+1⟩:Gapi_Span),false,true,hd16,hd14) h rfl (za0 rfl) (zae [0,1,2,3,4,5,6] kr rfl)
     rintro ⟨p17,p18,p19,first4,row4,hd12,hd13⟩ h
     rw [hj2] at h
     refine zax ?_
     obtain ⟨hg12,h⟩:=zbk h
     refine zaT rfl (zaQ (r:=x3+1) (IntWalk.i64_in _ hg12)) (zyR 1 rfl (zaR ?_))
     subst hag1
     exact za4 (n1,p17,p18,p19,first4,row4,x3+1,hd12,hd13) h (Nat.lt_succ_self _) rfl (za0 rfl) (zae [0,1,2,3,4,5,6] kr rfl)
    refine za2 (zam (zam (zav ?_)))
    exact zak (p14,p15,p16,b3,hd10,hd11) h rfl (za0 rfl) (zae [0,4,5,6] kr rfl)
  rintro ⟨p1,p2,p3,b2,hd1,hd2⟩ h
  rw [hj1] at h
  refine zyG (zyR 1 rfl ?_)
  refine za3 (v:=.agg #[zI 0,zI 0]) (ps:=[]) rfl dc rfl (fun _=>by kernel_rfl) ?_
  refine zyR 1 rfl (zaY (k:=0) (vs:=[zI 0,zI 0]) (l':=[zI 0,zI 0]) zjy rfl rfl rfl rfl rfl (show _≤_ by simp) rfl rfl (zyN (zaI (zdP (by simp) ?_))))
  refine znO (As:=[cells b2 [.string p1,hd1.v,hd2.v,.string text1] 81,zv7 hd1.v p2,zv6 hd2.v p3]) (zae [1,2,3] kr rfl) (ziQ (enc:=zcU) (nest:=zcS) (t:=81) (x:=(⟨p1,p2,p3,text1⟩:Gpoem_Poem)) (b:=b2) (hd:=(hd1,hd2))) (fun _ _ => ?_)
  cases h
  exact zaK (rs:=[.tmp 2,.cell 3 59]) (zP b2) (.inl rfl) Tryd.results18 (.cons (.tmp rfl) (.cons (.cells zls (k:=0) rfl rfl rfl) .nil)) rfl (zae [4] kr rfl)
 exact fun b hb=>hb.elim
end Go.Proofs.YtbempdelckaccaaDoor

namespace Go.Proofs.YtbempdelckaccaaDoor
open Go.RowKit Go.Lib
set_option linter.unusedVariables false
set_option linter.unusedSimpArgs false
def zcL (s1:ByteArray) (j1:ByteArray→(List (List ByteArray))→(List Gapi_Verse)→Option (Gref17_Poem×(List Gapi_Verse)×Gapi_Spot)) (r1:(List Gapi_Span)) (ag1:ByteArray→(List (List ByteArray))→(List Gapi_Verse)→Bool→Bool→Int→Option (Gref17_Poem×(List Gapi_Verse)×Gapi_Spot)) (p10:ByteArray) (p11:List (List ByteArray)) (l4:List Gapi_Verse) (first3:Bool) (row3:Bool) (i3:Int):Option (Gref17_Poem×(List Gapi_Verse)×Gapi_Spot) :=
zaw (decide ((i3:Int)<(r1.length:Int))) (
zbl (fun (j2:ByteArray→(List (List ByteArray))→(List Gapi_Verse)→Bool→Bool→Option (Gref17_Poem×(List Gapi_Verse)×Gapi_Spot)) =>
zal (zbF r1 i3) fun (q1:Gapi_Span) =>
grd (0≤(q1.From:Int)∧(q1.From:Int)≤q1.To∧(q1.To:Int)≤(s1.size:Int)) <|
zal (zel (zbT s1 q1.From q1.To)) fun (r2:Bool) =>
zaw (r2) (
j2 p10 p11 l4 first3 false
) (
zaw (decide ((1024:Int)<((zbT s1 q1.From q1.To).size:Int))) (
grd (I64 (q1.From+1024)) <|
some ((⟨ByteArray.empty,([]:List (List ByteArray))⟩:Gref17_Poem),([]:List Gapi_Verse),(⟨3,q1.From+1024⟩:Gapi_Spot))
) (
zbl (fun (j3:Option (Gref17_Poem×(List Gapi_Verse)×Gapi_Spot)) =>
zaw (first3) (
zal (zet (zbT s1 q1.From q1.To)) fun (r3:Bool) =>
zaw (r3) (
zbl (fun (j4:ByteArray→Option (Gref17_Poem×(List Gapi_Verse)×Gapi_Spot)) =>
zaw (decide ((2:Int)<((zbT s1 q1.From q1.To).size:Int))) (
grd (0≤(2:Int)∧(2:Int)≤((zbT s1 q1.From q1.To).size:Int)∧(((zbT s1 q1.From q1.To).size:Int):Int)≤((zbT s1 q1.From q1.To).size:Int)) <|
j4 (zbT (zbT s1 q1.From q1.To) 2 ((zbT s1 q1.From q1.To).size:Int))
) (
j4 p10
)
) (fun (p14:ByteArray) =>
j2 p14 p11 l4 false row3
)
) (
j3
)
) (
j3
)
) (
zaw (((l4.length:Int):Int)==512) (
some ((⟨ByteArray.empty,([]:List (List ByteArray))⟩:Gref17_Poem),([]:List Gapi_Verse),(⟨3,q1.From⟩:Gapi_Spot))
) (
zbl (fun (j5:(List (List ByteArray))→Option (Gref17_Poem×(List Gapi_Verse)×Gapi_Spot)) =>
zaw (!row3) (
grd (p11.length+1≤2147483648) <|
j5 (p11++[([]:List ByteArray)])
) (
j5 p11
)
) (fun (p15:List (List ByteArray)) =>
grd (I64 ((p15.length:Int) - 1)) <|
zal (zbX (zbT s1 q1.From q1.To)) fun (r4:Int) =>
grd (0≤(r4:Int)∧(r4:Int)≤((zbT s1 q1.From q1.To).size:Int)∧(((zbT s1 q1.From q1.To).size:Int):Int)≤((zbT s1 q1.From q1.To).size:Int)) <|
zal (zbX (zbT s1 q1.From q1.To)) fun (r5:Int) =>
zal (zbF p15 ((p15.length:Int) - 1)) fun (x1:List ByteArray) =>
zal (zbX (zbT s1 q1.From q1.To)) fun (r6:Int) =>
grd (I64 (q1.From+r6)) <|
grd (l4.length+1≤2147483648) <|
zal (zbF p15 ((p15.length:Int) - 1)) fun (x2:List ByteArray) =>
grd (x2.length+1≤2147483648) <|
j2 p10 (p15.set ((p15.length:Int) - 1:Int).toNat (x2++[zbT s1 q1.From q1.To])) (l4++[(⟨zbT (zbT s1 q1.From q1.To) r4 ((zbT s1 q1.From q1.To).size:Int),r5,(p15.length:Int) - 1,(x1.length:Int),q1.From+r6,q1.To⟩:Gapi_Verse)]) false true
)
)
)
)
)
) (fun (p12:ByteArray) (p13:List (List ByteArray)) (l5:List Gapi_Verse) (first4:Bool) (row4:Bool) =>
grd (I64 (i3+1)) <|
ag1 p12 p13 l5 first4 row4 (i3+1)
)
) (
j1 p10 p11 l4
)
def zfp (s1:ByteArray):Option (Gref17_Poem×(List Gapi_Verse)×Gapi_Spot) :=
zaw (decide ((65536:Int)<(s1.size:Int))) (
some ((⟨ByteArray.empty,([]:List (List ByteArray))⟩:Gref17_Poem),([]:List Gapi_Verse),(⟨3,65536⟩:Gapi_Spot))
) (
zbl (fun (j1:ByteArray→(List (List ByteArray))→(List Gapi_Verse)→Option (Gref17_Poem×(List Gapi_Verse)×Gapi_Spot)) =>
zal (zeT s1) fun (r1:(List Gapi_Span)) =>
zaF (fun _ _ _ _ _ _=>none) (zcL s1 j1 r1) zbW ByteArray.empty ([]:List (List ByteArray)) ([]:List Gapi_Verse) true false 0
) (fun (p1:ByteArray) (p2:List (List ByteArray)) (l1:List Gapi_Verse) =>
some ((⟨p1,p2⟩:Gref17_Poem),l1,(⟨0,0⟩:Gapi_Spot))
)
)
theorem zlD {s1:ByteArray} {r:(Gref17_Poem×(List Gapi_Verse)×Gapi_Spot)} (h:zfp s1=some r):Fn Tryd.prog 31 [.string s1] [] (fun b:Hd×Value=>.tuple #[.agg #[.string r.1.Title,b.1.v],b.2,.agg (zr6 r.2.2).toArray]) (fun b=>[zhH zbA zbz 49 1 b.1.v r.1.Stanzas,zv7 b.2 r.2.1]):=by
 unfold zfp at h
 refine Fn.intro Tryd.func31 rfl Tryd.ntmps31 (by simp) ?_
 intro w0 K
 refine zyG ?_
 refine zbt zsf rfl dc (fun b1 => ?_)
 refine zyR 1 rfl ?_
 refine zbt zqC rfl dc (fun b2 => ?_)
 refine zyH ?_
 refine zbt zsf rfl dc (fun b3 => ?_)
 refine zyH (zyR 1 rfl (zyN (zaJ (zyG (zyR 1 rfl (zb6 rfl dc rfl Tryd.underlying9 (zaT rfl zcA (zaR ?_))))))))
 refine zaL ?_
 refine zyB rfl h (fun h => ?_) (fun h => ?_)
 ·
  refine zyG (zba (k:=2) (cs:=[.string ByteArray.empty,.slice none 0 0]) zow rfl dc rfl rfl rfl rfl ?_)
  refine za3 (v:=.agg #[zI 3,zI 65536]) (ps:=[(0,.const (zI 3)),(1,.const (zI 65536))]) rfl dc rfl (fun _=>by kernel_rfl) ?_
  refine zaY (k:=0) (vs:=[.string ByteArray.empty,.slice none 0 0]) (l':=[.string ByteArray.empty,.slice none 0 0]) zpa rfl rfl rfl rfl rfl (show _≤_ by simp) rfl rfl ?_
  refine zyR 1 rfl (zaY (k:=1) (vs:=[zI 3,zI 65536]) (l':=[zI 3,zI 65536]) zjy rfl rfl rfl rfl rfl (show _≤_ by simp) rfl rfl (zyN (zaI (zau (znN (enc:=zbA) (nest:=zbz) (e:=49) (size:=1) ?_)))))
  refine zdw (enc:=zbr) (e:=57) (size:=6) ?_
  cases h
  exact zaK (rs:=[.cell 2 83,.tmp 3,.cell 4 59]) (Hd.nil,(.slice none 0 0)) (.inl rfl) Tryd.results31 (.cons (.cells zow (k:=0) rfl rfl rfl) (.cons (.tmp rfl) (.cons (.cells zls (k:=1) rfl rfl rfl) .nil))) rfl (zae [3,4] kr rfl)
 refine zas (zaL ?_)
 obtain ⟨j1,hj1,h⟩:=zbK h
 refine zaX (β:=ByteArray×(List (List ByteArray))×(List Gapi_Verse)×Hd×Hd) 2 rfl (fun b=>j1 b.1 b.2.1 b.2.2.1=some r) (fun b=>[]) (fun b=>[(2,zP b1),(4,zP b2),(5,zP b3),(6,b.2.2.2.2.v)]) (fun b=>[cells b1 [.string ByteArray.empty,.slice none 0 0] 83,cells b2 [zI 0,zI 0] 59,cells b3 [.string b.1,b.2.2.2.1.v] 83,zhH zbA zbz 49 1 b.2.2.2.1.v b.2.1,zv7 b.2.2.2.2.v b.2.2.1]) (fun cut => ?_) ?_
 ·
  refine zyG (zyR 1 rfl ?_)
  obtain ⟨r1,hq1,h⟩:=zbg h
  refine zea (vs:=[.string s1]) rfl dc rfl rfl rfl zvu (zkz hq1) Splits.nil ?_
  rintro v1
  refine zbL (k:=3) rfl (fun hd3 he1 => ?_)
  subst he1
  refine zyR 1 rfl (zyH (zyR 2 rfl (zyN (cut (zyG (zyR 1 rfl (zaR ?_)))))))
  refine zaL (zaE (zqq (enc:=zbA) (nest:=zbz) (e:=49) (size:=1) ?_))
  refine zcX (enc:=zbr) (e:=57) (size:=6) ?_
  refine zbn (β:=Nat×ByteArray×(List (List ByteArray))×(List Gapi_Verse)×Bool×Bool×Int×Hd×Hd) (fun b=>zaF (fun _ _ _ _ _ _=>none) (zcL s1 j1 r1) b.1 b.2.1 b.2.2.1 b.2.2.2.1 b.2.2.2.2.1 b.2.2.2.2.2.1 b.2.2.2.2.2.2.1=some r) (fun b=>[]) (fun b=>[(0,.string s1),(2,zP b1),(4,zP b2),(5,zP b3),(6,b.2.2.2.2.2.2.2.2.v),(7,hd3.v),(8,.bool b.2.2.2.2.1),(9,.bool b.2.2.2.2.2.1),(10,zI b.2.2.2.2.2.2.1)]) (fun b=>[cells b1 [.string ByteArray.empty,.slice none 0 0] 83,cells b2 [zI 0,zI 0] 59,cells b3 [.string b.2.1,b.2.2.2.2.2.2.2.1.v] 83,zhH zbA zbz 49 1 b.2.2.2.2.2.2.2.1.v b.2.2.1,zv7 b.2.2.2.2.2.2.2.2.v b.2.2.2.1,zv6 hd3.v r1]) (fun b=>b.1) (zbW,ByteArray.empty,([]:List (List ByteArray)),([]:List Gapi_Verse),true,false,0,Hd.nil,Hd.nil) h rfl (za0 rfl) (zae [0,1,2,4,5,3] kr rfl) ?_
  rintro ⟨n1,p10,p11,l4,first3,row3,i3,hd9,hd10⟩ h
  cases n1 with
  | zero=>exact zdG h
  | succ n1 =>
   obtain ⟨ag1,hag1⟩:∃ ag,ag=zaF (fun _ _ _ _ _ _=>none) (zcL s1 j1 r1) n1:=⟨_,rfl⟩
   have h:zcL s1 j1 r1 ag1 p10 p11 l4 first3 row3 i3=some r:=by rw [hag1]; exact h
   unfold zcL at h
   refine zaJ (zyG (zyR 2 rfl (zbd (k:=5) rfl dc rfl rfl Tryd.underlying77 (zaT rfl zbf (zyN ?_)))))
   refine zyB rfl h (fun h => ?_) (fun h => ?_)
   ·
    refine zas (zaL ?_)
    obtain ⟨j2,hj2,h⟩:=zbK h
    refine zaX (β:=ByteArray×(List (List ByteArray))×(List Gapi_Verse)×Bool×Bool×Hd×Hd) 0 rfl (fun b=>j2 b.1 b.2.1 b.2.2.1 b.2.2.2.1 b.2.2.2.2.1=some r) (fun b=>[]) (fun b=>[(0,.string s1),(2,zP b1),(4,zP b2),(5,zP b3),(6,b.2.2.2.2.2.2.v),(7,hd3.v),(8,.bool b.2.2.2.1),(9,.bool b.2.2.2.2.1),(10,zI i3)]) (fun b=>[cells b1 [.string ByteArray.empty,.slice none 0 0] 83,cells b2 [zI 0,zI 0] 59,cells b3 [.string b.1,b.2.2.2.2.2.1.v] 83,zhH zbA zbz 49 1 b.2.2.2.2.2.1.v b.2.1,zv7 b.2.2.2.2.2.2.v b.2.2.1,zv6 hd3.v r1]) (fun cut => ?_) ?_
    ·
     refine cut (zaE (zyG (zyR 2 rfl ?_)))
     obtain ⟨q1,hq2,h⟩:=zbg h
     refine zan (k:=5) hq2 Tryd.underlying77 zjz rfl dc rfl rfl rfl rfl (zei (i:=(i3:Int).toNat) (j:=0) (k:=5) (q:=q1) (cs:=(zr5 q1)) zmq zbo rfl dc rfl rfl (zaC hq2) rfl rfl rfl ?_)
     refine zbt zoY rfl dc (fun b4 => ?_)
     refine zaY (k:=6) (vs:=(zr5 q1)) (l':=(zr5 q1)) zjz rfl rfl rfl rfl rfl (show _≤_ by simp) rfl rfl ?_
     refine zyH (zyR 1 rfl (zab zc5 rfl dc rfl (show _=0 from rfl) (zar (k:=6) zbh rfl dc rfl rfl rfl (zab zdD rfl dc rfl (show _=1 from rfl) (zar (k:=6) zbh rfl dc rfl rfl rfl ?_)))))
     obtain ⟨hg1,h⟩:=zbk h
     refine zdx rfl dc rfl rfl rfl (zbZ (i:=q1.From) (j:=q1.To) Tryd.underlying9 (.inr rfl) (.inr rfl) hg1) (zyR 1 rfl (zyN (zaJ (zyG (zyR 1 rfl ?_)))))
     obtain ⟨r2,hq3,h⟩:=zbg h
     refine zbq (v:=.bool r2) (vs:=[.string (zbT s1 q1.From q1.To)]) rfl dc rfl rfl rfl zvt (zkA hq3) (zyN ?_)
     refine zyB rfl h (fun h => ?_) (fun h => ?_)
     ·
      refine zyG (zyR 1 rfl (zyN (za2 (zam (zav ?_)))))
      exact zak (p10,p11,l4,first3,false,hd9,hd10) h rfl (za0 rfl) (zae [0,1,2,3,4,5] kr rfl)
     refine zas (zaL (zaJ (zyG (zyR 1 rfl (zb6 rfl dc rfl Tryd.underlying9 (zaT rfl zcA (zyN ?_)))))))
     refine zyB rfl h (fun h => ?_) (fun h => ?_)
     ·
      refine zaJ ?_
      obtain ⟨hg2,h⟩:=zbk h
      refine zbu 7 [(0,43,.agg #[.string ByteArray.empty,.slice none 0 0]),(1,44,zP b4),(2,45,zI q1.From),(3,46,zI (q1.From+1024)),(4,47,.agg #[zI 3,zI (q1.From+1024)]),(6,3,.slice none 0 0)] mixed kr kr dc (by rfl) kr kr (zad ?_ (zad ?_ (zad ?_ (zad ?_ (zad ?_ (zad ?_ (zad ?_ DrawPre.nil))))))) ?_
      · exact fun D n d c u i=>za3 (v:=.agg #[.string ByteArray.empty,.slice none 0 0]) (ps:=[]) rfl dc evP.nil (fun _=>by kernel_rfl) (zaf 0 u i rfl)
      · exact fun D n d c u i=>zab zc5 rfl dc (za9 (by rfl) rfl) (show _=0 from rfl) (zaf 1 u i rfl)
      · exact fun D n d c u i=>zar (k:=6) zbh rfl dc (zaa (m:=1) u rfl (d 1 dc)) rfl rfl (zaf 2 u i rfl)
      · exact fun D n d c u i=>zbM rfl dc (zaa (m:=2) u rfl (d 2 dc)) rfl (zaQ (r:=q1.From+1024) (IntWalk.i64_in _ hg2)) (zaf 3 u i rfl)
      · exact fun D n d c u i=>za3 (v:=.agg #[zI 3,zI (q1.From+1024)]) (ps:=[(0,.const (zI 3)),(1,.tmp 46)]) rfl dc (evP.cons rfl (evP.cons (zaa (m:=3) u rfl (d 3 dc)) evP.nil)) (fun _=>by kernel_rfl) (zaf 4 u i rfl)
      · exact fun D n d c u i=>zaY (k:=0) (vs:=[.string ByteArray.empty,.slice none 0 0]) (l':=[.string ByteArray.empty,.slice none 0 0]) zpa rfl (za9 (by rfl) rfl) (zaa (m:=0) u rfl (d 0 dc)) rfl rfl (show _≤_ by simp) rfl rfl (znd (by rfl))
      · exact fun D n d c u i=>zyR 1 rfl (zaf 5 u i rfl)
      refine zaY (k:=1) (vs:=[zI 3,zI (q1.From+1024)]) (l':=[zI 3,zI (q1.From+1024)]) zjy rfl rfl rfl rfl rfl (show _≤_ by simp) rfl rfl (zyN (zaI (zau (zaD (zau (zau (zaD (zau (znN (enc:=zbA) (nest:=zbz) (e:=49) (size:=1) ?_)))))))))
      refine zdw (enc:=zbr) (e:=57) (size:=6) ?_
      cases h
      exact zaK (rs:=[.cell 2 83,.tmp 3,.cell 4 59]) (Hd.nil,(.slice none 0 0)) (.inl rfl) Tryd.results31 (.cons (.cells zow (k:=0) rfl rfl rfl) (.cons (.tmp rfl) (.cons (.cells zls (k:=1) rfl rfl rfl) .nil))) rfl (zae [7,8] kr rfl)
     refine zas (zaL ?_)
     obtain ⟨j3,hj3,h⟩:=zbK h
     refine zaX (β:=Unit) 0 rfl (fun b=>j3=some r) (fun b=>[]) (fun b=>[(0,.string s1),(2,zP b1),(4,zP b2),(5,zP b3),(6,hd10.v),(7,hd3.v),(9,.bool row3),(10,zI i3),(11,zP b4),(12,.string (zbT s1 q1.From q1.To))]) (fun b=>[cells b1 [.string ByteArray.empty,.slice none 0 0] 83,cells b2 [zI 0,zI 0] 59,cells b3 [.string p10,hd9.v] 83,zhH zbA zbz 49 1 hd9.v p11,zv7 hd10.v l4,zv6 hd3.v r1,cells b4 (zr5 q1) 55]) (fun cut => ?_) ?_
     ·
      refine cut (zyG (zyR 2 rfl ?_))
      refine zyS (s:=49) rfl h (fun h => ?_) (fun h => ?_)
      ·
       refine zyR 1 rfl ?_
       obtain ⟨r3,hq4,h⟩:=zbg h
       refine zbq (v:=.bool r3) (vs:=[.string (zbT s1 q1.From q1.To)]) rfl dc rfl rfl rfl zvs (zjH hq4) (zyR 1 rfl (zyN ?_))
       refine zyB rfl h (fun h => ?_) (fun h => ?_)
       ·
        obtain ⟨j4,hj4,h⟩:=zbK h
        refine zaX (β:=ByteArray) 1 rfl (fun b=>j4 b=some r) (fun b=>[]) (fun b=>[(0,.string s1),(2,zP b1),(4,zP b2),(5,zP b3),(6,hd10.v),(7,hd3.v),(8,.bool false),(9,.bool row3),(10,zI i3),(50,.string (zbT s1 q1.From q1.To)),(51,.bool r3)]) (fun b=>[cells b1 [.string ByteArray.empty,.slice none 0 0] 83,cells b2 [zI 0,zI 0] 59,cells b3 [.string b,hd9.v] 83,zhH zbA zbz 49 1 hd9.v p11,zv7 hd10.v l4,zv6 hd3.v r1]) (fun cut => ?_) ?_
        ·
         refine zyG (zyR 1 rfl (zyN (cut (zyG (zyR 1 rfl (zb6 rfl dc rfl Tryd.underlying9 (zaT rfl zcA (zyN ?_))))))))
         refine zyB rfl h (fun h => ?_) (fun h => ?_)
         ·
          refine zax (zyR 1 rfl ?_)
          obtain ⟨hg3,h⟩:=zbk h
          refine zdx rfl dc rfl rfl rfl (zbZ (i:=2) (j:=((zbT s1 q1.From q1.To).size:Int)) Tryd.underlying9 (.inr rfl) (.inl ⟨rfl,rfl⟩) hg3) (zab zsV rfl dc rfl (show _=0 from rfl) ?_)
          refine za5 (k:=2) (l':=[.string (zbT (zbT s1 q1.From q1.To) 2 ((zbT s1 q1.From q1.To).size:Int)),hd9.v]) ztm rfl rfl rfl rfl rfl (fun _ _=>rfl) rfl ?_
          refine zaR ?_
          exact zak (zbT (zbT s1 q1.From q1.To) 2 ((zbT s1 q1.From q1.To).size:Int)) h rfl (za0 rfl) (zae [0,1,2,3,4,5] kr rfl)
         refine zas ?_
         exact zak p10 h rfl (za0 rfl) (zae [0,1,2,3,4,5] kr rfl)
        rintro p14 h
        rw [hj4] at h
        refine za2 (zam (zav ?_))
        exact zak (p14,p11,l4,false,row3,hd9,hd10) h rfl (za0 rfl) (zae [0,1,2,3,4,5] kr rfl)
       refine zas ?_
       exact zak () h rfl (za0 rfl) (zae [0,1,2,3,4,5,6] kr rfl)
      refine zyR 3 rfl (zyN (zaN rfl (zas ?_)))
      exact zak () h rfl (za0 rfl) (zae [0,1,2,3,4,5,6] kr rfl)
     rintro _ h
     rw [hj3] at h
     refine zyG (zyR 1 rfl (zyN (zaJ (zyG (zyR 1 rfl (zbd (k:=4) rfl dc rfl rfl Tryd.underlying27 (zaT rfl zaP (zyN ?_))))))))
     refine zyB rfl h (fun h => ?_) (fun h => ?_)
     ·
      refine zaJ ?_
      refine zbu 6 [(0,62,.agg #[.string ByteArray.empty,.slice none 0 0]),(1,63,zP b4),(2,64,zI q1.From),(3,65,.agg #[zI 3,zI q1.From]),(5,3,.slice none 0 0)] mixed kr kr dc (by rfl) kr kr (zad ?_ (zad ?_ (zad ?_ (zad ?_ (zad ?_ (zad ?_ DrawPre.nil)))))) ?_
      · exact fun D n d c u i=>za3 (v:=.agg #[.string ByteArray.empty,.slice none 0 0]) (ps:=[]) rfl dc evP.nil (fun _=>by kernel_rfl) (zaf 0 u i rfl)
      · exact fun D n d c u i=>zab zc5 rfl dc (za9 (by rfl) rfl) (show _=0 from rfl) (zaf 1 u i rfl)
      · exact fun D n d c u i=>zar (k:=6) zbh rfl dc (zaa (m:=1) u rfl (d 1 dc)) rfl rfl (zaf 2 u i rfl)
      · exact fun D n d c u i=>za3 (v:=.agg #[zI 3,zI q1.From]) (ps:=[(0,.const (zI 3)),(1,.tmp 64)]) rfl dc (evP.cons rfl (evP.cons (zaa (m:=2) u rfl (d 2 dc)) evP.nil)) (fun _=>by kernel_rfl) (zaf 3 u i rfl)
      · exact fun D n d c u i=>zaY (k:=0) (vs:=[.string ByteArray.empty,.slice none 0 0]) (l':=[.string ByteArray.empty,.slice none 0 0]) zpa rfl (za9 (by rfl) rfl) (zaa (m:=0) u rfl (d 0 dc)) rfl rfl (show _≤_ by simp) rfl rfl (znd (by rfl))
      · exact fun D n d c u i=>zyR 1 rfl (zaf 4 u i rfl)
      refine zaY (k:=1) (vs:=[zI 3,zI q1.From]) (l':=[zI 3,zI q1.From]) zjy rfl rfl rfl rfl rfl (show _≤_ by simp) rfl rfl (zyN (zaI (zau (zaD (zau (zau (zaD (zau (znN (enc:=zbA) (nest:=zbz) (e:=49) (size:=1) ?_)))))))))
      refine zdw (enc:=zbr) (e:=57) (size:=6) ?_
      cases h
      exact zaK (rs:=[.cell 2 83,.tmp 3,.cell 4 59]) (Hd.nil,(.slice none 0 0)) (.inl rfl) Tryd.results31 (.cons (.cells zow (k:=0) rfl rfl rfl) (.cons (.tmp rfl) (.cons (.cells zls (k:=1) rfl rfl rfl) .nil))) rfl (zae [7,8] kr rfl)
     refine zas (zaL ?_)
     obtain ⟨j5,hj5,h⟩:=zbK h
     refine zaX (β:=(List (List ByteArray))×Hd) 0 rfl (fun b=>j5 b.1=some r) (fun b=>[]) (fun b=>[(0,.string s1),(2,zP b1),(4,zP b2),(5,zP b3),(6,hd10.v),(7,hd3.v),(8,.bool false),(10,zI i3),(11,zP b4),(12,.string (zbT s1 q1.From q1.To))]) (fun b=>[cells b1 [.string ByteArray.empty,.slice none 0 0] 83,cells b2 [zI 0,zI 0] 59,cells b3 [.string p10,b.2.v] 83,zhH zbA zbz 49 1 b.2.v b.1,zv7 hd10.v l4,zv6 hd3.v r1,cells b4 (zr5 q1) 55]) (fun cut => ?_) ?_
     ·
      refine cut (zyG (zyR 1 rfl (zdU rfl dc rfl zcy (zyN ?_))))
      refine zyB rfl h (fun h => ?_) (fun h => ?_)
      ·
       refine zax (zab zhz rfl dc rfl (show _=1 from rfl) (zar (k:=2) zov rfl dc rfl rfl rfl ?_))
       refine zaS (cs:=[.slice none 0 0]) (te:=49) (ps:=[(0,.const (.slice none 0 0))]) rfl dc rfl (fun _=>by kernel_rfl) (fun b5 => ?_)
       refine zgY (enc:=zoV) (e:=9) (size:=1) ?_
       refine zlb (k:=3) rfl zqZ (fun zs1 hz1 => ?_)
       obtain ⟨hg4,h⟩:=zbk h
       refine za1 (k:=3) (k2:=7) (ys:=[(([]:List ByteArray),Hd.nil)]) Tryd.underlying43 zvX zdN ziK rfl dc rfl rfl rfl rfl rfl rfl (by rw [zuZ hz1]; exact hg4) (fun v2 => ?_)
       refine zbL (k:=3) rfl (fun hd14 he2 => ?_)
       subst he2
       refine zip (k:=9) rfl (zae [8] kr rfl) rfl (zrI (nest:=zbz) (zs:=zs1) (z:=(([]:List ByteArray),Hd.nil))) ?_
       refine zip (k:=3) rfl (zae [9] kr rfl) rfl (zqd (enc:=zbA) (nest:=zbz) (zwl hz1)) ?_
       refine zd7 (L':=[cells b1 [.string ByteArray.empty,.slice none 0 0] 83,cells b2 [zI 0,zI 0] 59,cells b3 [.string p10,hd9.v] 83,zhH zbA zbz 49 1 hd14.v (p11++[([]:List ByteArray)]),zv7 hd10.v l4,zv6 hd3.v r1,cells b4 (zr5 q1) 55,cells b5 [.slice none 0 0] 49]) (zae [0,1,2,3,4,5,6,7] kr rfl) (zab zhz rfl dc rfl (show _=1 from rfl) ?_)
       refine za5 (k:=2) (l':=[.string p10,hd14.v]) zu3 rfl rfl rfl rfl rfl (fun _ _=>rfl) rfl ?_
       refine zaR ?_
       exact zak (p11++[([]:List ByteArray)],hd14) h rfl (za0 rfl) (zae [0,1,2,3,4,5,6] kr rfl)
      refine zas ?_
      exact zak (p11,hd9) h rfl (za0 rfl) (zae [0,1,2,3,4,5,6] kr rfl)
     rintro ⟨p15,hd13⟩ h
     rw [hj5] at h
     refine zyG (zyR 1 rfl (zyH (zab zhz rfl dc rfl (show _=1 from rfl) (zar (k:=2) zov rfl dc rfl rfl rfl (zoS (k:=3) rfl dc rfl rfl Tryd.underlying43 ?_)))))
     obtain ⟨hg5,h⟩:=zbk h
     refine zaT rfl (zbj (r:=(p15.length:Int) - 1) (IntWalk.i64_in _ hg5)) (zyR 1 rfl (zyN (zaJ ?_)))
     refine ziP (k:=3) rfl zqZ (fun zs2 hz2 => ?_)
     obtain ⟨r4,hq5,h⟩:=zbg h
     obtain ⟨hg6,h⟩:=zbk h
     obtain ⟨r5,hq6,h⟩:=zbg h
     obtain ⟨x1,hq7,h⟩:=zbg h
     obtain ⟨eh1,eq1⟩:=zrM hz2 hq7
     obtain ⟨r6,hq8,h⟩:=zbg h
     obtain ⟨hg7,h⟩:=zbk h
     refine ziP (k:=7) rfl (zt5 (zaC eq1)) (fun _ _ => ?_)
     refine zhd (β:=Nat) 23 22 _ [(0,77,.string (zbT s1 q1.From q1.To)),(1,78,.string (zbT s1 q1.From q1.To)),(2,79,zI r4),(3,80,.string (zbT (zbT s1 q1.From q1.To) r4 ((zbT s1 q1.From q1.To).size:Int))),(4,81,.string (zbT s1 q1.From q1.To)),(5,82,zI r5),(6,83,zI ((p15.length:Int) - 1)),(7,84,.pointer (some ⟨b3,1,none⟩)),(8,85,hd13.v),(9,86,zI ((p15.length:Int) - 1)),(10,87,.pointer (some ⟨zb7 hd13.v,((p15.length:Int) - 1:Int).toNat*1,none⟩)),(11,88,eh1.v),(12,89,zI (x1.length:Int)),(13,90,zP b4),(14,91,zI q1.From),(15,92,.string (zbT s1 q1.From q1.To)),(16,93,zI r6),(17,94,zI (q1.From+r6)),(18,95,.pointer (some ⟨b4,1,none⟩)),(19,96,zI q1.To),(20,97,.agg #[zI (q1.From+r6),zI q1.To]),(21,98,.agg #[.string (zbT (zbT s1 q1.From q1.To) r4 ((zbT s1 q1.From q1.To).size:Int)),zI r5,zI ((p15.length:Int) - 1),zI (x1.length:Int),zI (q1.From+r6),zI q1.To])] (fun b6=>[(14,zP b6)]) (fun b6=>[cells b1 [.string ByteArray.empty,.slice none 0 0] 83,cells b2 [zI 0,zI 0] 59,cells b3 [.string p10,hd13.v] 83,vec zbA 49 1 hd13.v zs2,zv7 hd10.v l4,zv6 hd3.v r1,cells b4 (zr5 q1) 55,own zbz (zs2.eraseIdx (((p15.length:Int) - 1:Int).toNat)),zv5 eh1.v x1,cells b6 [.string ByteArray.empty,zI 0,zI 0,zI 0,zI 0,zI 0] 57]) mixed kr kr rfl dc dc (by rfl) kr kr (zyE 2 0 rfl (zah ?_ (zah ?_ (zyE 1 4 rfl (zah ?_ (zyE 1 6 rfl (zah ?_ (zah ?_ (zyE 1 9 rfl (zah ?_ (zah ?_ (zah ?_ (zah ?_ (zah ?_ (zyE 1 15 rfl (zah ?_ (zah ?_ (zah ?_ (zah ?_ (zah ?_ (zah ?_ (zcp DrawPreX.nil)))))))))))))))))))))) (fun b6=>(zyE 2 0 rfl (zah ?_ (zah ?_ (zyE 1 4 rfl (zah ?_ (zyE 1 6 rfl (zah ?_ (zah ?_ (zyE 1 9 rfl (zah ?_ (zah ?_ (zah ?_ (zah ?_ (zah ?_ (zyE 1 15 rfl (zah ?_ (zah ?_ (zah ?_ (zah ?_ (zah ?_ (zah ?_ (zcp DrawPreX.nil))))))))))))))))))))))) ?_ ?_
     · exact fun D n d c u i=>zbq (v:=zI r4) (vs:=[.string (zbT s1 q1.From q1.To)]) rfl dc rfl (evL.cons (zaa (m:=1) u rfl (d 1 dc)) evL.nil) rfl zoO (zdJ hq5) (zaf 2 u i rfl)
     · exact fun D n d c u i=>zdx rfl dc (zaa (m:=0) u rfl (d 0 dc)) (evO.some (zaa (m:=2) u rfl (d 2 dc))) zlU (zbZ (i:=r4) (j:=((zbT s1 q1.From q1.To).size:Int)) Tryd.underlying9 (.inr rfl) (.inl ⟨rfl,rfl⟩) hg6) (zaf 3 u i rfl)
     · exact fun D n d c u i=>zbq (v:=zI r5) (vs:=[.string (zbT s1 q1.From q1.To)]) rfl dc rfl (evL.cons (zaa (m:=4) u rfl (d 4 dc)) evL.nil) rfl zoO (zdJ hq6) (zaf 5 u i rfl)
     · exact fun D n d c u i=>zab zhz rfl dc (za9 (by rfl) rfl) (show _=1 from rfl) (zaf 7 u i rfl)
     · exact fun D n d c u i=>zar (k:=2) zov rfl dc (zaa (m:=7) u rfl (d 7 dc)) rfl rfl (zaf 8 u i rfl)
     · exact fun D n d c u i=>zan (k:=3) eq1 Tryd.underlying43 zpb rfl dc (zaa (m:=8) u rfl (d 8 dc)) (zaa (m:=9) u rfl (d 9 dc)) rfl rfl (zaf 10 u i rfl)
     · exact fun D n d c u i=>zaB (i:=((p15.length:Int) - 1:Int).toNat) (j:=0) (k:=3) (q:=(x1,eh1)) zsq zdN rfl dc (zaa (m:=10) u rfl (d 10 dc)) rfl (zaC eq1) rfl dc rfl (zaf 11 u i rfl)
     · exact fun D n d c u i=>zbd (k:=8) rfl dc (zaa (m:=11) u rfl (d 11 dc)) rfl Tryd.underlying49 (zaf 12 u i rfl)
     · exact fun D n d c u i=>zab zc5 rfl dc (za9 (by rfl) rfl) (show _=0 from rfl) (zaf 13 u i rfl)
     · exact fun D n d c u i=>zar (k:=6) zbh rfl dc (zaa (m:=13) u rfl (d 13 dc)) rfl rfl (zaf 14 u i rfl)
     · exact fun D n d c u i=>zbq (v:=zI r6) (vs:=[.string (zbT s1 q1.From q1.To)]) rfl dc rfl (evL.cons (zaa (m:=15) u rfl (d 15 dc)) evL.nil) rfl zoO (zdJ hq8) (zaf 16 u i rfl)
     · exact fun D n d c u i=>zbM rfl dc (zaa (m:=14) u rfl (d 14 dc)) (zaa (m:=16) u rfl (d 16 dc)) (zaQ (r:=q1.From+r6) (IntWalk.i64_in _ hg7)) (zaf 17 u i rfl)
     · exact fun D n d c u i=>zab zdD rfl dc (za9 (by rfl) rfl) (show _=1 from rfl) (zaf 18 u i rfl)
     · exact fun D n d c u i=>zar (k:=6) zbh rfl dc (zaa (m:=18) u rfl (d 18 dc)) rfl rfl (zaf 19 u i rfl)
     · exact fun D n d c u i=>za3 (v:=.agg #[zI (q1.From+r6),zI q1.To]) (ps:=[(0,.tmp 94),(1,.tmp 96)]) rfl dc (evP.cons (zaa (m:=17) u rfl (d 17 dc)) (evP.cons (zaa (m:=19) u rfl (d 19 dc)) evP.nil)) (fun _=>by kernel_rfl) (zaf 20 u i rfl)
     · exact fun D n d c u i=>za3 (v:=.agg #[.string (zbT (zbT s1 q1.From q1.To) r4 ((zbT s1 q1.From q1.To).size:Int)),zI r5,zI ((p15.length:Int) - 1),zI (x1.length:Int),zI (q1.From+r6),zI q1.To]) (ps:=[(0,.tmp 80),(1,.tmp 82),(2,.tmp 83),(3,.tmp 89),(4,.tmp 97)]) rfl dc (evP.cons (zaa (m:=3) u rfl (d 3 dc)) (evP.cons (zaa (m:=5) u rfl (d 5 dc)) (evP.cons (zaa (m:=6) u rfl (d 6 dc)) (evP.cons (zaa (m:=12) u rfl (d 12 dc)) (evP.cons (zaa (m:=20) u rfl (d 20 dc)) evP.nil))))) (fun _=>by kernel_rfl) (zaf 21 u i rfl)
     · exact fun D n d c u i=>zbq (v:=zI r4) (vs:=[.string (zbT s1 q1.From q1.To)]) rfl dc rfl (evL.cons (zaa (m:=1) u rfl (d 1 dc)) evL.nil) rfl zoO (zdJ hq5) (zaf 2 u i rfl)
     · exact fun D n d c u i=>zdx rfl dc (zaa (m:=0) u rfl (d 0 dc)) (evO.some (zaa (m:=2) u rfl (d 2 dc))) zlU (zbZ (i:=r4) (j:=((zbT s1 q1.From q1.To).size:Int)) Tryd.underlying9 (.inr rfl) (.inl ⟨rfl,rfl⟩) hg6) (zaf 3 u i rfl)
     · exact fun D n d c u i=>zbq (v:=zI r5) (vs:=[.string (zbT s1 q1.From q1.To)]) rfl dc rfl (evL.cons (zaa (m:=4) u rfl (d 4 dc)) evL.nil) rfl zoO (zdJ hq6) (zaf 5 u i rfl)
     · exact fun D n d c u i=>zab zhz rfl dc (za9 (by rfl) rfl) (show _=1 from rfl) (zaf 7 u i rfl)
     · exact fun D n d c u i=>zar (k:=2) zov rfl dc (zaa (m:=7) u rfl (d 7 dc)) rfl rfl (zaf 8 u i rfl)
     · exact fun D n d c u i=>zan (k:=3) eq1 Tryd.underlying43 zpb rfl dc (zaa (m:=8) u rfl (d 8 dc)) (zaa (m:=9) u rfl (d 9 dc)) rfl rfl (zaf 10 u i rfl)
     · exact fun D n d c u i=>zaB (i:=((p15.length:Int) - 1:Int).toNat) (j:=0) (k:=3) (q:=(x1,eh1)) zsq zdN rfl dc (zaa (m:=10) u rfl (d 10 dc)) rfl (zaC eq1) rfl dc rfl (zaf 11 u i rfl)
     · exact fun D n d c u i=>zbd (k:=8) rfl dc (zaa (m:=11) u rfl (d 11 dc)) rfl Tryd.underlying49 (zaf 12 u i rfl)
     · exact fun D n d c u i=>zab zc5 rfl dc (za9 (by rfl) rfl) (show _=0 from rfl) (zaf 13 u i rfl)
     · exact fun D n d c u i=>zar (k:=6) zbh rfl dc (zaa (m:=13) u rfl (d 13 dc)) rfl rfl (zaf 14 u i rfl)
     · exact fun D n d c u i=>zbq (v:=zI r6) (vs:=[.string (zbT s1 q1.From q1.To)]) rfl dc rfl (evL.cons (zaa (m:=15) u rfl (d 15 dc)) evL.nil) rfl zoO (zdJ hq8) (zaf 16 u i rfl)
     · exact fun D n d c u i=>zbM rfl dc (zaa (m:=14) u rfl (d 14 dc)) (zaa (m:=16) u rfl (d 16 dc)) (zaQ (r:=q1.From+r6) (IntWalk.i64_in _ hg7)) (zaf 17 u i rfl)
     · exact fun D n d c u i=>zab zdD rfl dc (za9 (by rfl) rfl) (show _=1 from rfl) (zaf 18 u i rfl)
     · exact fun D n d c u i=>zar (k:=6) zbh rfl dc (zaa (m:=18) u rfl (d 18 dc)) rfl rfl (zaf 19 u i rfl)
     · exact fun D n d c u i=>za3 (v:=.agg #[zI (q1.From+r6),zI q1.To]) (ps:=[(0,.tmp 94),(1,.tmp 96)]) rfl dc (evP.cons (zaa (m:=17) u rfl (d 17 dc)) (evP.cons (zaa (m:=19) u rfl (d 19 dc)) evP.nil)) (fun _=>by kernel_rfl) (zaf 20 u i rfl)
     · exact fun D n d c u i=>za3 (v:=.agg #[.string (zbT (zbT s1 q1.From q1.To) r4 ((zbT s1 q1.From q1.To).size:Int)),zI r5,zI ((p15.length:Int) - 1),zI (x1.length:Int),zI (q1.From+r6),zI q1.To]) (ps:=[(0,.tmp 80),(1,.tmp 82),(2,.tmp 83),(3,.tmp 89),(4,.tmp 97)]) rfl dc (evP.cons (zaa (m:=3) u rfl (d 3 dc)) (evP.cons (zaa (m:=5) u rfl (d 5 dc)) (evP.cons (zaa (m:=6) u rfl (d 6 dc)) (evP.cons (zaa (m:=12) u rfl (d 12 dc)) (evP.cons (zaa (m:=20) u rfl (d 20 dc)) evP.nil))))) (fun _=>by kernel_rfl) (zaf 21 u i rfl)
     ·
      intro D hn hd hcl
      refine zbt zsg rfl dc (fun b6 => ?_)
      exact fun a w ha hw=>⟨b6,zkk (by rfl) _ _ _ ha,hw⟩
     intro b6
     refine zaY (k:=9) (vs:=[.string (zbT (zbT s1 q1.From q1.To) r4 ((zbT s1 q1.From q1.To).size:Int)),zI r5,zI ((p15.length:Int) - 1),zI (x1.length:Int),zI (q1.From+r6),zI q1.To]) (l':=[.string (zbT (zbT s1 q1.From q1.To) r4 ((zbT s1 q1.From q1.To).size:Int)),zI r5,zI ((p15.length:Int) - 1),zI (x1.length:Int),zI (q1.From+r6),zI q1.To]) zkv rfl rfl rfl rfl rfl (show _≤_ by simp) rfl rfl (zyH (zyR 1 rfl (zba (k:=9) (cs:=[.string (zbT (zbT s1 q1.From q1.To) r4 ((zbT s1 q1.From q1.To).size:Int)),zI r5,zI ((p15.length:Int) - 1),zI (x1.length:Int),zI (q1.From+r6),zI q1.To]) zst rfl dc rfl rfl rfl rfl ?_)))
     refine zaS (cs:=[.string (zbT (zbT s1 q1.From q1.To) r4 ((zbT s1 q1.From q1.To).size:Int)),zI r5,zI ((p15.length:Int) - 1),zI (x1.length:Int),zI (q1.From+r6),zI q1.To]) (te:=57) (ps:=[(0,.tmp 100)]) rfl dc rfl (fun _=>by kernel_rfl) (fun b7 => ?_)
     obtain ⟨hg8,h⟩:=zbk h
     refine za1 (k:=4) (k2:=10) (ys:=[(⟨zbT (zbT s1 q1.From q1.To) r4 ((zbT s1 q1.From q1.To).size:Int),r5,(p15.length:Int) - 1,(x1.length:Int),q1.From+r6,q1.To⟩:Gapi_Verse)]) Tryd.underlying27 zur zdu zf1 rfl dc rfl rfl rfl rfl rfl rfl hg8 (fun v3 => ?_)
     refine zbL (k:=4) rfl (fun hd15 he3 => ?_)
     subst he3
     refine zyR 1 rfl (zyN (zro (k:=7) rfl (zae [8] kr rfl) rfl (zt4 (nest:=zbz) (zaC eq1) rfl) ?_))
     obtain ⟨x2,hq9,h⟩:=zbg h
     obtain ⟨eh2,eq2⟩:=zrM hz2 hq9
     obtain ⟨hg9,h⟩:=zbk h
     refine ziP (k:=7) rfl (zt5 (zaC eq2)) (fun _ _ => ?_)
     refine zfU 1 ?_
     refine let vals1:(Nat×Hd)→List (Nat×Nat×Value):=fun b=>[(0,103,.pointer (some ⟨b3,1,none⟩)),(1,104,hd13.v),(2,105,zI ((p15.length:Int) - 1)),(3,106,.pointer (some ⟨b3,1,none⟩)),(4,107,hd13.v),(5,108,zI ((p15.length:Int) - 1)),(6,109,.pointer (some ⟨zb7 hd13.v,((p15.length:Int) - 1:Int).toNat*1,none⟩)),(7,110,eh2.v),(8,111,.string (zbT s1 q1.From q1.To)),(9,112,.slice (some ⟨b.1,0,none⟩) 1 1),(10,113,b.2.v)]; let LL1:(Nat→Prop)→(Nat×Hd)→List Asn:=fun D b=>[cells b1 [.string ByteArray.empty,.slice none 0 0] 83,cells b2 [zI 0,zI 0] 59,cells b3 [.string p10,hd13.v] 83,vec zbA 49 1 hd13.v zs2,zv7 hd15.v (l4++[(⟨zbT (zbT s1 q1.From q1.To) r4 ((zbT s1 q1.From q1.To).size:Int),r5,(p15.length:Int) - 1,(x1.length:Int),q1.From+r6,q1.To⟩:Gapi_Verse)]),zv6 hd3.v r1,cells b4 (zr5 q1) 55,own zbz (zs2.eraseIdx (((p15.length:Int) - 1:Int).toNat)),emp,cells b6 [.string (zbT (zbT s1 q1.From q1.To) r4 ((zbT s1 q1.From q1.To).size:Int)),zI r5,zI ((p15.length:Int) - 1),zI (x1.length:Int),zI (q1.From+r6),zI q1.To] 57,cells b7 [.string (zbT (zbT s1 q1.From q1.To) r4 ((zbT s1 q1.From q1.To).size:Int)),zI r5,zI ((p15.length:Int) - 1),zI (x1.length:Int),zI (q1.From+r6),zI q1.To] 57,eD D (zv5 eh2.v x2) [(10,zv5 b.2.v (x2++[zbT s1 q1.From q1.To]))],eD D emp [(9,cells b.1 [.string (zbT s1 q1.From q1.To)] 9)]]; ?_
     have zhq:zyQ [9,10] LL1:=fun i h D b=>zac rfl (zac rfl (zac rfl (zac rfl (zac rfl (zac rfl (zac rfl (zac rfl (zac rfl (zac rfl (zac rfl (zac (zjd rfl h) (zac (zjd rfl h) rfl))))))))))))
     refine zdI (β:=Nat×Hd) 11 ((0:Nat),Hd.nil) vals1 LL1 mixed kr kr dc (fun _=>rfl) (zkr (zac zbS (zac zbS rfl))) (zyq zhq rfl (fun _=>rfl) (fun _=>rfl) ?_ (ziq zhq rfl (fun _=>rfl) (fun _=>rfl) ?_ (zld zhq (fun _=>rfl) (fun _=>rfl) 1 2 (fun _=>rfl) rfl (zyq zhq rfl (fun _=>rfl) (fun _=>rfl) ?_ (ziq zhq rfl (fun _=>rfl) (fun _=>rfl) ?_ (zld zhq (fun _=>rfl) (fun _=>rfl) 1 5 (fun _=>rfl) rfl (ziq zhq rfl (fun _=>rfl) (fun _=>rfl) ?_ (ziq zhq rfl (fun _=>rfl) (fun _=>rfl) ?_ (zld zhq (fun _=>rfl) (fun _=>rfl) 1 8 (fun _=>rfl) rfl (zat ?_ (zat ?_ DrawG.nil))))))))))) ?_
     · exact fun D ⟨b8,hd16⟩ n d c u i=>zab zhz rfl dc (za9 (by rfl) rfl) (show _=1 from rfl) (zaf 0 u i rfl)
     · exact fun D ⟨b8,hd16⟩ n d c u i=>⟨_,(zac rfl (zsb rfl)),zar (k:=2) zov rfl dc (zaa (m:=0) u rfl (d 0 dc)) rfl rfl (zaf 1 u i rfl)⟩
     · exact fun D ⟨b8,hd16⟩ n d c u i=>zab zhz rfl dc (za9 (by rfl) rfl) (show _=1 from rfl) (zaf 3 u i rfl)
     · exact fun D ⟨b8,hd16⟩ n d c u i=>⟨_,(zkr (zac (zai (fun hD=>n (c 6 _ rfl (c 7 _ rfl (c 10 _ rfl hD 7 dc) 6 dc) 4 dc)) zap) rfl)),zar (k:=2) zov rfl dc (zaa (m:=3) u rfl (d 3 dc)) rfl rfl (zaf 4 u i rfl)⟩
     · exact fun D ⟨b8,hd16⟩ n d c u i=>⟨_,(zkr (zac (zai (fun hD=>n (c 7 _ rfl (c 10 _ rfl hD 7 dc) 6 dc)) zap) rfl)),zan (k:=3) eq2 Tryd.underlying43 zpb rfl dc (zaa (m:=4) u rfl (d 4 dc)) (zaa (m:=5) u rfl (d 5 dc)) rfl rfl (zaf 6 u i rfl)⟩
     · exact fun D ⟨b8,hd16⟩ n d c u i=>⟨_,(zkr (zac (zai (fun hD=>n (c 10 _ rfl hD 7 dc)) zap) rfl)),zaB (i:=((p15.length:Int) - 1:Int).toNat) (j:=0) (k:=3) (q:=(x2,eh2)) zsq zdN rfl dc (zaa (m:=6) u rfl (d 6 dc)) rfl (zaC eq2) rfl dc rfl (zaf 7 u i rfl)⟩
     ·
      intro D b hn hd hcl
      obtain ⟨_,hd16⟩:=b
      refine zaG (zkr (zac (zai (fun hD=>hn (hcl 10 _ rfl hD 9 dc)) zap) (zac (zai hn zap) rfl))) ?_
      refine zaS (cs:=[.string (zbT s1 q1.From q1.To)]) (te:=9) (ps:=[(0,.tmp 111)]) rfl dc (evP.cons (zaa (m:=8) rfl rfl (hd 8 dc)) evP.nil) (fun _=>by kernel_rfl) (fun b8 => ?_)
      refine zcD 12 rfl rfl ?_
      exact zaO (b8,hd16) 9 (by rfl) (by rfl) rfl (zuW (zaq (fun hD=>absurd hD hn) (zaq (fun _=>rfl) rfl))) (zkr (zac ((zao (by rfl)).trans (zai (fun hD=>hn (hcl 10 _ rfl hD 9 dc)) zap)) (zac (zaH (Or.inr rfl) rfl) rfl)))
     ·
      intro D b hn hd hcl
      obtain ⟨b8,_⟩:=b
      refine zaG (zkr (zac (zai hn zap) (zac (zaH (hd 9 dc) rfl) rfl))) ?_
      refine za1 (k:=11) (k2:=12) (ys:=[zbT s1 q1.From q1.To]) Tryd.underlying49 zvW zgr zlV rfl dc (zaa (m:=7) rfl rfl (hd 7 dc)) (zaa (m:=9) rfl rfl (hd 9 dc)) rfl rfl rfl rfl hg9 (fun v4 => ?_)
      refine zbL (k:=11) rfl (fun hd16 he4 => ?_)
      subst he4
      exact zaO (b8,hd16) 10 (by rfl) (by rfl) rfl (zqA (zaq (fun hD=>absurd hD hn) rfl)) (zkr (zac (zaH (Or.inr rfl) rfl) (zac ((zao (by rfl)).trans (zaH (hd 9 dc) rfl)) rfl)))
     intro D b hall
     obtain ⟨b8,hd16⟩:=b
     refine zaG (zkr (zac (zaH (hall 10 dc) rfl) (zac (zaH (hall 9 dc) rfl) rfl))) (zan (k:=3) eq2 Tryd.underlying43 zpb rfl dc rfl rfl rfl rfl ?_)
     refine zb9 (i:=((p15.length:Int) - 1:Int).toNat) (j:=0) (k:=3) (q:=(x2,eh2)) (q':=(x2++[zbT s1 q1.From q1.To],hd16)) zpb zdN rfl rfl rfl rfl (zaC eq2) rfl dc rfl (fun _ _=>rfl) ?_
     refine zip (k:=7) rfl (zae [11] kr rfl) rfl (zt4 (nest:=zbz) (zs:=zs2) (z:=(x2++[zbT s1 q1.From q1.To],hd16)) (zsn (zaC eq2)) zpl) ?_
     refine zaR (zag (zrm (k:=3) rfl (zae [7] kr rfl) rfl (zqd (enc:=zbA) (nest:=zbz) (zwv hz2)) ?_))
     exact zak (p10,p15.set ((p15.length:Int) - 1:Int).toNat (x2++[zbT s1 q1.From q1.To]),l4++[(⟨zbT (zbT s1 q1.From q1.To) r4 ((zbT s1 q1.From q1.To).size:Int),r5,(p15.length:Int) - 1,(x1.length:Int),q1.From+r6,q1.To⟩:Gapi_Verse)],false,true,hd13,hd15) h rfl (za0 rfl) (zae [0,1,2,3,4,5] kr rfl)
    rintro ⟨p12,p13,l5,first4,row4,hd11,hd12⟩ h
    rw [hj2] at h
    refine zax (zyR 1 rfl ?_)
    obtain ⟨hg10,h⟩:=zbk h
    refine zaT rfl (zaQ (r:=i3+1) (IntWalk.i64_in _ hg10)) (zyR 1 rfl (zaR ?_))
    subst hag1
    exact za4 (n1,p12,p13,l5,first4,row4,i3+1,hd11,hd12) h (Nat.lt_succ_self _) rfl (za0 rfl) (zae [0,1,2,3,4,5] kr rfl)
   refine za2 (zam (zam (zav ?_)))
   exact zak (p10,p11,l4,hd9,hd10) h rfl (za0 rfl) (zae [0,1,2,3,4] kr rfl)
 rintro ⟨p1,p2,l1,hd1,hd2⟩ h
 rw [hj1] at h
 refine zyG (zba (k:=2) (cs:=[.string p1,hd1.v]) zow rfl dc rfl rfl rfl rfl (zyR 1 rfl ?_))
 refine za3 (v:=.agg #[zI 0,zI 0]) (ps:=[]) rfl dc rfl (fun _=>by kernel_rfl) ?_
 refine zaY (k:=0) (vs:=[.string p1,hd1.v]) (l':=[.string p1,hd1.v]) zpa rfl rfl rfl rfl rfl (show _≤_ by simp) rfl rfl (zyR 1 rfl (zaY (k:=1) (vs:=[zI 0,zI 0]) (l':=[zI 0,zI 0]) zjy rfl rfl rfl rfl rfl (show _≤_ by simp) rfl rfl ?_))
 refine zyN (zaI ?_)
 cases h
 exact zaK (rs:=[.cell 2 83,.tmp 3,.cell 4 59]) (hd1,hd2.v) (.inl rfl) Tryd.results31 (.cons (.cells zow (k:=0) rfl rfl rfl) (.cons (.tmp rfl) (.cons (.cells zls (k:=1) rfl rfl rfl) .nil))) rfl (zae [3,4] kr rfl)
end Go.Proofs.YtbempdelckaccaaDoor

namespace Go.Proofs.YtbempdelckaccaaDoor
open Go.RowKit Go.Lib
set_option linter.unusedVariables false
set_option linter.unusedSimpArgs false
def mkB (l:List UInt8):ByteArray:=⟨l.toArray⟩
theorem zh1 (l:List UInt8):(mkB l).data.toList=l:=rfl
theorem zbP (l:List UInt8):(mkB l).size=l.length:=by rw [← zk8,zh1]
theorem zlG {a b:List UInt8} (h:mkB a=mkB b):a=b:=by
 have:=congrArg (fun s:ByteArray=>s.data.toList) h
 exact this
theorem zt9 (s:ByteArray):∃ l,s=mkB l:=⟨s.data.toList,rfl⟩
theorem zl3 (l:List UInt8) (i j:Nat):zbT (mkB l) (i:Int) (j:Int)=mkB ((l.drop i).take (j - i)):=by
 unfold zbT
 have h:∀ a b:ByteArray,a.data.toList=b.data.toList→a=b:=fun a b h=>by
  have:mkB a.data.toList=mkB b.data.toList:=by rw [h]
  exact this
 apply h
 rw [zh1]
 simp only [Int.toNat_natCast,ByteArray.data_extract,Array.toList_extract,List.extract,zh1]
theorem zj7 (l:List UInt8) (i:Nat):zbT (mkB l) (i:Int) ((mkB l).size:Int)=mkB (l.drop i):=by
 rw [zl3,zbP,List.take_of_length_le (by rw [List.length_drop]; omega)]
def isB (b:UInt8):Bool:=b==32||b==9
def zim (l:List UInt8):Bool:=l.all isB
theorem zhp {p:UInt8→Bool}:∀ {l:List UInt8} {c:UInt8} {t:List UInt8},l.dropWhile p=c::t→p c=false
 | [],c,t,h=>by cases h
 | b::l,c,t,h=>by
  rw [List.dropWhile_cons] at h
  split at h
  ·exact zhp h
  ·rename_i hb
   rw [← (List.cons.inj h).1]; simpa using hb
theorem zfx {p:UInt8→Bool}:∀ (l:List UInt8),l.dropWhile p=[]↔l.all p=true
 | []=>by simp
 | b::l=>by
  rw [List.dropWhile_cons,List.all_cons]
  split
  ·rename_i h; rw [zfx l,h,Bool.true_and]
  ·rename_i h; rw [Bool.not_eq_true] at h; rw [h]; simp
theorem zkN (l:List UInt8):Lib.trimS l [32,9]=[]↔zim l=true:=by
 have hc:(fun x=>([32,9]:List UInt8).contains x)=isB:=by
  funext x; unfold isB; simp only [List.contains_cons,List.contains_nil,Bool.or_false]
 unfold Lib.trimS Lib.trimLeftS Lib.trimRightS zim
 rw [hc]
 cases hd:l.reverse.dropWhile isB with
 | nil =>
  have:=(zfx l.reverse).1 hd
  rw [List.all_reverse] at this
  rw [this]; simp
 | cons c t =>
  have h1:=zhp hd
  rw [zfx,List.all_reverse,List.all_cons,h1]
  have h2:l.all isB=false:=by
   cases h:l.all isB with
   | false=>rfl
   | true =>
    rw [← List.all_reverse,← zfx,hd] at h; cases h
  rw [h2]; simp
theorem zs6 (l:List UInt8) (h:l.length≤9223372036854775807):zeM (mkB l)=some (zim l):=by
 unfold zeM
 refine zbm (by rw [zbP]; exact h) (congrArg some ?_)
 unfold znV
 rw [zh1]
 have:(⟨(Lib.trimS l [32,9]).toArray⟩:ByteArray)=mkB (Lib.trimS l [32,9]):=rfl
 rw [this,show (⟨#[]⟩:ByteArray)=mkB [] from rfl]
 cases hb:zim l with
 | true=>exact decide_eq_true (by rw [(zkN l).2 hb])
 | false=>exact decide_eq_false (fun e=>by have:=(zkN l).1 (zlG e); rw [hb] at this; cases this)
theorem zqh {R:Type} {F:(Int→Option R)→Int→Option R} {bot:Int→Option R} (l:List UInt8) (g:UInt8→Option (Option R)) (J:Option R)
  (hs:∀ ag (i:Nat) b t,l.drop i=b::t→F ag (i:Int)=(g b).getD (ag ((i+1:Nat):Int))) (he:∀ ag,F ag (l.length:Int)=J) :
  ∀ (n i:Nat),i≤l.length→l.length - i<n→zaF bot F n (i:Int)=((l.drop i).findSome? g).getD J:=by
 intro n
 induction n with
 | zero=>intro i h1 h2; omega
 | succ n ih =>
  intro i hi hn
  rw [zd3]
  cases hd:l.drop i with
  | nil =>
   have:l.length≤i:=List.drop_eq_nil_iff.1 hd
   obtain rfl:i=l.length:=by omega
   rw [he]; rfl
  | cons b t =>
   have hlt:i<l.length:=by
    rcases Nat.lt_or_ge i l.length with h | h
    ·exact h
    ·rw [List.drop_eq_nil_of_le h] at hd; cases hd
   rw [hs _ i b t hd,List.findSome?_cons]
   cases hg:g b with
   | some x=>rfl
   | none =>
    show zaF bot F n _=_
    rw [ih (i+1) (by omega) (by omega),zfq hd]
theorem zwc {l:List UInt8} (h:l.length≤1073741824):l.length - 0<zbW:=by unfold zbW; omega
theorem zoB (l:List UInt8) (h:l.length≤1073741824):zel (mkB l)=some (zim l):=by
 unfold zel
 refine zbE ?_
 refine (zqh l (fun b=>if isB b then none else some (some false)) (some true) (fun ag i b t hd => ?_) (fun ag => ?_) zbW 0 (Nat.zero_le _) (zwc h)).trans ?_
 ·unfold zdz
  obtain ⟨hb,hlt⟩:=zfQ (s:=mkB l) hd
  refine zaz (decide_eq_true (by omega)) (zbE (zaM hb ?_))
  rw [zbP] at hlt
  have go:(grd (I64 ((i:Int)+1))<|ag ((i:Int)+1))=ag ((i+1:Nat):Int):=zbm ⟨by omega,by omega⟩ (by rw [show (i:Int)+1=((i+1:Nat):Int) by omega])
  unfold isB
  by_cases h32:b=32
  ·refine zay (by unfold bne; rw [n32,decide_eq_true h32]; rfl) ?_
   rw [h32]; exact go
  ·refine zaz (by unfold bne; rw [n32,decide_eq_false h32]; rfl) ?_
   rw [beq_eq_false_iff_ne.2 h32,Bool.false_or]
   by_cases h9:b=9
   ·refine zay (by unfold bne; rw [n9,decide_eq_true h9]; rfl) ?_
    rw [h9]; exact go
   ·refine zaz (by unfold bne; rw [n9,decide_eq_false h9]; rfl) ?_
    rw [beq_eq_false_iff_ne.2 h9]; rfl
 ·unfold zdz
  exact zay (decide_eq_false (by rw [zbP]; omega)) rfl
 ·rw [List.drop_zero]
  unfold zim
  clear h
  induction l with
  | nil=>rfl
  | cons b l ih =>
   rw [List.findSome?_cons,List.all_cons]
   cases hb:isB b with
   | true=>simpa using ih
   | false=>rfl
def zqI:List UInt8→Bool
 | []=>false
 | [b]=>b==35
 | b::c::_=>b==35&&c==32
theorem zt6 (l p:List UInt8):zby (mkB l) (mkB p)=some (decide (p.length≤l.length)&&decide (l.take p.length=p)):=by
 unfold zby
 rw [zbP,zbP]
 by_cases h:p.length≤l.length
 ·refine zaz (decide_eq_true (by omega)) (zbm ⟨by omega,by omega,by omega⟩ (congrArg some ?_))
  have:=zl3 l 0 p.length
  rw [show ((0:Nat):Int)=0 from rfl] at this
  rw [this,List.drop_zero,Nat.sub_zero,decide_eq_true h,Bool.true_and]
  by_cases e:l.take p.length=p
  ·rw [decide_eq_true e,decide_eq_true (by rw [e])]
  ·rw [decide_eq_false e,decide_eq_false (fun x=>e (zlG x))]
 ·refine zay (decide_eq_false (by omega)) ?_
  rw [decide_eq_false h]; rfl
theorem zqH (l:List UInt8):zeV (mkB l)=some (zqI l):=by
 unfold zeV zdR
 rw [show (⟨#[35]⟩:ByteArray)=mkB [35] from rfl,show (⟨#[35,32]⟩:ByteArray)=mkB [35,32] from rfl]
 by_cases h:l=[35]
 ·subst h; exact zaz (decide_eq_true rfl) rfl
 ·refine zay (decide_eq_false (fun e=>h (zlG e))) (zaM (zaM (zt6 _ _) rfl) (congrArg some ?_))
  match l with
  | []=>rfl
  | [b] =>
   have hb:b≠35:=fun e=>h (by rw [e])
   show _=(b==35)
   rw [beq_eq_false_iff_ne.2 hb]; rfl
  | b::c::t =>
   show _=(b==35&&c==32)
   rw [decide_eq_true (by simp),Bool.true_and]
   show decide ([b,c]=[35,32])=_
   by_cases hb:b=35 <;> by_cases hc:c=32 <;> simp [hb,hc]
theorem zns (l:List UInt8):zet (mkB l)=some (zqI l):=by
 unfold zet
 rw [show (⟨#[35]⟩:ByteArray)=mkB [35] from rfl]
 by_cases h:l=[35]
 ·subst h; exact zaz (decide_eq_true rfl) rfl
 ·refine zay (decide_eq_false (fun e=>h (zlG e))) ?_
  match l with
  | []=>exact zay (decide_eq_false (by rw [zbP]; simp)) rfl
  | [b] =>
   have hb:b≠35:=fun e=>h (by rw [e])
   refine zay (decide_eq_false (by rw [zbP]; simp)) ?_
   show _=some (b==35)
   rw [beq_eq_false_iff_ne.2 hb]
  | b::c::t =>
   have h0:=(zfQ (s:=mkB (b::c::t)) (i:=0) (b:=b) (t:=c::t) rfl).1
   have h1:=(zfQ (s:=mkB (b::c::t)) (i:=1) (b:=c) (t:=t) rfl).1
   refine zaz (decide_eq_true (by rw [zbP]; simp; omega)) (zaM h0 ?_)
   show _=some (b==35&&c==32)
   by_cases hb:b=35
   ·refine zaz (by rw [n35]; exact decide_eq_true hb) (zaM h1 (congrArg some ?_))
    rw [n32,beq_iff_eq.2 hb,Bool.true_and]
    by_cases hc:c=32
    ·rw [decide_eq_true hc,hc]; rfl
    ·rw [decide_eq_false hc,beq_eq_false_iff_ne.2 hc]
   ·refine zay (by rw [n35]; exact decide_eq_false hb) ?_
    rw [beq_eq_false_iff_ne.2 hb]; rfl
theorem zsk (l:List UInt8) (h:zqI l=true):zc3 (mkB (l.drop 1)) (mkB [32])=some (mkB (l.drop 2)):=by
 unfold zc3 zb4
 refine zaM (zaM (zt6 _ _) (?_:_=some (mkB (l.drop 2)))) rfl
 match l with
 | []=>cases h
 | [b]=>exact zay (by simp) rfl
 | b::c::t =>
  have hc:c=32:=by
   unfold zqI at h; rw [Bool.and_eq_true] at h; exact beq_iff_eq.1 h.2
  subst hc
  refine zaz (by simp) (zbm ⟨by omega,by rw [zbP,zbP,List.drop_one,List.tail_cons,List.length_cons]; simp only [List.length_cons,List.length_nil]; omega,by omega⟩ (congrArg some ?_))
  exact zj7 (32::t) 1
def ind (l:List UInt8):Nat:=(l.takeWhile (· == 32)).length
theorem zjj (b:UInt8) (l:List UInt8):ind (b::l)=if b=32 then ind l+1 else 0:=by
 unfold ind
 rw [List.takeWhile_cons]
 by_cases h:b=32
 ·subst h; simp
 ·rw [if_neg h,beq_eq_false_iff_ne.2 h]; rfl
theorem zpO (l:List UInt8):ind l≤l.length:=by
 induction l with
 | nil=>exact Nat.le_refl _
 | cons b l ih=>rw [zjj,List.length_cons]; split <;> omega
theorem zhs (l:List UInt8) (h:l.length≤1073741824):zbX (mkB l)=some (ind l:Int):=by
 unfold zbX
 refine zbE ?_
 have key:∀ (n i:Nat),i≤l.length→l.length - i<n→zaF (fun _=>none) (zcR (mkB l) (fun (n1:Int)=>some n1)) n (i:Int)=some ((i+ind (l.drop i):Nat):Int):=by
  intro n
  induction n with
  | zero=>intro i h1 h2; omega
  | succ n ih =>
   intro i hi hn
   rw [zd3]
   obtain ⟨ag,hag⟩:∃ ag,ag=zaF (fun _=>none) (zcR (mkB l) (fun (n1:Int)=>some n1)) n:=⟨_,rfl⟩
   rw [← hag] at ih ⊢
   unfold zcR
   cases hd:l.drop i with
   | nil =>
    have:l.length≤i:=List.drop_eq_nil_iff.1 hd
    exact zay (decide_eq_false (by rw [zbP]; omega)) rfl
   | cons b t =>
    obtain ⟨hb,hlt⟩:=zfQ (s:=mkB l) hd
    rw [zbP] at hlt
    refine zaz (decide_eq_true (by rw [zbP]; omega)) (zaM hb ?_)
    rw [zjj]
    by_cases h32:b=32
    ·refine zaz (by rw [n32]; exact decide_eq_true h32) (zbm ⟨by omega,by omega⟩ ?_)
     have:=ih (i+1) (by omega) (by omega)
     rw [zfq hd] at this
     rw [if_pos h32,show (i:Int)+1=((i+1:Nat):Int) by omega,this]
     congr 1; omega
    ·refine zay (by rw [n32]; exact decide_eq_false h32) ?_
     rw [if_neg h32]; rfl
 have:=key zbW 0 (Nat.zero_le _) (by unfold zbW; omega)
 rw [List.drop_zero,Nat.zero_add] at this
 exact this
theorem zq9 (l:List UInt8) (h:l.length≤1073741824):zdS (mkB l)=some (ind l:Int):=by
 unfold zdS
 refine zbE ?_
 have key:∀ (n i:Nat),i≤l.length→l.length - i<n→(pcs l).drop i=zdl i (l.drop i)→zaF (fun _ _=>none) (zc8 (mkB l) (fun (n1:Int)=>some n1)) n (i:Int) i=some ((i+ind (l.drop i):Nat):Int):=by
  intro n
  induction n with
  | zero=>intro i h1 h2; omega
  | succ n ih =>
   intro i hi hn hp
   rw [zd3]
   obtain ⟨ag,hag⟩:∃ ag,ag=zaF (fun _ _=>none) (zc8 (mkB l) (fun (n1:Int)=>some n1)) n:=⟨_,rfl⟩
   rw [← hag] at ih ⊢
   unfold zc8
   rw [zh1]
   cases hd:l.drop i with
   | nil =>
    rw [hd,zc0] at hp
    have:=List.drop_eq_nil_iff.1 hp
    exact zay (decide_eq_false (by omega)) rfl
   | cons b t =>
    obtain ⟨hb,hlt⟩:=zfQ (s:=mkB l) hd
    rw [zbP] at hlt
    rw [hd,zcr i (b::t) (by simp)] at hp
    have hlm:i<(pcs l).length:=by
     rcases Nat.lt_or_ge i (pcs l).length with h | h
     ·exact h
     ·rw [List.drop_eq_nil_of_le h] at hp; cases hp
    have hq:(pcs l)[i]?=some ⟨i,(decodeL (b::t)).2,(decodeL (b::t)).1⟩:=by
     have hp2:=hp
     rw [List.drop_eq_getElem_cons hlm] at hp2
     rw [List.getElem?_eq_getElem hlm,(List.cons.inj hp2).1]
    refine zaz (decide_eq_true hlm) (zaM hq ?_)
    rw [zjj]
    by_cases h32:b=32
    ·subst h32
     have hdec:=decodeL_ascii 32 t (by decide)
     rw [hdec] at hp ⊢
     refine zay rfl (zbm ⟨by omega,by omega⟩ ?_)
     have:=ih (i+1) (by omega) (by omega) (by
      rw [← List.drop_drop,hp,zfq hd]; rfl)
     rw [zfq hd] at this
     rw [if_pos rfl,show (i:Int)+1=((i+1:Nat):Int) by omega]
     refine this.trans ?_
     congr 2; omega
    ·refine zaz ?_ (by rw [if_neg h32]; rfl)
     show (((decodeL (b::t)).1:Int) != 32)=true
     refine bne_iff_ne.2 (fun e => ?_)
     by_cases hbig:128≤b.toNat
     ·have:=(zna (t:=t) hbig).1; omega
     ·rw [decodeL_ascii b t (by omega)] at e
      exact h32 (UInt8.toNat.inj (by show b.toNat=32; have:((b.toNat:Nat):Int)=32:=e; omega))
 have:=key zbW 0 (Nat.zero_le _) (by unfold zbW; omega) (by rw [List.drop_zero,List.drop_zero]; rfl)
 rw [List.drop_zero,Nat.zero_add] at this
 exact this
end Go.Proofs.YtbempdelckaccaaDoor

namespace Go.Proofs.YtbempdelckaccaaDoor
open Go.RowKit Go.Lib
set_option linter.unusedVariables false
set_option linter.unusedSimpArgs false
theorem zmm (T:List UInt8):∀ (l:List UInt8) (p:Bool) (f a:Nat),T.drop a=l→f≤a→(p=true→l.head?=some 10→f+1≤a) →
  (∀ b∈(T.drop f).take ((if p=true∧l.head?=some 10 then a - 1 else a) - f),isE b=false)→a≤T.length →
  ∀ x∈spP p f a l,x.1≤x.2∧x.2≤T.length∧∀ b∈(T.drop x.1).take (x.2 - x.1),isE b=false
 | [],p,f,a,hd,hf,hp,hb,ha=>by
  intro x hx
  rw [spP,List.mem_singleton] at hx
  subst hx
  have:T.length≤a:=List.drop_eq_nil_iff.1 hd
  refine ⟨hf,ha,?_⟩
  rw [if_neg (by simp)] at hb
  exact hb
 | b::t,p,f,a,hd,hf,hp,hb,ha=>by
  intro x hx
  have hlt:a<T.length:=by
   rcases Nat.lt_or_ge a T.length with h | h
   ·exact h
   ·rw [List.drop_eq_nil_of_le h] at hd; cases hd
  have hd1:=zfq hd
  have hsnoc:∀ f',f'≤a→(T.drop f').take (a+1 - f')=(T.drop f').take (a - f')++[b]:=fun f' hf'=>by
   rw [show a+1 - f'=(a - f')+1 by omega,List.take_add_one,List.getElem?_drop,show f'+(a - f')=a by omega]
   have:T[a]?=some b:=by
    have h0:(T.drop a)[0]?=some b:=by rw [hd]; rfl
    rw [List.getElem?_drop] at h0; exact h0
   rw [this]; rfl
  rw [spP] at hx
  by_cases h13:b=13
  ·rw [if_pos h13] at hx
   have hne:¬ (p=true∧(b::t).head?=some 10):=by rw [h13]; simp
   rw [if_neg hne] at hb
   by_cases ht:t.head?=some 10
   ·rw [if_pos ht] at hx
    refine zmm T t true f (a+1) hd1 (by omega) (fun _ _=>by omega) ?_ (by omega) x hx
    rw [if_pos ⟨rfl,ht⟩]; exact hb
   ·rw [if_neg ht] at hx
    rcases List.mem_cons.1 hx with rfl | hx
    ·exact ⟨hf,ha,hb⟩
    ·refine zmm T t true (a+1) (a+1) hd1 (Nat.le_refl _) (fun _ h=>absurd h ht) ?_ (by omega) x hx
     rw [if_neg (fun h=>ht h.2),Nat.sub_self,List.take_zero]
     intro y hy; cases hy
  ·rw [if_neg h13] at hx
   by_cases h10:b=10
   ·rw [if_pos h10] at hx
    rcases List.mem_cons.1 hx with rfl | hx
    ·cases p with
     | true =>
      have:=hp rfl (by rw [h10]; rfl)
      rw [if_pos ⟨rfl,by rw [h10]; rfl⟩] at hb
      exact ⟨by show f≤a - 1; omega,by show a - 1≤_; omega,hb⟩
     | false =>
      rw [if_neg (by simp)] at hb
      exact ⟨hf,ha,hb⟩
    ·refine zmm T t false (a+1) (a+1) hd1 (Nat.le_refl _) (fun h=>by cases h) ?_ (by omega) x hx
     rw [if_neg (by simp),Nat.sub_self,List.take_zero]
     intro y hy; cases hy
   ·rw [if_neg h10] at hx
    refine zmm T t false f (a+1) hd1 (by omega) (fun h=>by cases h) ?_ (by omega) x hx
    rw [if_neg (by simp),hsnoc f hf]
    have hne:¬ (p=true∧(b::t).head?=some 10):=fun h=>h10 (Option.some.inj h.2)
    rw [if_neg hne] at hb
    intro y hy
    rcases List.mem_append.1 hy with hy | hy
    ·exact hb y hy
    ·rw [List.mem_singleton] at hy
     subst hy
     unfold isE
     rw [beq_eq_false_iff_ne.2 h13,beq_eq_false_iff_ne.2 h10]; rfl
theorem zlo (T:List UInt8):∀ x∈zcE T,x.1≤x.2∧x.2≤T.length∧∀ b∈(T.drop x.1).take (x.2 - x.1),isE b=false :=
 zmm T T false 0 0 (List.drop_zero) (Nat.le_refl _) (fun h=>by cases h) (by intro b hb; simp at hb) (Nat.zero_le _)
theorem zgK:∀ (l:List UInt8) (p:Bool) (f a:Nat),(spP p f a l).length≤l.length+1
 | [],p,f,a=>Nat.le_refl _
 | b::t,p,f,a=>by
  rw [spP,List.length_cons]
  split
  ·split
   ·have:=zgK t true f (a+1); omega
   ·rw [List.length_cons]; have:=zgK t true (a+1) (a+1); omega
  ·split
   ·rw [List.length_cons]; have:=zgK t false (a+1) (a+1); omega
   ·have:=zgK t false f (a+1); omega
def zgF (T:List UInt8):List (Nat×List UInt8):=(zcE T).map fun x=>(x.1,(T.drop x.1).take (x.2 - x.1))
structure RS where
 t:List UInt8
 stz:List (List (List UInt8))
 vs:List Gapi_Verse
 first:Bool
 row:Bool
def zjQ (z:List (List (List UInt8))):List (List UInt8):=z.getLastD []
def zc1 (st:RS):List (List (List UInt8)):=if st.row then st.stz else st.stz++[[]]
def zgI (f:Nat) (x:List UInt8) (z:List (List (List UInt8))):Gapi_Verse:=⟨mkB (x.drop (ind x)),ind x,(z.length:Int) - 1,(zjQ z).length,(f:Int)+ind x,((f+x.length:Nat):Int)⟩
def znh (st:RS) (f:Nat) (x:List UInt8):RS :=
 ⟨st.t,(zc1 st).dropLast++[zjQ (zc1 st)++[x]],st.vs++[zgI f x (zc1 st)],false,true⟩
def zfL (st:RS) (x:Nat×List UInt8):Except Gapi_Spot RS :=
 if zim x.2=true then .ok { st with row:=false }
 else if 1024<x.2.length then .error ⟨3,(x.1:Int)+1024⟩
 else if st.first=true∧zqI x.2=true then .ok { st with first:=false,t:=x.2.drop 2 }
 else if st.vs.length=512 then .error ⟨3,x.1⟩
 else .ok (znh st x.1 x.2)
def zgB:RS→List (Nat×List UInt8)→Except Gapi_Spot RS
 | st,[]=>.ok st
 | st,x::xs=>match zfL st x with
  | .ok st'=>zgB st' xs
  | .error e=>.error e
def rs0:RS:=⟨[],[],[],true,false⟩
def rd (T:List UInt8):Except Gapi_Spot RS:=if 65536<T.length then .error ⟨3,65536⟩ else zgB rs0 (zgF T)
def tot (z:List (List (List UInt8))):Nat:=(z.map List.length).sum
def ziu:Nat→List (List (List UInt8))→List Gapi_Span
 | _,[]=>[]
 | n,r::rs=>⟨n,((n+r.length:Nat):Int)⟩::ziu (n+r.length) rs
theorem zjf:∀ (a b:List (List (List UInt8))) (n:Nat),ziu n (a++b)=ziu n a++ziu (n+tot a) b
 | [],b,n=>rfl
 | r::a,b,n=>by
  show _::ziu (n+r.length) (a++b)=_
  rw [zjf a b]
  have:n+tot (r::a)=n+r.length+tot a:=by unfold tot; rw [List.map_cons,List.sum_cons]; omega
  rw [this]; rfl
theorem zg1:∀ (a:List (List (List UInt8))) (n:Nat),(ziu n a).length=a.length
 | [],n=>rfl
 | r::a,n=>by rw [ziu,List.length_cons,List.length_cons,zg1 a]
theorem zjw (a b:List (List (List UInt8))):tot (a++b)=tot a+tot b:=by unfold tot; rw [List.map_append,List.sum_append]
theorem zjv (r:List (List UInt8)):tot [r]=r.length:=by unfold tot; simp
theorem zmO {z:List (List (List UInt8))} (h:z≠[]):z=z.dropLast++[zjQ z]:=by
 unfold zjQ
 rw [List.getLastD_eq_getLast?,List.getLast?_eq_some_getLast h]
 exact (List.dropLast_concat_getLast h).symm
structure RInv (st:RS):Prop where
 tot:st.vs.length=tot st.stz
 row:st.row=true→st.stz≠[]
 most:st.vs.length≤512
 ne:∀ r∈st.stz,r≠[]
 t0:st.first=true→st.t=[]
theorem zrx:∀ (z:List (List (List UInt8))),(∀ r∈z,r≠[])→z.length≤tot z
 | [],h=>Nat.le_refl _
 | r::z,h=>by
  have h1:=zrx z fun y hy=>h y (by simp [hy])
  have h2:0<r.length:=List.length_pos_iff.2 (h r (by simp))
  have:tot (r::z)=r.length+tot z:=by unfold tot; rw [List.map_cons,List.sum_cons]
  rw [this,List.length_cons]; omega
theorem RInv.stzLen {st:RS} (h:RInv st):st.stz.length≤512:=Nat.le_trans (zrx _ h.ne) (h.tot ▸ h.most)
theorem zn7 {st:RS} (h:RInv st):zc1 st≠[]:=by
 unfold zc1
 split
 ·rename_i hr; exact h.row hr
 ·simp
theorem zmH {st:RS} {n:Nat} (h:st.stz.length≤n):(zc1 st).length≤n+1:=by
 unfold zc1
 split
 ·omega
 ·rw [List.length_append,List.length_singleton]; omega
theorem zjM (st:RS):tot (zc1 st)=tot st.stz:=by
 unfold zc1
 split
 ·rfl
 ·rw [zjw,zjv]; rfl
theorem RInv.step {st st':RS} {x:Nat×List UInt8} (h:RInv st) (hs:zfL st x=.ok st'):RInv st':=by
 unfold zfL at hs
 split at hs
 ·cases hs; exact ⟨h.tot,(fun e=>by cases e),h.most,h.ne,h.t0⟩
 ·split at hs
  ·cases hs
  ·split at hs
   ·cases hs; exact ⟨h.tot,h.row,h.most,h.ne,(fun e=>by cases e)⟩
   ·split at hs
    ·cases hs
    ·rename_i h512
     cases hs
     have e:=zmO (zn7 h)
     refine ⟨?_,(fun _=>by simp [znh]),?_,?_,(fun e=>by cases e)⟩
     ·show (st.vs++[_]).length=Go.Proofs.YtbempdelckaccaaDoor.tot ((zc1 st).dropLast++[zjQ (zc1 st)++[x.2]])
      have h2:=zjM st
      rw [e,zjw,zjv] at h2
      rw [zjw,zjv,List.length_append,List.length_append,List.length_singleton,List.length_singleton,h.tot,← h2]
      omega
     ·show (st.vs++[_]).length≤512
      rw [List.length_append,List.length_singleton]
      have:=h.most; omega
     ·intro r hr
      rcases List.mem_append.1 hr with hr | hr
      ·have hm:r∈zc1 st:=(List.dropLast_sublist _).mem hr
       unfold zc1 at hm hr
       split at hm
       ·exact h.ne r hm
       ·rename_i hrow
        rw [if_neg hrow,List.dropLast_concat] at hr
        exact h.ne r hr
      ·rw [List.mem_singleton] at hr
       subst hr; simp
theorem znq:RInv rs0:=⟨rfl,(fun e=>by cases e),Nat.zero_le _,(fun r hr=>by cases hr),(fun _=>rfl)⟩
theorem RInv.fold:∀ {xs:List (Nat×List UInt8)} {st st':RS},RInv st→zgB st xs=.ok st'→RInv st'
 | [],st,st',h,hs=>by cases hs; exact h
 | x::xs,st,st',h,hs=>by
  unfold zgB at hs
  cases he:zfL st x with
  | ok s1=>rw [he] at hs; exact RInv.fold (h.step he) hs
  | error e=>rw [he] at hs; cases hs
theorem zjC {α:Type} (a:List α) (x y:α):(a++[x]).set a.length y=a++[y]:=by simp
def mkZ (z:List (List (List UInt8))):List (List ByteArray):=z.map (·.map mkB)
section
variable {T:List UInt8} {st:RS} {sp:Nat×Nat} {k:Nat}
theorem zlI {st:RS} (h:RInv st):∃ init r,zc1 st=init++[r]∧zjQ (zc1 st)=r∧(zc1 st).dropLast=init∧tot init+r.length=st.vs.length∧ziu 0 (zc1 st)=ziu 0 init++[⟨(tot init:Int),(st.vs.length:Int)⟩]:=by
 have e:=zmO (zn7 h)
 refine ⟨_,_,e,rfl,rfl,?_,?_⟩
 ·have h2:=zjM st
  rw [e,zjw,zjv] at h2
  rw [h.tot]; exact h2
 ·have h2:=zjM st
  rw [e,zjw,zjv] at h2
  conv=>lhs; rw [e]
  rw [zjf,Nat.zero_add]
  show _++[(⟨(tot (zc1 st).dropLast:Int),((tot (zc1 st).dropLast+(zjQ (zc1 st)).length:Nat):Int)⟩:Gapi_Span)]=_
  rw [h2,h.tot]
theorem zpx {J:ByteArray→(List Gapi_Verse)→(List Gapi_Span)→Option ((Option Gpoem_Poem)×Gapi_Spot)} {m:Gplace_Map} {n:Int} {ag:ByteArray→(List Gapi_Verse)→(List Gapi_Span)→Bool→Bool→Int→Option ((Option Gpoem_Poem)×Gapi_Spot)}
  (hT:T.length≤65536) (hI:RInv st) (hk:(zcE T)[k]?=some sp) (hm:m.lines.map spE=(zcE T).map mkS) (hn:(k:Int)<n) :
  zc9 (mkB T) J m n ag (mkB st.t) st.vs (ziu 0 st.stz) st.first st.row (k:Int) =
   match zfL st (sp.1,(T.drop sp.1).take (sp.2 - sp.1)) with
   | .error e=>some (none,e)
   | .ok st'=>ag (mkB st'.t) st'.vs (ziu 0 st'.stz) st'.first st'.row ((k+1:Nat):Int):=by
 obtain ⟨h1,h2,_⟩:=zlo T sp (List.mem_of_getElem? hk)
 have hkl:=(List.getElem?_eq_some_iff.1 hk).1
 have hkb:=zgK T false 0 0
 have hkb2:(zcE T).length≤T.length+1:=hkb
 obtain ⟨q,hq,hqs⟩:∃ q,m.lines[k]?=some q∧spE q=mkS sp:=by
  have h3:(m.lines.map spE)[k]?=some (mkS sp):=by rw [hm,List.getElem?_map,hk]; rfl
  rw [List.getElem?_map] at h3
  obtain ⟨q,a,b⟩:=Option.map_eq_some_iff.1 h3
  exact ⟨q,a,b⟩
 have hlen:m.lines.length=(zcE T).length:=by have:=congrArg List.length hm; simpa using this
 have hq1:q.span_From=(sp.1:Int):=congrArg Gapi_Span.From hqs
 have hq2:q.span_To=(sp.2:Int):=congrArg Gapi_Span.To hqs
 have hspan:zdW m (k:Int)=some ((⟨(sp.1:Int),(sp.2:Int)⟩:Gapi_Span),q.end_,0):=by
  unfold zdW
  refine zay (decide_eq_false (by omega)) (zay (decide_eq_false (by omega)) (zaM (zfw hq) ?_))
  rw [hq1,hq2]
 have hcut:zbT (mkB T) (sp.1:Int) (sp.2:Int)=mkB ((T.drop sp.1).take (sp.2 - sp.1)):=zl3 T sp.1 sp.2
 generalize hx:(T.drop sp.1).take (sp.2 - sp.1)=x at hcut ⊢
 have hxl:x.length=sp.2 - sp.1:=by rw [← hx,List.length_take,List.length_drop]; omega
 unfold zc9
 refine zaz (decide_eq_true hn) (zbE (zbE (zaM hspan (zbm ⟨by show (0:Int)≤(sp.1:Int); omega,by show (sp.1:Int)≤sp.2; omega,by show (sp.2:Int)≤_; rw [zbP]; omega⟩ ?_))))
 show zal (zeM (zbT (mkB T) (sp.1:Int) (sp.2:Int))) _=_
 rw [hcut]
 refine zaM (zs6 x (by omega)) ?_
 unfold zfL
 have goOn:∀ (a:ByteArray) (b:List Gapi_Verse) (c:List Gapi_Span) (d e:Bool),(grd (I64 ((k:Int)+1))<|ag a b c d e ((k:Int)+1))=ag a b c d e ((k+1:Nat):Int):=fun a b c d e=>zbm ⟨by omega,by omega⟩ (by rw [show (k:Int)+1=((k+1:Nat):Int) by omega])
 cases hb:zim x with
 | true =>
  rw [if_pos rfl]
  exact zaz rfl (goOn _ _ _ _ _)
 | false =>
  rw [if_neg (by decide)]
  refine zay rfl ?_
  by_cases hbig:1024<x.length
  ·rw [if_pos hbig]
   exact zaz (decide_eq_true (by rw [zbP]; omega)) (zbm ⟨by show _≤(sp.1:Int)+1024; omega,by show (sp.1:Int)+1024≤_; omega⟩ rfl)
  ·rw [if_neg hbig]
   refine zay (decide_eq_false (by rw [zbP]; omega)) ?_
   have h512:=hI.most
   have verse:¬ (st.first=true∧zqI x=true)→(zaw (((st.vs.length:Int):Int)==512) (some (none,(⟨3,(sp.1:Int)⟩:Gapi_Spot))) (zbl (fun (j4:(List Gapi_Span)→Option ((Option Gpoem_Poem)×Gapi_Spot)) =>
     zaw (!st.row) (grd ((ziu 0 st.stz).length+1≤2147483648)<|j4 (ziu 0 st.stz++[(⟨(st.vs.length:Int),(st.vs.length:Int)⟩:Gapi_Span)])) (j4 (ziu 0 st.stz))) (fun (p20:List Gapi_Span) =>
      grd (I64 ((p20.length:Int) - 1)) <|
      zal (zbF p20 ((p20.length:Int) - 1)) fun (q1:Gapi_Span) =>
      zal (zdS (mkB x)) fun (r7:Int) =>
      grd (0≤(r7:Int)∧(r7:Int)≤((mkB x).size:Int)∧(((mkB x).size:Int):Int)≤((mkB x).size:Int)) <|
      grd (I64 ((p20.length:Int) - 1)) <|
      grd (I64 ((st.vs.length:Int) - q1.From)) <|
      grd (I64 ((sp.1:Int)+r7)) <|
      grd (st.vs.length+1≤2147483648) <|
      grd (I64 ((st.vs.length:Int)+1)) <|
      (grd (I64 ((k:Int)+1))<|ag (mkB st.t) (st.vs++[(⟨zbT (mkB x) r7 ((mkB x).size:Int),r7,(p20.length:Int) - 1,(st.vs.length:Int) - q1.From,(sp.1:Int)+r7,(sp.2:Int)⟩:Gapi_Verse)]) (p20.set ((p20.length:Int) - 1:Int).toNat (⟨q1.From,(st.vs.length:Int)+1⟩:Gapi_Span)) false true ((k:Int)+1))))) =
     match (if st.vs.length=512 then Except.error (⟨3,(sp.1:Int)⟩:Gapi_Spot) else Except.ok (znh st sp.1 x)) with
     | .error e=>some (none,e)
     | .ok st'=>ag (mkB st'.t) st'.vs (ziu 0 st'.stz) st'.first st'.row ((k+1:Nat):Int):=fun hnt=>by
    by_cases hfull:st.vs.length=512
    ·rw [if_pos hfull]; exact zaz (beq_iff_eq.2 (by omega)) rfl
    ·rw [if_neg hfull]
     refine zay (beq_eq_false_iff_ne.2 (by omega)) (zbE ?_)
     obtain ⟨init,r,he,hl,hdl,htot,hsp⟩:=zlI hI
     have hzl:=hI.stzLen
     have hol:(zc1 st).length≤513:=zmH hzl
     have hil:init.length+1=(zc1 st).length:=by rw [he]; simp
     have tail:∀ p20:List Gapi_Span,p20=ziu 0 (zc1 st)→(grd (I64 ((p20.length:Int) - 1)) <|
      zal (zbF p20 ((p20.length:Int) - 1)) fun (q1:Gapi_Span) =>
      zal (zdS (mkB x)) fun (r7:Int) =>
      grd (0≤(r7:Int)∧(r7:Int)≤((mkB x).size:Int)∧(((mkB x).size:Int):Int)≤((mkB x).size:Int)) <|
      grd (I64 ((p20.length:Int) - 1)) <|
      grd (I64 ((st.vs.length:Int) - q1.From)) <|
      grd (I64 ((sp.1:Int)+r7)) <|
      grd (st.vs.length+1≤2147483648) <|
      grd (I64 ((st.vs.length:Int)+1)) <|
      (grd (I64 ((k:Int)+1))<|ag (mkB st.t) (st.vs++[(⟨zbT (mkB x) r7 ((mkB x).size:Int),r7,(p20.length:Int) - 1,(st.vs.length:Int) - q1.From,(sp.1:Int)+r7,(sp.2:Int)⟩:Gapi_Verse)]) (p20.set ((p20.length:Int) - 1:Int).toNat (⟨q1.From,(st.vs.length:Int)+1⟩:Gapi_Span)) false true ((k:Int)+1))) =
       ag (mkB (znh st sp.1 x).t) (znh st sp.1 x).vs (ziu 0 (znh st sp.1 x).stz) (znh st sp.1 x).first (znh st sp.1 x).row ((k+1:Nat):Int):=fun p20 hp=>by
      have hpl:p20.length=(zc1 st).length:=by rw [hp,zg1]
      have hg:zbF p20 ((p20.length:Int) - 1)=some ⟨(tot init:Int),(st.vs.length:Int)⟩:=by
       refine zdm (n:=init.length) (by omega) ?_
       rw [hp,hsp,List.getElem?_append_right (by rw [zg1]; exact Nat.le_refl _),zg1,Nat.sub_self]; rfl
      have hind:=zpO x
      refine zbm ⟨by omega,by omega⟩ (zaM hg (zaM (zq9 x (by omega)) (zbm ⟨by omega,by rw [zbP]; omega,by omega⟩ (zbm ⟨by omega,by omega⟩ (zbm ⟨by show _≤(st.vs.length:Int) - (tot init:Int); omega,by show (st.vs.length:Int) - (tot init:Int)≤_; omega⟩ (zbm ⟨by omega,by omega⟩ (zbm (by omega) (zbm ⟨by omega,by omega⟩ ?_))))))))
      refine (goOn _ _ _ _ _).trans ?_
      have e1:(p20.set ((p20.length:Int) - 1:Int).toNat (⟨(tot init:Int),(st.vs.length:Int)+1⟩:Gapi_Span))=ziu 0 (znh st sp.1 x).stz:=by
       rw [show ((p20.length:Int) - 1:Int).toNat=(ziu 0 init).length by rw [zg1]; omega,hp,hsp,zjC]
       show _=ziu 0 ((zc1 st).dropLast++[zjQ (zc1 st)++[x]])
       rw [hdl,hl,zjf,Nat.zero_add]
       show _=_++[(⟨(tot init:Int),((tot init+(r++[x]).length:Nat):Int)⟩:Gapi_Span)]
       rw [List.length_append,List.length_singleton]
       congr 3
       omega
      have e2:(⟨zbT (mkB x) (ind x:Int) ((mkB x).size:Int),(ind x:Int),(p20.length:Int) - 1,(st.vs.length:Int) - (tot init:Int),(sp.1:Int)+(ind x:Int),(sp.2:Int)⟩:Gapi_Verse)=zgI sp.1 x (zc1 st):=by
       unfold zgI
       rw [zj7,hpl,hl]
       congr 1
       ·omega
       ·omega
      show ag _ (st.vs++[_]) _ _ _ _=_
      rw [e2]
      show ag _ _ (p20.set _ _) _ _ _=_
      rw [e1]
      rfl
     cases hr:st.row with
     | true =>
      refine zay rfl ?_
      exact tail _ (by unfold zc1; rw [hr]; rfl)
     | false =>
      refine zaz rfl (zbm (by rw [zg1]; omega) ?_)
      refine tail _ ?_
      unfold zc1; rw [hr,if_neg (by decide),zjf,Nat.zero_add,← hI.tot]
      rfl
   cases hf:st.first with
   | true =>
    refine zaz rfl (zaM (zqH x) ?_)
    cases ht:zqI x with
    | true =>
     rw [if_pos ⟨rfl,rfl⟩]
     have hx1:1≤x.length:=by
      cases x with
      | nil=>cases ht
      | cons b t=>simp
     refine zaz rfl (zbm ⟨by omega,by rw [zbP]; omega,by omega⟩ (zaM (a:=mkB (x.drop 2)) ?_ (goOn _ _ _ _ _)))
     have:=zj7 x 1
     rw [show ((1:Nat):Int)=1 from rfl] at this
     rw [this]
     exact zsk x ht
    | false =>
     rw [if_neg (by simp)]
     refine zay rfl ?_
     exact verse (by rw [ht]; simp)
   | false =>
    rw [if_neg (by simp)]
    refine zay rfl ?_
    exact verse (by rw [hf]; simp)
end
theorem zpy {T:List UInt8} {J:ByteArray→(List Gapi_Verse)→(List Gapi_Span)→Option ((Option Gpoem_Poem)×Gapi_Spot)} {m:Gplace_Map} (hT:T.length≤65536) (hm:m.lines.map spE=(zcE T).map mkS) :
  ∀ (n k:Nat) (st:RS),RInv st→k≤(zcE T).length→(zcE T).length - k<n →
   zaF (fun _ _ _ _ _ _=>none) (zc9 (mkB T) J m (m.lines.length:Int)) n (mkB st.t) st.vs (ziu 0 st.stz) st.first st.row (k:Int) =
    match zgB st ((zgF T).drop k) with
    | .error e=>some (none,e)
    | .ok st'=>J (mkB st'.t) st'.vs (ziu 0 st'.stz):=by
 have hlen:m.lines.length=(zcE T).length:=by have:=congrArg List.length hm; simpa using this
 intro n
 induction n with
 | zero=>intro k st h1 h2 h3; omega
 | succ n ih =>
  intro k st hI hk hn
  rw [zd3]
  obtain ⟨ag,hag⟩:∃ ag,ag=zaF (fun _ _ _ _ _ _=>none) (zc9 (mkB T) J m (m.lines.length:Int)) n:=⟨_,rfl⟩
  rw [← hag] at ih ⊢
  rcases Nat.lt_or_ge k (zcE T).length with h | h
  ·obtain ⟨sp,hsp⟩:∃ sp,(zcE T)[k]?=some sp:=⟨_,List.getElem?_eq_getElem h⟩
   rw [zpx hT hI hsp hm (by omega)]
   have hi:(zgF T).drop k=(sp.1,(T.drop sp.1).take (sp.2 - sp.1))::(zgF T).drop (k+1):=by
    have hl:k<(zgF T).length:=by unfold zgF; rw [List.length_map]; exact h
    rw [List.drop_eq_getElem_cons hl]
    congr 1
    have:(zgF T)[k]?=some (sp.1,(T.drop sp.1).take (sp.2 - sp.1)):=by unfold zgF; rw [List.getElem?_map,hsp]; rfl
    rw [List.getElem?_eq_getElem hl] at this
    exact Option.some.inj this
   rw [hi,zgB]
   cases hs:zfL st (sp.1,(T.drop sp.1).take (sp.2 - sp.1)) with
   | error e=>rfl
   | ok st'=>exact ih (k+1) st' (hI.step hs) (by omega) (by omega)
  ·rw [List.drop_eq_nil_of_le (by unfold zgF; rw [List.length_map]; exact h)]
   unfold zc9
   exact zay (decide_eq_false (by omega)) rfl
theorem ztX (T:List UInt8):zeC (mkB T)=match rd T with
  | .error e=>some (none,e)
  | .ok st=>some (some (⟨mkB st.t,st.vs,ziu 0 st.stz,mkB T⟩:Gpoem_Poem),(⟨0,0⟩:Gapi_Spot)):=by
 unfold zeC rd
 by_cases h:65536<T.length
 ·rw [if_pos h]
  exact zaM (zq3 _ (by rw [zbP]; exact h)) (zaz rfl rfl)
 ·rw [if_neg h]
  obtain ⟨m,h1,h2,h3⟩:=zvd (mkB T) (by rw [zbP]; omega)
  refine zaM h1 (zay rfl (zbE (zaM rfl (zaM rfl ?_))))
  have hl:=zgK T false 0 0
  have hl2:(zcE T).length≤T.length+1:=hl
  have:=zpy (J:=fun (p1:ByteArray) (p2:List Gapi_Verse) (p3:List Gapi_Span)=>some ((some (⟨p1,p2,p3,mkB T⟩:Gpoem_Poem)),(⟨0,0⟩:Gapi_Spot))) (T:=T) (m:=m) (by omega) h3 zbW 0 rs0 znq (Nat.zero_le _) (by unfold zbW; omega)
  rw [List.drop_zero] at this
  exact this
end Go.Proofs.YtbempdelckaccaaDoor

namespace Go.Proofs.YtbempdelckaccaaDoor
open Go.RowKit Go.Lib
set_option linter.unusedVariables false
set_option linter.unusedSimpArgs false
theorem zlF (a b:List (List (List UInt8))):mkZ (a++b)=mkZ a++mkZ b:=List.map_append
theorem zjN (a:List (List (List UInt8))):(mkZ a).length=a.length:=List.length_map ..
section
variable {T:List UInt8} {st:RS} {sp:Nat×Nat} {k:Nat}
theorem zmx {J:ByteArray→(List (List ByteArray))→(List Gapi_Verse)→Option (Gref17_Poem×(List Gapi_Verse)×Gapi_Spot)} {ag:ByteArray→(List (List ByteArray))→(List Gapi_Verse)→Bool→Bool→Int→Option (Gref17_Poem×(List Gapi_Verse)×Gapi_Spot)}
  (hT:T.length≤65536) (hI:RInv st) (hk:(zcE T)[k]?=some sp) :
  zcL (mkB T) J ((zcE T).map mkS) ag (mkB st.t) (mkZ st.stz) st.vs st.first st.row (k:Int) =
   match zfL st (sp.1,(T.drop sp.1).take (sp.2 - sp.1)) with
   | .error e=>some ((⟨ByteArray.empty,([]:List (List ByteArray))⟩:Gref17_Poem),([]:List Gapi_Verse),e)
   | .ok st'=>ag (mkB st'.t) (mkZ st'.stz) st'.vs st'.first st'.row ((k+1:Nat):Int):=by
 obtain ⟨h1,h2,_⟩:=zlo T sp (List.mem_of_getElem? hk)
 have hkl:=(List.getElem?_eq_some_iff.1 hk).1
 have hkb:=zgK T false 0 0
 have hkb2:(zcE T).length≤T.length+1:=hkb
 have hq:zbF ((zcE T).map mkS) (k:Int)=some (mkS sp):=zfw (by rw [List.getElem?_map,hk]; rfl)
 have hcut:zbT (mkB T) (sp.1:Int) (sp.2:Int)=mkB ((T.drop sp.1).take (sp.2 - sp.1)):=zl3 T sp.1 sp.2
 generalize hx:(T.drop sp.1).take (sp.2 - sp.1)=x at hcut ⊢
 have hxl:x.length=sp.2 - sp.1:=by rw [← hx,List.length_take,List.length_drop]; omega
 unfold zcL
 refine zaz (decide_eq_true (by rw [List.length_map]; omega)) (zbE (zaM hq (zbm ⟨by show (0:Int)≤(sp.1:Int); omega,by show (sp.1:Int)≤sp.2; omega,by show (sp.2:Int)≤_; rw [zbP]; omega⟩ ?_)))
 show zal (zel (zbT (mkB T) (sp.1:Int) (sp.2:Int))) _=_
 have hcut2:zbT (mkB T) (mkS sp).From (mkS sp).To=mkB x:=hcut
 rw [hcut,hcut2]
 refine zaM (zoB x (by omega)) ?_
 unfold zfL
 have goOn:∀ (a:ByteArray) (b:List (List ByteArray)) (c:List Gapi_Verse) (d e:Bool),(grd (I64 ((k:Int)+1))<|ag a b c d e ((k:Int)+1))=ag a b c d e ((k+1:Nat):Int):=fun a b c d e=>zbm ⟨by omega,by omega⟩ (by rw [show (k:Int)+1=((k+1:Nat):Int) by omega])
 cases hb:zim x with
 | true =>
  rw [if_pos rfl]
  exact zaz rfl (goOn _ _ _ _ _)
 | false =>
  rw [if_neg (by decide)]
  refine zay rfl ?_
  by_cases hbig:1024<x.length
  ·rw [if_pos hbig]
   exact zaz (decide_eq_true (by rw [zbP]; omega)) (zbm ⟨by show _≤(sp.1:Int)+1024; omega,by show (sp.1:Int)+1024≤_; omega⟩ rfl)
  ·rw [if_neg hbig]
   refine zay (decide_eq_false (by rw [zbP]; omega)) ?_
   have h512:=hI.most
   have verse:∀ Z:Option (Gref17_Poem×(List Gapi_Verse)×Gapi_Spot),Z=(zaw (((st.vs.length:Int):Int)==512) (some ((⟨ByteArray.empty,([]:List (List ByteArray))⟩:Gref17_Poem),([]:List Gapi_Verse),(⟨3,(mkS sp).From⟩:Gapi_Spot))) (zbl (fun (j5:(List (List ByteArray))→Option (Gref17_Poem×(List Gapi_Verse)×Gapi_Spot)) =>
     zaw (!st.row) (grd ((mkZ st.stz).length+1≤2147483648)<|j5 (mkZ st.stz++[([]:List ByteArray)])) (j5 (mkZ st.stz))) (fun (p15:List (List ByteArray)) =>
      grd (I64 ((p15.length:Int) - 1)) <|
      zal (zbX (mkB x)) fun (r4:Int) =>
      grd (0≤(r4:Int)∧(r4:Int)≤((mkB x).size:Int)∧(((mkB x).size:Int):Int)≤((mkB x).size:Int)) <|
      zal (zbX (mkB x)) fun (r5:Int) =>
      zal (zbF p15 ((p15.length:Int) - 1)) fun (x1:List ByteArray) =>
      zal (zbX (mkB x)) fun (r6:Int) =>
      grd (I64 ((mkS sp).From+r6)) <|
      grd (st.vs.length+1≤2147483648) <|
      zal (zbF p15 ((p15.length:Int) - 1)) fun (x2:List ByteArray) =>
      grd (x2.length+1≤2147483648) <|
      (grd (I64 ((k:Int)+1))<|ag (mkB st.t) (p15.set ((p15.length:Int) - 1:Int).toNat (x2++[mkB x])) (st.vs++[(⟨zbT (mkB x) r4 ((mkB x).size:Int),r5,(p15.length:Int) - 1,(x1.length:Int),(mkS sp).From+r6,(mkS sp).To⟩:Gapi_Verse)]) false true ((k:Int)+1))))) →
     ¬ (st.first=true∧zqI x=true)→Z =
     match (if st.vs.length=512 then Except.error (⟨3,(sp.1:Int)⟩:Gapi_Spot) else Except.ok (znh st sp.1 x)) with
     | .error e=>some ((⟨ByteArray.empty,([]:List (List ByteArray))⟩:Gref17_Poem),([]:List Gapi_Verse),e)
     | .ok st'=>ag (mkB st'.t) (mkZ st'.stz) st'.vs st'.first st'.row ((k+1:Nat):Int):=fun Z hZ hnt=>by
    rw [hZ]
    by_cases hfull:st.vs.length=512
    ·rw [if_pos hfull]; exact zaz (beq_iff_eq.2 (by omega)) rfl
    ·rw [if_neg hfull]
     refine zay (beq_eq_false_iff_ne.2 (by omega)) (zbE ?_)
     obtain ⟨init,r,he,hl,hdl,htot,hsp⟩:=zlI hI
     have hzl:=hI.stzLen
     have hol:(zc1 st).length≤513:=zmH hzl
     have hil:init.length+1=(zc1 st).length:=by rw [he]; simp
     have tail:∀ p15:List (List ByteArray),p15=mkZ (zc1 st)→(grd (I64 ((p15.length:Int) - 1)) <|
      zal (zbX (mkB x)) fun (r4:Int) =>
      grd (0≤(r4:Int)∧(r4:Int)≤((mkB x).size:Int)∧(((mkB x).size:Int):Int)≤((mkB x).size:Int)) <|
      zal (zbX (mkB x)) fun (r5:Int) =>
      zal (zbF p15 ((p15.length:Int) - 1)) fun (x1:List ByteArray) =>
      zal (zbX (mkB x)) fun (r6:Int) =>
      grd (I64 ((mkS sp).From+r6)) <|
      grd (st.vs.length+1≤2147483648) <|
      zal (zbF p15 ((p15.length:Int) - 1)) fun (x2:List ByteArray) =>
      grd (x2.length+1≤2147483648) <|
      (grd (I64 ((k:Int)+1))<|ag (mkB st.t) (p15.set ((p15.length:Int) - 1:Int).toNat (x2++[mkB x])) (st.vs++[(⟨zbT (mkB x) r4 ((mkB x).size:Int),r5,(p15.length:Int) - 1,(x1.length:Int),(mkS sp).From+r6,(mkS sp).To⟩:Gapi_Verse)]) false true ((k:Int)+1))) =
       ag (mkB (znh st sp.1 x).t) (mkZ (znh st sp.1 x).stz) (znh st sp.1 x).vs (znh st sp.1 x).first (znh st sp.1 x).row ((k+1:Nat):Int):=fun p15 hp=>by
      have hpl:p15.length=(zc1 st).length:=by rw [hp,zjN]
      have hg:zbF p15 ((p15.length:Int) - 1)=some (r.map mkB):=by
       refine zdm (n:=init.length) (by omega) ?_
       rw [hp,he,zlF,List.getElem?_append_right (by rw [zjN]; exact Nat.le_refl _),zjN,Nat.sub_self]; rfl
      have hind:=zpO x
      refine zbm ⟨by omega,by omega⟩ (zaM (zhs x (by omega)) (zbm ⟨by omega,by rw [zbP]; omega,by omega⟩ (zaM (zhs x (by omega)) (zaM hg (zaM (zhs x (by omega)) (zbm ⟨by show _≤(sp.1:Int)+_; omega,by show (sp.1:Int)+_≤_; omega⟩ (zbm (by omega) (zaM hg (zbm (by rw [List.length_map]; omega) ?_)))))))))
      refine (goOn _ _ _ _ _).trans ?_
      have e1:(p15.set ((p15.length:Int) - 1:Int).toNat (r.map mkB++[mkB x]))=mkZ (znh st sp.1 x).stz:=by
       rw [show ((p15.length:Int) - 1:Int).toNat=(mkZ init).length by rw [zjN]; omega,hp,he,zlF]
       show ((mkZ init++[r.map mkB]).set _ _)=mkZ ((zc1 st).dropLast++[zjQ (zc1 st)++[x]])
       rw [zjC,hdl,hl,zlF]
       show _=_++[(r++[x]).map mkB]
       rw [List.map_append]; rfl
      have e2:(⟨zbT (mkB x) (ind x:Int) ((mkB x).size:Int),(ind x:Int),(p15.length:Int) - 1,((r.map mkB).length:Int),(mkS sp).From+(ind x:Int),(mkS sp).To⟩:Gapi_Verse)=zgI sp.1 x (zc1 st):=by
       unfold zgI
       rw [zj7,hpl,hl,List.length_map]
       congr 1
       show (sp.2:Int)=_
       omega
      rw [e2,e1]
      rfl
     cases hr:st.row with
     | true =>
      refine zay rfl ?_
      exact tail _ (by unfold zc1; rw [hr]; rfl)
     | false =>
      refine zaz rfl (zbm (by rw [zjN]; omega) ?_)
      refine tail _ ?_
      unfold zc1; rw [hr,if_neg (by decide),zlF]
      rfl
   refine zbE ?_
   cases hf:st.first with
   | true =>
    refine zaz rfl (zaM (zns x) ?_)
    cases ht:zqI x with
    | true =>
     rw [if_pos ⟨rfl,rfl⟩]
     refine zaz rfl (zbE ?_)
     by_cases h2l:2<x.length
     ·refine zaz (decide_eq_true (by rw [zbP]; omega)) (zbm ⟨by omega,by rw [zbP]; omega,by omega⟩ ?_)
      have:=zj7 x 2
      rw [show ((2:Nat):Int)=2 from rfl] at this
      rw [this]
      exact goOn _ _ _ _ _
     ·refine zay (decide_eq_false (by rw [zbP]; omega)) ?_
      rw [hI.t0 hf,List.drop_eq_nil_of_le (by show x.length≤2; omega)]
      exact goOn _ _ _ _ _
    | false =>
     rw [if_neg (by simp)]
     refine zay rfl ?_
     exact verse _ rfl (by rw [ht]; simp)
   | false =>
    rw [if_neg (by simp)]
    refine zay rfl ?_
    exact verse _ rfl (by rw [hf]; simp)
end
theorem zmy {T:List UInt8} {J:ByteArray→(List (List ByteArray))→(List Gapi_Verse)→Option (Gref17_Poem×(List Gapi_Verse)×Gapi_Spot)} (hT:T.length≤65536) :
  ∀ (n k:Nat) (st:RS),RInv st→k≤(zcE T).length→(zcE T).length - k<n →
   zaF (fun _ _ _ _ _ _=>none) (zcL (mkB T) J ((zcE T).map mkS)) n (mkB st.t) (mkZ st.stz) st.vs st.first st.row (k:Int) =
    match zgB st ((zgF T).drop k) with
    | .error e=>some ((⟨ByteArray.empty,([]:List (List ByteArray))⟩:Gref17_Poem),([]:List Gapi_Verse),e)
    | .ok st'=>J (mkB st'.t) (mkZ st'.stz) st'.vs:=by
 intro n
 induction n with
 | zero=>intro k st h1 h2 h3; omega
 | succ n ih =>
  intro k st hI hk hn
  rw [zd3]
  obtain ⟨ag,hag⟩:∃ ag,ag=zaF (fun _ _ _ _ _ _=>none) (zcL (mkB T) J ((zcE T).map mkS)) n:=⟨_,rfl⟩
  rw [← hag] at ih ⊢
  rcases Nat.lt_or_ge k (zcE T).length with h | h
  ·obtain ⟨sp,hsp⟩:∃ sp,(zcE T)[k]?=some sp:=⟨_,List.getElem?_eq_getElem h⟩
   rw [zmx hT hI hsp]
   have hi:(zgF T).drop k=(sp.1,(T.drop sp.1).take (sp.2 - sp.1))::(zgF T).drop (k+1):=by
    have hl:k<(zgF T).length:=by unfold zgF; rw [List.length_map]; exact h
    rw [List.drop_eq_getElem_cons hl]
    congr 1
    have:(zgF T)[k]?=some (sp.1,(T.drop sp.1).take (sp.2 - sp.1)):=by unfold zgF; rw [List.getElem?_map,hsp]; rfl
    rw [List.getElem?_eq_getElem hl] at this
    exact Option.some.inj this
   rw [hi,zgB]
   cases hs:zfL st (sp.1,(T.drop sp.1).take (sp.2 - sp.1)) with
   | error e=>rfl
   | ok st'=>exact ih (k+1) st' (hI.step hs) (by omega) (by omega)
  ·rw [List.drop_eq_nil_of_le (by unfold zgF; rw [List.length_map]; exact h)]
   unfold zcL
   exact zay (decide_eq_false (by rw [List.length_map]; omega)) rfl
theorem zpw (T:List UInt8):zfp (mkB T)=match rd T with
  | .error e=>some ((⟨ByteArray.empty,([]:List (List ByteArray))⟩:Gref17_Poem),([]:List Gapi_Verse),e)
  | .ok st=>some ((⟨mkB st.t,mkZ st.stz⟩:Gref17_Poem),st.vs,(⟨0,0⟩:Gapi_Spot)):=by
 unfold zfp rd
 by_cases h:65536<T.length
 ·rw [if_pos h]
  exact zaz (decide_eq_true (by rw [zbP]; omega)) rfl
 ·rw [if_neg h]
  refine zay (decide_eq_false (by rw [zbP]; omega)) (zbE (zaM (zoA _ (by rw [zbP]; omega)) ?_))
  have hl:=zgK T false 0 0
  have hl2:(zcE T).length≤T.length+1:=hl
  have:=zmy (J:=fun (p1:ByteArray) (p2:List (List ByteArray)) (l1:List Gapi_Verse)=>some ((⟨p1,p2⟩:Gref17_Poem),l1,(⟨0,0⟩:Gapi_Spot))) (T:=T) (by omega) zbW 0 rs0 znq (Nat.zero_le _) (by unfold zbW; omega)
  rw [List.drop_zero] at this
  exact this
end Go.Proofs.YtbempdelckaccaaDoor

namespace Go.Proofs.YtbempdelckaccaaDoor
open Go.RowKit Go.Lib
set_option linter.unusedVariables false
set_option linter.unusedSimpArgs false
def zb8 (c0:Gpoem_Poem) (ag1:Int→Option (List (Int×Gapi_Verse))) (x3:Int):Option (List (Int×Gapi_Verse)) :=
zaw (decide ((x3:Int)<(c0.told_lines.length:Int))) (
zal (zbF c0.told_lines x3) fun (q1:Gapi_Verse) =>
zgW (x3,q1) <|
grd (I64 (x3+1)) <|
ag1 (x3+1)
) (
some []
)
def zdp (c0:Gpoem_Poem):Option (List (Int×Gapi_Verse)) :=
zaF (fun _=>none) (zb8 c0) zbW 0
theorem zhf {b_c0 p_c0:Nat} {c0:Gpoem_Poem} {c0_h0 c0_h1:Hd} {xs:(List (Int×Gapi_Verse))} (h:zdp c0=some xs):ItrR Tryd.prog 86 [zP b_c0] (fun q:Int×Gapi_Verse=>[zI q.1,.agg (zr3 q.2).toArray]) xs [cells b_c0 [zP p_c0] 39,cells p_c0 [.string c0.told_title,c0_h0.v,c0_h1.v,.string c0.source] 81,zv7 c0_h0.v c0.told_lines,zv6 c0_h1.v c0.told_stanzas]:=by
 unfold zdp at h
 refine ItrR.intro Tryd.func86 rfl Tryd.ntmps86 (by simp) ?_
 intro l w0 K I X hrd hy
 obtain ⟨r0,hx0⟩:∃ r,xs=[]++r:=⟨xs,rfl⟩
 have hr0:xs=r0:=hx0
 rw [hr0] at h
 refine zaJ (zyG (zbx (i:=0) hrd rfl ztR rfl dc rfl rfl (zaT rfl (zdE Tryd.underlying39) (zyN (zaN rfl (zas (zaL (zyG (zbx (i:=0) hrd rfl ztR rfl dc rfl rfl (zaA rfl dc rfl ?_))))))))))
 refine zab zfs rfl dc rfl (show _=0 from rfl) (zab ziC rfl dc rfl (show _=1 from rfl) (zbx (i:=1) hrd rfl zps rfl dc rfl rfl (zdy (hrd.vw (i:=2) rfl) rfl dc rfl Tryd.underlying27 (zyR 1 rfl (zyN (zaE ?_))))))
 refine zbn (β:=Nat×Int×(List (Int×Gapi_Verse))×(List (Int×Gapi_Verse))) (fun b=>zaF (fun _=>none) (zb8 c0) b.1 b.2.1=some b.2.2.2∧xs=b.2.2.1++b.2.2.2) (fun b=>[]) (fun b=>[(0,.func (.yield l) #[] #[]),(11,c0_h0.v),(12,zI (c0.told_lines.length:Int)),(13,zI b.2.1)]) (fun b=>[I b.2.2.1]) (fun b=>b.1) (zbW,0,([]:List (Int×Gapi_Verse)),r0) ⟨h,hx0⟩ rfl (za0 rfl) (zae [0] kr rfl) ?_
 rintro ⟨n1,x3,acc3,rr3⟩ ⟨h,hx3⟩
 cases n1 with
 | zero=>exact zdG h
 | succ n1 =>
  obtain ⟨ag1,hag1⟩:∃ ag,ag=zaF (fun _=>none) (zb8 c0) n1:=⟨_,rfl⟩
  have h:zb8 c0 ag1 x3=some rr3:=by rw [hag1]; exact h
  unfold zb8 at h
  refine zyG (zaT rfl zbf (zyN (zaJ ?_)))
  refine zyB rfl h (fun h => ?_) (fun h => ?_)
  ·
   refine zas (zaL (zaJ (zaE (zyG (zyR 1 rfl ?_)))))
   obtain ⟨q1,hq1,h⟩:=zbg h
   refine za8 (hrd.vw (i:=2) rfl) hq1 Tryd.underlying27 zkv rfl dc rfl rfl rfl (zeq (m:=0+(x3:Int).toNat) (j:=0) (i:=2) (q:=q1) (cs:=(zr3 q1)) hrd rfl zst zdu rfl dc rfl (Vw.get (hrd.vw (i:=2) rfl) hq1) rfl rfl rfl ?_)
   refine zbt zsg rfl dc (fun b1 => ?_)
   refine zyR 1 rfl (zaY (k:=1) (vs:=(zr3 q1)) (l':=(zr3 q1)) zkv rfl rfl rfl rfl rfl (show _≤_ by simp) rfl rfl ?_)
   refine zyH (zyR 2 rfl (zba (k:=1) (cs:=(zr3 q1)) zst rfl dc rfl rfl rfl rfl ?_))
   obtain ⟨rr4,hr1,h⟩:=zj9 h
   have hx4:xs=acc3++(x3,q1)::rr4:=by rw [hx3,hr1]
   refine ze3 hy rfl dc rfl hx4 rfl (k:=0) rfl ?_ ?_
   ·
    have hx5:xs=(acc3++[(x3,q1)])++rr4:=by rw [hx4]; simp
    refine zdU rfl dc rfl zcy (zyN (zaN rfl (zas (zag (zaL (zax ?_))))))
    obtain ⟨hg1,h⟩:=zbk h
    refine zaT rfl (zaQ (r:=x3+1) (IntWalk.i64_in _ hg1)) (zyR 1 rfl (zaR ?_))
    subst hag1
    exact za4 (n1,x3+1,acc3++[(x3,q1)],rr4) ⟨h,hx5⟩ (Nat.lt_succ_self _) rfl (za0 rfl) (zae [0] kr rfl)
   refine zdU rfl dc rfl zcy (zyN (za7 rfl (zaI (zaD (zau (zau (zaD ?_)))))))
   exact zma (ds:=[]) acc3 (x3,q1) rr4 hx4 (.inl rfl) Splits.nil Tryd.results86 (zae [0] kr rfl)
  refine za2 (zam (zam (zav ?_)))
  cases h
  exact zl9 (ds:=[]) (.inr rfl) Splits.nil Tryd.results86 (congrArg I (hx3.trans (List.append_nil _))) (zae [0] kr rfl)
def zey (p1:Gpoem_Poem):Option Unit :=
some ()
theorem ziw {bp1:Nat} {p1:Gpoem_Poem} {p1_h0 p1_h1:Hd} {r:Unit} (h:zey p1=some r):FnR Tryd.prog 61 [zP bp1] [cells bp1 [.string p1.told_title,p1_h0.v,p1_h1.v,.string p1.source] 81,zv7 p1_h0.v p1.told_lines,zv6 p1_h1.v p1.told_stanzas] [] (fun v0:Nat=>.func (.func 86) #[] #[zP v0]) (fun v0=>[cells v0 [zP bp1] 39]):=by
 unfold zey at h
 refine FnR.intro Tryd.func61 rfl Tryd.ntmps61 (by simp) ?_
 intro w0 K hrd
 refine zyG ?_
 refine zdQ rfl dc rfl (fun b1 => ?_)
 refine zyR 1 rfl (zyH (zhF (x1:=[]) (x2:=[.tmp 1]) rfl dc rfl rfl (zyR 1 rfl (zyN (zaI ?_)))))
 cases h
 exact zaK (rs:=[.tmp 2]) b1 (.inl rfl) Tryd.results61 (.cons (.tmp rfl) .nil) rfl (zae [0] kr rfl)
end Go.Proofs.YtbempdelckaccaaDoor

namespace Go.Proofs.YtbempdelckaccaaDoor
open Go.RowKit Go.Lib
set_option linter.unusedVariables false
set_option linter.unusedSimpArgs false
end Go.Proofs.YtbempdelckaccaaDoor

namespace Go.Proofs.YtbempdelckaccaaDoor
open Go.RowKit Go.Lib Go.Shelf
set_option linter.unusedVariables false
set_option linter.unusedSimpArgs false
end Go.Proofs.YtbempdelckaccaaDoor

namespace Go.Proofs.YtbempdelckaccaaDoor
open Go.RowKit Go.Lib
set_option linter.unusedVariables false
set_option linter.unusedSimpArgs false
end Go.Proofs.YtbempdelckaccaaDoor

namespace Go.Proofs.YtbempdelckaccaaDoor
open Go.RowKit Go.Lib
set_option linter.unusedVariables false
set_option linter.unusedSimpArgs false
end Go.Proofs.YtbempdelckaccaaDoor

namespace Go.Proofs.YtbempdelckaccaaDoor
open Go.RowKit Go.Lib
set_option linter.unusedVariables false
set_option linter.unusedSimpArgs false
abbrev Row:=List (List UInt8)
end Go.Proofs.YtbempdelckaccaaDoor

namespace Go.Proofs.YtbempdelckaccaaDoor
open Go.RowKit Go.Lib
set_option linter.unusedVariables false
set_option linter.unusedSimpArgs false
theorem zqG (r:Row) (z:List Row):tot (r::z)=r.length+tot z:=by unfold tot; rw [List.map_cons,List.sum_cons]
end Go.Proofs.YtbempdelckaccaaDoor

namespace Go.Proofs.YtbempdelckaccaaDoor
open Go.RowKit Go.Lib
set_option linter.unusedVariables false
set_option linter.unusedSimpArgs false
def noE (x:List UInt8):Prop:=∀ b∈x,isE b=false
structure GLn (x:List UInt8):Prop where
 bl:zim x=false
 le:x.length≤1024
 ne:noE x
def zhD:Nat→Row→List (Nat×List UInt8)
 | _,[]=>[]
 | i,x::r=>(i,x)::zhD (i+1) r
def zfR:Nat→List Row→List (Nat×Nat×List UInt8)
 | _,[]=>[]
 | k,r::z=>(zhD 0 r).map (fun p=>(k,p))++zfR (k+1) z
def zoJ (v:Gapi_Verse):ByteArray×Int×Int×Int:=(v.Text,v.Indent,v.Stanza,v.In)
def zpL (p:Nat×Nat×List UInt8):ByteArray×Int×Int×Int:=(mkB (p.2.2.drop (ind p.2.2)),(ind p.2.2:Int),(p.1:Int),(p.2.1:Int))
def VOk (vs:List Gapi_Verse) (z:List Row):Prop:=vs.map zoJ=(zfR 0 z).map zpL
theorem zmZ (x:List UInt8):∀ (r:Row) (i:Nat),zhD i (r++[x])=zhD i r++[(i+r.length,x)]
 | [],i=>rfl
 | y::r,i=>by
  show (i,y)::zhD (i+1) (r++[x])=_
  rw [zmZ x r (i+1),List.length_cons,show i+1+r.length=i+(r.length+1) by omega]; rfl
theorem zh4:∀ (a b:List Row) (k:Nat),zfR k (a++b)=zfR k a++zfR (k+a.length) b
 | [],b,k=>rfl
 | r::a,b,k=>by
  show _++zfR (k+1) (a++b)=_
  rw [zh4 a b (k+1),List.length_cons,show k+1+a.length=k+(a.length+1) by omega,← List.append_assoc]; rfl
theorem zjY (r:Row) (k:Nat):zfR k [r]=(zhD 0 r).map (fun p=>(k,p)):=List.append_nil _
structure PInv (st:RS):Prop extends RInv st where
 vok:VOk st.vs st.stz
 tE:noE st.t
 tL:st.t.length≤1022
 ln:∀ r∈st.stz,∀ x∈r,GLn x
 fr:∀ v∈st.vs,0≤v.Span_From
theorem zoM (st:RS):zfR 0 (zc1 st)=zfR 0 st.stz:=by
 unfold zc1
 split
 ·rfl
 ·rw [zh4,zjY]; exact List.append_nil _
theorem PInv.step {st st':RS} {x:Nat×List UInt8} (h:PInv st) (hx:noE x.2) (hs:zfL st x=.ok st'):PInv st':=by
 refine ⟨h.toRInv.step hs,?_,?_,?_,?_,?_⟩ <;> unfold zfL at hs
 all_goals
  split at hs
  ·cases hs; first | exact h.vok | exact h.tE | exact h.tL | exact h.ln | exact h.fr
  split at hs
  ·cases hs
  split at hs
 ·cases hs; exact h.vok
 ·split at hs
  ·cases hs
  ·cases hs
   obtain ⟨init,r,he,hl,hdl,htot,hsp⟩:=zlI h.toRInv
   show (st.vs++[zgI x.1 x.2 (zc1 st)]).map zoJ=(zfR 0 ((zc1 st).dropLast++[zjQ (zc1 st)++[x.2]])).map zpL
   rw [hdl,hl,zh4,zjY,zmZ,List.map_append,List.map_append,List.map_append,List.map_append,← List.append_assoc]
   have h2:zfR 0 st.stz=zfR 0 init++(zhD 0 r).map (fun p=>(init.length,p)):=by
    rw [← zoM,he,zh4,zjY,Nat.zero_add]
   have h3:=h.vok
   unfold VOk at h3
   rw [h3,h2,List.map_append,Nat.zero_add]
   congr 1
   unfold zgI zoJ
   rw [hl,he]
   simp [zpL]
 ·rename_i ht
  cases hs
  intro b hb
  exact hx b (List.mem_of_mem_drop hb)
 ·split at hs
  ·cases hs
  ·cases hs; exact h.tE
 ·rename_i hl ht
  cases hs
  show (x.2.drop 2).length≤1022
  rw [List.length_drop]; omega
 ·split at hs
  ·cases hs
  ·cases hs; exact h.tL
 ·cases hs; exact h.ln
 ·rename_i hb hl ht
  split at hs
  ·cases hs
  ·cases hs
   obtain ⟨init,r,he,hl2,hdl,htot,hsp⟩:=zlI h.toRInv
   intro r' hr' y hy
   have hold:∀ r∈zc1 st,∀ x∈r,GLn x:=fun r hr x hx=>by
    unfold zc1 at hr
    split at hr
    ·exact h.ln r hr x hx
    ·rcases List.mem_append.1 hr with hr | hr
     ·exact h.ln r hr x hx
     ·rw [List.mem_singleton] at hr; subst hr; cases hx
   have hr2:r'∈(zc1 st).dropLast++[zjQ (zc1 st)++[x.2]]:=hr'
   rw [hdl,hl2] at hr2
   rcases List.mem_append.1 hr2 with hr2 | hr2
   ·exact hold r' (by rw [he]; exact List.mem_append_left _ hr2) y hy
   ·rw [List.mem_singleton] at hr2
    subst hr2
    rcases List.mem_append.1 hy with hy | hy
    ·exact hold r (by rw [he]; simp) y hy
    ·rw [List.mem_singleton] at hy
     subst hy
     exact ⟨by simpa using hb,by omega,hx⟩
 ·cases hs; exact h.fr
 ·split at hs
  ·cases hs
  ·cases hs
   intro v hv
   rcases List.mem_append.1 (show v∈st.vs++[zgI x.1 x.2 (zc1 st)] from hv) with hv | hv
   ·exact h.fr v hv
   ·rw [List.mem_singleton] at hv; subst hv
    show (0:Int)≤(x.1:Int)+(ind x.2:Int)
    omega
theorem zu7:PInv rs0:=⟨znq,rfl,(fun b hb=>by cases hb),Nat.zero_le _,(fun r hr=>by cases hr),(fun v hv=>by cases hv)⟩
theorem PInv.fold:∀ {xs:List (Nat×List UInt8)} {st st':RS},PInv st→(∀ x∈xs,noE x.2)→zgB st xs=.ok st'→PInv st'
 | [],st,st',h,hx,hs=>by cases hs; exact h
 | x::xs,st,st',h,hx,hs=>by
  unfold zgB at hs
  cases he:zfL st x with
  | ok s1=>rw [he] at hs; exact PInv.fold (h.step (hx x (by simp)) he) (fun y hy=>hx y (by simp [hy])) hs
  | error e=>rw [he] at hs; cases hs
theorem zpN (T:List UInt8):∀ x∈zgF T,noE x.2:=by
 intro x hx
 obtain ⟨y,hy,rfl⟩:=List.mem_map.1 hx
 exact (zlo T y hy).2.2
theorem zu9 {T:List UInt8} {st:RS} (h:rd T=.ok st):PInv st∧T.length≤65536:=by
 unfold rd at h
 split at h
 ·cases h
 ·exact ⟨PInv.fold zu7 (zpN T) h,by omega⟩
structure GoodP (t:List UInt8) (z:List Row):Prop where
 tE:noE t
 tL:t.length≤1022
 ne:∀ r∈z,r≠[]
 ln:∀ r∈z,∀ x∈r,GLn x
theorem PInv.good {st:RS} (h:PInv st):GoodP st.t st.stz:=⟨h.tE,h.tL,h.ne,h.ln⟩
end Go.Proofs.YtbempdelckaccaaDoor

namespace Go.Proofs.YtbempdelckaccaaDoor
open Go.RowKit Go.Lib
set_option linter.unusedVariables false
set_option linter.unusedSimpArgs false
theorem zmQ:∀ x:List UInt8,List.replicate (ind x) 32++x.drop (ind x)=x
 | []=>rfl
 | b::x=>by
  rw [zjj]
  by_cases h:b=32
  ·rw [if_pos h,List.replicate_succ,List.drop_succ_cons,List.cons_append,zmQ x,h]
  ·rw [if_neg h]; rfl
def znD:Nat→List Gapi_Verse→List (Int×Gapi_Verse)
 | _,[]=>[]
 | i,v::vs=>((i:Int),v)::znD (i+1) vs
theorem zsJ (p:Gpoem_Poem) (h:p.told_lines.length≤4611686018427387904):zdp p=some (znD 0 p.told_lines):=by
 unfold zdp
 have key:∀ (n i:Nat),i≤p.told_lines.length→p.told_lines.length - i<n→zaF (fun _=>none) (zb8 p) n (i:Int)=some (znD i (p.told_lines.drop i)):=by
  intro n
  induction n with
  | zero=>intro i h1 h2; omega
  | succ n ih =>
   intro i hi hn
   rw [zd3]
   obtain ⟨ag,hag⟩:∃ ag,ag=zaF (fun _=>none) (zb8 p) n:=⟨_,rfl⟩
   rw [← hag] at ih ⊢
   unfold zb8
   rcases Nat.lt_or_ge i p.told_lines.length with hl | hl
   ·have hd:=List.drop_eq_getElem_cons hl
    refine zaz (decide_eq_true (by omega)) (zaM (zfw (List.getElem?_eq_getElem hl)) ?_)
    have h1:(grd (I64 ((i:Int)+1))<|ag ((i:Int)+1))=some (znD (i+1) (p.told_lines.drop (i+1))):=zbm ⟨by omega,by omega⟩ (by rw [show (i:Int)+1=((i+1:Nat):Int) by omega]; exact ih (i+1) (by omega) (by omega))
    rw [h1,hd]; rfl
   ·rw [List.drop_eq_nil_of_le hl]
    exact zay (decide_eq_false (by omega)) rfl
 have:=key zbW 0 (Nat.zero_le _) (by unfold zbW; omega)
 rw [List.drop_zero] at this
 exact this
abbrev LnE:=Nat×Nat×List UInt8
theorem zmY:∀ (r:Row) (j:Nat),(zhD j r).length=r.length
 | [],j=>rfl
 | x::r,j=>by show (zhD (j+1) r).length+1=_; rw [zmY r]; rfl
theorem zmW:∀ (z:List Row) (k:Nat),(zfR k z).length=tot z
 | [],k=>rfl
 | r::z,k=>by
  show ((zhD 0 r).map _++zfR (k+1) z).length=_
  rw [List.length_append,List.length_map,zmY,zmW z,zqG]
structure OkP (p:Gpoem_Poem) (t:List UInt8) (z:List Row):Prop extends GoodP t z where
 title:p.told_title=mkB t
 vok:VOk p.told_lines z
 sp:p.told_stanzas=ziu 0 z
 most:tot z≤512
theorem OkP.len {p:Gpoem_Poem} {t:List UInt8} {z:List Row} (h:OkP p t z):p.told_lines.length=tot z:=by
 have:=congrArg List.length h.vok
 rw [List.length_map,List.length_map,zmW] at this
 exact this
theorem PInv.ok {st:RS} (h:PInv st) (src:ByteArray):OkP (⟨mkB st.t,st.vs,ziu 0 st.stz,src⟩:Gpoem_Poem) st.t st.stz:=⟨h.good,rfl,h.vok,rfl,by have:=h.tot; have:=h.most; omega⟩
theorem zmL:∀ (r:Row) (j:Nat) (p:Nat×List UInt8),p∈zhD j r→p.2∈r
 | [],j,p,h=>by cases h
 | x::r,j,p,h=>by
  rcases List.mem_cons.1 h with rfl | h
  ·simp
  ·exact List.mem_cons_of_mem _ (zmL r _ p h)
theorem zmK:∀ (z:List Row) (k:Nat) (p:LnE),p∈zfR k z→∃ r∈z,p.2.2∈r
 | [],k,p,h=>by cases h
 | r::z,k,p,h=>by
  rcases List.mem_append.1 (show p∈(zhD 0 r).map (fun p=>(k,p))++zfR (k+1) z from h) with h | h
  ·obtain ⟨q,hq,rfl⟩:=List.mem_map.1 h
   exact ⟨r,by simp,zmL r 0 q hq⟩
  ·obtain ⟨r',h1,h2⟩:=zmK z _ p h
   exact ⟨r',by simp [h1],h2⟩
end Go.Proofs.YtbempdelckaccaaDoor

namespace Go.Proofs.YtbempdelckaccaaDoor
open Go.RowKit Go.Lib
set_option linter.unusedVariables false
set_option linter.unusedSimpArgs false
def zcI (v1:List Gapi_Verse) (l1:Gapi_Layout) (sum4:Int) (k3:Int) (j2:(List Gapi_Row)→Int→Option ((List Gapi_Row)×Int)) (r1:((List ByteArray)×Int)) (ag2:(List Gapi_Row)→Int→Option ((List Gapi_Row)×Int)) (out8:List Gapi_Row) (p3:Int):Option ((List Gapi_Row)×Int) :=
zaw (decide ((p3:Int)<(r1.1.length:Int))) (
zbl (fun (j3:Int→Int→Int→ByteArray→Option ((List Gapi_Row)×Int)) =>
zal (zbF v1 k3) fun (q2:Gapi_Verse) =>
zal (zbF r1.1 p3) fun (q3:ByteArray) =>
zaw ((p3:Int)==0) (
zal (zbF v1 k3) fun (q4:Gapi_Verse) =>
zaw (decide ((0:Int)<l1.Every)) (
grd (I64 (k3+1)) <|
grd (l1.Every≠0) <|
zaw (((Int.tmod (k3+1) l1.Every):Int)==0) (
grd (I64 (k3+1)) <|
j3 q2.Stanza q4.Indent (k3+1) q3
) (
j3 q2.Stanza q4.Indent 0 q3
)
) (
j3 q2.Stanza q4.Indent 0 q3
)
) (
j3 q2.Stanza l1.Turn 0 q3
)
) (fun (r2:Int) (r3:Int) (r4:Int) (r5:ByteArray) =>
grd (out8.length+1≤2147483648) <|
grd (I64 (p3+1)) <|
ag2 (out8++[(⟨k3,r2,p3,r3,r4,r5⟩:Gapi_Row)]) (p3+1)
)
) (
j2 out8 (sum4+r1.2)
)
def zcJ (v1:List Gapi_Verse) (l1:Gapi_Layout) (j1:(List Gapi_Row)→Int→Option ((List Gapi_Row)×Int)) (ag1:(List Gapi_Row)→Int→Int→Option ((List Gapi_Row)×Int)) (out4:List Gapi_Row) (sum4:Int) (k3:Int):Option ((List Gapi_Row)×Int) :=
zaw (decide ((k3:Int)<(v1.length:Int))) (
zbl (fun (j2:(List Gapi_Row)→Int→Option ((List Gapi_Row)×Int)) =>
zal (zbF v1 k3) fun (q1:Gapi_Verse) =>
zal (zfm q1.Text q1.Indent l1) fun (r1:((List ByteArray)×Int)) =>
grd (I64 (sum4+r1.2)) <|
zaF (fun _ _=>none) (zcI v1 l1 sum4 k3 j2 r1) zbW out4 0
) (fun (out5:List Gapi_Row) (sum5:Int) =>
grd (I64 (k3+1)) <|
ag1 out5 sum5 (k3+1)
)
) (
j1 out4 sum4
)
def zfn (v1:List Gapi_Verse) (l1:Gapi_Layout):Option ((List Gapi_Row)×Int) :=
zbl (fun (j1:(List Gapi_Row)→Int→Option ((List Gapi_Row)×Int)) =>
zaF (fun _ _ _=>none) (zcJ v1 l1 j1) zbW ([]:List Gapi_Row) 0 0
) (fun (out1:List Gapi_Row) (sum1:Int) =>
some (out1,sum1)
)
theorem zlA {vvv1 vv1:Value} {Lv1:List Gapi_Verse} {kv1:Nat} {v1:List Gapi_Verse} (hwv1:Vw vvv1 Lv1 6 kv1 vv1 v1) {l1:Gapi_Layout} {r:((List Gapi_Row)×Int)} (h:zfn v1 l1=some r):FnR Tryd.prog 7 [vv1,.agg (zr0 l1).toArray] [zhS zbr 6 vvv1 kv1 Lv1] [] (fun v0:Value=>.tuple #[v0,zI r.2]) (fun v0=>[zv1 v0 r.1]):=by
 unfold zfn at h
 refine FnR.intro Tryd.func7 rfl Tryd.ntmps7 (by simp) ?_
 intro w0 K hrd
 obtain ⟨j1,hj1,h⟩:=zbK h
 refine zaX (β:=(List Gapi_Row)×Int×Value) 3 rfl (fun b=>j1 b.1 b.2.1=some r) (fun b=>[]) (fun b=>[(6,b.2.2),(7,zI b.2.1)]) (fun b=>[zv1 b.2.2 b.1]) (fun cut => ?_) ?_
 ·
  refine zyG ?_
  refine zdQ rfl dc rfl (fun b1 => ?_)
  refine zyR 2 rfl (zyH (zyR 1 rfl (zyH (zyR 1 rfl (zyN ?_)))))
  refine cut (zyG (zyR 1 rfl (zyN (zaE (zcX (enc:=zcT) (e:=38) (size:=6) ?_)))))
  refine zbn (β:=Nat×(List Gapi_Row)×Int×Int×Value) (fun b=>zaF (fun _ _ _=>none) (zcJ v1 l1 j1) b.1 b.2.1 b.2.2.1 b.2.2.2.1=some r) (fun b=>[]) (fun b=>[(0,vv1),(3,zP b1),(6,b.2.2.2.2),(7,zI b.2.2.1),(8,zI b.2.2.2.1)]) (fun b=>[cells b1 (zr0 l1) 23,zv1 b.2.2.2.2 b.2.1]) (fun b=>b.1) (zbW,([]:List Gapi_Row),0,0,(.slice none 0 0)) h rfl (za0 rfl) (zae [0,1] kr rfl) ?_
  rintro ⟨n1,out4,sum4,k3,v5⟩ h
  cases n1 with
  | zero=>exact zdG h
  | succ n1 =>
   obtain ⟨ag1,hag1⟩:∃ ag,ag=zaF (fun _ _ _=>none) (zcJ v1 l1 j1) n1:=⟨_,rfl⟩
   have h:zcJ v1 l1 j1 ag1 out4 sum4 k3=some r:=by rw [hag1]; exact h
   unfold zcJ at h
   refine zaJ (zyG (zyR 2 rfl (zdy hwv1 rfl dc rfl Tryd.underlying27 (zaT rfl zbf (zyN ?_)))))
   refine zyB rfl h (fun h => ?_) (fun h => ?_)
   ·
    refine zas (zaL ?_)
    obtain ⟨j2,hj2,h⟩:=zbK h
    refine zaX (β:=(List Gapi_Row)×Int×Value) 0 rfl (fun b=>j2 b.1 b.2.1=some r) (fun b=>[]) (fun b=>[(0,vv1),(3,zP b1),(6,b.2.2),(7,zI b.2.1),(8,zI k3)]) (fun b=>[cells b1 (zr0 l1) 23,zv1 b.2.2 b.1]) (fun cut => ?_) ?_
    ·
     refine cut (zaE (zaJ ?_))
     obtain ⟨q1,hq1,h⟩:=zbg h
     obtain ⟨r1,hq2,h⟩:=zbg h
     refine zfU 1 ?_
     refine let vals1:(Value)→List (Nat×Nat×Value):=fun b=>[(0,20,vv1),(1,21,zI k3),(2,22,.pointer (some ⟨zb7 vvv1,(kv1+(k3:Int).toNat)*6,none⟩)),(3,23,.pointer (some ⟨zb7 vvv1,(kv1+(k3:Int).toNat)*6,none⟩)),(4,24,.string q1.Text),(5,25,vv1),(6,26,zI k3),(7,27,.pointer (some ⟨zb7 vvv1,(kv1+(k3:Int).toNat)*6,none⟩)),(8,28,.pointer (some ⟨zb7 vvv1,(kv1+(k3:Int).toNat)*6+1,none⟩)),(9,29,zI q1.Indent),(10,30,.agg (zr0 l1).toArray),(11,31,.tuple #[b,zI r1.2]),(12,19,.tuple #[b,zI r1.2]),(13,32,b),(14,33,zI r1.2),(15,9,b)]; let LL1:(Nat→Prop)→(Value)→List Asn:=fun D b=>[cells b1 (zr0 l1) 23,zv1 v5 out4,eD D emp [(11,zv5 b r1.1)]]; ?_
     refine zdI (β:=Value) 16 (.slice none 0 0:Value) vals1 LL1 mixed kr kr dc (fun _=>rfl) (zcZ (zac zbS rfl)) (zat ?_ (zat ?_ (zat ?_ (zat ?_ (zat ?_ (zat ?_ (zat ?_ (zat ?_ (zat ?_ (zat ?_ (zat ?_ (zat ?_ (zat ?_ (zat ?_ (zat ?_ (zat ?_ DrawG.nil)))))))))))))))) ?_
     ·
      intro D b hn hd hcl
      revert b; intro v7
      refine zaG (zcZ (zac (zai (fun hD=>hn (hcl 2 _ rfl (hcl 3 _ rfl (hcl 4 _ rfl (hcl 11 _ rfl hD 4 dc) 3 dc) 2 dc) 0 dc)) zap) rfl)) ?_
      refine ze4 rfl dc (za9 (by rfl) rfl) ?_
      exact zaO v7 0 (by rfl) (by rfl) rfl (zmf (zcx rfl)) (zcZ (zac ((zao (by rfl)).trans (zai (fun hD=>hn (hcl 2 _ rfl (hcl 3 _ rfl (hcl 4 _ rfl (hcl 11 _ rfl hD 4 dc) 3 dc) 2 dc) 0 dc)) zap)) rfl))
     ·
      intro D b hn hd hcl
      revert b; intro v7
      refine zaG (zcZ (zac (zai (fun hD=>hn (hcl 2 _ rfl (hcl 3 _ rfl (hcl 4 _ rfl (hcl 11 _ rfl hD 4 dc) 3 dc) 2 dc) 1 dc)) zap) rfl)) ?_
      refine ze4 rfl dc (za9 (by rfl) rfl) ?_
      exact zaO v7 1 (by rfl) (by rfl) rfl (zmf (zcx rfl)) (zcZ (zac ((zao (by rfl)).trans (zai (fun hD=>hn (hcl 2 _ rfl (hcl 3 _ rfl (hcl 4 _ rfl (hcl 11 _ rfl hD 4 dc) 3 dc) 2 dc) 1 dc)) zap)) rfl))
     ·
      intro D b hn hd hcl
      revert b; intro v7
      refine zaG (zcZ (zac (zai (fun hD=>hn (hcl 3 _ rfl (hcl 4 _ rfl (hcl 11 _ rfl hD 4 dc) 3 dc) 2 dc)) zap) rfl)) ?_
      refine za8 hwv1 hq1 Tryd.underlying27 zkv rfl dc (zaa (m:=0) rfl rfl (hd 0 dc)) (zaa (m:=1) rfl rfl (hd 1 dc)) rfl ?_
      exact zaO v7 2 (by rfl) (by rfl) rfl (zmf (zcx rfl)) (zcZ (zac ((zao (by rfl)).trans (zai (fun hD=>hn (hcl 3 _ rfl (hcl 4 _ rfl (hcl 11 _ rfl hD 4 dc) 3 dc) 2 dc)) zap)) rfl))
     ·
      intro D b hn hd hcl
      revert b; intro v7
      refine zaG (zcZ (zac (zai (fun hD=>hn (hcl 4 _ rfl (hcl 11 _ rfl hD 4 dc) 3 dc)) zap) rfl)) ?_
      refine zab znB rfl dc (zaa (m:=2) rfl rfl (hd 2 dc)) (show _=(kv1+(k3:Int).toNat)*6 from rfl) ?_
      exact zaO v7 3 (by rfl) (by rfl) rfl (zmf (zcx rfl)) (zcZ (zac ((zao (by rfl)).trans (zai (fun hD=>hn (hcl 4 _ rfl (hcl 11 _ rfl hD 4 dc) 3 dc)) zap)) rfl))
     ·
      intro D b hn hd hcl
      revert b; intro v7
      refine zaG (zcZ (zac (zai (fun hD=>hn (hcl 11 _ rfl hD 4 dc)) zap) rfl)) ?_
      refine zci (n:=kv1+(k3:Int).toNat) (j:=0) (i:=0) (q:=q1) hrd rfl (by omega) zoT rfl dc (zaa (m:=3) rfl rfl (hd 3 dc)) (Vw.get hwv1 hq1) rfl rfl ?_
      exact zaO v7 4 (by rfl) (by rfl) rfl (zmf (zcx rfl)) (zcZ (zac ((zao (by rfl)).trans (zai (fun hD=>hn (hcl 11 _ rfl hD 4 dc)) zap)) rfl))
     ·
      intro D b hn hd hcl
      revert b; intro v7
      refine zaG (zcZ (zac (zai (fun hD=>hn (hcl 7 _ rfl (hcl 8 _ rfl (hcl 9 _ rfl (hcl 11 _ rfl hD 9 dc) 8 dc) 7 dc) 5 dc)) zap) rfl)) ?_
      refine ze4 rfl dc (za9 (by rfl) rfl) ?_
      exact zaO v7 5 (by rfl) (by rfl) rfl (zmf (zcx rfl)) (zcZ (zac ((zao (by rfl)).trans (zai (fun hD=>hn (hcl 7 _ rfl (hcl 8 _ rfl (hcl 9 _ rfl (hcl 11 _ rfl hD 9 dc) 8 dc) 7 dc) 5 dc)) zap)) rfl))
     ·
      intro D b hn hd hcl
      revert b; intro v7
      refine zaG (zcZ (zac (zai (fun hD=>hn (hcl 7 _ rfl (hcl 8 _ rfl (hcl 9 _ rfl (hcl 11 _ rfl hD 9 dc) 8 dc) 7 dc) 6 dc)) zap) rfl)) ?_
      refine ze4 rfl dc (za9 (by rfl) rfl) ?_
      exact zaO v7 6 (by rfl) (by rfl) rfl (zmf (zcx rfl)) (zcZ (zac ((zao (by rfl)).trans (zai (fun hD=>hn (hcl 7 _ rfl (hcl 8 _ rfl (hcl 9 _ rfl (hcl 11 _ rfl hD 9 dc) 8 dc) 7 dc) 6 dc)) zap)) rfl))
     ·
      intro D b hn hd hcl
      revert b; intro v7
      refine zaG (zcZ (zac (zai (fun hD=>hn (hcl 8 _ rfl (hcl 9 _ rfl (hcl 11 _ rfl hD 9 dc) 8 dc) 7 dc)) zap) rfl)) ?_
      refine za8 hwv1 hq1 Tryd.underlying27 zkv rfl dc (zaa (m:=5) rfl rfl (hd 5 dc)) (zaa (m:=6) rfl rfl (hd 6 dc)) rfl ?_
      exact zaO v7 7 (by rfl) (by rfl) rfl (zmf (zcx rfl)) (zcZ (zac ((zao (by rfl)).trans (zai (fun hD=>hn (hcl 8 _ rfl (hcl 9 _ rfl (hcl 11 _ rfl hD 9 dc) 8 dc) 7 dc)) zap)) rfl))
     ·
      intro D b hn hd hcl
      revert b; intro v7
      refine zaG (zcZ (zac (zai (fun hD=>hn (hcl 9 _ rfl (hcl 11 _ rfl hD 9 dc) 8 dc)) zap) rfl)) ?_
      refine zab zlQ rfl dc (zaa (m:=7) rfl rfl (hd 7 dc)) (show _=(kv1+(k3:Int).toNat)*6+1 from rfl) ?_
      exact zaO v7 8 (by rfl) (by rfl) rfl (zmf (zcx rfl)) (zcZ (zac ((zao (by rfl)).trans (zai (fun hD=>hn (hcl 9 _ rfl (hcl 11 _ rfl hD 9 dc) 8 dc)) zap)) rfl))
     ·
      intro D b hn hd hcl
      revert b; intro v7
      refine zaG (zcZ (zac (zai (fun hD=>hn (hcl 11 _ rfl hD 9 dc)) zap) rfl)) ?_
      refine zci (n:=kv1+(k3:Int).toNat) (j:=1) (i:=0) (q:=q1) hrd rfl (by omega) zbh rfl dc (zaa (m:=8) rfl rfl (hd 8 dc)) (Vw.get hwv1 hq1) rfl rfl ?_
      exact zaO v7 9 (by rfl) (by rfl) rfl (zmf (zcx rfl)) (zcZ (zac ((zao (by rfl)).trans (zai (fun hD=>hn (hcl 11 _ rfl hD 9 dc)) zap)) rfl))
     ·
      intro D b hn hd hcl
      revert b; intro v7
      refine zaG (zcZ (zac (zai (fun hD=>hn (hcl 11 _ rfl hD 10 dc)) zap) rfl)) ?_
      refine zba (k:=0) (cs:=(zr0 l1)) ziv rfl dc (za9 (by rfl) rfl) rfl rfl rfl ?_
      exact zaO v7 10 (by rfl) (by rfl) rfl (zmf (zcx rfl)) (zcZ (zac ((zao (by rfl)).trans (zai (fun hD=>hn (hcl 11 _ rfl hD 10 dc)) zap)) rfl))
     ·
      intro D b hn hd hcl
      revert b; intro _b
      refine zaG (zcZ (zac (zai hn zap) rfl)) (zea (vs:=[.string q1.Text,zI q1.Indent,.agg (zr0 l1).toArray]) rfl dc rfl (evL.cons (zaa (m:=4) rfl rfl (hd 4 dc)) (evL.cons (zaa (m:=9) rfl rfl (hd 9 dc)) (evL.cons (zaa (m:=10) rfl rfl (hd 10 dc)) evL.nil))) rfl zvO (zlz (l1:=l1) hq2) Splits.nil ?_)
      rintro v7
      refine zd7 (L':=[cells b1 (zr0 l1) 23,zv1 v5 out4,emp,zv5 v7 r1.1]) (zae [0,1,2,3] kr rfl) (zcD 2 rfl rfl ?_)
      exact zaO v7 11 (by rfl) (by rfl) rfl (zsd (zaq (fun hD=>absurd hD hn) (zaq (fun hD=>absurd (hcl 12 _ rfl hD 11 dc) hn) (zaq (fun hD=>absurd (hcl 12 _ rfl (hcl 13 _ rfl hD 12 dc) 11 dc) hn) (zaq (fun _=>rfl) (zaq (fun hD=>absurd (hcl 15 _ rfl hD 11 dc) hn) rfl)))))) (zcZ (zac (zaH (Or.inr rfl) rfl) rfl))
     ·
      intro D b hn hd hcl
      revert b; intro v7
      refine zaG (zcZ (zac (zaH (hd 11 dc) rfl) rfl)) (ze4 rfl dc (zaa (m:=11) rfl rfl (hd 11 dc)) ?_)
      exact zaO v7 12 (by rfl) (by rfl) rfl (zmf (zcx rfl)) (zcZ (zac ((zao (by rfl)).trans (zaH (hd 11 dc) rfl)) rfl))
     ·
      intro D b hn hd hcl
      revert b; intro v7
      refine zaG (zcZ (zac (zaH (hcl 12 _ rfl (hd 12 dc) 11 dc) rfl) rfl)) (zaU rfl dc (zaa (m:=12) rfl rfl (hd 12 dc)) rfl ?_)
      exact zaO v7 13 (by rfl) (by rfl) rfl (zmf (zcx rfl)) (zcZ (zac ((zao (by rfl)).trans (zaH (hcl 12 _ rfl (hd 12 dc) 11 dc) rfl)) rfl))
     ·
      intro D b hn hd hcl
      revert b; intro v7
      refine zaG (zcZ (zac (zaH (hcl 12 _ rfl (hd 12 dc) 11 dc) rfl) rfl)) (zaU rfl dc (zaa (m:=12) rfl rfl (hd 12 dc)) rfl ?_)
      exact zaO v7 14 (by rfl) (by rfl) rfl (zmf (zcx rfl)) (zcZ (zac ((zao (by rfl)).trans (zaH (hcl 12 _ rfl (hd 12 dc) 11 dc) rfl)) rfl))
     ·
      intro D b hn hd hcl
      revert b; intro v7
      refine zaG (zcZ (zac (zaH (hd 11 dc) rfl) rfl)) (zne rfl dc (zaa (m:=13) rfl rfl (hd 13 dc)) ?_)
      exact zaO v7 15 (by rfl) (by rfl) rfl (zmf (zcx rfl)) (zcZ (zac ((zao (by rfl)).trans (zaH (hd 11 dc) rfl)) rfl))
     intro D b hall
     revert b; intro v7
     refine zaG (zcZ (zac (zaH (hall 11 dc) rfl) rfl)) (zyR 1 rfl (zyH (zyR 2 rfl ?_)))
     obtain ⟨hg1,h⟩:=zbk h
     refine zaT rfl (zaQ (r:=sum4+r1.2) (IntWalk.i64_in _ hg1)) (zyR 1 rfl (zyH (zyR 1 rfl (zyN (zaE ?_)))))
     refine zbn (β:=Nat×(List Gapi_Row)×Int×Value) (fun b=>zaF (fun _ _=>none) (zcI v1 l1 sum4 k3 j2 r1) b.1 b.2.1 b.2.2.1=some r) (fun b=>[]) (fun b=>[(0,vv1),(3,zP b1),(6,b.2.2.2),(7,zI (sum4+r1.2)),(8,zI k3),(9,v7),(11,zI b.2.2.1)]) (fun b=>[cells b1 (zr0 l1) 23,zv1 b.2.2.2 b.2.1,zv5 v7 r1.1]) (fun b=>b.1) (zbW,out4,0,v5) h rfl (za0 rfl) (zae [0,1,2] kr rfl) ?_
     rintro ⟨n2,out8,p3,v10⟩ h
     cases n2 with
     | zero=>exact zdG h
     | succ n2 =>
      obtain ⟨ag2,hag2⟩:∃ ag,ag=zaF (fun _ _=>none) (zcI v1 l1 sum4 k3 j2 r1) n2:=⟨_,rfl⟩
      have h:zcI v1 l1 sum4 k3 j2 r1 ag2 out8 p3=some r:=by rw [hag2]; exact h
      unfold zcI at h
      refine zaJ (zyG (zyR 2 rfl (zbd (k:=2) rfl dc rfl rfl Tryd.underlying49 (zaT rfl zbf (zyN ?_)))))
      refine zyB rfl h (fun h => ?_) (fun h => ?_)
      ·
       refine zas (zaL (zaJ (zaE ?_)))
       obtain ⟨j3,hj3,h⟩:=zbK h
       refine zaX (β:=Int×Int×Int×ByteArray×Nat) 1 rfl (fun b=>j3 b.1 b.2.1 b.2.2.1 b.2.2.2.1=some r) (fun b=>[]) (fun b=>[(0,vv1),(3,zP b1),(6,v10),(7,zI (sum4+r1.2)),(8,zI k3),(9,v7),(11,zI p3),(12,zP b.2.2.2.2)]) (fun b=>[cells b1 (zr0 l1) 23,zv1 v10 out8,zv5 v7 r1.1,cells b.2.2.2.2 [zI k3,zI b.1,zI p3,zI b.2.1,zI b.2.2.1,.string b.2.2.2.1] 38]) (fun cut => ?_) ?_
       ·
        refine zaJ ?_
        obtain ⟨q2,hq3,h⟩:=zbg h
        obtain ⟨q3,hq4,h⟩:=zbg h
        refine zhd (β:=Nat) 15 14 _ [(0,43,zI k3),(1,44,vv1),(2,45,zI k3),(3,46,.pointer (some ⟨zb7 vvv1,(kv1+(k3:Int).toNat)*6,none⟩)),(4,47,.pointer (some ⟨zb7 vvv1,(kv1+(k3:Int).toNat)*6+2,none⟩)),(5,48,zI q2.Stanza),(6,49,zI p3),(7,50,.pointer (some ⟨b1,2,none⟩)),(8,51,zI l1.Turn),(9,52,v7),(10,53,zI p3),(11,54,.pointer (some ⟨zb7 v7,(p3:Int).toNat*1,none⟩)),(12,55,.string q3),(13,56,.agg #[zI k3,zI q2.Stanza,zI p3,zI l1.Turn,zI 0,.string q3])] (fun b3=>[(12,zP b3)]) (fun b3=>[cells b1 (zr0 l1) 23,zv1 v10 out8,zv5 v7 r1.1,cells b3 [zI 0,zI 0,zI 0,zI 0,zI 0,.string ByteArray.empty] 38]) mixed kr kr rfl dc dc (by rfl) kr kr (zyE 3 0 rfl (zah ?_ (zah ?_ (zah ?_ (zyE 1 6 rfl (zah ?_ (zah ?_ (zyE 2 9 rfl (zah ?_ (zah ?_ (zah ?_ (zcp DrawPreX.nil)))))))))))) (fun b3=>(zyE 3 0 rfl (zah ?_ (zah ?_ (zah ?_ (zyE 1 6 rfl (zah ?_ (zah ?_ (zyE 2 9 rfl (zah ?_ (zah ?_ (zah ?_ (zcp DrawPreX.nil))))))))))))) ?_ ?_
        · exact fun D n d c u i=>za8 hwv1 hq3 Tryd.underlying27 zkv rfl dc (zaa (m:=1) u rfl (d 1 dc)) (zaa (m:=2) u rfl (d 2 dc)) rfl (zaf 3 u i rfl)
        · exact fun D n d c u i=>zab ziD rfl dc (zaa (m:=3) u rfl (d 3 dc)) (show _=(kv1+(k3:Int).toNat)*6+2 from rfl) (zaf 4 u i rfl)
        · exact fun D n d c u i=>zci (n:=kv1+(k3:Int).toNat) (j:=2) (i:=0) (q:=q2) hrd rfl (by omega) zbh rfl dc (zaa (m:=4) u rfl (d 4 dc)) (Vw.get hwv1 hq3) rfl rfl (zaf 5 u i rfl)
        · exact fun D n d c u i=>zab zgn rfl dc (za9 (by rfl) rfl) (show _=2 from rfl) (zaf 7 u i rfl)
        · exact fun D n d c u i=>zar (k:=0) zbh rfl dc (zaa (m:=7) u rfl (d 7 dc)) rfl rfl (zaf 8 u i rfl)
        · exact fun D n d c u i=>zan (k:=2) hq4 Tryd.underlying49 ztm rfl dc (zaa (m:=9) u rfl (d 9 dc)) (zaa (m:=10) u rfl (d 10 dc)) rfl rfl (zaf 11 u i rfl)
        · exact fun D n d c u i=>zaB (i:=(p3:Int).toNat) (j:=0) (k:=2) (q:=q3) zoT zgr rfl dc (zaa (m:=11) u rfl (d 11 dc)) rfl (zaC hq4) rfl dc rfl (zaf 12 u i rfl)
        · exact fun D n d c u i=>za3 (v:=.agg #[zI k3,zI q2.Stanza,zI p3,zI l1.Turn,zI 0,.string q3]) (ps:=[(0,.tmp 43),(1,.tmp 48),(2,.tmp 49),(3,.tmp 51),(5,.tmp 55)]) rfl dc (evP.cons (zaa (m:=0) u rfl (d 0 dc)) (evP.cons (zaa (m:=5) u rfl (d 5 dc)) (evP.cons (zaa (m:=6) u rfl (d 6 dc)) (evP.cons (zaa (m:=8) u rfl (d 8 dc)) (evP.cons (zaa (m:=12) u rfl (d 12 dc)) evP.nil))))) (fun _=>by kernel_rfl) (zaf 13 u i rfl)
        · exact fun D n d c u i=>za8 hwv1 hq3 Tryd.underlying27 zkv rfl dc (zaa (m:=1) u rfl (d 1 dc)) (zaa (m:=2) u rfl (d 2 dc)) rfl (zaf 3 u i rfl)
        · exact fun D n d c u i=>zab ziD rfl dc (zaa (m:=3) u rfl (d 3 dc)) (show _=(kv1+(k3:Int).toNat)*6+2 from rfl) (zaf 4 u i rfl)
        · exact fun D n d c u i=>zci (n:=kv1+(k3:Int).toNat) (j:=2) (i:=0) (q:=q2) hrd rfl (by omega) zbh rfl dc (zaa (m:=4) u rfl (d 4 dc)) (Vw.get hwv1 hq3) rfl rfl (zaf 5 u i rfl)
        · exact fun D n d c u i=>zab zgn rfl dc (za9 (by rfl) rfl) (show _=2 from rfl) (zaf 7 u i rfl)
        · exact fun D n d c u i=>zar (k:=0) zbh rfl dc (zaa (m:=7) u rfl (d 7 dc)) rfl rfl (zaf 8 u i rfl)
        · exact fun D n d c u i=>zan (k:=2) hq4 Tryd.underlying49 ztm rfl dc (zaa (m:=9) u rfl (d 9 dc)) (zaa (m:=10) u rfl (d 10 dc)) rfl rfl (zaf 11 u i rfl)
        · exact fun D n d c u i=>zaB (i:=(p3:Int).toNat) (j:=0) (k:=2) (q:=q3) zoT zgr rfl dc (zaa (m:=11) u rfl (d 11 dc)) rfl (zaC hq4) rfl dc rfl (zaf 12 u i rfl)
        · exact fun D n d c u i=>za3 (v:=.agg #[zI k3,zI q2.Stanza,zI p3,zI l1.Turn,zI 0,.string q3]) (ps:=[(0,.tmp 43),(1,.tmp 48),(2,.tmp 49),(3,.tmp 51),(5,.tmp 55)]) rfl dc (evP.cons (zaa (m:=0) u rfl (d 0 dc)) (evP.cons (zaa (m:=5) u rfl (d 5 dc)) (evP.cons (zaa (m:=6) u rfl (d 6 dc)) (evP.cons (zaa (m:=8) u rfl (d 8 dc)) (evP.cons (zaa (m:=12) u rfl (d 12 dc)) evP.nil))))) (fun _=>by kernel_rfl) (zaf 13 u i rfl)
        ·
         intro D hn hd hcl
         refine zbt zos rfl dc (fun b3 => ?_)
         exact fun a w ha hw=>⟨b3,zkk (by rfl) _ _ _ ha,hw⟩
        intro b3
        refine zaY (k:=3) (vs:=[zI k3,zI q2.Stanza,zI p3,zI l1.Turn,zI 0,.string q3]) (l':=[zI k3,zI q2.Stanza,zI p3,zI l1.Turn,zI 0,.string q3]) zfX rfl rfl rfl rfl rfl (show _≤_ by simp) rfl rfl (zyN (cut (zyG (zyR 1 rfl (zaT rfl zaP (zyN ?_))))))
        refine zyB rfl h (fun h => ?_) (fun h => ?_)
        ·
         refine zyG (zyR 2 rfl ?_)
         obtain ⟨q4,hq5,h⟩:=zbg h
         refine za8 hwv1 hq5 Tryd.underlying27 zkv rfl dc rfl rfl rfl (zab zlQ rfl dc rfl (show _=(kv1+(k3:Int).toNat)*6+1 from rfl) (zci (n:=kv1+(k3:Int).toNat) (j:=1) (i:=0) (q:=q4) hrd rfl (by omega) zbh rfl dc rfl (Vw.get hwv1 hq5) rfl rfl (zab zpZ rfl dc rfl (show _=3 from rfl) ?_)))
         refine za5 (k:=3) (l':=[zI k3,zI q2.Stanza,zI p3,zI q4.Indent,zI 0,.string q3]) zde rfl rfl rfl rfl rfl (fun _ _=>rfl) rfl ?_
         refine zyH (zab zgQ rfl dc rfl (show _=3 from rfl) (zar (k:=0) zbh rfl dc rfl rfl rfl (zaT rfl zcA (zyR 1 rfl ?_))))
         refine zyS (s:=68) rfl h (fun h => ?_) (fun h => ?_)
         ·
          refine zyR 1 rfl ?_
          obtain ⟨hg2,h⟩:=zbk h
          refine zaT rfl (zaQ (r:=k3+1) (IntWalk.i64_in _ hg2)) (zab zgQ rfl dc rfl (show _=3 from rfl) (zar (k:=0) zbh rfl dc rfl rfl rfl ?_))
          obtain ⟨hg3,h⟩:=zbk h
          refine zaT rfl (zqj hg3 rfl) (zaT rfl zaP (zyR 1 rfl (zyN ?_)))
          refine zyB rfl h (fun h => ?_) (fun h => ?_)
          ·
           refine zax (zyR 1 rfl ?_)
           obtain ⟨hg4,h⟩:=zbk h
           refine zaT rfl (zaQ (r:=k3+1) (IntWalk.i64_in _ hg4)) (zab zpY rfl dc rfl (show _=4 from rfl) ?_)
           refine za5 (k:=3) (l':=[zI k3,zI q2.Stanza,zI p3,zI q4.Indent,zI (k3+1),.string q3]) zde rfl rfl rfl rfl rfl (fun _ _=>rfl) rfl ?_
           refine zaR ?_
           exact zak (q2.Stanza,q4.Indent,k3+1,q3,b3) h rfl (za0 rfl) (zae [0,1,2,3] kr rfl)
          refine zas ?_
          exact zak (q2.Stanza,q4.Indent,0,q3,b3) h rfl (za0 rfl) (zae [0,1,2,3] kr rfl)
         refine zyR 7 rfl (zyN (zaN rfl (zas ?_)))
         exact zak (q2.Stanza,q4.Indent,0,q3,b3) h rfl (za0 rfl) (zae [0,1,2,3] kr rfl)
        refine zas ?_
        exact zak (q2.Stanza,l1.Turn,0,q3,b3) h rfl (za0 rfl) (zae [0,1,2,3] kr rfl)
       rintro ⟨r2,r3,r4,r5,b2⟩ h
       rw [hj3] at h
       refine zax (zyR 1 rfl (zba (k:=3) (cs:=[zI k3,zI r2,zI p3,zI r3,zI r4,.string r5]) zno rfl dc rfl rfl rfl rfl ?_))
       refine zaS (cs:=[zI k3,zI r2,zI p3,zI r3,zI r4,.string r5]) (te:=38) (ps:=[(0,.tmp 80)]) rfl dc rfl (fun _=>by kernel_rfl) (fun b4 => ?_)
       obtain ⟨hg5,h⟩:=zbk h
       refine za1 (k:=1) (k2:=4) (ys:=[(⟨k3,r2,p3,r3,r4,r5⟩:Gapi_Row)]) Tryd.underlying30 zrf zbQ zeA rfl dc rfl rfl rfl rfl rfl rfl hg5 (fun v11 => ?_)
       refine zyR 1 rfl (zaR (zag (zaL (zax (zyR 1 rfl ?_)))))
       obtain ⟨hg6,h⟩:=zbk h
       refine zaT rfl (zaQ (r:=p3+1) (IntWalk.i64_in _ hg6)) (zyR 1 rfl (zaR ?_))
       subst hag2
       exact za4 (n2,out8++[(⟨k3,r2,p3,r3,r4,r5⟩:Gapi_Row)],p3+1,v11) h (Nat.lt_succ_self _) rfl (za0 rfl) (zae [0,1,2] kr rfl)
      refine za2 (zam (zam (zav (zag ?_))))
      exact zak (out8,sum4+r1.2,v10) h rfl (za0 rfl) (zae [0,1] kr rfl)
    rintro ⟨out5,sum5,v6⟩ h
    rw [hj2] at h
    refine zax (zyR 1 rfl ?_)
    obtain ⟨hg7,h⟩:=zbk h
    refine zaT rfl (zaQ (r:=k3+1) (IntWalk.i64_in _ hg7)) (zyR 1 rfl (zaR ?_))
    subst hag1
    exact za4 (n1,out5,sum5,k3+1,v6) h (Nat.lt_succ_self _) rfl (za0 rfl) (zae [0,1] kr rfl)
   refine za2 (zam (zam (zav ?_)))
   exact zak (out4,sum4,v5) h rfl (za0 rfl) (zae [1] kr rfl)
 rintro ⟨out1,sum1,v2⟩ h
 rw [hj1] at h
 refine zyG (zyR 4 rfl (zyN (zaI ?_)))
 cases h
 exact zaK (rs:=[.tmp 4,.tmp 5]) v2 (.inl rfl) Tryd.results7 (.cons (.tmp rfl) (.cons (.tmp rfl) .nil)) rfl (zae [0] kr rfl)
def zcK (rows1:List Gapi_Row) (j1:Int→Option Int) (ag1:Int→Int→Option Int) (n4:Int) (i3:Int):Option Int :=
zaw (decide ((i3:Int)<(rows1.length:Int))) (
zbl (fun (j2:Int→Option Int) =>
zal (zbF rows1 i3) fun (q1:Gapi_Row) =>
grd (I64 (i3 - 1)) <|
zal (zbF rows1 (i3 - 1)) fun (q2:Gapi_Row) =>
zaw ((q1.Stanza:Int) != q2.Stanza) (
grd (I64 (n4+1)) <|
j2 (n4+1)
) (
j2 n4
)
) (fun (n6:Int) =>
grd (I64 (i3+1)) <|
ag1 n6 (i3+1)
)
) (
j1 n4
)
def zeJ (rows1:List Gapi_Row):Option Int :=
zbl (fun (j1:Int→Option Int) =>
zaF (fun _ _=>none) (zcK rows1 j1) zbW (rows1.length:Int) 1
) (fun (n1:Int) =>
some n1
)
theorem zlC {vvrows1 vrows1:Value} {Lrows1:List Gapi_Row} {krows1:Nat} {rows1:List Gapi_Row} (hwrows1:Vw vvrows1 Lrows1 6 krows1 vrows1 rows1) {r:Int} (h:zeJ rows1=some r):FnR Tryd.prog 8 [vrows1] [zhS zcT 6 vvrows1 krows1 Lrows1] [] (fun _:Unit=>(zI r)) (fun _=>[]):=by
 unfold zeJ at h
 refine FnR.intro Tryd.func8 rfl Tryd.ntmps8 (by simp) ?_
 intro w0 K hrd
 obtain ⟨j1,hj1,h⟩:=zbK h
 refine zaX (β:=Int) 2 rfl (fun b=>j1 b=some r) (fun b=>[]) (fun b=>[(3,zI b)]) (fun b=>[]) (fun cut => ?_) ?_
 ·
  refine zyG (zyR 1 rfl (zyH (zyR 1 rfl (zdy hwrows1 rfl dc rfl Tryd.underlying30 (zyR 1 rfl (zyN (cut (zaJ ?_))))))))
  refine zax (zyR 1 rfl (zyN (zaE ?_)))
  refine zbn (β:=Nat×Int×Int) (fun b=>zaF (fun _ _=>none) (zcK rows1 j1) b.1 b.2.1 b.2.2=some r) (fun b=>[]) (fun b=>[(0,vrows1),(3,zI b.2.1),(4,zI b.2.2)]) (fun b=>[]) (fun b=>b.1) (zbW,(rows1.length:Int),1) h rfl (za0 rfl) Splits.nil ?_
  rintro ⟨n5,n4,i3⟩ h
  cases n5 with
  | zero=>exact zdG h
  | succ n5 =>
   obtain ⟨ag1,hag1⟩:∃ ag,ag=zaF (fun _ _=>none) (zcK rows1 j1) n5:=⟨_,rfl⟩
   have h:zcK rows1 j1 ag1 n4 i3=some r:=by rw [hag1]; exact h
   unfold zcK at h
   refine zaJ (zyG (zyR 2 rfl (zdy hwrows1 rfl dc rfl Tryd.underlying30 (zaT rfl zbf (zyN ?_)))))
   refine zyB rfl h (fun h => ?_) (fun h => ?_)
   ·
    refine zas (zaL ?_)
    obtain ⟨j2,hj2,h⟩:=zbK h
    refine zaX (β:=Int) 0 rfl (fun b=>j2 b=some r) (fun b=>[]) (fun b=>[(0,vrows1),(3,zI b),(4,zI i3)]) (fun b=>[]) (fun cut => ?_) ?_
    ·
     refine cut (zaE (zaJ ?_))
     obtain ⟨q1,hq1,h⟩:=zbg h
     obtain ⟨hg1,h⟩:=zbk h
     obtain ⟨q2,hq2,h⟩:=zbg h
     refine zbu 11 [(0,13,vrows1),(1,14,zI i3),(2,15,.pointer (some ⟨zb7 vvrows1,(krows1+(i3:Int).toNat)*6,none⟩)),(3,16,.pointer (some ⟨zb7 vvrows1,(krows1+(i3:Int).toNat)*6+1,none⟩)),(4,17,zI q1.Stanza),(5,18,vrows1),(6,19,zI i3),(7,20,zI (i3 - 1)),(8,21,.pointer (some ⟨zb7 vvrows1,(krows1+(i3 - 1:Int).toNat)*6,none⟩)),(9,22,.pointer (some ⟨zb7 vvrows1,(krows1+(i3 - 1:Int).toNat)*6+1,none⟩)),(10,23,zI q2.Stanza)] mixed kr kr dc (by rfl) kr kr (zyP 2 0 rfl (zad ?_ (zad ?_ (zad ?_ (zyP 2 5 rfl (zad ?_ (zad ?_ (zad ?_ (zad ?_ DrawPre.nil))))))))) ?_
     · exact fun D n d c u i=>za8 hwrows1 hq1 Tryd.underlying30 zfX rfl dc (zaa (m:=0) u rfl (d 0 dc)) (zaa (m:=1) u rfl (d 1 dc)) rfl (zaf 2 u i rfl)
     · exact fun D n d c u i=>zab zdT rfl dc (zaa (m:=2) u rfl (d 2 dc)) (show _=(krows1+(i3:Int).toNat)*6+1 from rfl) (zaf 3 u i rfl)
     · exact fun D n d c u i=>zci (n:=krows1+(i3:Int).toNat) (j:=1) (i:=0) (q:=q1) hrd rfl (by omega) zbh rfl dc (zaa (m:=3) u rfl (d 3 dc)) (Vw.get hwrows1 hq1) rfl rfl (zaf 4 u i rfl)
     · exact fun D n d c u i=>zbM rfl dc (zaa (m:=6) u rfl (d 6 dc)) rfl (zbj (r:=i3 - 1) (IntWalk.i64_in _ hg1)) (zaf 7 u i rfl)
     · exact fun D n d c u i=>za8 hwrows1 hq2 Tryd.underlying30 zfX rfl dc (zaa (m:=5) u rfl (d 5 dc)) (zaa (m:=7) u rfl (d 7 dc)) rfl (zaf 8 u i rfl)
     · exact fun D n d c u i=>zab zdT rfl dc (zaa (m:=8) u rfl (d 8 dc)) (show _=(krows1+(i3 - 1:Int).toNat)*6+1 from rfl) (zaf 9 u i rfl)
     · exact fun D n d c u i=>zci (n:=krows1+(i3 - 1:Int).toNat) (j:=1) (i:=0) (q:=q2) hrd rfl (by omega) zbh rfl dc (zaa (m:=9) u rfl (d 9 dc)) (Vw.get hwrows1 hq2) rfl rfl (zaf 10 u i rfl)
     refine zaT rfl zce (zyN ?_)
     refine zyB rfl h (fun h => ?_) (fun h => ?_)
     ·
      refine zax (zyR 1 rfl ?_)
      obtain ⟨hg2,h⟩:=zbk h
      refine zaT rfl (zaQ (r:=n4+1) (IntWalk.i64_in _ hg2)) (zyR 1 rfl (zaR (zag ?_)))
      exact zak (n4+1) h rfl (za0 rfl) Splits.nil
     refine zas (zag ?_)
     exact zak n4 h rfl (za0 rfl) Splits.nil
    rintro n6 h
    rw [hj2] at h
    refine zax (zyR 1 rfl ?_)
    obtain ⟨hg3,h⟩:=zbk h
    refine zaT rfl (zaQ (r:=i3+1) (IntWalk.i64_in _ hg3)) (zyR 1 rfl (zaR ?_))
    subst hag1
    exact za4 (n5,n6,i3+1) h (Nat.lt_succ_self _) rfl (za0 rfl) Splits.nil
   refine za2 (zam (zam (zav ?_)))
   exact zak n4 h rfl (za0 rfl) Splits.nil
 rintro n1 h
 rw [hj1] at h
 refine zyG (zyR 2 rfl (zyN (zaI ?_)))
 cases h
 exact zaK (rs:=[.tmp 2]) () (.inl rfl) Tryd.results8 (.cons (.tmp rfl) .nil) rfl Splits.nil
def zc7 (rows1:List Gapi_Row) (q1:Gapi_Row) (q2:Gapi_Row) (j1:Bool→Bool→Option Int) (ag1:Bool→Bool→Int→Option Int) (first4:Bool) (last4:Bool) (i3:Int):Option Int :=
zaw (decide ((i3:Int)<(rows1.length:Int))) (
zbl (fun (j2:Bool→Bool→Option Int) =>
zbl (fun (j3:Bool→Option Int) =>
zal (zbF rows1 i3) fun (q3:Gapi_Row) =>
zaw ((q3.Stanza:Int)==q1.Stanza) (
zaw (decide ((q3.Line:Int)<q1.Line)) (
j3 false
) (
j3 first4
)
) (
j3 first4
)
) (fun (first6:Bool) =>
zal (zbF rows1 i3) fun (q4:Gapi_Row) =>
zaw ((q4.Stanza:Int)==q1.Stanza) (
zaw (decide ((q2.Line:Int)<q4.Line)) (
j2 first6 false
) (
j2 first6 last4
)
) (
j2 first6 last4
)
)
) (fun (first5:Bool) (last5:Bool) =>
grd (I64 (i3+1)) <|
ag1 first5 last5 (i3+1)
)
) (
j1 first4 last4
)
def zfa (rows1:List Gapi_Row) (k1:Int):Option Int :=
grd (I64 (k1 - 1)) <|
zal (zbF rows1 (k1 - 1)) fun (q1:Gapi_Row) =>
zal (zbF rows1 k1) fun (q2:Gapi_Row) =>
zaw ((q1.Stanza:Int) != q2.Stanza) (
some 0
) (
zaw ((q1.Line:Int)==q2.Line) (
some 100
) (
zbl (fun (j1:Bool→Bool→Option Int) =>
zaF (fun _ _ _=>none) (zc7 rows1 q1 q2 j1) zbW true true 0
) (fun (first1:Bool) (last1:Bool) =>
zaw (first1) (
some 50
) (
zaw (last1) (
some 50
) (
some 10
)
)
)
)
)
theorem zmB {vvrows1 vrows1:Value} {Lrows1:List Gapi_Row} {krows1:Nat} {rows1:List Gapi_Row} (hwrows1:Vw vvrows1 Lrows1 6 krows1 vrows1 rows1) {k1:Int} {r:Int} (h:zfa rows1 k1=some r):FnR Tryd.prog 9 [vrows1,zI k1] [zhS zcT 6 vvrows1 krows1 Lrows1] [] (fun _:Unit=>(zI r)) (fun _=>[]):=by
 unfold zfa at h
 refine FnR.intro Tryd.func9 rfl Tryd.ntmps9 (by simp) ?_
 intro w0 K hrd
 refine zyG (zyR 1 rfl (zyN (zaJ ?_)))
 obtain ⟨hg1,h⟩:=zbk h
 obtain ⟨q1,hq1,h⟩:=zbg h
 obtain ⟨q2,hq2,h⟩:=zbg h
 refine zfU 2 ?_
 refine let vals1:(Nat×Nat)→List (Nat×Nat×Value):=fun b=>[(0,10,vrows1),(1,11,zI k1),(2,12,zI (k1 - 1)),(3,13,.pointer (some ⟨zb7 vvrows1,(krows1+(k1 - 1:Int).toNat)*6,none⟩)),(4,14,.agg (zr4 q1).toArray),(5,15,vrows1),(6,16,zI k1),(7,17,.pointer (some ⟨zb7 vvrows1,(krows1+(k1:Int).toNat)*6,none⟩)),(8,18,.agg (zr4 q2).toArray),(9,5,zP b.1),(10,6,zP b.2)]; let LL1:(Nat→Prop)→(Nat×Nat)→List Asn:=fun D b=>[eD D emp [(11,cells b.1 (zr4 q1) 38),(9,cells b.1 [zI 0,zI 0,zI 0,zI 0,zI 0,.string ByteArray.empty] 38)],eD D emp [(10,cells b.2 [zI 0,zI 0,zI 0,zI 0,zI 0,.string ByteArray.empty] 38)]]; ?_
 have zhq:zyQ [9,10,11] LL1:=fun i h D b=>zac (zjd rfl h) (zac (zjd rfl h) rfl)
 refine zdI (β:=Nat×Nat) 12 ((0:Nat),(0:Nat)) vals1 LL1 mixed kr kr dc (fun _=>rfl) (zac zbS (zac zbS rfl)) (zld zhq (fun _=>rfl) (fun _=>rfl) 2 0 (fun _=>rfl) rfl (zyq zhq rfl (fun _=>rfl) (fun _=>rfl) ?_ (zyq zhq rfl (fun _=>rfl) (fun _=>rfl) ?_ (zyq zhq rfl (fun _=>rfl) (fun _=>rfl) ?_ (zld zhq (fun _=>rfl) (fun _=>rfl) 2 5 (fun _=>rfl) rfl (zyq zhq rfl (fun _=>rfl) (fun _=>rfl) ?_ (zyq zhq rfl (fun _=>rfl) (fun _=>rfl) ?_ (zat ?_ (zat ?_ (zat ?_ DrawG.nil)))))))))) ?_
 · exact fun D ⟨b1,b2⟩ n d c u i=>zbM rfl dc (zaa (m:=1) u rfl (d 1 dc)) rfl (zbj (r:=k1 - 1) (IntWalk.i64_in _ hg1)) (zaf 2 u i rfl)
 · exact fun D ⟨b1,b2⟩ n d c u i=>za8 hwrows1 hq1 Tryd.underlying30 zfX rfl dc (zaa (m:=0) u rfl (d 0 dc)) (zaa (m:=2) u rfl (d 2 dc)) rfl (zaf 3 u i rfl)
 · exact fun D ⟨b1,b2⟩ n d c u i=>zio (m:=krows1+(k1 - 1:Int).toNat) (j:=0) (i:=0) (q:=q1) (cs:=(zr4 q1)) hrd rfl (by omega) zno rfl dc (zaa (m:=3) u rfl (d 3 dc)) (Vw.get hwrows1 hq1) rfl rfl rfl (zaf 4 u i rfl)
 · exact fun D ⟨b1,b2⟩ n d c u i=>za8 hwrows1 hq2 Tryd.underlying30 zfX rfl dc (zaa (m:=5) u rfl (d 5 dc)) (zaa (m:=6) u rfl (d 6 dc)) rfl (zaf 7 u i rfl)
 · exact fun D ⟨b1,b2⟩ n d c u i=>zio (m:=krows1+(k1:Int).toNat) (j:=0) (i:=0) (q:=q2) (cs:=(zr4 q2)) hrd rfl (by omega) zno rfl dc (zaa (m:=7) u rfl (d 7 dc)) (Vw.get hwrows1 hq2) rfl rfl rfl (zaf 8 u i rfl)
 ·
  intro D b hn hd hcl
  obtain ⟨zb0,b2⟩:=b
  refine zaG (zac (zai (fun hD=>hn (hcl 11 _ rfl hD 9 dc)) (zai hn zap)) rfl) ?_
  refine zbt zos rfl dc (fun b1 => ?_)
  refine zcD 0 rfl rfl ?_
  exact zaO (b:=(zb0,b2)) (b1,b2) 9 (by rfl) (by rfl) rfl (zuW (zaq (fun hD=>absurd hD hn) (zaq (fun _=>rfl) rfl))) (zac (zai (fun h=>h.elim (fun hD=>hn (hcl 11 _ rfl hD 9 dc)) (fun h=>absurd h dc)) (zaH (Or.inr rfl) rfl)) (zac (zao (by rfl)) rfl))
 ·
  intro D b hn hd hcl
  obtain ⟨b1,zb1⟩:=b
  refine zaG (zac (zai (fun hD=>hn (hcl 11 _ rfl hD 10 dc)) rfl) (zac (zai hn zap) rfl)) ?_
  refine zbt zos rfl dc (fun b2 => ?_)
  refine zcD 1 rfl rfl ?_
  exact zaO (b:=(b1,zb1)) (b1,b2) 10 (by rfl) (by rfl) rfl (zqA (zaq (fun hD=>absurd hD hn) rfl)) (zac ((zao (by rfl)).trans (zai (fun hD=>hn (hcl 11 _ rfl hD 10 dc)) rfl)) (zac (zaH (Or.inr rfl) rfl) rfl))
 ·
  intro D b hn hd hcl
  obtain ⟨b1,b2⟩:=b
  refine zaG (zac (zai hn (zaH (hd 9 dc) rfl)) (zac (zaH (hd 10 dc) rfl) rfl)) (zaY (k:=0) (vs:=(zr4 q1)) (l':=(zr4 q1)) zfX rfl (zaa (m:=9) rfl rfl (hd 9 dc)) (zaa (m:=4) rfl rfl (hd 4 dc)) rfl rfl (show _≤_ by simp) rfl rfl ?_)
  exact zha (b:=(b1,b2)) (b1,b2) (by rfl) (zsd rfl) (zac (zaH (Or.inr rfl) rfl) (zac ((zao (by rfl)).trans (zaH (hd 10 dc) rfl)) rfl))
 intro D b hall
 obtain ⟨b1,b2⟩:=b
 refine zaG (zac (zaH (hall 11 dc) rfl) (zac (zaH (hall 10 dc) rfl) rfl)) (zaY (k:=1) (vs:=(zr4 q2)) (l':=(zr4 q2)) zfX rfl rfl rfl rfl rfl (show _≤_ by simp) rfl rfl (zyN (zaJ (zyG (zab zdT rfl dc rfl (show _=1 from rfl) (zar (k:=0) zbh rfl dc rfl rfl rfl (zab zdT rfl dc rfl (show _=1 from rfl) (zar (k:=1) zbh rfl dc rfl rfl rfl (zaT rfl zce (zyN ?_))))))))))
 refine zyB rfl h (fun h => ?_) (fun h => ?_)
 ·
  refine zyG (zyR 1 rfl (zyN (zaI (zau ?_))))
  cases h
  exact zaK (rs:=[.tmp 4]) () (.inl rfl) Tryd.results9 (.cons (.tmp rfl) .nil) rfl Splits.nil
 refine zas (zaL (zaJ (zyG (zab zfS rfl dc rfl (show _=0 from rfl) (zar (k:=0) zbh rfl dc rfl rfl rfl (zab zfS rfl dc rfl (show _=0 from rfl) (zar (k:=1) zbh rfl dc rfl rfl rfl (zaT rfl zaP (zyN ?_)))))))))
 refine zyB rfl h (fun h => ?_) (fun h => ?_)
 ·
  refine zyG (zyR 1 rfl (zyN (zaI (zau ?_))))
  cases h
  exact zaK (rs:=[.tmp 4]) () (.inl rfl) Tryd.results9 (.cons (.tmp rfl) .nil) rfl Splits.nil
 refine zas (zaL ?_)
 obtain ⟨j1,hj1,h⟩:=zbK h
 refine zaX (β:=Bool×Bool) 1 rfl (fun b=>j1 b.1 b.2=some r) (fun b=>[]) (fun b=>[(7,.bool b.1),(8,.bool b.2)]) (fun b=>[]) (fun cut => ?_) ?_
 ·
  refine zyG (zyR 2 rfl (zyN (cut (zyG (zyR 1 rfl (zyN (zaE ?_)))))))
  refine zbn (β:=Nat×Bool×Bool×Int) (fun b=>zaF (fun _ _ _=>none) (zc7 rows1 q1 q2 j1) b.1 b.2.1 b.2.2.1 b.2.2.2=some r) (fun b=>[]) (fun b=>[(0,vrows1),(5,zP b1),(6,zP b2),(7,.bool b.2.1),(8,.bool b.2.2.1),(9,zI b.2.2.2)]) (fun b=>[cells b1 (zr4 q1) 38,cells b2 (zr4 q2) 38]) (fun b=>b.1) (zbW,true,true,0) h rfl (za0 rfl) (zae [0,1] kr rfl) ?_
  rintro ⟨n1,first4,last4,i3⟩ h
  cases n1 with
  | zero=>exact zdG h
  | succ n1 =>
   obtain ⟨ag1,hag1⟩:∃ ag,ag=zaF (fun _ _ _=>none) (zc7 rows1 q1 q2 j1) n1:=⟨_,rfl⟩
   have h:zc7 rows1 q1 q2 j1 ag1 first4 last4 i3=some r:=by rw [hag1]; exact h
   unfold zc7 at h
   refine zaJ (zyG (zyR 2 rfl (zdy hwrows1 rfl dc rfl Tryd.underlying30 (zaT rfl zbf (zyN ?_)))))
   refine zyB rfl h (fun h => ?_) (fun h => ?_)
   ·
    refine zas (zaL ?_)
    obtain ⟨j2,hj2,h⟩:=zbK h
    refine zaX (β:=Bool×Bool) 0 rfl (fun b=>j2 b.1 b.2=some r) (fun b=>[]) (fun b=>[(0,vrows1),(5,zP b1),(6,zP b2),(7,.bool b.1),(8,.bool b.2),(9,zI i3)]) (fun b=>[cells b1 (zr4 q1) 38,cells b2 (zr4 q2) 38]) (fun cut => ?_) ?_
    ·
     refine cut (zaE ?_)
     obtain ⟨j3,hj3,h⟩:=zbK h
     refine zaX (β:=Bool) 0 rfl (fun b=>j3 b=some r) (fun b=>[]) (fun b=>[(0,vrows1),(5,zP b1),(6,zP b2),(7,.bool b),(8,.bool last4),(9,zI i3)]) (fun b=>[cells b1 (zr4 q1) 38,cells b2 (zr4 q2) 38]) (fun cut => ?_) ?_
     ·
      refine cut (zaJ ?_)
      obtain ⟨q3,hq3,h⟩:=zbg h
      refine zd8 (b:=(q3.Stanza:Int)==q1.Stanza) (fun hb4 => ?_) (fun hb4 => ?_)
      ·
       have h:=zgv hb4 h
       refine zbu 16 [(0,35,vrows1),(1,36,zI i3),(2,37,.pointer (some ⟨zb7 vvrows1,(krows1+(i3:Int).toNat)*6,none⟩)),(3,38,.pointer (some ⟨zb7 vvrows1,(krows1+(i3:Int).toNat)*6+1,none⟩)),(4,39,zI q3.Stanza),(5,40,.pointer (some ⟨b1,1,none⟩)),(6,41,zI q1.Stanza),(7,42,.bool true),(8,43,.bool true),(9,44,vrows1),(10,45,zI i3),(11,46,.pointer (some ⟨zb7 vvrows1,(krows1+(i3:Int).toNat)*6,none⟩)),(12,47,.pointer (some ⟨zb7 vvrows1,(krows1+(i3:Int).toNat)*6,none⟩)),(13,48,zI q3.Line),(14,49,zP b1),(15,50,zI q1.Line)] mixed kr kr dc (by rfl) kr kr (zyP 2 0 rfl (zad ?_ (zad ?_ (zad ?_ (zad ?_ (zad ?_ (zad ?_ (zyP 3 8 rfl (zad ?_ (zad ?_ (zad ?_ (zad ?_ (zad ?_ DrawPre.nil))))))))))))) ?_
       · exact fun D n d c u i=>za8 hwrows1 hq3 Tryd.underlying30 zfX rfl dc (zaa (m:=0) u rfl (d 0 dc)) (zaa (m:=1) u rfl (d 1 dc)) rfl (zaf 2 u i rfl)
       · exact fun D n d c u i=>zab zdT rfl dc (zaa (m:=2) u rfl (d 2 dc)) (show _=(krows1+(i3:Int).toNat)*6+1 from rfl) (zaf 3 u i rfl)
       · exact fun D n d c u i=>zci (n:=krows1+(i3:Int).toNat) (j:=1) (i:=0) (q:=q3) hrd rfl (by omega) zbh rfl dc (zaa (m:=3) u rfl (d 3 dc)) (Vw.get hwrows1 hq3) rfl rfl (zaf 4 u i rfl)
       · exact fun D n d c u i=>zab zdT rfl dc (za9 (by rfl) rfl) (show _=1 from rfl) (zaf 5 u i rfl)
       · exact fun D n d c u i=>zar (k:=0) zbh rfl dc (zaa (m:=5) u rfl (d 5 dc)) rfl rfl (zaf 6 u i rfl)
       · exact fun D n d c u i=>zbM rfl dc (zaa (m:=4) u rfl (d 4 dc)) (zaa (m:=6) u rfl (d 6 dc)) zaP (zdF (show Value.bool ((q3.Stanza:Int)==q1.Stanza)=Value.bool true from congrArg Value.bool hb4) (zaf 7 u i rfl))
       · exact fun D n d c u i=>za8 hwrows1 hq3 Tryd.underlying30 zfX (zeQ rfl (zaa (m:=8) u rfl (d 8 dc))) dc (zaa (m:=9) u rfl (d 9 dc)) (zaa (m:=10) u rfl (d 10 dc)) rfl (zaf 11 u i rfl)
       · exact fun D n d c u i=>zab zfS (zeQ rfl (zaa (m:=8) u rfl (d 8 dc))) dc (zaa (m:=11) u rfl (d 11 dc)) (show _=(krows1+(i3:Int).toNat)*6 from rfl) (zaf 12 u i rfl)
       · exact fun D n d c u i=>zci (n:=krows1+(i3:Int).toNat) (j:=0) (i:=0) (q:=q3) hrd rfl (by omega) zbh (zeQ rfl (zaa (m:=8) u rfl (d 8 dc))) dc (zaa (m:=12) u rfl (d 12 dc)) (Vw.get hwrows1 hq3) rfl rfl (zaf 13 u i rfl)
       · exact fun D n d c u i=>zab zfS (zeQ rfl (zaa (m:=8) u rfl (d 8 dc))) dc (za9 (by rfl) rfl) (show _=0 from rfl) (zaf 14 u i rfl)
       · exact fun D n d c u i=>zar (k:=0) zbh (zeQ rfl (zaa (m:=8) u rfl (d 8 dc))) dc (zaa (m:=14) u rfl (d 14 dc)) rfl rfl (zaf 15 u i rfl)
       refine zaT rfl zbf (zyR 1 rfl (zyN ?_))
       refine zyB rfl h (fun h => ?_) (fun h => ?_)
       ·
        refine zax (zyR 1 rfl (zaR ?_))
        exact zak false h rfl (za0 rfl) (zae [0,1] kr rfl)
       refine zas ?_
       exact zak first4 h rfl (za0 rfl) (zae [0,1] kr rfl)
      have h:=zgw hb4 h
      refine zbu 16 [(0,35,vrows1),(1,36,zI i3),(2,37,.pointer (some ⟨zb7 vvrows1,(krows1+(i3:Int).toNat)*6,none⟩)),(3,38,.pointer (some ⟨zb7 vvrows1,(krows1+(i3:Int).toNat)*6+1,none⟩)),(4,39,zI q3.Stanza),(5,40,.pointer (some ⟨b1,1,none⟩)),(6,41,zI q1.Stanza),(7,42,.bool false),(8,43,.bool false),(9,44,undef),(10,45,undef),(11,46,undef),(12,47,undef),(13,48,undef),(14,49,undef),(15,50,undef)] mixed kr kr dc (by rfl) kr kr (zyP 2 0 rfl (zad ?_ (zad ?_ (zad ?_ (zad ?_ (zad ?_ (zad ?_ (zyP 8 8 rfl DrawPre.nil)))))))) ?_
      · exact fun D n d c u i=>za8 hwrows1 hq3 Tryd.underlying30 zfX rfl dc (zaa (m:=0) u rfl (d 0 dc)) (zaa (m:=1) u rfl (d 1 dc)) rfl (zaf 2 u i rfl)
      · exact fun D n d c u i=>zab zdT rfl dc (zaa (m:=2) u rfl (d 2 dc)) (show _=(krows1+(i3:Int).toNat)*6+1 from rfl) (zaf 3 u i rfl)
      · exact fun D n d c u i=>zci (n:=krows1+(i3:Int).toNat) (j:=1) (i:=0) (q:=q3) hrd rfl (by omega) zbh rfl dc (zaa (m:=3) u rfl (d 3 dc)) (Vw.get hwrows1 hq3) rfl rfl (zaf 4 u i rfl)
      · exact fun D n d c u i=>zab zdT rfl dc (za9 (by rfl) rfl) (show _=1 from rfl) (zaf 5 u i rfl)
      · exact fun D n d c u i=>zar (k:=0) zbh rfl dc (zaa (m:=5) u rfl (d 5 dc)) rfl rfl (zaf 6 u i rfl)
      · exact fun D n d c u i=>zbM rfl dc (zaa (m:=4) u rfl (d 4 dc)) (zaa (m:=6) u rfl (d 6 dc)) zaP (zdF (show Value.bool ((q3.Stanza:Int)==q1.Stanza)=Value.bool false from congrArg Value.bool hb4) (zaf 7 u i rfl))
      refine zyR 2 rfl (zyN (zaN rfl (zas ?_)))
      exact zak first4 h rfl (za0 rfl) (zae [0,1] kr rfl)
     rintro first6 h
     rw [hj3] at h
     refine zaJ ?_
     obtain ⟨q4,hq4,h⟩:=zbg h
     refine zd8 (b:=(q4.Stanza:Int)==q1.Stanza) (fun hb6 => ?_) (fun hb6 => ?_)
     ·
      have h:=zgv hb6 h
      refine zbu 16 [(0,53,vrows1),(1,54,zI i3),(2,55,.pointer (some ⟨zb7 vvrows1,(krows1+(i3:Int).toNat)*6,none⟩)),(3,56,.pointer (some ⟨zb7 vvrows1,(krows1+(i3:Int).toNat)*6+1,none⟩)),(4,57,zI q4.Stanza),(5,58,.pointer (some ⟨b1,1,none⟩)),(6,59,zI q1.Stanza),(7,60,.bool true),(8,61,.bool true),(9,62,vrows1),(10,63,zI i3),(11,64,.pointer (some ⟨zb7 vvrows1,(krows1+(i3:Int).toNat)*6,none⟩)),(12,65,.pointer (some ⟨zb7 vvrows1,(krows1+(i3:Int).toNat)*6,none⟩)),(13,66,zI q4.Line),(14,67,zP b2),(15,68,zI q2.Line)] mixed kr kr dc (by rfl) kr kr (zyP 2 0 rfl (zad ?_ (zad ?_ (zad ?_ (zad ?_ (zad ?_ (zad ?_ (zyP 3 8 rfl (zad ?_ (zad ?_ (zad ?_ (zad ?_ (zad ?_ DrawPre.nil))))))))))))) ?_
      · exact fun D n d c u i=>za8 hwrows1 hq4 Tryd.underlying30 zfX rfl dc (zaa (m:=0) u rfl (d 0 dc)) (zaa (m:=1) u rfl (d 1 dc)) rfl (zaf 2 u i rfl)
      · exact fun D n d c u i=>zab zdT rfl dc (zaa (m:=2) u rfl (d 2 dc)) (show _=(krows1+(i3:Int).toNat)*6+1 from rfl) (zaf 3 u i rfl)
      · exact fun D n d c u i=>zci (n:=krows1+(i3:Int).toNat) (j:=1) (i:=0) (q:=q4) hrd rfl (by omega) zbh rfl dc (zaa (m:=3) u rfl (d 3 dc)) (Vw.get hwrows1 hq4) rfl rfl (zaf 4 u i rfl)
      · exact fun D n d c u i=>zab zdT rfl dc (za9 (by rfl) rfl) (show _=1 from rfl) (zaf 5 u i rfl)
      · exact fun D n d c u i=>zar (k:=0) zbh rfl dc (zaa (m:=5) u rfl (d 5 dc)) rfl rfl (zaf 6 u i rfl)
      · exact fun D n d c u i=>zbM rfl dc (zaa (m:=4) u rfl (d 4 dc)) (zaa (m:=6) u rfl (d 6 dc)) zaP (zdF (show Value.bool ((q4.Stanza:Int)==q1.Stanza)=Value.bool true from congrArg Value.bool hb6) (zaf 7 u i rfl))
      · exact fun D n d c u i=>za8 hwrows1 hq4 Tryd.underlying30 zfX (zeQ rfl (zaa (m:=8) u rfl (d 8 dc))) dc (zaa (m:=9) u rfl (d 9 dc)) (zaa (m:=10) u rfl (d 10 dc)) rfl (zaf 11 u i rfl)
      · exact fun D n d c u i=>zab zfS (zeQ rfl (zaa (m:=8) u rfl (d 8 dc))) dc (zaa (m:=11) u rfl (d 11 dc)) (show _=(krows1+(i3:Int).toNat)*6 from rfl) (zaf 12 u i rfl)
      · exact fun D n d c u i=>zci (n:=krows1+(i3:Int).toNat) (j:=0) (i:=0) (q:=q4) hrd rfl (by omega) zbh (zeQ rfl (zaa (m:=8) u rfl (d 8 dc))) dc (zaa (m:=12) u rfl (d 12 dc)) (Vw.get hwrows1 hq4) rfl rfl (zaf 13 u i rfl)
      · exact fun D n d c u i=>zab zfS (zeQ rfl (zaa (m:=8) u rfl (d 8 dc))) dc (za9 (by rfl) rfl) (show _=0 from rfl) (zaf 14 u i rfl)
      · exact fun D n d c u i=>zar (k:=1) zbh (zeQ rfl (zaa (m:=8) u rfl (d 8 dc))) dc (zaa (m:=14) u rfl (d 14 dc)) rfl rfl (zaf 15 u i rfl)
      refine zaT rfl zcA (zyR 1 rfl (zyN ?_))
      refine zyB rfl h (fun h => ?_) (fun h => ?_)
      ·
       refine zax (zyR 1 rfl (zaR (zag ?_)))
       exact zak (first6,false) h rfl (za0 rfl) (zae [0,1] kr rfl)
      refine zas (zag ?_)
      exact zak (first6,last4) h rfl (za0 rfl) (zae [0,1] kr rfl)
     have h:=zgw hb6 h
     refine zbu 16 [(0,53,vrows1),(1,54,zI i3),(2,55,.pointer (some ⟨zb7 vvrows1,(krows1+(i3:Int).toNat)*6,none⟩)),(3,56,.pointer (some ⟨zb7 vvrows1,(krows1+(i3:Int).toNat)*6+1,none⟩)),(4,57,zI q4.Stanza),(5,58,.pointer (some ⟨b1,1,none⟩)),(6,59,zI q1.Stanza),(7,60,.bool false),(8,61,.bool false),(9,62,undef),(10,63,undef),(11,64,undef),(12,65,undef),(13,66,undef),(14,67,undef),(15,68,undef)] mixed kr kr dc (by rfl) kr kr (zyP 2 0 rfl (zad ?_ (zad ?_ (zad ?_ (zad ?_ (zad ?_ (zad ?_ (zyP 8 8 rfl DrawPre.nil)))))))) ?_
     · exact fun D n d c u i=>za8 hwrows1 hq4 Tryd.underlying30 zfX rfl dc (zaa (m:=0) u rfl (d 0 dc)) (zaa (m:=1) u rfl (d 1 dc)) rfl (zaf 2 u i rfl)
     · exact fun D n d c u i=>zab zdT rfl dc (zaa (m:=2) u rfl (d 2 dc)) (show _=(krows1+(i3:Int).toNat)*6+1 from rfl) (zaf 3 u i rfl)
     · exact fun D n d c u i=>zci (n:=krows1+(i3:Int).toNat) (j:=1) (i:=0) (q:=q4) hrd rfl (by omega) zbh rfl dc (zaa (m:=3) u rfl (d 3 dc)) (Vw.get hwrows1 hq4) rfl rfl (zaf 4 u i rfl)
     · exact fun D n d c u i=>zab zdT rfl dc (za9 (by rfl) rfl) (show _=1 from rfl) (zaf 5 u i rfl)
     · exact fun D n d c u i=>zar (k:=0) zbh rfl dc (zaa (m:=5) u rfl (d 5 dc)) rfl rfl (zaf 6 u i rfl)
     · exact fun D n d c u i=>zbM rfl dc (zaa (m:=4) u rfl (d 4 dc)) (zaa (m:=6) u rfl (d 6 dc)) zaP (zdF (show Value.bool ((q4.Stanza:Int)==q1.Stanza)=Value.bool false from congrArg Value.bool hb6) (zaf 7 u i rfl))
     refine zyR 2 rfl (zyN (zaN rfl (zas (zag ?_))))
     exact zak (first6,last4) h rfl (za0 rfl) (zae [0,1] kr rfl)
    rintro ⟨first5,last5⟩ h
    rw [hj2] at h
    refine zax (zyR 1 rfl ?_)
    obtain ⟨hg2,h⟩:=zbk h
    refine zaT rfl (zaQ (r:=i3+1) (IntWalk.i64_in _ hg2)) (zyR 1 rfl (zaR ?_))
    subst hag1
    exact za4 (n1,first5,last5,i3+1) h (Nat.lt_succ_self _) rfl (za0 rfl) (zae [0,1] kr rfl)
   refine za2 (zam (zam (zav ?_)))
   exact zak (first4,last4) h rfl (za0 rfl) Splits.nil
 rintro ⟨first1,last1⟩ h
 rw [hj1] at h
 refine zaJ (zyG (zyR 2 rfl ?_))
 refine zyS (s:=72) rfl h (fun h => ?_) (fun h => ?_)
 ·
  refine zyR 2 rfl (zyN (za7 rfl (zyG (zyR 1 rfl (zyN (zaI (zau ?_)))))))
  cases h
  exact zaK (rs:=[.tmp 4]) () (.inl rfl) Tryd.results9 (.cons (.tmp rfl) .nil) rfl Splits.nil
 refine zyR 2 rfl (zyN ?_)
 refine zyB rfl h (fun h => ?_) (fun h => ?_)
 ·
  refine zyG (zyR 1 rfl (zyN (zaI (zau ?_))))
  cases h
  exact zaK (rs:=[.tmp 4]) () (.inl rfl) Tryd.results9 (.cons (.tmp rfl) .nil) rfl Splits.nil
 refine zas (zaL (zyG (zyR 1 rfl (zyN (zaI ?_)))))
 cases h
 exact zaK (rs:=[.tmp 4]) () (.inl rfl) Tryd.results9 (.cons (.tmp rfl) .nil) rfl Splits.nil
end Go.Proofs.YtbempdelckaccaaDoor
