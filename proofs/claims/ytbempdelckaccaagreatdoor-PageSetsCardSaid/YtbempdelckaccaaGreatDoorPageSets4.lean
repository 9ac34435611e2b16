/-
  Texts laid together: LpF, LpG, LpH, Pf, Pg, Ph, Pi, Pj, Pk, PgA, Pn, LqA, Ca, LqP. Nothing is assumed.
-/
import Derived.Test.YtbempdelckaccaaGreatDoorPageSets3
import Derived.Test.YtbempdelckaccaaGreatDoorPageSets2
set_option maxRecDepth 100000
set_option maxHeartbeats 4000000

namespace Go.Proofs.YtbempdelckaccaaGreatDoor
open Go.RowKit Go.Lib
set_option linter.unusedVariables false
set_option linter.unusedSimpArgs false
def zbQ (s1:ByteArray) (j1:(List Gref02_Piece)→Option (List Gref02_Piece)) (ag1:(List Gref02_Piece)→Nat→Option (List Gref02_Piece)) (l4:List Gref02_Piece) (m3:Nat):Option (List Gref02_Piece) :=
zay (decide (m3<(pcs s1.data.toList).length)) (
zah ((pcs s1.data.toList)[m3]?) fun (p1:Pc) =>
zbk (fun (j2:(List Gref02_Piece)→Option (List Gref02_Piece)) =>
zay (decide ((0:Int)<(l4.length:Int))) (
grd (I64 ((l4.length:Int) - 1)) <|
grd (I64 ((l4.length:Int) - 1)) <|
zah (zbm l4 ((l4.length:Int) - 1)) fun (q1:Gref02_Piece) =>
grd (I64 ((p1.i:Int) - q1.At)) <|
j2 (l4.set ((l4.length:Int) - 1:Int).toNat (⟨q1.At,(p1.i:Int) - q1.At,q1.Rune⟩:Gref02_Piece))
) (
j2 l4
)
) (fun (l5:List Gref02_Piece) =>
grd (l5.length+1≤2147483648) <|
ag1 (l5++[(⟨(p1.i:Int),0,(p1.r:Int)⟩:Gref02_Piece)]) (m3+1)
)
) (
j1 l4
)
def zeU (s1:ByteArray):Option (List Gref02_Piece) :=
zbk (fun (j1:(List Gref02_Piece)→Option (List Gref02_Piece)) =>
zaE (fun _ _=>none) (zbQ s1 j1) zbN ([]:List Gref02_Piece) 0
) (fun (l1:List Gref02_Piece) =>
zbk (fun (j3:(List Gref02_Piece)→Option (List Gref02_Piece)) =>
zay (decide ((0:Int)<(l1.length:Int))) (
grd (I64 ((l1.length:Int) - 1)) <|
grd (I64 ((l1.length:Int) - 1)) <|
zah (zbm l1 ((l1.length:Int) - 1)) fun (q2:Gref02_Piece) =>
grd (I64 ((s1.size:Int) - q2.At)) <|
j3 (l1.set ((l1.length:Int) - 1:Int).toNat (⟨q2.At,(s1.size:Int) - q2.At,q2.Rune⟩:Gref02_Piece))
) (
j3 l1
)
) (fun (l6:List Gref02_Piece) =>
some l6
)
)
theorem zkz {s1:ByteArray} {r:(List Gref02_Piece)} (h:zeU s1=some r):Fn Tryz.prog 105 [.string s1] [] (fun v0:Value=>v0) (fun v0=>[zs0 v0 r]):=by
 unfold zeU at h
 refine Fn.intro Tryz.func105 rfl Tryz.ntmps105 (by simp) ?_
 intro w0 K
 obtain ⟨j1,hj1,h⟩:=zbG h
 refine zaX (β:=(List Gref02_Piece)×Value) 2 rfl (fun b=>j1 b.1=some r) (fun b=>[]) (fun b=>[(0,.string s1),(3,b.2)]) (fun b=>[zs0 b.2 b.1]) (fun cut => ?_) ?_
 ·
  refine zyG (zyR 1 rfl (zyH (zyR 1 rfl (zyN (cut (zyG (zyR 1 rfl ?_)))))))
  refine zfF Tryz.underlying9 rfl dc rfl (fun b1 => ?_)
  refine zyN (zaF (zcR (enc:=zek) (e:=187) (size:=3) ?_))
  refine zbj (β:=Nat×(List Gref02_Piece)×Nat×Value) (fun b=>zaE (fun _ _=>none) (zbQ s1 j1) b.1 b.2.1 b.2.2.1=some r) (fun b=>[]) (fun b=>[(0,.string s1),(3,b.2.2.2),(7,zP b1)]) (fun b=>[zs0 b.2.2.2 b.2.1,obj b1 (.stringIter s1 (zfW s1 b.2.2.1))]) (fun b=>b.1) (zbN,([]:List Gref02_Piece),0,(.slice none 0 0)) (by exact h) rfl (za0 rfl) (zad [1,0] kr rfl) ?_
  rintro ⟨n1,l4,m3,v4⟩ h
  cases n1 with
  | zero=>exact zdp h
  | succ n1 =>
   obtain ⟨ag1,hag1⟩:∃ ag,ag=zaE (fun _ _=>none) (zbQ s1 j1) n1:=⟨_,rfl⟩
   have h:zbQ s1 j1 ag1 l4 m3=some r:=by rw [hag1]; exact h
   unfold zbQ at h
   refine zyG ?_
   refine zfG (b:=decide (m3<(pcs s1.data.toList).length)) (fun hb1 => ?_) (fun hb1 => ?_)
   ·
    have h:=zf0 hb1 h
    obtain ⟨p1,hq1,h⟩:=zbi h
    refine zf9 (k:=1) (m:=m3) (p:=p1) rfl dc rfl rfl hq1 (zaN rfl dc rfl rfl (zyN (zaI (za5 rfl (zar (zaH (zaF ?_)))))))
    obtain ⟨j2,hj2,h⟩:=zbG h
    refine zaX (β:=(List Gref02_Piece)) 1 rfl (fun b=>j2 b=some r) (fun b=>[]) (fun b=>[(0,.string s1),(3,v4),(4,zI (p1.i:Int)),(5,.int .i32 (p1.r:Int)),(7,zP b1)]) (fun b=>[zs0 v4 b,obj b1 (.stringIter s1 (zfW s1 (m3+1)))]) (fun cut => ?_) ?_
    ·
     refine zyG (zaN rfl dc rfl rfl (zaN rfl dc rfl rfl (zyR 2 rfl (zyN (cut (zyG (zyR 1 rfl (zbg (k:=0) rfl dc rfl rfl Tryz.underlying184 (zaU rfl zct ?_)))))))))
     refine zyN ?_
     refine zyB rfl h (fun h => ?_) (fun h => ?_)
     ·
      refine zav (zyR 2 rfl (zbg (k:=0) rfl dc rfl rfl Tryz.underlying184 ?_))
      obtain ⟨hg1,h⟩:=zbr h
      refine zaU rfl (zbt (r:=(l4.length:Int) - 1) (IntWalk.i64_in _ hg1)) (zyR 3 rfl (zbg (k:=0) rfl dc rfl rfl Tryz.underlying184 ?_))
      obtain ⟨hg2,h⟩:=zbr h
      refine zaU rfl (zbt (r:=(l4.length:Int) - 1) (IntWalk.i64_in _ hg2)) ?_
      obtain ⟨q1,hq2,h⟩:=zbi h
      refine zaj (k:=0) hq2 Tryz.underlying184 zfw rfl dc rfl rfl rfl rfl (zab zhL rfl dc rfl (show _=(((l4.length:Int) - 1:Int).toNat)*3 from rfl) (zaA (i:=((l4.length:Int) - 1:Int).toNat) (j:=0) (k:=0) (q:=q1) zbp za7 rfl dc rfl rfl (zaz hq2) rfl dc rfl ?_))
      obtain ⟨hg3,h⟩:=zbr h
      refine zaU rfl (zbt (r:=(p1.i:Int) - q1.At) (IntWalk.i64_in _ hg3)) (zaj (k:=0) hq2 Tryz.underlying184 zfw rfl dc rfl rfl rfl rfl (zab ziN rfl dc rfl (show _=(((l4.length:Int) - 1:Int).toNat)*3+1 from rfl) ?_))
      refine zbv (i:=((l4.length:Int) - 1:Int).toNat) (j:=1) (k:=0) (q:=q1) (q':=(⟨q1.At,(p1.i:Int) - q1.At,q1.Rune⟩:Gref02_Piece)) zcs za7 rfl rfl rfl rfl (zaz hq2) rfl dc rfl (fun _ _=>rfl) ?_
      refine zaO ?_
      exact zal (l4.set ((l4.length:Int) - 1:Int).toNat (⟨q1.At,(p1.i:Int) - q1.At,q1.Rune⟩:Gref02_Piece)) h rfl (za0 rfl) (zad [0,1] kr rfl)
     refine zar ?_
     exact zal l4 h rfl (za0 rfl) (zad [0,1] kr rfl)
    rintro l5 h
    rw [hj2] at h
    refine zav (zyR 3 rfl ?_)
    refine zba (v:=.agg #[zI (p1.i:Int),zI 0,.int .i32 (p1.r:Int)]) (ps:=[(0,.tmp 31),(2,.tmp 32)]) rfl dc rfl (fun _=>by kernel_rfl) ?_
    refine zaV (cs:=[zI (p1.i:Int),zI 0,.int .i32 (p1.r:Int)]) (te:=187) (ps:=[(0,.tmp 33)]) rfl dc rfl (fun _=>by kernel_rfl) (fun b2 => ?_)
    obtain ⟨hg4,h⟩:=zbr h
    refine za4 (k:=0) (k2:=2) (ys:=[(⟨(p1.i:Int),0,(p1.r:Int)⟩:Gref02_Piece)]) Tryz.underlying184 zwg za7 zh2 rfl dc rfl rfl rfl rfl rfl rfl hg4 (fun v5 => ?_)
    refine zyR 1 rfl (zaO (zag ?_))
    subst hag1
    exact za1 (n1,l5++[(⟨(p1.i:Int),0,(p1.r:Int)⟩:Gref02_Piece)],m3+1,v5) h (Nat.lt_succ_self _) rfl (za0 rfl) (zad [0,1] kr rfl)
   have h:=zf1 hb1 h
   refine zga (k:=1) (m:=m3) rfl dc rfl rfl (Nat.le_of_not_lt (of_decide_eq_false hb1)) (zaN rfl dc rfl rfl (zyN (zaI (zaS rfl (za3 (zan (zan (zax ?_))))))))
   exact zal (l4,v4) h rfl (za0 rfl) (zad [0] kr rfl)
 rintro ⟨l1,v1⟩ h
 rw [hj1] at h
 obtain ⟨j3,hj3,h⟩:=zbG h
 refine zaX (β:=(List Gref02_Piece)) 0 rfl (fun b=>j3 b=some r) (fun b=>[]) (fun b=>[(3,v1)]) (fun b=>[zs0 v1 b]) (fun cut => ?_) ?_
 ·
  refine cut (zyG (zyR 1 rfl (zbg (k:=0) rfl dc rfl rfl Tryz.underlying184 (zaU rfl zct (zyN ?_)))))
  refine zyB rfl h (fun h => ?_) (fun h => ?_)
  ·
   refine zav (zyR 2 rfl (zbg (k:=0) rfl dc rfl rfl Tryz.underlying184 ?_))
   obtain ⟨hg5,h⟩:=zbr h
   refine zaU rfl (zbt (r:=(l1.length:Int) - 1) (IntWalk.i64_in _ hg5)) (zyR 1 rfl (zcg rfl dc rfl Tryz.underlying9 (zyR 2 rfl (zbg (k:=0) rfl dc rfl rfl Tryz.underlying184 ?_))))
   obtain ⟨hg6,h⟩:=zbr h
   refine zaU rfl (zbt (r:=(l1.length:Int) - 1) (IntWalk.i64_in _ hg6)) ?_
   obtain ⟨q2,hq3,h⟩:=zbi h
   refine zaj (k:=0) hq3 Tryz.underlying184 zfw rfl dc rfl rfl rfl rfl (zab zhL rfl dc rfl (show _=(((l1.length:Int) - 1:Int).toNat)*3 from rfl) (zaA (i:=((l1.length:Int) - 1:Int).toNat) (j:=0) (k:=0) (q:=q2) zbp za7 rfl dc rfl rfl (zaz hq3) rfl dc rfl ?_))
   obtain ⟨hg7,h⟩:=zbr h
   refine zaU rfl (zbt (r:=(s1.size:Int) - q2.At) (IntWalk.i64_in _ hg7)) (zaj (k:=0) hq3 Tryz.underlying184 zfw rfl dc rfl rfl rfl rfl (zab ziN rfl dc rfl (show _=(((l1.length:Int) - 1:Int).toNat)*3+1 from rfl) ?_))
   refine zbv (i:=((l1.length:Int) - 1:Int).toNat) (j:=1) (k:=0) (q:=q2) (q':=(⟨q2.At,(s1.size:Int) - q2.At,q2.Rune⟩:Gref02_Piece)) zcs za7 rfl rfl rfl rfl (zaz hq3) rfl dc rfl (fun _ _=>rfl) ?_
   refine zaO ?_
   exact zal (l1.set ((l1.length:Int) - 1:Int).toNat (⟨q2.At,(s1.size:Int) - q2.At,q2.Rune⟩:Gref02_Piece)) h rfl (za0 rfl) (zad [0] kr rfl)
  refine zar ?_
  exact zal l1 h rfl (za0 rfl) (zad [0] kr rfl)
 rintro l6 h
 rw [hj3] at h
 refine zyG (zyR 2 rfl (zyN (zaG ?_)))
 cases h
 exact zaK (rs:=[.tmp 2]) v1 (.inl rfl) Tryz.results105 (.cons (.tmp rfl) .nil) rfl (zad [0] kr rfl)
def zc5 (r1:Int) (j1:Option Bool) (ag1:Int→Option Bool) (i3:Int):Option Bool :=
zay (decide ((i3:Int)<12)) (
zbk (fun (j2:Option Bool) =>
zah (zbm ([4352,11904,12353,19968,44032,63744,65072,65280,65504,127744,129280,131072]:List Int) i3) fun (q1:Int) =>
zay (decide ((q1:Int)≤r1)) (
zah (zbm ([4447,12350,19903,42191,55203,64255,65135,65376,65510,128591,129535,262141]:List Int) i3) fun (q2:Int) =>
zay (decide ((r1:Int)≤q2)) (
some true
) (
j2
)
) (
j2
)
) (
grd (I64 (i3+1)) <|
ag1 (i3+1)
)
) (
j1
)
def zey (r1:Int):Option Bool :=
zbk (fun (j1:Option Bool) =>
zaE (fun _=>none) (zc5 r1 j1) zbN 0
) (
some false
)
theorem ziz {r1:Int} {r:Bool} (h:zey r1=some r):FnP Tryz.prog 107 [.int .i32 r1] (.bool r):=by
 unfold zey at h
 refine FnP.intro Tryz.func107 rfl Tryz.ntmps107 (by simp) ?_
 intro w0 K
 obtain ⟨j1,hj1,h⟩:=zbG h
 refine zaX (β:=Unit) 3 rfl (fun b=>j1=some r) (fun b=>[]) (fun b=>[]) (fun b=>[]) (fun cut => ?_) ?_
 ·
  refine zyG (zyR 1 rfl (zyH ?_))
  refine zba (v:=.agg #[.int .i32 4352,.int .i32 11904,.int .i32 12353,.int .i32 19968,.int .i32 44032,.int .i32 63744,.int .i32 65072,.int .i32 65280,.int .i32 65504,.int .i32 127744,.int .i32 129280,.int .i32 131072]) (ps:=[(0,.const (.int .i32 4352)),(1,.const (.int .i32 11904)),(2,.const (.int .i32 12353)),(3,.const (.int .i32 19968)),(4,.const (.int .i32 44032)),(5,.const (.int .i32 63744)),(6,.const (.int .i32 65072)),(7,.const (.int .i32 65280)),(8,.const (.int .i32 65504)),(9,.const (.int .i32 127744)),(10,.const (.int .i32 129280)),(11,.const (.int .i32 131072))]) rfl dc rfl (fun _=>by kernel_rfl) ?_
  refine zbE zs3 rfl dc (fun b1 => ?_)
  refine za6 (k:=0) (vs:=[.int .i32 4352,.int .i32 11904,.int .i32 12353,.int .i32 19968,.int .i32 44032,.int .i32 63744,.int .i32 65072,.int .i32 65280,.int .i32 65504,.int .i32 127744,.int .i32 129280,.int .i32 131072]) (l':=[.int .i32 4352,.int .i32 11904,.int .i32 12353,.int .i32 19968,.int .i32 44032,.int .i32 63744,.int .i32 65072,.int .i32 65280,.int .i32 65504,.int .i32 127744,.int .i32 129280,.int .i32 131072]) zs8 rfl rfl rfl rfl rfl (show _≤_ by simp) rfl rfl ?_
  refine zyH ?_
  refine zba (v:=.agg #[.int .i32 4447,.int .i32 12350,.int .i32 19903,.int .i32 42191,.int .i32 55203,.int .i32 64255,.int .i32 65135,.int .i32 65376,.int .i32 65510,.int .i32 128591,.int .i32 129535,.int .i32 262141]) (ps:=[(0,.const (.int .i32 4447)),(1,.const (.int .i32 12350)),(2,.const (.int .i32 19903)),(3,.const (.int .i32 42191)),(4,.const (.int .i32 55203)),(5,.const (.int .i32 64255)),(6,.const (.int .i32 65135)),(7,.const (.int .i32 65376)),(8,.const (.int .i32 65510)),(9,.const (.int .i32 128591)),(10,.const (.int .i32 129535)),(11,.const (.int .i32 262141))]) rfl dc rfl (fun _=>by kernel_rfl) ?_
  refine zbE zs3 rfl dc (fun b2 => ?_)
  refine za6 (k:=1) (vs:=[.int .i32 4447,.int .i32 12350,.int .i32 19903,.int .i32 42191,.int .i32 55203,.int .i32 64255,.int .i32 65135,.int .i32 65376,.int .i32 65510,.int .i32 128591,.int .i32 129535,.int .i32 262141]) (l':=[.int .i32 4447,.int .i32 12350,.int .i32 19903,.int .i32 42191,.int .i32 55203,.int .i32 64255,.int .i32 65135,.int .i32 65376,.int .i32 65510,.int .i32 128591,.int .i32 129535,.int .i32 262141]) zs8 rfl rfl rfl rfl rfl (show _≤_ by simp) rfl rfl ?_
  refine zyN (cut (zyG (zyR 1 rfl (zyN (zaF ?_)))))
  refine zbj (β:=Nat×Int) (fun b=>zaE (fun _=>none) (zc5 r1 j1) b.1 b.2=some r) (fun b=>[]) (fun b=>[(0,.int .i32 r1),(3,zP b1),(4,zP b2),(5,zI b.2)]) (fun b=>[cells b1 [.int .i32 4352,.int .i32 11904,.int .i32 12353,.int .i32 19968,.int .i32 44032,.int .i32 63744,.int .i32 65072,.int .i32 65280,.int .i32 65504,.int .i32 127744,.int .i32 129280,.int .i32 131072] 207,cells b2 [.int .i32 4447,.int .i32 12350,.int .i32 19903,.int .i32 42191,.int .i32 55203,.int .i32 64255,.int .i32 65135,.int .i32 65376,.int .i32 65510,.int .i32 128591,.int .i32 129535,.int .i32 262141] 207]) (fun b=>b.1) (zbN,0) h rfl (za0 rfl) (zad [0,1] kr rfl) ?_
  rintro ⟨n1,i3⟩ h
  cases n1 with
  | zero=>exact zdp h
  | succ n1 =>
   obtain ⟨ag1,hag1⟩:∃ ag,ag=zaE (fun _=>none) (zc5 r1 j1) n1:=⟨_,rfl⟩
   have h:zc5 r1 j1 ag1 i3=some r:=by rw [hag1]; exact h
   unfold zc5 at h
   refine zaI (zyG (zyR 1 rfl (zaU rfl zbc (zyN ?_))))
   refine zyB rfl h (fun h => ?_) (fun h => ?_)
   ·
    refine zar (zaH ?_)
    obtain ⟨j2,hj2,h⟩:=zbG h
    refine zaX (β:=Unit) 0 rfl (fun b=>j2=some r) (fun b=>[]) (fun b=>[(0,.int .i32 r1),(3,zP b1),(4,zP b2),(5,zI i3)]) (fun b=>[cells b1 [.int .i32 4352,.int .i32 11904,.int .i32 12353,.int .i32 19968,.int .i32 44032,.int .i32 63744,.int .i32 65072,.int .i32 65280,.int .i32 65504,.int .i32 127744,.int .i32 129280,.int .i32 131072] 207,cells b2 [.int .i32 4447,.int .i32 12350,.int .i32 19903,.int .i32 42191,.int .i32 55203,.int .i32 64255,.int .i32 65135,.int .i32 65376,.int .i32 65510,.int .i32 128591,.int .i32 129535,.int .i32 262141] 207]) (fun cut => ?_) ?_
    ·
     refine cut (zaF (zyG (zyR 1 rfl ?_)))
     obtain ⟨q1,hq1,h⟩:=zbi h
     refine zlb (zmS hq1) Tryz.underlying207 zvf rfl dc rfl rfl (Nat.zero_add _) (zi3 (enc:=(zqb (.i32))) (size:=1) ([4352,11904,12353,19968,44032,63744,65072,65280,65504,127744,129280,131072]:List Int) (k:=0) rfl zaQ rfl (show 12≤maxLen by decide) ?_)
     refine zaA (i:=(i3:Int).toNat) (j:=0) (k:=0) (q:=q1) ziv zaQ rfl dc rfl rfl (zaz hq1) rfl dc rfl (ztx (k:=0) rfl (zjO (by rfl)) ?_)
     refine zyR 1 rfl (zaU rfl zdJ (zyR 1 rfl ?_))
     refine zyS (s:=17) rfl h (fun h => ?_) (fun h => ?_)
     ·
      refine zyR 2 rfl ?_
      obtain ⟨q2,hq2,h⟩:=zbi h
      refine zlb (zmS hq2) Tryz.underlying207 zvf rfl dc rfl rfl (Nat.zero_add _) (zi3 (enc:=(zqb (.i32))) (size:=1) ([4447,12350,19903,42191,55203,64255,65135,65376,65510,128591,129535,262141]:List Int) (k:=1) rfl zaQ rfl (show 12≤maxLen by decide) ?_)
      refine zaA (i:=(i3:Int).toNat) (j:=0) (k:=1) (q:=q2) ziv zaQ rfl dc rfl rfl (zaz hq2) rfl dc rfl (ztx (k:=1) rfl (zjO (by rfl)) ?_)
      refine zaU rfl zdJ (zyR 1 rfl (zyN ?_))
      refine zyB rfl h (fun h => ?_) (fun h => ?_)
      ·
       refine zyG (zyR 1 rfl (zyN (zaG (zat (zao (zao (zat (zao ?_))))))))
       cases h
       exact zaK (rs:=[.tmp 2]) () (.inl rfl) Tryz.results107 (.cons (.tmp rfl) .nil) rfl Splits.nil
      refine zar (zag ?_)
      exact zal () h rfl (za0 rfl) (zad [0,1] kr rfl)
     refine zyR 6 rfl (zyN (zaS rfl (zar (zag ?_))))
     exact zal () h rfl (za0 rfl) (zad [0,1] kr rfl)
    rintro _ h
    rw [hj2] at h
    refine zav (zyR 1 rfl ?_)
    obtain ⟨hg1,h⟩:=zbr h
    refine zaU rfl (zaR (r:=i3+1) (IntWalk.i64_in _ hg1)) (zyR 1 rfl (zaO ?_))
    subst hag1
    exact za1 (n1,i3+1) h (Nat.lt_succ_self _) rfl (za0 rfl) (zad [0,1] kr rfl)
   refine za3 (zan (zan (zax ?_)))
   exact zal () h rfl (zio) Splits.nil
 rintro _ h
 rw [hj1] at h
 refine zyG (zyR 1 rfl (zyN (zaG ?_)))
 cases h
 exact zaK (rs:=[.tmp 2]) () (.inl rfl) Tryz.results107 (.cons (.tmp rfl) .nil) rfl Splits.nil
def zcz (j1:(List Gref05_Piece)→Option (List Gref05_Piece)) (r1:(List Gref02_Piece)) (ag1:(List Gref05_Piece)→Int→Option (List Gref05_Piece)) (out4:List Gref05_Piece) (i3:Int):Option (List Gref05_Piece) :=
zay (decide ((i3:Int)<(r1.length:Int))) (
zbk (fun (j2:Int→Int→Int→Bool→Int→Option (List Gref05_Piece)) =>
zah (zbm r1 i3) fun (q1:Gref02_Piece) =>
grd (I64 (q1.At+q1.Width)) <|
zah (zbm r1 i3) fun (q2:Gref02_Piece) =>
zay ((q2.Rune:Int)==65533) (
zay ((q2.Width:Int)==1) (
j2 q1.At (q1.At+q1.Width) 11 false 1
) (
zah (zbm r1 i3) fun (q3:Gref02_Piece) =>
grd (I32 q3.Rune) <|
zah (zbm r1 i3) fun (q4:Gref02_Piece) =>
zay ((q4.Rune:Int)==8205) (
j2 q1.At (q1.At+q1.Width) (kind q3.Rune) ((q4.Rune:Int)==8205) 0
) (
zay (((kind q3.Rune):Int)==2) (
j2 q1.At (q1.At+q1.Width) (kind q3.Rune) ((q4.Rune:Int)==8205) 0
) (
zay (((kind q3.Rune):Int)==4) (
j2 q1.At (q1.At+q1.Width) (kind q3.Rune) ((q4.Rune:Int)==8205) 0
) (
zay (((kind q3.Rune):Int)==9) (
j2 q1.At (q1.At+q1.Width) (kind q3.Rune) ((q4.Rune:Int)==8205) 0
) (
zah (zbm r1 i3) fun (q5:Gref02_Piece) =>
zah (zey q5.Rune) fun (r2:Bool) =>
zay (r2) (
j2 q1.At (q1.At+q1.Width) (kind q3.Rune) ((q4.Rune:Int)==8205) 2
) (
j2 q1.At (q1.At+q1.Width) (kind q3.Rune) ((q4.Rune:Int)==8205) 1
)
)
)
)
)
)
) (
zah (zbm r1 i3) fun (q6:Gref02_Piece) =>
grd (I32 q6.Rune) <|
zah (zbm r1 i3) fun (q7:Gref02_Piece) =>
zay ((q7.Rune:Int)==8205) (
j2 q1.At (q1.At+q1.Width) (kind q6.Rune) ((q7.Rune:Int)==8205) 0
) (
zay (((kind q6.Rune):Int)==2) (
j2 q1.At (q1.At+q1.Width) (kind q6.Rune) ((q7.Rune:Int)==8205) 0
) (
zay (((kind q6.Rune):Int)==4) (
j2 q1.At (q1.At+q1.Width) (kind q6.Rune) ((q7.Rune:Int)==8205) 0
) (
zay (((kind q6.Rune):Int)==9) (
j2 q1.At (q1.At+q1.Width) (kind q6.Rune) ((q7.Rune:Int)==8205) 0
) (
zah (zbm r1 i3) fun (q8:Gref02_Piece) =>
zah (zey q8.Rune) fun (r3:Bool) =>
zay (r3) (
j2 q1.At (q1.At+q1.Width) (kind q6.Rune) ((q7.Rune:Int)==8205) 2
) (
j2 q1.At (q1.At+q1.Width) (kind q6.Rune) ((q7.Rune:Int)==8205) 1
)
)
)
)
)
)
) (fun (p1:Int) (p2:Int) (p3:Int) (p4:Bool) (p5:Int) =>
grd (out4.length+1≤2147483648) <|
grd (I64 (i3+1)) <|
ag1 (out4++[(⟨p1,p2,p3,p4,p5⟩:Gref05_Piece)]) (i3+1)
)
) (
j1 out4
)
def zeR (s1:ByteArray):Option (List Gref05_Piece) :=
zbk (fun (j1:(List Gref05_Piece)→Option (List Gref05_Piece)) =>
zah (zeU s1) fun (r1:(List Gref02_Piece)) =>
zaE (fun _ _=>none) (zcz j1 r1) zbN ([]:List Gref05_Piece) 0
) (fun (out1:List Gref05_Piece) =>
some out1
)
theorem zky {s1:ByteArray} {r:(List Gref05_Piece)} (h:zeR s1=some r):Fn Tryz.prog 74 [.string s1] [] (fun v0:Value=>v0) (fun v0=>[zv9 v0 r]):=by
 unfold zeR at h
 refine Fn.intro Tryz.func74 rfl Tryz.ntmps74 (by simp) ?_
 intro w0 K
 obtain ⟨j1,hj1,h⟩:=zbG h
 refine zaX (β:=(List Gref05_Piece)×Value) 3 rfl (fun b=>j1 b.1=some r) (fun b=>[]) (fun b=>[(4,b.2)]) (fun b=>[zv9 b.2 b.1]) (fun cut => ?_) ?_
 ·
  refine zyG (zyR 1 rfl (zyH (zyR 1 rfl ?_)))
  obtain ⟨r1,hq1,h⟩:=zbi h
  refine zes (vs:=[.string s1]) rfl dc rfl rfl rfl zwa (zkz hq1) Splits.nil ?_
  rintro v2
  refine zyR 1 rfl (zyH (zyR 1 rfl (zyN (cut (zyG (zyR 1 rfl (zyN ?_)))))))
  refine zaF (zcR (enc:=zej) (e:=146) (size:=5) ?_)
  refine zbj (β:=Nat×(List Gref05_Piece)×Int×Value) (fun b=>zaE (fun _ _=>none) (zcz j1 r1) b.1 b.2.1 b.2.2.1=some r) (fun b=>[]) (fun b=>[(3,v2),(4,b.2.2.2),(5,zI b.2.2.1)]) (fun b=>[zs0 v2 r1,zv9 b.2.2.2 b.2.1]) (fun b=>b.1) (zbN,([]:List Gref05_Piece),0,(.slice none 0 0)) h rfl (za0 rfl) (zad [0,1] kr rfl) ?_
  rintro ⟨n1,out4,i3,v5⟩ h
  cases n1 with
  | zero=>exact zdp h
  | succ n1 =>
   obtain ⟨ag1,hag1⟩:∃ ag,ag=zaE (fun _ _=>none) (zcz j1 r1) n1:=⟨_,rfl⟩
   have h:zcz j1 r1 ag1 out4 i3=some r:=by rw [hag1]; exact h
   unfold zcz at h
   refine zaI (zyG (zyR 2 rfl (zbg (k:=0) rfl dc rfl rfl Tryz.underlying184 (zaU rfl zbc (zyN ?_)))))
   refine zyB rfl h (fun h => ?_) (fun h => ?_)
   ·
    refine zar (zaH (zaI (zaF ?_)))
    obtain ⟨j2,hj2,h⟩:=zbG h
    refine zaX (β:=Int×Int×Int×Bool×Int×Nat) 1 rfl (fun b=>j2 b.1 b.2.1 b.2.2.1 b.2.2.2.1 b.2.2.2.2.1=some r) (fun b=>[]) (fun b=>[(3,v2),(4,v5),(5,zI i3),(6,zP b.2.2.2.2.2)]) (fun b=>[zs0 v2 r1,zv9 v5 out4,cells b.2.2.2.2.2 [zI b.1,zI b.2.1,zI b.2.2.1,.bool b.2.2.2.1,zI b.2.2.2.2.1] 146]) (fun cut => ?_) ?_
    ·
     refine zaI ?_
     obtain ⟨q1,hq2,h⟩:=zbi h
     obtain ⟨hg1,h⟩:=zbr h
     refine zhV (β:=Nat) 19 18 _ [(0,15,v2),(1,16,zI i3),(2,17,.pointer (some ⟨zbY v2,(i3:Int).toNat*3,none⟩)),(3,18,.pointer (some ⟨zbY v2,((i3:Int).toNat)*3,none⟩)),(4,19,zI q1.At),(5,20,v2),(6,21,zI i3),(7,22,.pointer (some ⟨zbY v2,(i3:Int).toNat*3,none⟩)),(8,23,.pointer (some ⟨zbY v2,((i3:Int).toNat)*3,none⟩)),(9,24,zI q1.At),(10,25,v2),(11,26,zI i3),(12,27,.pointer (some ⟨zbY v2,(i3:Int).toNat*3,none⟩)),(13,28,.pointer (some ⟨zbY v2,((i3:Int).toNat)*3+1,none⟩)),(14,29,zI q1.Width),(15,30,zI (q1.At+q1.Width)),(16,31,.agg #[zI q1.At,zI (q1.At+q1.Width)]),(17,32,.agg #[zI q1.At,zI (q1.At+q1.Width),zI 0,.bool false,zI 1])] (fun b2=>[(6,zP b2)]) (fun b2=>[zs0 v2 r1,zv9 v5 out4,cells b2 [zI 0,zI 0,zI 0,.bool false,zI 0] 146]) mixed kr kr rfl dc dc (by rfl) kr kr (zyE 2 0 rfl (zai ?_ (zai ?_ (zai ?_ (zyE 2 5 rfl (zai ?_ (zai ?_ (zai ?_ (zyE 2 10 rfl (zai ?_ (zai ?_ (zai ?_ (zai ?_ (zai ?_ (zai ?_ (zcD DrawPreX.nil)))))))))))))))) (fun b2=>(zyE 2 0 rfl (zai ?_ (zai ?_ (zai ?_ (zyE 2 5 rfl (zai ?_ (zai ?_ (zai ?_ (zyE 2 10 rfl (zai ?_ (zai ?_ (zai ?_ (zai ?_ (zai ?_ (zai ?_ (zcD DrawPreX.nil))))))))))))))))) ?_ ?_
     · exact fun D n d c u i=>zaj (k:=0) hq2 Tryz.underlying184 zfw rfl dc (zaa (m:=0) u rfl (d 0 dc)) (zaa (m:=1) u rfl (d 1 dc)) rfl rfl (zaf 2 u i rfl)
     · exact fun D n d c u i=>zab zhL rfl dc (zaa (m:=2) u rfl (d 2 dc)) (show _=((i3:Int).toNat)*3 from rfl) (zaf 3 u i rfl)
     · exact fun D n d c u i=>zaA (i:=(i3:Int).toNat) (j:=0) (k:=0) (q:=q1) zbp za7 rfl dc (zaa (m:=3) u rfl (d 3 dc)) rfl (zaz hq2) rfl dc rfl (zaf 4 u i rfl)
     · exact fun D n d c u i=>zaj (k:=0) hq2 Tryz.underlying184 zfw rfl dc (zaa (m:=5) u rfl (d 5 dc)) (zaa (m:=6) u rfl (d 6 dc)) rfl rfl (zaf 7 u i rfl)
     · exact fun D n d c u i=>zab zhL rfl dc (zaa (m:=7) u rfl (d 7 dc)) (show _=((i3:Int).toNat)*3 from rfl) (zaf 8 u i rfl)
     · exact fun D n d c u i=>zaA (i:=(i3:Int).toNat) (j:=0) (k:=0) (q:=q1) zbp za7 rfl dc (zaa (m:=8) u rfl (d 8 dc)) rfl (zaz hq2) rfl dc rfl (zaf 9 u i rfl)
     · exact fun D n d c u i=>zaj (k:=0) hq2 Tryz.underlying184 zfw rfl dc (zaa (m:=10) u rfl (d 10 dc)) (zaa (m:=11) u rfl (d 11 dc)) rfl rfl (zaf 12 u i rfl)
     · exact fun D n d c u i=>zab ziN rfl dc (zaa (m:=12) u rfl (d 12 dc)) (show _=((i3:Int).toNat)*3+1 from rfl) (zaf 13 u i rfl)
     · exact fun D n d c u i=>zaA (i:=(i3:Int).toNat) (j:=1) (k:=0) (q:=q1) zbp za7 rfl dc (zaa (m:=13) u rfl (d 13 dc)) rfl (zaz hq2) rfl dc rfl (zaf 14 u i rfl)
     · exact fun D n d c u i=>zbz rfl dc (zaa (m:=9) u rfl (d 9 dc)) (zaa (m:=14) u rfl (d 14 dc)) (zaR (r:=q1.At+q1.Width) (IntWalk.i64_in _ hg1)) (zaf 15 u i rfl)
     · exact fun D n d c u i=>zba (v:=.agg #[zI q1.At,zI (q1.At+q1.Width)]) (ps:=[(0,.tmp 19),(1,.tmp 30)]) rfl dc (evP.cons (zaa (m:=4) u rfl (d 4 dc)) (evP.cons (zaa (m:=15) u rfl (d 15 dc)) evP.nil)) (fun _=>by kernel_rfl) (zaf 16 u i rfl)
     · exact fun D n d c u i=>zba (v:=.agg #[zI q1.At,zI (q1.At+q1.Width),zI 0,.bool false,zI 1]) (ps:=[(0,.tmp 31),(3,.const (zI 1))]) rfl dc (evP.cons (zaa (m:=16) u rfl (d 16 dc)) (evP.cons rfl evP.nil)) (fun _=>by kernel_rfl) (zaf 17 u i rfl)
     · exact fun D n d c u i=>zaj (k:=0) hq2 Tryz.underlying184 zfw rfl dc (zaa (m:=0) u rfl (d 0 dc)) (zaa (m:=1) u rfl (d 1 dc)) rfl rfl (zaf 2 u i rfl)
     · exact fun D n d c u i=>zab zhL rfl dc (zaa (m:=2) u rfl (d 2 dc)) (show _=((i3:Int).toNat)*3 from rfl) (zaf 3 u i rfl)
     · exact fun D n d c u i=>zaA (i:=(i3:Int).toNat) (j:=0) (k:=0) (q:=q1) zbp za7 rfl dc (zaa (m:=3) u rfl (d 3 dc)) rfl (zaz hq2) rfl dc rfl (zaf 4 u i rfl)
     · exact fun D n d c u i=>zaj (k:=0) hq2 Tryz.underlying184 zfw rfl dc (zaa (m:=5) u rfl (d 5 dc)) (zaa (m:=6) u rfl (d 6 dc)) rfl rfl (zaf 7 u i rfl)
     · exact fun D n d c u i=>zab zhL rfl dc (zaa (m:=7) u rfl (d 7 dc)) (show _=((i3:Int).toNat)*3 from rfl) (zaf 8 u i rfl)
     · exact fun D n d c u i=>zaA (i:=(i3:Int).toNat) (j:=0) (k:=0) (q:=q1) zbp za7 rfl dc (zaa (m:=8) u rfl (d 8 dc)) rfl (zaz hq2) rfl dc rfl (zaf 9 u i rfl)
     · exact fun D n d c u i=>zaj (k:=0) hq2 Tryz.underlying184 zfw rfl dc (zaa (m:=10) u rfl (d 10 dc)) (zaa (m:=11) u rfl (d 11 dc)) rfl rfl (zaf 12 u i rfl)
     · exact fun D n d c u i=>zab ziN rfl dc (zaa (m:=12) u rfl (d 12 dc)) (show _=((i3:Int).toNat)*3+1 from rfl) (zaf 13 u i rfl)
     · exact fun D n d c u i=>zaA (i:=(i3:Int).toNat) (j:=1) (k:=0) (q:=q1) zbp za7 rfl dc (zaa (m:=13) u rfl (d 13 dc)) rfl (zaz hq2) rfl dc rfl (zaf 14 u i rfl)
     · exact fun D n d c u i=>zbz rfl dc (zaa (m:=9) u rfl (d 9 dc)) (zaa (m:=14) u rfl (d 14 dc)) (zaR (r:=q1.At+q1.Width) (IntWalk.i64_in _ hg1)) (zaf 15 u i rfl)
     · exact fun D n d c u i=>zba (v:=.agg #[zI q1.At,zI (q1.At+q1.Width)]) (ps:=[(0,.tmp 19),(1,.tmp 30)]) rfl dc (evP.cons (zaa (m:=4) u rfl (d 4 dc)) (evP.cons (zaa (m:=15) u rfl (d 15 dc)) evP.nil)) (fun _=>by kernel_rfl) (zaf 16 u i rfl)
     · exact fun D n d c u i=>zba (v:=.agg #[zI q1.At,zI (q1.At+q1.Width),zI 0,.bool false,zI 1]) (ps:=[(0,.tmp 31),(3,.const (zI 1))]) rfl dc (evP.cons (zaa (m:=16) u rfl (d 16 dc)) (evP.cons rfl evP.nil)) (fun _=>by kernel_rfl) (zaf 17 u i rfl)
     ·
      intro D hn hd hcl
      refine zbE zu7 rfl dc (fun b2 => ?_)
      exact fun a w ha hw=>⟨b2,zld (by rfl) _ _ _ ha,hw⟩
     intro b2
     refine za6 (k:=2) (vs:=[zI q1.At,zI (q1.At+q1.Width),zI 0,.bool false,zI 1]) (l':=[zI q1.At,zI (q1.At+q1.Width),zI 0,.bool false,zI 1]) zeP rfl rfl rfl rfl rfl (show _≤_ by simp) rfl rfl (zyN (cut (zaF (zyG (zyR 2 rfl ?_)))))
     obtain ⟨q2,hq3,h⟩:=zbi h
     refine zaj (k:=0) hq3 Tryz.underlying184 zfw rfl dc rfl rfl rfl rfl (zab zg7 rfl dc rfl (show _=((i3:Int).toNat)*3+2 from rfl) (zaA (i:=(i3:Int).toNat) (j:=2) (k:=0) (q:=q2) ziv za7 rfl dc rfl rfl (zaz hq3) rfl dc rfl (zaU rfl zaT (zyR 1 rfl ?_))))
     refine zyS (s:=81) rfl h (fun h => ?_) (fun h => ?_)
     ·
      refine zyR 2 rfl (zaj (k:=0) hq3 Tryz.underlying184 zfw rfl dc rfl rfl rfl rfl (zab ziN rfl dc rfl (show _=((i3:Int).toNat)*3+1 from rfl) (zaA (i:=(i3:Int).toNat) (j:=1) (k:=0) (q:=q2) zbp za7 rfl dc rfl rfl (zaz hq3) rfl dc rfl (zaU rfl zaT (zyR 2 rfl (zyN ?_))))))
      refine zyB rfl h (fun h => ?_) (fun h => ?_)
      ·
       refine zav (zab zd2 rfl dc rfl (show _=2 from rfl) ?_)
       refine zbb (k:=2) (l':=[zI q1.At,zI (q1.At+q1.Width),zI 11,.bool false,zI 1]) zcs rfl rfl rfl rfl rfl (fun _ _=>rfl) rfl ?_
       refine zaO (zag ?_)
       exact zal (q1.At,q1.At+q1.Width,11,false,1,b2) h rfl (za0 rfl) (zad [0,1,2] kr rfl)
      refine zyG (zyR 2 rfl ?_)
      obtain ⟨q3,hq4,h⟩:=zbi h
      refine zaj (k:=0) hq4 Tryz.underlying184 zfw rfl dc rfl rfl rfl rfl (zab zg7 rfl dc rfl (show _=((i3:Int).toNat)*3+2 from rfl) (zaA (i:=(i3:Int).toNat) (j:=2) (k:=0) (q:=q3) ziv za7 rfl dc rfl rfl (zaz hq4) rfl dc rfl ?_))
      obtain ⟨hg2,h⟩:=zbr h
      refine zbD (v:=zI (kind q3.Rune)) (vs:=[.int .i32 q3.Rune]) rfl dc rfl rfl rfl ztp (zle fun w=>znC q3.Rune w hg2.1 hg2.2) ?_
      refine zab zd2 rfl dc rfl (show _=2 from rfl) ?_
      refine zbb (k:=2) (l':=[zI q1.At,zI (q1.At+q1.Width),zI (kind q3.Rune),.bool false,zI 1]) zcs rfl rfl rfl rfl rfl (fun _ _=>rfl) rfl ?_
      refine zyH (zyR 2 rfl ?_)
      obtain ⟨q4,hq5,h⟩:=zbi h
      refine zaj (k:=0) hq5 Tryz.underlying184 zfw rfl dc rfl rfl rfl rfl (zab zg7 rfl dc rfl (show _=((i3:Int).toNat)*3+2 from rfl) (zaA (i:=(i3:Int).toNat) (j:=2) (k:=0) (q:=q4) ziv za7 rfl dc rfl rfl (zaz hq5) rfl dc rfl (zaU rfl zaT (zab zfK rfl dc rfl (show _=3 from rfl) ?_))))
      refine zbb (k:=2) (l':=[zI q1.At,zI (q1.At+q1.Width),zI (kind q3.Rune),.bool ((q4.Rune:Int)==8205),zI 1]) zww rfl rfl rfl rfl rfl (fun _ _=>rfl) rfl ?_
      refine zyN (zaF (zyG (zab zfK rfl dc rfl (show _=3 from rfl) (zau (k:=2) zqJ rfl dc rfl rfl rfl (zyR 1 rfl ?_)))))
      refine zyS (s:=50) rfl h (fun h => ?_) (fun h => ?_)
      ·
       refine zyR 14 rfl ?_
       refine zyR 1 rfl (zyN (za5 rfl (zav (zab zfp rfl dc rfl (show _=4 from rfl) ?_))))
       refine zbb (k:=2) (l':=[zI q1.At,zI (q1.At+q1.Width),zI (kind q3.Rune),.bool ((q4.Rune:Int)==8205),zI 0]) zcs rfl rfl rfl rfl rfl (fun _ _=>rfl) rfl ?_
       refine zaO (zag (zag ?_))
       exact zal (q1.At,q1.At+q1.Width,kind q3.Rune,(q4.Rune:Int)==8205,0,b2) h rfl (za0 rfl) (zad [0,1,2] kr rfl)
      refine zab zd2 rfl dc rfl (show _=2 from rfl) (zau (k:=2) zbp rfl dc rfl rfl rfl (zaU rfl zaT (zyR 2 rfl ?_)))
      refine zyS (s:=55) rfl h (fun h => ?_) (fun h => ?_)
      ·
       refine zyR 10 rfl (zyN (za5 rfl (zav ?_)))
       refine zab zfp rfl dc rfl (show _=4 from rfl) ?_
       refine zbb (k:=2) (l':=[zI q1.At,zI (q1.At+q1.Width),zI (kind q3.Rune),.bool ((q4.Rune:Int)==8205),zI 0]) zcs rfl rfl rfl rfl rfl (fun _ _=>rfl) rfl ?_
       refine zaO (zag (zag ?_))
       exact zal (q1.At,q1.At+q1.Width,kind q3.Rune,(q4.Rune:Int)==8205,0,b2) h rfl (za0 rfl) (zad [0,1,2] kr rfl)
      refine zab zd2 rfl dc rfl (show _=2 from rfl) (zau (k:=2) zbp rfl dc rfl rfl rfl (zaU rfl zaT (zyR 2 rfl ?_)))
      refine zyS (s:=60) rfl h (fun h => ?_) (fun h => ?_)
      ·
       refine zyR 5 rfl (zyN (za5 rfl (zav (zab zfp rfl dc rfl (show _=4 from rfl) ?_))))
       refine zbb (k:=2) (l':=[zI q1.At,zI (q1.At+q1.Width),zI (kind q3.Rune),.bool ((q4.Rune:Int)==8205),zI 0]) zcs rfl rfl rfl rfl rfl (fun _ _=>rfl) rfl ?_
       refine zaO (zag (zag ?_))
       exact zal (q1.At,q1.At+q1.Width,kind q3.Rune,(q4.Rune:Int)==8205,0,b2) h rfl (za0 rfl) (zad [0,1,2] kr rfl)
      refine zab zd2 rfl dc rfl (show _=2 from rfl) (zau (k:=2) zbp rfl dc rfl rfl rfl (zaU rfl zaT (zyR 2 rfl (zyN ?_))))
      refine zyB rfl h (fun h => ?_) (fun h => ?_)
      ·
       refine zav (zab zfp rfl dc rfl (show _=4 from rfl) ?_)
       refine zbb (k:=2) (l':=[zI q1.At,zI (q1.At+q1.Width),zI (kind q3.Rune),.bool ((q4.Rune:Int)==8205),zI 0]) zcs rfl rfl rfl rfl rfl (fun _ _=>rfl) rfl ?_
       refine zaO (zag (zag ?_))
       exact zal (q1.At,q1.At+q1.Width,kind q3.Rune,(q4.Rune:Int)==8205,0,b2) h rfl (za0 rfl) (zad [0,1,2] kr rfl)
      refine zyG (zyR 2 rfl ?_)
      obtain ⟨q5,hq6,h⟩:=zbi h
      refine zaj (k:=0) hq6 Tryz.underlying184 zfw rfl dc rfl rfl rfl rfl (zab zg7 rfl dc rfl (show _=((i3:Int).toNat)*3+2 from rfl) (zaA (i:=(i3:Int).toNat) (j:=2) (k:=0) (q:=q5) ziv za7 rfl dc rfl rfl (zaz hq6) rfl dc rfl ?_))
      obtain ⟨r2,hq7,h⟩:=zbi h
      refine zbD (v:=.bool r2) (vs:=[.int .i32 q5.Rune]) rfl dc rfl rfl rfl zto (ziz hq7) (zyR 1 rfl (zyN ?_))
      refine zyB rfl h (fun h => ?_) (fun h => ?_)
      ·
       refine zav (zab zfp rfl dc rfl (show _=4 from rfl) ?_)
       refine zbb (k:=2) (l':=[zI q1.At,zI (q1.At+q1.Width),zI (kind q3.Rune),.bool ((q4.Rune:Int)==8205),zI 2]) zcs rfl rfl rfl rfl rfl (fun _ _=>rfl) rfl ?_
       refine zaO (zag (zag ?_))
       exact zal (q1.At,q1.At+q1.Width,kind q3.Rune,(q4.Rune:Int)==8205,2,b2) h rfl (za0 rfl) (zad [0,1,2] kr rfl)
      refine zar (zag (zag ?_))
      exact zal (q1.At,q1.At+q1.Width,kind q3.Rune,(q4.Rune:Int)==8205,1,b2) h rfl (za0 rfl) (zad [0,1,2] kr rfl)
     refine zyR 8 rfl (zyN (zaS rfl (zyG (zyR 1 rfl ?_))))
     refine zyR 1 rfl ?_
     obtain ⟨q6,hq8,h⟩:=zbi h
     refine zaj (k:=0) hq8 Tryz.underlying184 zfw rfl dc rfl rfl rfl rfl (zab zg7 rfl dc rfl (show _=((i3:Int).toNat)*3+2 from rfl) (zaA (i:=(i3:Int).toNat) (j:=2) (k:=0) (q:=q6) ziv za7 rfl dc rfl rfl (zaz hq8) rfl dc rfl ?_))
     obtain ⟨hg3,h⟩:=zbr h
     refine zbD (v:=zI (kind q6.Rune)) (vs:=[.int .i32 q6.Rune]) rfl dc rfl rfl rfl ztp (zle fun w=>znC q6.Rune w hg3.1 hg3.2) ?_
     refine zab zd2 rfl dc rfl (show _=2 from rfl) ?_
     refine zbb (k:=2) (l':=[zI q1.At,zI (q1.At+q1.Width),zI (kind q6.Rune),.bool false,zI 1]) zcs rfl rfl rfl rfl rfl (fun _ _=>rfl) rfl ?_
     refine zyH (zyR 2 rfl ?_)
     obtain ⟨q7,hq9,h⟩:=zbi h
     refine zaj (k:=0) hq9 Tryz.underlying184 zfw rfl dc rfl rfl rfl rfl (zab zg7 rfl dc rfl (show _=((i3:Int).toNat)*3+2 from rfl) (zaA (i:=(i3:Int).toNat) (j:=2) (k:=0) (q:=q7) ziv za7 rfl dc rfl rfl (zaz hq9) rfl dc rfl (zaU rfl zaT (zab zfK rfl dc rfl (show _=3 from rfl) ?_))))
     refine zbb (k:=2) (l':=[zI q1.At,zI (q1.At+q1.Width),zI (kind q6.Rune),.bool ((q7.Rune:Int)==8205),zI 1]) zww rfl rfl rfl rfl rfl (fun _ _=>rfl) rfl ?_
     refine zyN (zaF (zyG (zab zfK rfl dc rfl (show _=3 from rfl) (zau (k:=2) zqJ rfl dc rfl rfl rfl (zyR 1 rfl ?_)))))
     refine zyS (s:=50) rfl h (fun h => ?_) (fun h => ?_)
     ·
      refine zyR 14 rfl ?_
      refine zyR 1 rfl (zyN (za5 rfl (zav (zab zfp rfl dc rfl (show _=4 from rfl) ?_))))
      refine zbb (k:=2) (l':=[zI q1.At,zI (q1.At+q1.Width),zI (kind q6.Rune),.bool ((q7.Rune:Int)==8205),zI 0]) zcs rfl rfl rfl rfl rfl (fun _ _=>rfl) rfl ?_
      refine zaO (zag (zag ?_))
      exact zal (q1.At,q1.At+q1.Width,kind q6.Rune,(q7.Rune:Int)==8205,0,b2) h rfl (za0 rfl) (zad [0,1,2] kr rfl)
     refine zab zd2 rfl dc rfl (show _=2 from rfl) (zau (k:=2) zbp rfl dc rfl rfl rfl (zaU rfl zaT (zyR 2 rfl ?_)))
     refine zyS (s:=55) rfl h (fun h => ?_) (fun h => ?_)
     ·
      refine zyR 10 rfl (zyN (za5 rfl (zav ?_)))
      refine zab zfp rfl dc rfl (show _=4 from rfl) ?_
      refine zbb (k:=2) (l':=[zI q1.At,zI (q1.At+q1.Width),zI (kind q6.Rune),.bool ((q7.Rune:Int)==8205),zI 0]) zcs rfl rfl rfl rfl rfl (fun _ _=>rfl) rfl ?_
      refine zaO (zag (zag ?_))
      exact zal (q1.At,q1.At+q1.Width,kind q6.Rune,(q7.Rune:Int)==8205,0,b2) h rfl (za0 rfl) (zad [0,1,2] kr rfl)
     refine zab zd2 rfl dc rfl (show _=2 from rfl) (zau (k:=2) zbp rfl dc rfl rfl rfl (zaU rfl zaT (zyR 2 rfl ?_)))
     refine zyS (s:=60) rfl h (fun h => ?_) (fun h => ?_)
     ·
      refine zyR 5 rfl (zyN (za5 rfl (zav (zab zfp rfl dc rfl (show _=4 from rfl) ?_))))
      refine zbb (k:=2) (l':=[zI q1.At,zI (q1.At+q1.Width),zI (kind q6.Rune),.bool ((q7.Rune:Int)==8205),zI 0]) zcs rfl rfl rfl rfl rfl (fun _ _=>rfl) rfl ?_
      refine zaO (zag (zag ?_))
      exact zal (q1.At,q1.At+q1.Width,kind q6.Rune,(q7.Rune:Int)==8205,0,b2) h rfl (za0 rfl) (zad [0,1,2] kr rfl)
     refine zab zd2 rfl dc rfl (show _=2 from rfl) (zau (k:=2) zbp rfl dc rfl rfl rfl (zaU rfl zaT (zyR 2 rfl (zyN ?_))))
     refine zyB rfl h (fun h => ?_) (fun h => ?_)
     ·
      refine zav (zab zfp rfl dc rfl (show _=4 from rfl) ?_)
      refine zbb (k:=2) (l':=[zI q1.At,zI (q1.At+q1.Width),zI (kind q6.Rune),.bool ((q7.Rune:Int)==8205),zI 0]) zcs rfl rfl rfl rfl rfl (fun _ _=>rfl) rfl ?_
      refine zaO (zag (zag ?_))
      exact zal (q1.At,q1.At+q1.Width,kind q6.Rune,(q7.Rune:Int)==8205,0,b2) h rfl (za0 rfl) (zad [0,1,2] kr rfl)
     refine zyG (zyR 2 rfl ?_)
     obtain ⟨q8,hq10,h⟩:=zbi h
     refine zaj (k:=0) hq10 Tryz.underlying184 zfw rfl dc rfl rfl rfl rfl (zab zg7 rfl dc rfl (show _=((i3:Int).toNat)*3+2 from rfl) (zaA (i:=(i3:Int).toNat) (j:=2) (k:=0) (q:=q8) ziv za7 rfl dc rfl rfl (zaz hq10) rfl dc rfl ?_))
     obtain ⟨r3,hq11,h⟩:=zbi h
     refine zbD (v:=.bool r3) (vs:=[.int .i32 q8.Rune]) rfl dc rfl rfl rfl zto (ziz hq11) (zyR 1 rfl (zyN ?_))
     refine zyB rfl h (fun h => ?_) (fun h => ?_)
     ·
      refine zav (zab zfp rfl dc rfl (show _=4 from rfl) ?_)
      refine zbb (k:=2) (l':=[zI q1.At,zI (q1.At+q1.Width),zI (kind q6.Rune),.bool ((q7.Rune:Int)==8205),zI 2]) zcs rfl rfl rfl rfl rfl (fun _ _=>rfl) rfl ?_
      refine zaO (zag (zag ?_))
      exact zal (q1.At,q1.At+q1.Width,kind q6.Rune,(q7.Rune:Int)==8205,2,b2) h rfl (za0 rfl) (zad [0,1,2] kr rfl)
     refine zar (zag (zag ?_))
     exact zal (q1.At,q1.At+q1.Width,kind q6.Rune,(q7.Rune:Int)==8205,1,b2) h rfl (za0 rfl) (zad [0,1,2] kr rfl)
    rintro ⟨p1,p2,p3,p4,p5,b1⟩ h
    rw [hj2] at h
    refine zav (zyR 1 rfl (zbd (k:=2) (cs:=[zI p1,zI p2,zI p3,.bool p4,zI p5]) zvp rfl dc rfl rfl rfl rfl ?_))
    refine zaV (cs:=[zI p1,zI p2,zI p3,.bool p4,zI p5]) (te:=146) (ps:=[(0,.tmp 91)]) rfl dc rfl (fun _=>by kernel_rfl) (fun b3 => ?_)
    obtain ⟨hg4,h⟩:=zbr h
    refine za4 (k:=1) (k2:=3) (ys:=[(⟨p1,p2,p3,p4,p5⟩:Gref05_Piece)]) Tryz.underlying143 zwh zaZ zh1 rfl dc rfl rfl rfl rfl rfl rfl hg4 (fun v6 => ?_)
    refine zyR 1 rfl (zaO (zag (zaH (zav (zyR 1 rfl ?_)))))
    obtain ⟨hg5,h⟩:=zbr h
    refine zaU rfl (zaR (r:=i3+1) (IntWalk.i64_in _ hg5)) (zyR 1 rfl (zaO ?_))
    subst hag1
    exact za1 (n1,out4++[(⟨p1,p2,p3,p4,p5⟩:Gref05_Piece)],i3+1,v6) h (Nat.lt_succ_self _) rfl (za0 rfl) (zad [0,1] kr rfl)
   refine za3 (zan (zan (zax ?_)))
   exact zal (out4,v5) h rfl (za0 rfl) (zad [1] kr rfl)
 rintro ⟨out1,v1⟩ h
 rw [hj1] at h
 refine zyG (zyR 2 rfl (zyN (zaG ?_)))
 cases h
 exact zaK (rs:=[.tmp 2]) v1 (.inl rfl) Tryz.results74 (.cons (.tmp rfl) .nil) rfl (zad [0] kr rfl)
def zeT (r1:(List Gref05_Piece)) (j2:Int→Option (List Gapi_Cell)) (q1:Gref05_Piece) (ag2:Int→Option (List Gapi_Cell)) (k4:Int):Option (List Gapi_Cell) :=
zbk (fun (j3:Int→Bool→Bool→Bool→Bool→Bool→Option (List Gapi_Cell)) =>
zay (decide ((k4:Int)<(r1.length:Int))) (
zah (zbm r1 k4) fun (q4:Gref05_Piece) =>
zay ((q4.Kind:Int)==2) (
j3 q4.Kind ((q4.Kind:Int)==2) true true true true
) (
zay (q4.Joiner) (
j3 q4.Kind ((q4.Kind:Int)==2) false q4.Joiner true true
) (
zay ((q1.Kind:Int)==10) (
zay ((q4.Kind:Int)==10) (
grd (I64 (k4 - 1)) <|
zah (zbm r1 (k4 - 1)) fun (q5:Gref05_Piece) =>
zay (q5.Joiner) (
j3 q4.Kind ((q4.Kind:Int)==2) false q4.Joiner false q5.Joiner
) (
j2 k4
)
) (
j2 k4
)
) (
j2 k4
)
)
)
) (
j2 k4
)
) (fun (x1:Int) (x2:Bool) (x3:Bool) (x4:Bool) (x5:Bool) (x6:Bool) =>
grd (I64 (k4+1)) <|
ag2 (k4+1)
)
def zeS (r1:(List Gref05_Piece)) (j2:Int→Option (List Gapi_Cell)) (q1:Gref05_Piece) (ag3:Int→Option (List Gapi_Cell)) (k7:Int):Option (List Gapi_Cell) :=
zbk (fun (j4:Int→Bool→Bool→Bool→Bool→Bool→Option (List Gapi_Cell)) =>
zay (decide ((k7:Int)<(r1.length:Int))) (
zah (zbm r1 k7) fun (q6:Gref05_Piece) =>
zay ((q6.Kind:Int)==2) (
j4 q6.Kind ((q6.Kind:Int)==2) true true true true
) (
zay (q6.Joiner) (
j4 q6.Kind ((q6.Kind:Int)==2) false q6.Joiner true true
) (
zay ((q1.Kind:Int)==10) (
zay ((q6.Kind:Int)==10) (
grd (I64 (k7 - 1)) <|
zah (zbm r1 (k7 - 1)) fun (q7:Gref05_Piece) =>
zay (q7.Joiner) (
j4 q6.Kind ((q6.Kind:Int)==2) false q6.Joiner false q7.Joiner
) (
j2 k7
)
) (
j2 k7
)
) (
j2 k7
)
)
)
) (
j2 k7
)
) (fun (x7:Int) (x8:Bool) (x9:Bool) (x10:Bool) (x11:Bool) (x12:Bool) =>
grd (I64 (k7+1)) <|
ag3 (k7+1)
)
def zcB (r1:(List Gref05_Piece)) (j2:Int→Option (List Gapi_Cell)) (q1:Gref05_Piece) (ag4:Int→Option (List Gapi_Cell)) (k10:Int):Option (List Gapi_Cell) :=
zbk (fun (j5:Int→Bool→Bool→Bool→Bool→Bool→Option (List Gapi_Cell)) =>
zay (decide ((k10:Int)<(r1.length:Int))) (
zah (zbm r1 k10) fun (q8:Gref05_Piece) =>
zay ((q8.Kind:Int)==2) (
j5 q8.Kind ((q8.Kind:Int)==2) true true true true
) (
zay (q8.Joiner) (
j5 q8.Kind ((q8.Kind:Int)==2) false q8.Joiner true true
) (
zay ((q1.Kind:Int)==10) (
zay ((q8.Kind:Int)==10) (
grd (I64 (k10 - 1)) <|
zah (zbm r1 (k10 - 1)) fun (q9:Gref05_Piece) =>
zay (q9.Joiner) (
j5 q8.Kind ((q8.Kind:Int)==2) false q8.Joiner false q9.Joiner
) (
j2 k10
)
) (
j2 k10
)
) (
j2 k10
)
)
)
) (
j2 k10
)
) (fun (x13:Int) (x14:Bool) (x15:Bool) (x16:Bool) (x17:Bool) (x18:Bool) =>
grd (I64 (k10+1)) <|
ag4 (k10+1)
)
def zcA (r1:(List Gref05_Piece)) (k1:Int) (j6:Int→Int→Int→Int→Option (List Gapi_Cell)) (q10:Gref05_Piece) (q11:Gref05_Piece) (ag5:Int→Int→Option (List Gapi_Cell)) (i7:Int) (c8:Int):Option (List Gapi_Cell) :=
zay (decide ((i7:Int)<k1)) (
zah (zbm r1 i7) fun (q12:Gref05_Piece) =>
grd (I64 (i7+1)) <|
ag5 (i7+1) (max c8 q12.Columns)
) (
j6 i7 q10.Span_From q11.Span_To c8
)
def zcC (s1:ByteArray) (j1:(List Gapi_Cell)→Option (List Gapi_Cell)) (r1:(List Gref05_Piece)) (ag1:(List Gapi_Cell)→Int→Option (List Gapi_Cell)) (out4:List Gapi_Cell) (i3:Int):Option (List Gapi_Cell) :=
zay (decide ((i3:Int)<(r1.length:Int))) (
zbk (fun (j2:Int→Option (List Gapi_Cell)) =>
grd (I64 (i3+1)) <|
zah (zbm r1 i3) fun (q1:Gref05_Piece) =>
zah (zbm r1 i3) fun (q2:Gref05_Piece) =>
zah (zjg s1 q2.Span_From) fun (c1:Int) =>
zay ((c1:Int)==13) (
zay (decide (((i3+1):Int)<(r1.length:Int))) (
zah (zbm r1 (i3+1)) fun (q3:Gref05_Piece) =>
zah (zjg s1 q3.Span_From) fun (c2:Int) =>
zay ((c2:Int)==10) (
grd (I64 ((i3+1)+1)) <|
j2 ((i3+1)+1)
) (
zay ((q1.Kind:Int)==11) (
j2 (i3+1)
) (
zay ((q1.Kind:Int)==4) (
j2 (i3+1)
) (
zay ((q1.Kind:Int)==9) (
j2 (i3+1)
) (
zaE (fun _=>none) (zeT r1 j2 q1) zbN (i3+1)
)
)
)
)
) (
zay ((q1.Kind:Int)==11) (
j2 (i3+1)
) (
zay ((q1.Kind:Int)==4) (
j2 (i3+1)
) (
zay ((q1.Kind:Int)==9) (
j2 (i3+1)
) (
zaE (fun _=>none) (zeS r1 j2 q1) zbN (i3+1)
)
)
)
)
) (
zay ((q1.Kind:Int)==11) (
j2 (i3+1)
) (
zay ((q1.Kind:Int)==4) (
j2 (i3+1)
) (
zay ((q1.Kind:Int)==9) (
j2 (i3+1)
) (
zaE (fun _=>none) (zcB r1 j2 q1) zbN (i3+1)
)
)
)
)
) (fun (k1:Int) =>
zbk (fun (j6:Int→Int→Int→Int→Option (List Gapi_Cell)) =>
zah (zbm r1 i3) fun (q10:Gref05_Piece) =>
grd (I64 (k1 - 1)) <|
zah (zbm r1 (k1 - 1)) fun (q11:Gref05_Piece) =>
zaE (fun _ _=>none) (zcA r1 k1 j6 q10 q11) zbN i3 0
) (fun (i4:Int) (c3:Int) (c4:Int) (c5:Int) =>
grd (out4.length+1≤2147483648) <|
ag1 (out4++[(⟨c3,c4,c5⟩:Gapi_Cell)]) i4
)
)
) (
j1 out4
)
def zfk (s1:ByteArray):Option (List Gapi_Cell) :=
zbk (fun (j1:(List Gapi_Cell)→Option (List Gapi_Cell)) =>
zah (zeR s1) fun (r1:(List Gref05_Piece)) =>
zaE (fun _ _=>none) (zcC s1 j1 r1) zbN ([]:List Gapi_Cell) 0
) (fun (out1:List Gapi_Cell) =>
some out1
)
theorem zlw {s1:ByteArray} {r:(List Gapi_Cell)} (h:zfk s1=some r):Fn Tryz.prog 40 [.string s1] [] (fun v0:Value=>v0) (fun v0=>[zv2 v0 r]):=by
 unfold zfk at h
 refine Fn.intro Tryz.func40 rfl Tryz.ntmps40 (by simp) ?_
 intro w0 K
 obtain ⟨j1,hj1,h⟩:=zbG h
 refine zaX (β:=(List Gapi_Cell)×Value) 4 rfl (fun b=>j1 b.1=some r) (fun b=>[]) (fun b=>[(4,b.2)]) (fun b=>[zv2 b.2 b.1]) (fun cut => ?_) ?_
 ·
  refine zyG (zyR 1 rfl (zyH (zyR 1 rfl ?_)))
  obtain ⟨r1,hq1,h⟩:=zbi h
  refine zes (vs:=[.string s1]) rfl dc rfl rfl rfl zxg (zky hq1) Splits.nil ?_
  rintro v2
  refine zyR 1 rfl (zyH (zyR 1 rfl (zyH (zyR 1 rfl (zyN (cut ?_))))))
  refine zaF (zcR (enc:=zeL) (e:=40) (size:=3) ?_)
  refine zbj (β:=Nat×(List Gapi_Cell)×Int×Value) (fun b=>zaE (fun _ _=>none) (zcC s1 j1 r1) b.1 b.2.1 b.2.2.1=some r) (fun b=>[]) (fun b=>[(0,.string s1),(3,v2),(4,b.2.2.2),(5,zI b.2.2.1)]) (fun b=>[zv9 v2 r1,zv2 b.2.2.2 b.2.1]) (fun b=>b.1) (zbN,([]:List Gapi_Cell),0,(.slice none 0 0)) h rfl (za0 rfl) (zad [0,1] kr rfl) ?_
  rintro ⟨n1,out4,i3,v5⟩ h
  cases n1 with
  | zero=>exact zdp h
  | succ n1 =>
   obtain ⟨ag1,hag1⟩:∃ ag,ag=zaE (fun _ _=>none) (zcC s1 j1 r1) n1:=⟨_,rfl⟩
   have h:zcC s1 j1 r1 ag1 out4 i3=some r:=by rw [hag1]; exact h
   unfold zcC at h
   refine zaI (zyG (zyR 2 rfl (zbg (k:=0) rfl dc rfl rfl Tryz.underlying143 (zaU rfl zbc (zyN ?_)))))
   refine zyB rfl h (fun h => ?_) (fun h => ?_)
   ·
    refine zar (zaH (zaF ?_))
    obtain ⟨j2,hj2,h⟩:=zbG h
    refine zaX (β:=Int) 2 rfl (fun b=>j2 b=some r) (fun b=>[]) (fun b=>[(0,.string s1),(3,v2),(4,v5),(5,zI i3),(6,zI b)]) (fun b=>[zv9 v2 r1,zv2 v5 out4]) (fun cut => ?_) ?_
    ·
     refine zyG (zyR 1 rfl ?_)
     obtain ⟨hg1,h⟩:=zbr h
     refine zaU rfl (zaR (r:=i3+1) (IntWalk.i64_in _ hg1)) (zyR 1 rfl (zyH (zyR 2 rfl ?_)))
     obtain ⟨q1,hq2,h⟩:=zbi h
     refine zaj (k:=0) hq2 Tryz.underlying143 zeP rfl dc rfl rfl rfl rfl (zab zd2 rfl dc rfl (show _=((i3:Int).toNat)*5+2 from rfl) (zaA (i:=(i3:Int).toNat) (j:=2) (k:=0) (q:=q1) zbp zaZ rfl dc rfl rfl (zaz hq2) rfl dc rfl (zyR 1 rfl (zyN (cut (zaF (zyG (zyR 3 rfl ?_))))))))
     obtain ⟨q2,hq3,h⟩:=zbi h
     refine zaj (k:=0) hq3 Tryz.underlying143 zeP rfl dc rfl rfl rfl rfl (zab zhM rfl dc rfl (show _=((i3:Int).toNat)*5 from rfl) (zab zdt rfl dc rfl (show _=((i3:Int).toNat)*5 from rfl) (zaA (i:=(i3:Int).toNat) (j:=0) (k:=0) (q:=q2) zbp zaZ rfl dc rfl rfl (zaz hq3) rfl dc rfl ?_)))
     obtain ⟨c1,hq4,h⟩:=zbi h
     refine zc7 rfl dc rfl rfl (zbx Tryz.underlying9 hq4) (zaU rfl zaT (zyR 1 rfl ?_))
     refine zyS (s:=73) rfl h (fun h => ?_) (fun h => ?_)
     ·
      refine zyR 2 rfl (zbg (k:=0) rfl dc rfl rfl Tryz.underlying143 (zaU rfl zbc (zyR 2 rfl ?_)))
      refine zyS (s:=79) rfl h (fun h => ?_) (fun h => ?_)
      ·
       refine zyR 3 rfl ?_
       obtain ⟨q3,hq5,h⟩:=zbi h
       refine zaj (k:=0) hq5 Tryz.underlying143 zeP rfl dc rfl rfl rfl rfl (zab zhM rfl dc rfl (show _=((i3+1:Int).toNat)*5 from rfl) (zab zdt rfl dc rfl (show _=((i3+1:Int).toNat)*5 from rfl) (zaA (i:=(i3+1:Int).toNat) (j:=0) (k:=0) (q:=q3) zbp zaZ rfl dc rfl rfl (zaz hq5) rfl dc rfl ?_)))
       obtain ⟨c2,hq6,h⟩:=zbi h
       refine zc7 rfl dc rfl rfl (zbx Tryz.underlying9 hq6) (zaU rfl zaT (zyR 2 rfl (zyN ?_)))
       refine zyB rfl h (fun h => ?_) (fun h => ?_)
       ·
        refine zav (zyR 1 rfl ?_)
        obtain ⟨hg2,h⟩:=zbr h
        refine zaU rfl (zaR (r:=(i3+1)+1) (IntWalk.i64_in _ hg2)) (zyR 1 rfl (zaO (zag ?_)))
        exact zal ((i3+1)+1) h rfl (za0 rfl) (zad [0,1] kr rfl)
       refine zyG (zyR 1 rfl (zaU rfl zaT (zyR 1 rfl ?_)))
       refine zyS (s:=95) rfl h (fun h => ?_) (fun h => ?_)
       ·
        refine zyR 8 rfl (zyN (za5 rfl (zar (zag ?_))))
        exact zal (i3+1) h rfl (za0 rfl) (zad [0,1] kr rfl)
       refine zyR 1 rfl (zaU rfl zaT (zyR 2 rfl ?_))
       refine zyS (s:=99) rfl h (fun h => ?_) (fun h => ?_)
       ·
        refine zyR 4 rfl (zyN (za5 rfl (zar (zag ?_))))
        exact zal (i3+1) h rfl (za0 rfl) (zad [0,1] kr rfl)
       refine zyR 1 rfl (zaU rfl zaT (zyR 2 rfl (zyN ?_)))
       refine zyB rfl h (fun h => ?_) (fun h => ?_)
       ·
        refine zar (zag ?_)
        exact zal (i3+1) h rfl (za0 rfl) (zad [0,1] kr rfl)
       refine zaF ?_
       refine zbj (β:=Nat×Int) (fun b=>zaE (fun _=>none) (zeT r1 j2 q1) b.1 b.2=some r) (fun b=>[]) (fun b=>[(0,.string s1),(3,v2),(4,v5),(5,zI i3),(6,zI b.2),(7,zI q1.Kind),(74,zI (i3+1)),(75,v2),(76,zI (r1.length:Int)),(77,.bool (decide (((i3+1):Int)<(r1.length:Int)))),(80,.string s1),(81,v2),(82,zI (i3+1)),(83,.pointer (some ⟨zbY v2,(i3+1:Int).toNat*5,none⟩)),(84,.pointer (some ⟨zbY v2,((i3+1:Int).toNat)*5,none⟩)),(85,.pointer (some ⟨zbY v2,((i3+1:Int).toNat)*5,none⟩)),(86,zI q3.Span_From),(87,.int .u8 c2),(88,.bool ((c2:Int)==10)),(96,zI q1.Kind),(97,.bool ((q1.Kind:Int)==4)),(100,zI q1.Kind),(101,.bool ((q1.Kind:Int)==9))]) (fun b=>[zv9 v2 r1,zv2 v5 out4]) (fun b=>b.1) (zbN,i3+1) h rfl (za0 rfl) (zad [0,1] kr rfl) ?_
       rintro ⟨n2,k4⟩ h
       cases n2 with
       | zero=>exact zdp h
       | succ n2 =>
        obtain ⟨ag2,hag2⟩:∃ ag,ag=zaE (fun _=>none) (zeT r1 j2 q1) n2:=⟨_,rfl⟩
        have h:zeT r1 j2 q1 ag2 k4=some r:=by rw [hag2]; exact h
        unfold zeT at h
        obtain ⟨j3,hj3,h⟩:=zbG h
        refine zaX (β:=Int×Bool×Bool×Bool×Bool×Bool) 0 rfl (fun b=>j3 b.1 b.2.1 b.2.2.1 b.2.2.2.1 b.2.2.2.2.1 b.2.2.2.2.2=some r) (fun b=>[]) (fun b=>[(0,.string s1),(3,v2),(4,v5),(5,zI i3),(6,zI k4),(7,zI q1.Kind),(27,v2),(28,zI k4),(29,.pointer (some ⟨zbY v2,(k4:Int).toNat*5,none⟩)),(30,.pointer (some ⟨zbY v2,((k4:Int).toNat)*5+2,none⟩)),(31,zI b.1),(32,.bool b.2.1),(33,.bool b.2.2.1),(39,.bool b.2.2.2.1),(40,.bool b.2.2.2.2.1),(59,.bool b.2.2.2.2.2),(74,zI (i3+1)),(75,v2),(76,zI (r1.length:Int)),(77,.bool (decide (((i3+1):Int)<(r1.length:Int)))),(80,.string s1),(81,v2),(82,zI (i3+1)),(83,.pointer (some ⟨zbY v2,(i3+1:Int).toNat*5,none⟩)),(84,.pointer (some ⟨zbY v2,((i3+1:Int).toNat)*5,none⟩)),(85,.pointer (some ⟨zbY v2,((i3+1:Int).toNat)*5,none⟩)),(86,zI q3.Span_From),(87,.int .u8 c2),(88,.bool ((c2:Int)==10)),(96,zI q1.Kind),(97,.bool ((q1.Kind:Int)==4)),(100,zI q1.Kind),(101,.bool ((q1.Kind:Int)==9))]) (fun b=>[zv9 v2 r1,zv2 v5 out4]) (fun cut => ?_) ?_
        ·
         refine cut (zyG (zyR 2 rfl (zbg (k:=0) rfl dc rfl rfl Tryz.underlying143 (zaU rfl zbc (zyR 1 rfl ?_)))))
         refine zyS (s:=26) rfl h (fun h => ?_) (fun h => ?_)
         ·
          refine zyR 2 rfl ?_
          obtain ⟨q4,hq7,h⟩:=zbi h
          refine zaj (k:=0) hq7 Tryz.underlying143 zeP rfl dc rfl rfl rfl rfl (zab zd2 rfl dc rfl (show _=((k4:Int).toNat)*5+2 from rfl) (zaA (i:=(k4:Int).toNat) (j:=2) (k:=0) (q:=q4) zbp zaZ rfl dc rfl rfl (zaz hq7) rfl dc rfl (zaU rfl zaT (zyR 1 rfl ?_))))
          refine zyS (s:=33) rfl h (fun h => ?_) (fun h => ?_)
          ·
           refine zyR 14 rfl ?_
           refine zyR 13 rfl (zaO ?_)
           refine zaH (za5 rfl (zar ?_))
           exact zal (q4.Kind,(q4.Kind:Int)==2,true,true,true,true) h rfl (za0 rfl) (zad [0,1] kr rfl)
          refine zyR 2 rfl (zaj (k:=0) hq7 Tryz.underlying143 zeP rfl dc rfl rfl rfl rfl (zab zfK rfl dc rfl (show _=((k4:Int).toNat)*5+3 from rfl) (zaA (i:=(k4:Int).toNat) (j:=3) (k:=0) (q:=q4) zqJ zaZ rfl dc rfl rfl (zaz hq7) rfl dc rfl (zyR 2 rfl ?_))))
          refine zyS (s:=40) rfl h (fun h => ?_) (fun h => ?_)
          ·
           refine zyR 14 rfl ?_
           refine zyR 6 rfl (zyN (za5 rfl (zar ?_)))
           exact zal (q4.Kind,(q4.Kind:Int)==2,false,q4.Joiner,true,true) h rfl (za0 rfl) (zad [0,1] kr rfl)
          refine zyR 1 rfl (zaU rfl zaT (zyR 1 rfl ?_))
          refine zyS (s:=43) rfl h (fun h => ?_) (fun h => ?_)
          ·
           refine zyR 2 rfl (zaj (k:=0) hq7 Tryz.underlying143 zeP rfl dc rfl rfl rfl rfl (zab zd2 rfl dc rfl (show _=((k4:Int).toNat)*5+2 from rfl) (zaA (i:=(k4:Int).toNat) (j:=2) (k:=0) (q:=q4) zbp zaZ rfl dc rfl rfl (zaz hq7) rfl dc rfl (zaU rfl zaT (zyR 2 rfl ?_)))))
           refine zyS (s:=51) rfl h (fun h => ?_) (fun h => ?_)
           ·
            refine zyR 2 rfl ?_
            obtain ⟨hg3,h⟩:=zbr h
            refine zaU rfl (zbt (r:=k4 - 1) (IntWalk.i64_in _ hg3)) ?_
            obtain ⟨q5,hq8,h⟩:=zbi h
            refine zaj (k:=0) hq8 Tryz.underlying143 zeP rfl dc rfl rfl rfl rfl (zab zfK rfl dc rfl (show _=((k4 - 1:Int).toNat)*5+3 from rfl) (zaA (i:=(k4 - 1:Int).toNat) (j:=3) (k:=0) (q:=q5) zqJ zaZ rfl dc rfl rfl (zaz hq8) rfl dc rfl (zyR 3 rfl (zyN ?_))))
            refine zyB rfl h (fun h => ?_) (fun h => ?_)
            ·
             refine zar ?_
             exact zal (q4.Kind,(q4.Kind:Int)==2,false,q4.Joiner,false,q5.Joiner) h rfl (za0 rfl) (zad [0,1] kr rfl)
            refine za3 (zan (zan (zax (zag ?_))))
            exact zal k4 h rfl (za0 rfl) (zad [0,1] kr rfl)
           refine zyR 9 rfl (zyN (zaS rfl (za3 (zan ?_))))
           refine zan (zax (zag ?_))
           exact zal k4 h rfl (za0 rfl) (zad [0,1] kr rfl)
          refine zyR 14 rfl ?_
          refine zyR 3 rfl (zyN (zaS rfl (za3 (zan (zan (zax (zag ?_)))))))
          exact zal k4 h rfl (za0 rfl) (zad [0,1] kr rfl)
         refine zyR 14 rfl ?_
         refine zyR 14 rfl ?_
         refine zyR 6 rfl (zyN (zaS rfl (za3 (zan (zan (zax (zag ?_)))))))
         exact zal k4 h rfl (za0 rfl) (zad [0,1] kr rfl)
        rintro ⟨x1,x2,x3,x4,x5,x6⟩ h
        rw [hj3] at h
        refine zaF (zav (zyR 1 rfl ?_))
        obtain ⟨hg4,h⟩:=zbr h
        refine zaU rfl (zaR (r:=k4+1) (IntWalk.i64_in _ hg4)) (zyR 1 rfl (zaO (zag ?_)))
        subst hag2
        exact za1 (n2,k4+1) h (Nat.lt_succ_self _) rfl (za0 rfl) (zad [0,1] kr rfl)
      refine zyR 11 rfl (zyN (zaS rfl ?_))
      refine zyG (zyR 1 rfl (zaU rfl zaT (zyR 1 rfl ?_)))
      refine zyS (s:=95) rfl h (fun h => ?_) (fun h => ?_)
      ·
       refine zyR 8 rfl (zyN (za5 rfl (zar (zag ?_))))
       exact zal (i3+1) h rfl (za0 rfl) (zad [0,1] kr rfl)
      refine zyR 1 rfl (zaU rfl zaT (zyR 2 rfl ?_))
      refine zyS (s:=99) rfl h (fun h => ?_) (fun h => ?_)
      ·
       refine zyR 4 rfl (zyN (za5 rfl (zar (zag ?_))))
       exact zal (i3+1) h rfl (za0 rfl) (zad [0,1] kr rfl)
      refine zyR 1 rfl (zaU rfl zaT (zyR 2 rfl (zyN ?_)))
      refine zyB rfl h (fun h => ?_) (fun h => ?_)
      ·
       refine zar (zag ?_)
       exact zal (i3+1) h rfl (za0 rfl) (zad [0,1] kr rfl)
      refine zaF ?_
      refine zbj (β:=Nat×Int) (fun b=>zaE (fun _=>none) (zeS r1 j2 q1) b.1 b.2=some r) (fun b=>[]) (fun b=>[(0,.string s1),(3,v2),(4,v5),(5,zI i3),(6,zI b.2),(7,zI q1.Kind),(74,zI (i3+1)),(75,v2),(76,zI (r1.length:Int)),(77,.bool (decide (((i3+1):Int)<(r1.length:Int)))),(80,undef),(81,undef),(82,undef),(83,undef),(84,undef),(85,undef),(86,undef),(87,undef),(88,undef),(96,zI q1.Kind),(97,.bool ((q1.Kind:Int)==4)),(100,zI q1.Kind),(101,.bool ((q1.Kind:Int)==9))]) (fun b=>[zv9 v2 r1,zv2 v5 out4]) (fun b=>b.1) (zbN,i3+1) h rfl (za0 rfl) (zad [0,1] kr rfl) ?_
      rintro ⟨n3,k7⟩ h
      cases n3 with
      | zero=>exact zdp h
      | succ n3 =>
       obtain ⟨ag3,hag3⟩:∃ ag,ag=zaE (fun _=>none) (zeS r1 j2 q1) n3:=⟨_,rfl⟩
       have h:zeS r1 j2 q1 ag3 k7=some r:=by rw [hag3]; exact h
       unfold zeS at h
       obtain ⟨j4,hj4,h⟩:=zbG h
       refine zaX (β:=Int×Bool×Bool×Bool×Bool×Bool) 0 rfl (fun b=>j4 b.1 b.2.1 b.2.2.1 b.2.2.2.1 b.2.2.2.2.1 b.2.2.2.2.2=some r) (fun b=>[]) (fun b=>[(0,.string s1),(3,v2),(4,v5),(5,zI i3),(6,zI k7),(7,zI q1.Kind),(27,v2),(28,zI k7),(29,.pointer (some ⟨zbY v2,(k7:Int).toNat*5,none⟩)),(30,.pointer (some ⟨zbY v2,((k7:Int).toNat)*5+2,none⟩)),(31,zI b.1),(32,.bool b.2.1),(33,.bool b.2.2.1),(39,.bool b.2.2.2.1),(40,.bool b.2.2.2.2.1),(59,.bool b.2.2.2.2.2),(74,zI (i3+1)),(75,v2),(76,zI (r1.length:Int)),(77,.bool (decide (((i3+1):Int)<(r1.length:Int)))),(80,undef),(81,undef),(82,undef),(83,undef),(84,undef),(85,undef),(86,undef),(87,undef),(88,undef),(96,zI q1.Kind),(97,.bool ((q1.Kind:Int)==4)),(100,zI q1.Kind),(101,.bool ((q1.Kind:Int)==9))]) (fun b=>[zv9 v2 r1,zv2 v5 out4]) (fun cut => ?_) ?_
       ·
        refine cut (zyG (zyR 2 rfl (zbg (k:=0) rfl dc rfl rfl Tryz.underlying143 (zaU rfl zbc (zyR 1 rfl ?_)))))
        refine zyS (s:=26) rfl h (fun h => ?_) (fun h => ?_)
        ·
         refine zyR 2 rfl ?_
         obtain ⟨q6,hq9,h⟩:=zbi h
         refine zaj (k:=0) hq9 Tryz.underlying143 zeP rfl dc rfl rfl rfl rfl (zab zd2 rfl dc rfl (show _=((k7:Int).toNat)*5+2 from rfl) (zaA (i:=(k7:Int).toNat) (j:=2) (k:=0) (q:=q6) zbp zaZ rfl dc rfl rfl (zaz hq9) rfl dc rfl (zaU rfl zaT (zyR 1 rfl ?_))))
         refine zyS (s:=33) rfl h (fun h => ?_) (fun h => ?_)
         ·
          refine zyR 14 rfl ?_
          refine zyR 13 rfl (zaO ?_)
          refine zaH (za5 rfl (zar ?_))
          exact zal (q6.Kind,(q6.Kind:Int)==2,true,true,true,true) h rfl (za0 rfl) (zad [0,1] kr rfl)
         refine zyR 2 rfl (zaj (k:=0) hq9 Tryz.underlying143 zeP rfl dc rfl rfl rfl rfl (zab zfK rfl dc rfl (show _=((k7:Int).toNat)*5+3 from rfl) (zaA (i:=(k7:Int).toNat) (j:=3) (k:=0) (q:=q6) zqJ zaZ rfl dc rfl rfl (zaz hq9) rfl dc rfl (zyR 2 rfl ?_))))
         refine zyS (s:=40) rfl h (fun h => ?_) (fun h => ?_)
         ·
          refine zyR 14 rfl ?_
          refine zyR 6 rfl (zyN (za5 rfl (zar ?_)))
          exact zal (q6.Kind,(q6.Kind:Int)==2,false,q6.Joiner,true,true) h rfl (za0 rfl) (zad [0,1] kr rfl)
         refine zyR 1 rfl (zaU rfl zaT (zyR 1 rfl ?_))
         refine zyS (s:=43) rfl h (fun h => ?_) (fun h => ?_)
         ·
          refine zyR 2 rfl (zaj (k:=0) hq9 Tryz.underlying143 zeP rfl dc rfl rfl rfl rfl (zab zd2 rfl dc rfl (show _=((k7:Int).toNat)*5+2 from rfl) (zaA (i:=(k7:Int).toNat) (j:=2) (k:=0) (q:=q6) zbp zaZ rfl dc rfl rfl (zaz hq9) rfl dc rfl (zaU rfl zaT (zyR 2 rfl ?_)))))
          refine zyS (s:=51) rfl h (fun h => ?_) (fun h => ?_)
          ·
           refine zyR 2 rfl ?_
           obtain ⟨hg5,h⟩:=zbr h
           refine zaU rfl (zbt (r:=k7 - 1) (IntWalk.i64_in _ hg5)) ?_
           obtain ⟨q7,hq10,h⟩:=zbi h
           refine zaj (k:=0) hq10 Tryz.underlying143 zeP rfl dc rfl rfl rfl rfl (zab zfK rfl dc rfl (show _=((k7 - 1:Int).toNat)*5+3 from rfl) (zaA (i:=(k7 - 1:Int).toNat) (j:=3) (k:=0) (q:=q7) zqJ zaZ rfl dc rfl rfl (zaz hq10) rfl dc rfl (zyR 3 rfl (zyN ?_))))
           refine zyB rfl h (fun h => ?_) (fun h => ?_)
           ·
            refine zar ?_
            exact zal (q6.Kind,(q6.Kind:Int)==2,false,q6.Joiner,false,q7.Joiner) h rfl (za0 rfl) (zad [0,1] kr rfl)
           refine za3 (zan (zan (zax (zag ?_))))
           exact zal k7 h rfl (za0 rfl) (zad [0,1] kr rfl)
          refine zyR 9 rfl (zyN (zaS rfl (za3 (zan ?_))))
          refine zan (zax (zag ?_))
          exact zal k7 h rfl (za0 rfl) (zad [0,1] kr rfl)
         refine zyR 14 rfl ?_
         refine zyR 3 rfl (zyN (zaS rfl (za3 (zan (zan (zax (zag ?_)))))))
         exact zal k7 h rfl (za0 rfl) (zad [0,1] kr rfl)
        refine zyR 14 rfl ?_
        refine zyR 14 rfl ?_
        refine zyR 6 rfl (zyN (zaS rfl (za3 (zan (zan (zax (zag ?_)))))))
        exact zal k7 h rfl (za0 rfl) (zad [0,1] kr rfl)
       rintro ⟨x7,x8,x9,x10,x11,x12⟩ h
       rw [hj4] at h
       refine zaF (zav (zyR 1 rfl ?_))
       obtain ⟨hg6,h⟩:=zbr h
       refine zaU rfl (zaR (r:=k7+1) (IntWalk.i64_in _ hg6)) (zyR 1 rfl (zaO (zag ?_)))
       subst hag3
       exact za1 (n3,k7+1) h (Nat.lt_succ_self _) rfl (za0 rfl) (zad [0,1] kr rfl)
     refine zyR 14 rfl ?_
     refine zyR 3 rfl (zyN (zaS rfl (zyG (zyR 1 rfl (zaU rfl zaT (zyR 1 rfl ?_))))))
     refine zyS (s:=95) rfl h (fun h => ?_) (fun h => ?_)
     ·
      refine zyR 8 rfl (zyN (za5 rfl (zar (zag ?_))))
      exact zal (i3+1) h rfl (za0 rfl) (zad [0,1] kr rfl)
     refine zyR 1 rfl (zaU rfl zaT (zyR 2 rfl ?_))
     refine zyS (s:=99) rfl h (fun h => ?_) (fun h => ?_)
     ·
      refine zyR 4 rfl (zyN (za5 rfl (zar (zag ?_))))
      exact zal (i3+1) h rfl (za0 rfl) (zad [0,1] kr rfl)
     refine zyR 1 rfl (zaU rfl zaT (zyR 2 rfl (zyN ?_)))
     refine zyB rfl h (fun h => ?_) (fun h => ?_)
     ·
      refine zar (zag ?_)
      exact zal (i3+1) h rfl (za0 rfl) (zad [0,1] kr rfl)
     refine zaF ?_
     refine zbj (β:=Nat×Int) (fun b=>zaE (fun _=>none) (zcB r1 j2 q1) b.1 b.2=some r) (fun b=>[]) (fun b=>[(0,.string s1),(3,v2),(4,v5),(5,zI i3),(6,zI b.2),(7,zI q1.Kind),(74,undef),(75,undef),(76,undef),(77,undef),(80,undef),(81,undef),(82,undef),(83,undef),(84,undef),(85,undef),(86,undef),(87,undef),(88,undef),(96,zI q1.Kind),(97,.bool ((q1.Kind:Int)==4)),(100,zI q1.Kind),(101,.bool ((q1.Kind:Int)==9))]) (fun b=>[zv9 v2 r1,zv2 v5 out4]) (fun b=>b.1) (zbN,i3+1) h rfl (za0 rfl) (zad [0,1] kr rfl) ?_
     rintro ⟨n4,k10⟩ h
     cases n4 with
     | zero=>exact zdp h
     | succ n4 =>
      obtain ⟨ag4,hag4⟩:∃ ag,ag=zaE (fun _=>none) (zcB r1 j2 q1) n4:=⟨_,rfl⟩
      have h:zcB r1 j2 q1 ag4 k10=some r:=by rw [hag4]; exact h
      unfold zcB at h
      obtain ⟨j5,hj5,h⟩:=zbG h
      refine zaX (β:=Int×Bool×Bool×Bool×Bool×Bool) 0 rfl (fun b=>j5 b.1 b.2.1 b.2.2.1 b.2.2.2.1 b.2.2.2.2.1 b.2.2.2.2.2=some r) (fun b=>[]) (fun b=>[(0,.string s1),(3,v2),(4,v5),(5,zI i3),(6,zI k10),(7,zI q1.Kind),(27,v2),(28,zI k10),(29,.pointer (some ⟨zbY v2,(k10:Int).toNat*5,none⟩)),(30,.pointer (some ⟨zbY v2,((k10:Int).toNat)*5+2,none⟩)),(31,zI b.1),(32,.bool b.2.1),(33,.bool b.2.2.1),(39,.bool b.2.2.2.1),(40,.bool b.2.2.2.2.1),(59,.bool b.2.2.2.2.2),(74,undef),(75,undef),(76,undef),(77,undef),(80,undef),(81,undef),(82,undef),(83,undef),(84,undef),(85,undef),(86,undef),(87,undef),(88,undef),(96,zI q1.Kind),(97,.bool ((q1.Kind:Int)==4)),(100,zI q1.Kind),(101,.bool ((q1.Kind:Int)==9))]) (fun b=>[zv9 v2 r1,zv2 v5 out4]) (fun cut => ?_) ?_
      ·
       refine cut (zyG (zyR 2 rfl (zbg (k:=0) rfl dc rfl rfl Tryz.underlying143 (zaU rfl zbc (zyR 1 rfl ?_)))))
       refine zyS (s:=26) rfl h (fun h => ?_) (fun h => ?_)
       ·
        refine zyR 2 rfl ?_
        obtain ⟨q8,hq11,h⟩:=zbi h
        refine zaj (k:=0) hq11 Tryz.underlying143 zeP rfl dc rfl rfl rfl rfl (zab zd2 rfl dc rfl (show _=((k10:Int).toNat)*5+2 from rfl) (zaA (i:=(k10:Int).toNat) (j:=2) (k:=0) (q:=q8) zbp zaZ rfl dc rfl rfl (zaz hq11) rfl dc rfl (zaU rfl zaT (zyR 1 rfl ?_))))
        refine zyS (s:=33) rfl h (fun h => ?_) (fun h => ?_)
        ·
         refine zyR 14 rfl ?_
         refine zyR 13 rfl (zaO ?_)
         refine zaH (za5 rfl (zar ?_))
         exact zal (q8.Kind,(q8.Kind:Int)==2,true,true,true,true) h rfl (za0 rfl) (zad [0,1] kr rfl)
        refine zyR 2 rfl (zaj (k:=0) hq11 Tryz.underlying143 zeP rfl dc rfl rfl rfl rfl (zab zfK rfl dc rfl (show _=((k10:Int).toNat)*5+3 from rfl) (zaA (i:=(k10:Int).toNat) (j:=3) (k:=0) (q:=q8) zqJ zaZ rfl dc rfl rfl (zaz hq11) rfl dc rfl (zyR 2 rfl ?_))))
        refine zyS (s:=40) rfl h (fun h => ?_) (fun h => ?_)
        ·
         refine zyR 14 rfl ?_
         refine zyR 6 rfl (zyN (za5 rfl (zar ?_)))
         exact zal (q8.Kind,(q8.Kind:Int)==2,false,q8.Joiner,true,true) h rfl (za0 rfl) (zad [0,1] kr rfl)
        refine zyR 1 rfl (zaU rfl zaT (zyR 1 rfl ?_))
        refine zyS (s:=43) rfl h (fun h => ?_) (fun h => ?_)
        ·
         refine zyR 2 rfl (zaj (k:=0) hq11 Tryz.underlying143 zeP rfl dc rfl rfl rfl rfl (zab zd2 rfl dc rfl (show _=((k10:Int).toNat)*5+2 from rfl) (zaA (i:=(k10:Int).toNat) (j:=2) (k:=0) (q:=q8) zbp zaZ rfl dc rfl rfl (zaz hq11) rfl dc rfl (zaU rfl zaT (zyR 2 rfl ?_)))))
         refine zyS (s:=51) rfl h (fun h => ?_) (fun h => ?_)
         ·
          refine zyR 2 rfl ?_
          obtain ⟨hg7,h⟩:=zbr h
          refine zaU rfl (zbt (r:=k10 - 1) (IntWalk.i64_in _ hg7)) ?_
          obtain ⟨q9,hq12,h⟩:=zbi h
          refine zaj (k:=0) hq12 Tryz.underlying143 zeP rfl dc rfl rfl rfl rfl (zab zfK rfl dc rfl (show _=((k10 - 1:Int).toNat)*5+3 from rfl) (zaA (i:=(k10 - 1:Int).toNat) (j:=3) (k:=0) (q:=q9) zqJ zaZ rfl dc rfl rfl (zaz hq12) rfl dc rfl (zyR 3 rfl (zyN ?_))))
          refine zyB rfl h (fun h => ?_) (fun h => ?_)
          ·
           refine zar ?_
           exact zal (q8.Kind,(q8.Kind:Int)==2,false,q8.Joiner,false,q9.Joiner) h rfl (za0 rfl) (zad [0,1] kr rfl)
          refine za3 (zan (zan (zax (zag ?_))))
          exact zal k10 h rfl (za0 rfl) (zad [0,1] kr rfl)
         refine zyR 9 rfl (zyN (zaS rfl (za3 (zan ?_))))
         refine zan (zax (zag ?_))
         exact zal k10 h rfl (za0 rfl) (zad [0,1] kr rfl)
        refine zyR 14 rfl ?_
        refine zyR 3 rfl (zyN (zaS rfl (za3 (zan (zan (zax (zag ?_)))))))
        exact zal k10 h rfl (za0 rfl) (zad [0,1] kr rfl)
       refine zyR 14 rfl ?_
       refine zyR 14 rfl ?_
       refine zyR 6 rfl (zyN (zaS rfl (za3 (zan (zan (zax (zag ?_)))))))
       exact zal k10 h rfl (za0 rfl) (zad [0,1] kr rfl)
      rintro ⟨x13,x14,x15,x16,x17,x18⟩ h
      rw [hj5] at h
      refine zaF (zav (zyR 1 rfl ?_))
      obtain ⟨hg8,h⟩:=zbr h
      refine zaU rfl (zaR (r:=k10+1) (IntWalk.i64_in _ hg8)) (zyR 1 rfl (zaO (zag ?_)))
      subst hag4
      exact za1 (n4,k10+1) h (Nat.lt_succ_self _) rfl (za0 rfl) (zad [0,1] kr rfl)
    rintro k1 h
    rw [hj2] at h
    obtain ⟨j6,hj6,h⟩:=zbG h
    refine zaX (β:=Int×Int×Int×Int×Nat) 1 rfl (fun b=>j6 b.1 b.2.1 b.2.2.1 b.2.2.2.1=some r) (fun b=>[]) (fun b=>[(0,.string s1),(3,v2),(4,v5),(5,zI b.1),(8,zP b.2.2.2.2)]) (fun b=>[zv9 v2 r1,zv2 v5 out4,cells b.2.2.2.2 [zI b.2.1,zI b.2.2.1,zI b.2.2.2.1] 40]) (fun cut => ?_) ?_
    ·
     refine zaI ?_
     obtain ⟨q10,hq13,h⟩:=zbi h
     obtain ⟨hg9,h⟩:=zbr h
     obtain ⟨q11,hq14,h⟩:=zbi h
     refine zhV (β:=Nat) 16 15 _ [(0,103,v2),(1,104,zI i3),(2,105,.pointer (some ⟨zbY v2,(i3:Int).toNat*5,none⟩)),(3,106,.pointer (some ⟨zbY v2,((i3:Int).toNat)*5,none⟩)),(4,107,.pointer (some ⟨zbY v2,((i3:Int).toNat)*5,none⟩)),(5,108,zI q10.Span_From),(6,109,v2),(7,110,zI k1),(8,111,zI (k1 - 1)),(9,112,.pointer (some ⟨zbY v2,(k1 - 1:Int).toNat*5,none⟩)),(10,113,.pointer (some ⟨zbY v2,((k1 - 1:Int).toNat)*5,none⟩)),(11,114,.pointer (some ⟨zbY v2,((k1 - 1:Int).toNat)*5+1,none⟩)),(12,115,zI q11.Span_To),(13,116,.agg #[zI q10.Span_From,zI q11.Span_To]),(14,117,.agg #[zI q10.Span_From,zI q11.Span_To,zI 0])] (fun b2=>[(8,zP b2)]) (fun b2=>[zv9 v2 r1,zv2 v5 out4,cells b2 [zI 0,zI 0,zI 0] 40]) mixed kr kr rfl dc dc (by rfl) kr kr (zyE 2 0 rfl (zai ?_ (zai ?_ (zai ?_ (zai ?_ (zyE 2 6 rfl (zai ?_ (zai ?_ (zai ?_ (zai ?_ (zai ?_ (zai ?_ (zai ?_ (zcD DrawPreX.nil)))))))))))))) (fun b2=>(zyE 2 0 rfl (zai ?_ (zai ?_ (zai ?_ (zai ?_ (zyE 2 6 rfl (zai ?_ (zai ?_ (zai ?_ (zai ?_ (zai ?_ (zai ?_ (zai ?_ (zcD DrawPreX.nil))))))))))))))) ?_ ?_
     · exact fun D n d c u i=>zaj (k:=0) hq13 Tryz.underlying143 zeP rfl dc (zaa (m:=0) u rfl (d 0 dc)) (zaa (m:=1) u rfl (d 1 dc)) rfl rfl (zaf 2 u i rfl)
     · exact fun D n d c u i=>zab zhM rfl dc (zaa (m:=2) u rfl (d 2 dc)) (show _=((i3:Int).toNat)*5 from rfl) (zaf 3 u i rfl)
     · exact fun D n d c u i=>zab zdt rfl dc (zaa (m:=3) u rfl (d 3 dc)) (show _=((i3:Int).toNat)*5 from rfl) (zaf 4 u i rfl)
     · exact fun D n d c u i=>zaA (i:=(i3:Int).toNat) (j:=0) (k:=0) (q:=q10) zbp zaZ rfl dc (zaa (m:=4) u rfl (d 4 dc)) rfl (zaz hq13) rfl dc rfl (zaf 5 u i rfl)
     · exact fun D n d c u i=>zbz rfl dc (zaa (m:=7) u rfl (d 7 dc)) rfl (zbt (r:=k1 - 1) (IntWalk.i64_in _ hg9)) (zaf 8 u i rfl)
     · exact fun D n d c u i=>zaj (k:=0) hq14 Tryz.underlying143 zeP rfl dc (zaa (m:=6) u rfl (d 6 dc)) (zaa (m:=8) u rfl (d 8 dc)) rfl rfl (zaf 9 u i rfl)
     · exact fun D n d c u i=>zab zhM rfl dc (zaa (m:=9) u rfl (d 9 dc)) (show _=((k1 - 1:Int).toNat)*5 from rfl) (zaf 10 u i rfl)
     · exact fun D n d c u i=>zab zdZ rfl dc (zaa (m:=10) u rfl (d 10 dc)) (show _=((k1 - 1:Int).toNat)*5+1 from rfl) (zaf 11 u i rfl)
     · exact fun D n d c u i=>zaA (i:=(k1 - 1:Int).toNat) (j:=1) (k:=0) (q:=q11) zbp zaZ rfl dc (zaa (m:=11) u rfl (d 11 dc)) rfl (zaz hq14) rfl dc rfl (zaf 12 u i rfl)
     · exact fun D n d c u i=>zba (v:=.agg #[zI q10.Span_From,zI q11.Span_To]) (ps:=[(0,.tmp 108),(1,.tmp 115)]) rfl dc (evP.cons (zaa (m:=5) u rfl (d 5 dc)) (evP.cons (zaa (m:=12) u rfl (d 12 dc)) evP.nil)) (fun _=>by kernel_rfl) (zaf 13 u i rfl)
     · exact fun D n d c u i=>zba (v:=.agg #[zI q10.Span_From,zI q11.Span_To,zI 0]) (ps:=[(0,.tmp 116)]) rfl dc (evP.cons (zaa (m:=13) u rfl (d 13 dc)) evP.nil) (fun _=>by kernel_rfl) (zaf 14 u i rfl)
     · exact fun D n d c u i=>zaj (k:=0) hq13 Tryz.underlying143 zeP rfl dc (zaa (m:=0) u rfl (d 0 dc)) (zaa (m:=1) u rfl (d 1 dc)) rfl rfl (zaf 2 u i rfl)
     · exact fun D n d c u i=>zab zhM rfl dc (zaa (m:=2) u rfl (d 2 dc)) (show _=((i3:Int).toNat)*5 from rfl) (zaf 3 u i rfl)
     · exact fun D n d c u i=>zab zdt rfl dc (zaa (m:=3) u rfl (d 3 dc)) (show _=((i3:Int).toNat)*5 from rfl) (zaf 4 u i rfl)
     · exact fun D n d c u i=>zaA (i:=(i3:Int).toNat) (j:=0) (k:=0) (q:=q10) zbp zaZ rfl dc (zaa (m:=4) u rfl (d 4 dc)) rfl (zaz hq13) rfl dc rfl (zaf 5 u i rfl)
     · exact fun D n d c u i=>zbz rfl dc (zaa (m:=7) u rfl (d 7 dc)) rfl (zbt (r:=k1 - 1) (IntWalk.i64_in _ hg9)) (zaf 8 u i rfl)
     · exact fun D n d c u i=>zaj (k:=0) hq14 Tryz.underlying143 zeP rfl dc (zaa (m:=6) u rfl (d 6 dc)) (zaa (m:=8) u rfl (d 8 dc)) rfl rfl (zaf 9 u i rfl)
     · exact fun D n d c u i=>zab zhM rfl dc (zaa (m:=9) u rfl (d 9 dc)) (show _=((k1 - 1:Int).toNat)*5 from rfl) (zaf 10 u i rfl)
     · exact fun D n d c u i=>zab zdZ rfl dc (zaa (m:=10) u rfl (d 10 dc)) (show _=((k1 - 1:Int).toNat)*5+1 from rfl) (zaf 11 u i rfl)
     · exact fun D n d c u i=>zaA (i:=(k1 - 1:Int).toNat) (j:=1) (k:=0) (q:=q11) zbp zaZ rfl dc (zaa (m:=11) u rfl (d 11 dc)) rfl (zaz hq14) rfl dc rfl (zaf 12 u i rfl)
     · exact fun D n d c u i=>zba (v:=.agg #[zI q10.Span_From,zI q11.Span_To]) (ps:=[(0,.tmp 108),(1,.tmp 115)]) rfl dc (evP.cons (zaa (m:=5) u rfl (d 5 dc)) (evP.cons (zaa (m:=12) u rfl (d 12 dc)) evP.nil)) (fun _=>by kernel_rfl) (zaf 13 u i rfl)
     · exact fun D n d c u i=>zba (v:=.agg #[zI q10.Span_From,zI q11.Span_To,zI 0]) (ps:=[(0,.tmp 116)]) rfl dc (evP.cons (zaa (m:=13) u rfl (d 13 dc)) evP.nil) (fun _=>by kernel_rfl) (zaf 14 u i rfl)
     ·
      intro D hn hd hcl
      refine zbE ztG rfl dc (fun b2 => ?_)
      exact fun a w ha hw=>⟨b2,zld (by rfl) _ _ _ ha,hw⟩
     intro b2
     refine za6 (k:=2) (vs:=[zI q10.Span_From,zI q11.Span_To,zI 0]) (l':=[zI q10.Span_From,zI q11.Span_To,zI 0]) zho rfl rfl rfl rfl rfl (show _≤_ by simp) rfl rfl (zyN (cut (zaF ?_)))
     refine zbj (β:=Nat×Int×Int) (fun b=>zaE (fun _ _=>none) (zcA r1 k1 j6 q10 q11) b.1 b.2.1 b.2.2=some r) (fun b=>[]) (fun b=>[(0,.string s1),(3,v2),(4,v5),(5,zI b.2.1),(6,zI k1),(8,zP b2)]) (fun b=>[zv9 v2 r1,zv2 v5 out4,cells b2 [zI q10.Span_From,zI q11.Span_To,zI b.2.2] 40]) (fun b=>b.1) (zbN,i3,0) h rfl (za0 rfl) (zad [0,1,2] kr rfl) ?_
     rintro ⟨n5,i7,c8⟩ h
     cases n5 with
     | zero=>exact zdp h
     | succ n5 =>
      obtain ⟨ag5,hag5⟩:∃ ag,ag=zaE (fun _ _=>none) (zcA r1 k1 j6 q10 q11) n5:=⟨_,rfl⟩
      have h:zcA r1 k1 j6 q10 q11 ag5 i7 c8=some r:=by rw [hag5]; exact h
      unfold zcA at h
      refine zaI (zyG (zyR 2 rfl (zaU rfl zbc (zyN ?_))))
      refine zyB rfl h (fun h => ?_) (fun h => ?_)
      ·
       refine zar (zaH (zaF (zaI ?_)))
       obtain ⟨q12,hq15,h⟩:=zbi h
       refine zbn 7 [(0,121,.pointer (some ⟨b2,2,none⟩)),(1,122,zI c8),(2,123,v2),(3,124,zI i7),(4,125,.pointer (some ⟨zbY v2,(i7:Int).toNat*5,none⟩)),(5,126,.pointer (some ⟨zbY v2,((i7:Int).toNat)*5+4,none⟩)),(6,127,zI q12.Columns)] mixed kr kr dc (by rfl) kr kr (zac ?_ (zac ?_ (zyP 2 2 rfl (zac ?_ (zac ?_ (zac ?_ DrawPre.nil)))))) ?_
       · exact fun D n d c u i=>zab zhz rfl dc (zbe (by rfl) rfl) (show _=2 from rfl) (zaf 0 u i rfl)
       · exact fun D n d c u i=>zau (k:=2) zbp rfl dc (zaa (m:=0) u rfl (d 0 dc)) rfl rfl (zaf 1 u i rfl)
       · exact fun D n d c u i=>zaj (k:=0) hq15 Tryz.underlying143 zeP rfl dc (zaa (m:=2) u rfl (d 2 dc)) (zaa (m:=3) u rfl (d 3 dc)) rfl rfl (zaf 4 u i rfl)
       · exact fun D n d c u i=>zab zfp rfl dc (zaa (m:=4) u rfl (d 4 dc)) (show _=((i7:Int).toNat)*5+4 from rfl) (zaf 5 u i rfl)
       · exact fun D n d c u i=>zaA (i:=(i7:Int).toNat) (j:=4) (k:=0) (q:=q12) zbp zaZ rfl dc (zaa (m:=5) u rfl (d 5 dc)) rfl (zaz hq15) rfl dc rfl (zaf 6 u i rfl)
       refine zk8 rfl dc rfl rfl (zab zhz rfl dc rfl (show _=2 from rfl) ?_)
       refine zbb (k:=2) (l':=[zI q10.Span_From,zI q11.Span_To,zI (max c8 q12.Columns)]) zcs rfl rfl rfl rfl rfl (fun _ _=>rfl) rfl ?_
       refine zyN (zav (zyR 1 rfl ?_))
       obtain ⟨hg10,h⟩:=zbr h
       refine zaU rfl (zaR (r:=i7+1) (IntWalk.i64_in _ hg10)) (zyR 1 rfl (zaO (zag ?_)))
       subst hag5
       exact za1 (n5,i7+1,max c8 q12.Columns) h (Nat.lt_succ_self _) rfl (za0 rfl) (zad [0,1,2] kr rfl)
      refine za3 (zan (zan (zax ?_)))
      exact zal (i7,q10.Span_From,q11.Span_To,c8,b2) h rfl (za0 rfl) (zad [0,1,2] kr rfl)
    rintro ⟨i4,c3,c4,c5,b1⟩ h
    rw [hj6] at h
    refine zav (zyR 1 rfl (zbd (k:=2) (cs:=[zI c3,zI c4,zI c5]) zh9 rfl dc rfl rfl rfl rfl ?_))
    refine zaV (cs:=[zI c3,zI c4,zI c5]) (te:=40) (ps:=[(0,.tmp 133)]) rfl dc rfl (fun _=>by kernel_rfl) (fun b3 => ?_)
    obtain ⟨hg11,h⟩:=zbr h
    refine za4 (k:=1) (k2:=3) (ys:=[(⟨c3,c4,c5⟩:Gapi_Cell)]) Tryz.underlying94 zwf zbC zgT rfl dc rfl rfl rfl rfl rfl rfl hg11 (fun v6 => ?_)
    refine zyR 1 rfl (zaO (zag ?_))
    subst hag1
    exact za1 (n1,out4++[(⟨c3,c4,c5⟩:Gapi_Cell)],i4,v6) h (Nat.lt_succ_self _) rfl (za0 rfl) (zad [0,1] kr rfl)
   refine za3 (zan (zan (zax ?_)))
   exact zal (out4,v5) h rfl (za0 rfl) (zad [1] kr rfl)
 rintro ⟨out1,v1⟩ h
 rw [hj1] at h
 refine zyG (zyR 2 rfl (zyN (zaG ?_)))
 cases h
 exact zaK (rs:=[.tmp 2]) v1 (.inl rfl) Tryz.results40 (.cons (.tmp rfl) .nil) rfl (zad [0] kr rfl)
end Go.Proofs.YtbempdelckaccaaGreatDoor

namespace Go.Proofs.YtbempdelckaccaaGreatDoor
open Go.RowKit Go.Lib
set_option linter.unusedVariables false
set_option linter.unusedSimpArgs false
def zfz (l1:Gapi_Layout):Option Bool :=
zay (decide ((8:Int)≤l1.Width)) (
zay (decide ((l1.Width:Int)≤256)) (
zay (decide ((4:Int)≤l1.Height)) (
zay (decide ((l1.Height:Int)≤200)) (
zay (decide ((0:Int)≤l1.Turn)) (
zay (decide ((l1.Turn:Int)≤7)) (
zay (decide ((0:Int)≤l1.Every)) (
some (decide ((l1.Every:Int)≤512))
) (
some false
)
) (
some false
)
) (
some false
)
) (
some false
)
) (
some false
)
) (
some false
)
) (
some false
)
theorem znG {l1:Gapi_Layout} {r:Bool} (h:zfz l1=some r):FnP Tryz.prog 31 [.agg (zr0 l1).toArray] (.bool r):=by
 unfold zfz at h
 refine FnP.intro Tryz.func31 rfl Tryz.ntmps31 (by simp) ?_
 intro w0 K
 refine zyG ?_
 refine zea rfl dc rfl (fun b1 => ?_)
 refine zyR 1 rfl (zyH (zab zg5 rfl dc rfl (show _=0 from rfl) (zau (k:=0) zbp rfl dc rfl rfl rfl (zaU rfl zer (zyR 1 rfl ?_)))))
 refine zyS (s:=6) rfl h (fun h => ?_) (fun h => ?_)
 ·
  refine zab zg5 rfl dc rfl (show _=0 from rfl) (zau (k:=0) zbp rfl dc rfl rfl rfl (zaU rfl zdJ (zyR 2 rfl ?_)))
  refine zyS (s:=11) rfl h (fun h => ?_) (fun h => ?_)
  ·
   refine zab zii rfl dc rfl (show _=1 from rfl) (zau (k:=0) zbp rfl dc rfl rfl rfl (zaU rfl zer (zyR 2 rfl ?_)))
   refine zyS (s:=16) rfl h (fun h => ?_) (fun h => ?_)
   ·
    refine zab zii rfl dc rfl (show _=1 from rfl) (zau (k:=0) zbp rfl dc rfl rfl rfl (zaU rfl zdJ (zyR 2 rfl ?_)))
    refine zyS (s:=21) rfl h (fun h => ?_) (fun h => ?_)
    ·
     refine zab zg4 rfl dc rfl (show _=2 from rfl) (zau (k:=0) zbp rfl dc rfl rfl rfl (zaU rfl zer (zyR 2 rfl ?_)))
     refine zyS (s:=26) rfl h (fun h => ?_) (fun h => ?_)
     ·
      refine zab zg4 rfl dc rfl (show _=2 from rfl) (zau (k:=0) zbp rfl dc rfl rfl rfl (zaU rfl zdJ (zyR 2 rfl ?_)))
      refine zyS (s:=31) rfl h (fun h => ?_) (fun h => ?_)
      ·
       refine zab zhA rfl dc rfl (show _=3 from rfl) (zau (k:=0) zbp rfl dc rfl rfl rfl (zaU rfl zer (zyR 2 rfl ?_)))
       refine zyS (s:=36) rfl h (fun h => ?_) (fun h => ?_)
       ·
        refine zab zhA rfl dc rfl (show _=3 from rfl) (zau (k:=0) zbp rfl dc rfl rfl rfl (zaU rfl zdJ (zyR 2 rfl (zyN (zaG ?_)))))
        cases h
        exact zaK (rs:=[.tmp 2]) () (.inl rfl) Tryz.results31 (.cons (.tmp rfl) .nil) rfl Splits.nil
       refine zyR 5 rfl (zyN (zaG ?_))
       cases h
       exact zaK (rs:=[.tmp 2]) () (.inl rfl) Tryz.results31 (.cons (.tmp rfl) .nil) rfl Splits.nil
      refine zyR 10 rfl (zyN (zaG ?_))
      cases h
      exact zaK (rs:=[.tmp 2]) () (.inl rfl) Tryz.results31 (.cons (.tmp rfl) .nil) rfl Splits.nil
     refine zyR 14 rfl ?_
     refine zyR 1 rfl (zyN (zaG ?_))
     cases h
     exact zaK (rs:=[.tmp 2]) () (.inl rfl) Tryz.results31 (.cons (.tmp rfl) .nil) rfl Splits.nil
    refine zyR 14 rfl ?_
    refine zyR 6 rfl (zyN (zaG ?_))
    cases h
    exact zaK (rs:=[.tmp 2]) () (.inl rfl) Tryz.results31 (.cons (.tmp rfl) .nil) rfl Splits.nil
   refine zyR 14 rfl ?_
   refine zyR 11 rfl (zyN (zaG ?_))
   cases h
   exact zaK (rs:=[.tmp 2]) () (.inl rfl) Tryz.results31 (.cons (.tmp rfl) .nil) rfl Splits.nil
  refine zyR 14 rfl ?_
  refine zyR 14 rfl ?_
  refine zyR 2 rfl (zyN (zaG ?_))
  cases h
  exact zaK (rs:=[.tmp 2]) () (.inl rfl) Tryz.results31 (.cons (.tmp rfl) .nil) rfl Splits.nil
 refine zyR 14 rfl ?_
 refine zyR 14 rfl ?_
 refine zyR 7 rfl (zyN (zaG ?_))
 cases h
 exact zaK (rs:=[.tmp 2]) () (.inl rfl) Tryz.results31 (.cons (.tmp rfl) .nil) rfl Splits.nil
def zdr (s1:ByteArray) (c1:Gapi_Cell):Option Bool :=
grd (I64 (c1.Span_To - c1.Span_From)) <|
zay (((c1.Span_To - c1.Span_From):Int)==1) (
zah (zjg s1 c1.Span_From) fun (c2:Int) =>
some ((c2:Int)==32)
) (
some false
)
theorem zfI {s1:ByteArray} {c1:Gapi_Cell} {r:Bool} (h:zdr s1 c1=some r):FnP Tryz.prog 73 [.string s1,.agg (zr1 c1).toArray] (.bool r):=by
 unfold zdr at h
 refine FnP.intro Tryz.func73 rfl Tryz.ntmps73 (by simp) ?_
 intro w0 K
 refine zyG ?_
 refine zea rfl dc rfl (fun b1 => ?_)
 refine zyR 1 rfl (zyH (zab zfD rfl dc rfl (show _=0 from rfl) (zab zdZ rfl dc rfl (show _=1 from rfl) (zau (k:=0) zbp rfl dc rfl rfl rfl (zab zfD rfl dc rfl (show _=0 from rfl) (zab zdt rfl dc rfl (show _=0 from rfl) (zau (k:=0) zbp rfl dc rfl rfl rfl ?_)))))))
 obtain ⟨hg1,h⟩:=zbr h
 refine zaU rfl (zbt (r:=c1.Span_To - c1.Span_From) (IntWalk.i64_in _ hg1)) (zaU rfl zaT (zyR 1 rfl ?_))
 refine zyS (s:=13) rfl h (fun h => ?_) (fun h => ?_)
 ·
  refine zyR 1 rfl (zab zfD rfl dc rfl (show _=0 from rfl) (zab zdt rfl dc rfl (show _=0 from rfl) (zau (k:=0) zbp rfl dc rfl rfl rfl ?_)))
  obtain ⟨c2,hq1,h⟩:=zbi h
  refine zc7 rfl dc rfl rfl (zbx Tryz.underlying9 hq1) (zaU rfl zaT (zyR 2 rfl (zyN (zaG ?_))))
  cases h
  exact zaK (rs:=[.tmp 4]) () (.inl rfl) Tryz.results73 (.cons (.tmp rfl) .nil) rfl Splits.nil
 refine zyR 8 rfl (zyN (zaG ?_))
 cases h
 exact zaK (rs:=[.tmp 4]) () (.inl rfl) Tryz.results73 (.cons (.tmp rfl) .nil) rfl Splits.nil
def zcl (s1:ByteArray) (l1:List Gapi_Cell) (j1:Int→Option Int) (ag1:Int→Option Int) (n4:Int):Option Int :=
zay (decide ((0:Int)<n4)) (
grd (I64 (n4 - 1)) <|
zah (zbm l1 (n4 - 1)) fun (q1:Gapi_Cell) =>
zah (zdr s1 q1) fun (r1:Bool) =>
zay (r1) (
grd (I64 (n4 - 1)) <|
ag1 (n4 - 1)
) (
j1 n4
)
) (
j1 n4
)
def zck (l1:List Gapi_Cell) (n1:Int) (j2:Int→Option Int) (ag2:Int→Int→Option Int) (sum4:Int) (i3:Int):Option Int :=
zay (decide ((i3:Int)<n1)) (
zah (zbm l1 i3) fun (q2:Gapi_Cell) =>
grd (I64 (sum4+q2.Columns)) <|
grd (I64 (i3+1)) <|
ag2 (sum4+q2.Columns) (i3+1)
) (
j2 sum4
)
def zc9 (s1:ByteArray) (l1:List Gapi_Cell):Option Int :=
zbk (fun (j1:Int→Option Int) =>
zaE (fun _=>none) (zcl s1 l1 j1) zbN (l1.length:Int)
) (fun (n1:Int) =>
zbk (fun (j2:Int→Option Int) =>
zaE (fun _ _=>none) (zck l1 n1 j2) zbN 0 0
) (fun (sum1:Int) =>
some sum1
)
)
theorem zhd {s1:ByteArray} {vvl1 vl1:Value} {Ll1:List Gapi_Cell} {kl1:Nat} {l1:List Gapi_Cell} (hwl1:Vw vvl1 Ll1 3 kl1 vl1 l1) {r:Int} (h:zc9 s1 l1=some r):Fn Tryz.prog 39 [.string s1,vl1] [zv2 vvl1 Ll1] (fun _b:Unit=>zI r) (fun _b=>[zv2 vvl1 Ll1]):=by
 unfold zc9 at h
 refine Fn.intro Tryz.func39 rfl Tryz.ntmps39 (by simp) ?_
 intro w0 K
 obtain ⟨j1,hj1,h⟩:=zbG h
 refine zaX (β:=Int) 2 rfl (fun b=>j1 b=some r) (fun b=>[]) (fun b=>[(1,vl1),(5,zI b)]) (fun b=>[zv2 vvl1 Ll1]) (fun cut => ?_) ?_
 ·
  refine zyG (zyR 1 rfl (zyH (zyR 1 rfl (zdT hwl1 rfl dc rfl Tryz.underlying94 (zyR 1 rfl (zyN (cut (zaF ?_))))))))
  refine zbj (β:=Nat×Int) (fun b=>zaE (fun _=>none) (zcl s1 l1 j1) b.1 b.2=some r) (fun b=>[]) (fun b=>[(0,.string s1),(1,vl1),(5,zI b.2)]) (fun b=>[zv2 vvl1 Ll1]) (fun b=>b.1) (zbN,(l1.length:Int)) h rfl (za0 rfl) (zad [0] kr rfl) ?_
  rintro ⟨n5,n4⟩ h
  cases n5 with
  | zero=>exact zdp h
  | succ n5 =>
   obtain ⟨ag1,hag1⟩:∃ ag,ag=zaE (fun _=>none) (zcl s1 l1 j1) n5:=⟨_,rfl⟩
   have h:zcl s1 l1 j1 ag1 n4=some r:=by rw [hag1]; exact h
   unfold zcl at h
   refine zaI (zyG (zyR 1 rfl (zaU rfl zct (zyR 1 rfl ?_))))
   refine zyS (s:=12) rfl h (fun h => ?_) (fun h => ?_)
   ·
    refine zyR 3 rfl ?_
    obtain ⟨hg1,h⟩:=zbr h
    refine zaU rfl (zbt (r:=n4 - 1) (IntWalk.i64_in _ hg1)) ?_
    obtain ⟨q1,hq1,h⟩:=zbi h
    refine za9 hwl1 hq1 Tryz.underlying94 zho rfl dc rfl rfl rfl (zcQ (i:=kl1+(n4 - 1:Int).toNat) (j:=0) (k:=0) (q:=q1) (cs:=(zr1 q1)) zh9 zbC rfl dc rfl rfl (Vw.get hwl1 hq1) rfl rfl rfl ?_)
    obtain ⟨r1,hq2,h⟩:=zbi h
    refine zbD (v:=.bool r1) (vs:=[.string s1,.agg (zr1 q1).toArray]) rfl dc rfl rfl rfl zsN (zfI (c1:=q1) hq2) (zyR 1 rfl (zyN ?_))
    refine zyB rfl h (fun h => ?_) (fun h => ?_)
    ·
     refine zar (zaH (zaF (zav (zyR 1 rfl ?_))))
     obtain ⟨hg2,h⟩:=zbr h
     refine zaU rfl (zbt (r:=n4 - 1) (IntWalk.i64_in _ hg2)) (zyR 1 rfl (zaO (zag ?_)))
     subst hag1
     exact za1 (n5,n4 - 1) h (Nat.lt_succ_self _) rfl (za0 rfl) (zad [0] kr rfl)
    refine za3 (zan (zan (zax ?_)))
    exact zal n4 h rfl (za0 rfl) (zad [0] kr rfl)
   refine zyR 8 rfl (zyN (zaS rfl (za3 (zan (zan ?_)))))
   refine zax ?_
   exact zal n4 h rfl (za0 rfl) (zad [0] kr rfl)
 rintro n1 h
 rw [hj1] at h
 obtain ⟨j2,hj2,h⟩:=zbG h
 refine zaX (β:=Int) 1 rfl (fun b=>j2 b=some r) (fun b=>[]) (fun b=>[(6,zI b)]) (fun b=>[zv2 vvl1 Ll1]) (fun cut => ?_) ?_
 ·
  refine zyG (zyR 1 rfl (zyN (cut (zyG (zyR 1 rfl (zyN (zaF ?_)))))))
  refine zbj (β:=Nat×Int×Int) (fun b=>zaE (fun _ _=>none) (zck l1 n1 j2) b.1 b.2.1 b.2.2=some r) (fun b=>[]) (fun b=>[(1,vl1),(5,zI n1),(6,zI b.2.1),(7,zI b.2.2)]) (fun b=>[zv2 vvl1 Ll1]) (fun b=>b.1) (zbN,0,0) h rfl (za0 rfl) (zad [0] kr rfl) ?_
  rintro ⟨n6,sum4,i3⟩ h
  cases n6 with
  | zero=>exact zdp h
  | succ n6 =>
   obtain ⟨ag2,hag2⟩:∃ ag,ag=zaE (fun _ _=>none) (zck l1 n1 j2) n6:=⟨_,rfl⟩
   have h:zck l1 n1 j2 ag2 sum4 i3=some r:=by rw [hag2]; exact h
   unfold zck at h
   refine zaI (zyG (zyR 2 rfl (zaU rfl zbc (zyN ?_))))
   refine zyB rfl h (fun h => ?_) (fun h => ?_)
   ·
    refine zar (zaH (zaI (zaF (zav (zyR 3 rfl ?_)))))
    obtain ⟨q2,hq3,h⟩:=zbi h
    refine za9 hwl1 hq3 Tryz.underlying94 zho rfl dc rfl rfl rfl (zab zhz rfl dc rfl (show _=(kl1+(i3:Int).toNat)*3+2 from rfl) (zaA (i:=kl1+(i3:Int).toNat) (j:=2) (k:=0) (q:=q2) zbp zbC rfl dc rfl rfl (Vw.get hwl1 hq3) rfl dc rfl ?_))
    obtain ⟨hg3,h⟩:=zbr h
    refine zaU rfl (zaR (r:=sum4+q2.Columns) (IntWalk.i64_in _ hg3)) (zyR 1 rfl (zaO (zag (zaH (zav (zyR 1 rfl ?_))))))
    obtain ⟨hg4,h⟩:=zbr h
    refine zaU rfl (zaR (r:=i3+1) (IntWalk.i64_in _ hg4)) (zyR 1 rfl (zaO ?_))
    subst hag2
    exact za1 (n6,sum4+q2.Columns,i3+1) h (Nat.lt_succ_self _) rfl (za0 rfl) (zad [0] kr rfl)
   refine za3 (zan (zan (zax ?_)))
   exact zal sum4 h rfl (za0 rfl) (zad [0] kr rfl)
 rintro sum1 h
 rw [hj2] at h
 refine zyG (zyR 2 rfl (zyN (zaG ?_)))
 cases h
 exact zaK (rs:=[.tmp 4]) () (.inl rfl) Tryz.results39 (.cons (.tmp rfl) .nil) rfl (zad [0] kr rfl)
def zfO (l1:Gapi_Layout) (indent1:Int) (first1:Bool):Option Int :=
zay (!first1) (
grd (I64 (l1.Width - l1.Turn)) <|
some (l1.Width - l1.Turn)
) (
grd (I64 (l1.Width - indent1)) <|
zay (decide (((l1.Width - indent1):Int)<1)) (
some 1
) (
grd (I64 (l1.Width - indent1)) <|
some (l1.Width - indent1)
)
)
theorem zmK {l1:Gapi_Layout} {indent1:Int} {first1:Bool} {r:Int} (h:zfO l1 indent1 first1=some r):FnP Tryz.prog 75 [.agg (zr0 l1).toArray,zI indent1,.bool first1] (zI r):=by
 unfold zfO at h
 refine FnP.intro Tryz.func75 rfl Tryz.ntmps75 (by simp) ?_
 intro w0 K
 refine zyG ?_
 refine zea rfl dc rfl (fun b1 => ?_)
 refine zyR 1 rfl (zyN (zaI (zyG (zyR 1 rfl (zee rfl dc rfl zcN (zyN ?_))))))
 refine zyB rfl h (fun h => ?_) (fun h => ?_)
 ·
  refine zyG (zab zg5 rfl dc rfl (show _=0 from rfl) (zau (k:=0) zbp rfl dc rfl rfl rfl (zab zg4 rfl dc rfl (show _=2 from rfl) (zau (k:=0) zbp rfl dc rfl rfl rfl ?_))))
  obtain ⟨hg1,h⟩:=zbr h
  refine zaU rfl (zbt (r:=l1.Width - l1.Turn) (IntWalk.i64_in _ hg1)) (zyR 1 rfl (zyN (zaG (zao ?_))))
  cases h
  exact zaK (rs:=[.tmp 6]) () (.inl rfl) Tryz.results75 (.cons (.tmp rfl) .nil) rfl Splits.nil
 refine zar (zaH (zaI (zyG (zab zg5 rfl dc rfl (show _=0 from rfl) (zau (k:=0) zbp rfl dc rfl rfl rfl (zyR 1 rfl ?_))))))
 obtain ⟨hg2,h⟩:=zbr h
 refine zaU rfl (zbt (r:=l1.Width - indent1) (IntWalk.i64_in _ hg2)) (zaU rfl zbc (zyN ?_))
 refine zyB rfl h (fun h => ?_) (fun h => ?_)
 ·
  refine zyG (zyR 1 rfl (zyN (zaG (zao ?_))))
  cases h
  exact zaK (rs:=[.tmp 6]) () (.inl rfl) Tryz.results75 (.cons (.tmp rfl) .nil) rfl Splits.nil
 refine zar (zaH (zyG (zab zg5 rfl dc rfl (show _=0 from rfl) (zau (k:=0) zbp rfl dc rfl rfl rfl (zyR 1 rfl ?_)))))
 obtain ⟨hg3,h⟩:=zbr h
 refine zaU rfl (zbt (r:=l1.Width - indent1) (IntWalk.i64_in _ hg3)) (zyR 1 rfl (zyN (zaG ?_)))
 cases h
 exact zaK (rs:=[.tmp 6]) () (.inl rfl) Tryz.results75 (.cons (.tmp rfl) .nil) rfl Splits.nil
def zc8 (s1:ByteArray) (l1:List Gapi_Cell) (j2:Option Bool) (ag1:Int→Option Bool) (i3:Int):Option Bool :=
zay (decide ((i3:Int)<(l1.length:Int))) (
zah (zbm l1 i3) fun (q2:Gapi_Cell) =>
zah (zdr s1 q2) fun (r3:Bool) =>
zay (!r3) (
some false
) (
grd (I64 (i3+1)) <|
ag1 (i3+1)
)
) (
j2
)
def zgg (s1:ByteArray) (l1:List Gapi_Cell) (room1:Int) (first1:Bool):Option Bool :=
zbk (fun (j1:Option Bool) =>
zay (((l1.length:Int):Int)==0) (
some false
) (
zay (!first1) (
zah (zbm l1 0) fun (q1:Gapi_Cell) =>
zah (zdr s1 q1) fun (r1:Bool) =>
zay (r1) (
some false
) (
j1
)
) (
j1
)
)
) (
zah (zc9 s1 l1) fun (r2:Int) =>
zay (decide ((r2:Int)≤room1)) (
some true
) (
zbk (fun (j2:Option Bool) =>
zaE (fun _=>none) (zc8 s1 l1 j2) zbN 1
) (
some true
)
)
)
theorem znF {s1:ByteArray} {vvl1 vl1:Value} {Ll1:List Gapi_Cell} {kl1:Nat} {l1:List Gapi_Cell} (hwl1:Vw vvl1 Ll1 3 kl1 vl1 l1) {room1:Int} {first1:Bool} {r:Bool} (h:zgg s1 l1 room1 first1=some r):Fn Tryz.prog 76 [.string s1,vl1,zI room1,.bool first1] [zv2 vvl1 Ll1] (fun _b:Unit=>.bool r) (fun _b=>[zv2 vvl1 Ll1]):=by
 unfold zgg at h
 refine Fn.intro Tryz.func76 rfl Tryz.ntmps76 (by simp) ?_
 intro w0 K
 obtain ⟨j1,hj1,h⟩:=zbG h
 refine zaX (β:=Unit) 1 rfl (fun b=>j1=some r) (fun b=>[]) (fun b=>[(0,.string s1),(1,vl1),(2,zI room1)]) (fun b=>[zv2 vvl1 Ll1]) (fun cut => ?_) ?_
 ·
  refine zyG (zyR 1 rfl (zyN (cut (zyG (zyR 1 rfl (zdT hwl1 rfl dc rfl Tryz.underlying94 (zaU rfl zaT (zyR 1 rfl ?_))))))))
  refine zyS (s:=13) rfl h (fun h => ?_) (fun h => ?_)
  ·
   refine zyR 10 rfl (zyN (za5 rfl (zaI ?_)))
   refine zav (zyR 1 rfl (zyN (zaG (zao ?_))))
   cases h
   exact zaK (rs:=[.tmp 8]) () (.inl rfl) Tryz.results76 (.cons (.tmp rfl) .nil) rfl (zad [0] kr rfl)
  refine zyR 1 rfl (zee rfl dc rfl zcN (zyR 1 rfl ?_))
  refine zyS (s:=16) rfl h (fun h => ?_) (fun h => ?_)
  ·
   refine zyR 2 rfl ?_
   obtain ⟨q1,hq1,h⟩:=zbi h
   refine za9 hwl1 hq1 Tryz.underlying94 zho rfl dc rfl rfl rfl (zcQ (i:=kl1+(0:Int).toNat) (j:=0) (k:=0) (q:=q1) (cs:=(zr1 q1)) zh9 zbC rfl dc rfl rfl (Vw.get hwl1 hq1) rfl rfl rfl ?_)
   obtain ⟨r1,hq2,h⟩:=zbi h
   refine zbD (v:=.bool r1) (vs:=[.string s1,.agg (zr1 q1).toArray]) rfl dc rfl rfl rfl zsN (zfI (c1:=q1) hq2) (zyR 2 rfl (zyN ?_))
   refine zyB rfl h (fun h => ?_) (fun h => ?_)
   ·
    refine zyG (zyR 1 rfl (zyN (zaG (zao ?_))))
    cases h
    exact zaK (rs:=[.tmp 8]) () (.inl rfl) Tryz.results76 (.cons (.tmp rfl) .nil) rfl (zad [0] kr rfl)
   refine zar ?_
   exact zal () h rfl (za0 rfl) (zad [0] kr rfl)
  refine zyR 7 rfl (zyN (zaS rfl (zar ?_)))
  exact zal () h rfl (za0 rfl) (zad [0] kr rfl)
 rintro _ h
 rw [hj1] at h
 refine zaI (zyG (zyR 2 rfl ?_))
 obtain ⟨r2,hq3,h⟩:=zbi h
 refine zkf (v:=zI r2) (vs:=[.string s1,vl1]) rfl dc rfl rfl rfl zvU (zhd hwl1 hq3) [0] kr rfl (zyR 1 rfl (zaU rfl zdJ (zyN ?_)))
 refine zyB rfl h (fun h => ?_) (fun h => ?_)
 ·
  refine zyG (zyR 1 rfl (zyN (zaG (zao ?_))))
  cases h
  exact zaK (rs:=[.tmp 8]) () (.inl rfl) Tryz.results76 (.cons (.tmp rfl) .nil) rfl (zad [0] kr rfl)
 refine zar (zaH ?_)
 obtain ⟨j2,hj2,h⟩:=zbG h
 refine zaX (β:=Unit) 0 rfl (fun b=>j2=some r) (fun b=>[]) (fun b=>[]) (fun b=>[zv2 vvl1 Ll1]) (fun cut => ?_) ?_
 ·
  refine cut (zyG (zyR 1 rfl (zyN (zaF ?_))))
  refine zbj (β:=Nat×Int) (fun b=>zaE (fun _=>none) (zc8 s1 l1 j2) b.1 b.2=some r) (fun b=>[]) (fun b=>[(0,.string s1),(1,vl1),(9,zI b.2)]) (fun b=>[zv2 vvl1 Ll1]) (fun b=>b.1) (zbN,1) h rfl (za0 rfl) (zad [0] kr rfl) ?_
  rintro ⟨n1,i3⟩ h
  cases n1 with
  | zero=>exact zdp h
  | succ n1 =>
   obtain ⟨ag1,hag1⟩:∃ ag,ag=zaE (fun _=>none) (zc8 s1 l1 j2) n1:=⟨_,rfl⟩
   have h:zc8 s1 l1 j2 ag1 i3=some r:=by rw [hag1]; exact h
   unfold zc8 at h
   refine zaI (zyG (zyR 2 rfl (zdT hwl1 rfl dc rfl Tryz.underlying94 (zaU rfl zbc (zyN ?_)))))
   refine zyB rfl h (fun h => ?_) (fun h => ?_)
   ·
    refine zar (zaH (zaI (zaF (zyG (zyR 3 rfl ?_)))))
    obtain ⟨q2,hq4,h⟩:=zbi h
    refine za9 hwl1 hq4 Tryz.underlying94 zho rfl dc rfl rfl rfl (zcQ (i:=kl1+(i3:Int).toNat) (j:=0) (k:=0) (q:=q2) (cs:=(zr1 q2)) zh9 zbC rfl dc rfl rfl (Vw.get hwl1 hq4) rfl rfl rfl ?_)
    obtain ⟨r3,hq5,h⟩:=zbi h
    refine zbD (v:=.bool r3) (vs:=[.string s1,.agg (zr1 q2).toArray]) rfl dc rfl rfl rfl zsN (zfI (c1:=q2) hq5) (zee rfl dc rfl zcN (zyN ?_))
    refine zyB rfl h (fun h => ?_) (fun h => ?_)
    ·
     refine zyG (zyR 1 rfl (zyN (zaG (zat (zao (zao (zat (zao ?_))))))))
     cases h
     exact zaK (rs:=[.tmp 8]) () (.inl rfl) Tryz.results76 (.cons (.tmp rfl) .nil) rfl (zad [0] kr rfl)
    refine zar (zag (zaH (zav (zyR 1 rfl ?_))))
    obtain ⟨hg1,h⟩:=zbr h
    refine zaU rfl (zaR (r:=i3+1) (IntWalk.i64_in _ hg1)) (zyR 1 rfl (zaO ?_))
    subst hag1
    exact za1 (n1,i3+1) h (Nat.lt_succ_self _) rfl (za0 rfl) (zad [0] kr rfl)
   refine za3 (zan (zan (zax ?_)))
   exact zal () h rfl (zio) (zad [0] kr rfl)
 rintro _ h
 rw [hj2] at h
 refine zyG (zyR 1 rfl (zyN (zaG ?_)))
 cases h
 exact zaK (rs:=[.tmp 8]) () (.inl rfl) Tryz.results76 (.cons (.tmp rfl) .nil) rfl (zad [0] kr rfl)
def zex (s1:ByteArray) (l1:List Gapi_Cell) (room1:Int):Option Int :=
zbk (fun (j1:Int→Option Int) =>
zah (zc9 s1 l1) fun (r1:Int) =>
grd (I64 (room1 - r1)) <|
zay (decide ((0:Int)<(room1 - r1))) (
grd (I64 ((room1 - r1)*(room1 - r1))) <|
j1 ((room1 - r1)*(room1 - r1))
) (
j1 0
)
) (fun (n1:Int) =>
zbk (fun (j2:Int→Option Int) =>
grd (I64 ((l1.length:Int) - 1)) <|
zah (zbm l1 ((l1.length:Int) - 1)) fun (q1:Gapi_Cell) =>
zah (zdr s1 q1) fun (r2:Bool) =>
zay (!r2) (
grd (I64 (n1+1000)) <|
j2 (n1+1000)
) (
j2 n1
)
) (fun (n2:Int) =>
some n2
)
)
theorem zjR {s1:ByteArray} {vvl1 vl1:Value} {Ll1:List Gapi_Cell} {kl1:Nat} {l1:List Gapi_Cell} (hwl1:Vw vvl1 Ll1 3 kl1 vl1 l1) {room1:Int} {r:Int} (h:zex s1 l1 room1=some r):Fn Tryz.prog 77 [.string s1,vl1,zI room1] [zv2 vvl1 Ll1] (fun _b:Unit=>zI r) (fun _b=>[zv2 vvl1 Ll1]):=by
 unfold zex at h
 refine Fn.intro Tryz.func77 rfl Tryz.ntmps77 (by simp) ?_
 intro w0 K
 obtain ⟨j1,hj1,h⟩:=zbG h
 refine zaX (β:=Int) 3 rfl (fun b=>j1 b=some r) (fun b=>[]) (fun b=>[(0,.string s1),(1,vl1),(7,zI b)]) (fun b=>[zv2 vvl1 Ll1]) (fun cut => ?_) ?_
 ·
  refine zyG (zyR 1 rfl (zyH (zyR 1 rfl (zyH (zyR 2 rfl ?_)))))
  refine zyR 1 rfl ?_
  obtain ⟨r1,hq1,h⟩:=zbi h
  refine zkf (v:=zI r1) (vs:=[.string s1,vl1]) rfl dc rfl rfl rfl zvU (zhd hwl1 hq1) [0] kr rfl ?_
  obtain ⟨hg1,h⟩:=zbr h
  refine zaU rfl (zbt (r:=room1 - r1) (IntWalk.i64_in _ hg1)) (zyR 1 rfl (zyN (cut (zyG (zyR 1 rfl (zaU rfl zct (zyN ?_)))))))
  refine zyB rfl h (fun h => ?_) (fun h => ?_)
  ·
   refine zav (zyR 2 rfl ?_)
   obtain ⟨hg2,h⟩:=zbr h
   refine zaU rfl (znc (r:=(room1 - r1)*(room1 - r1)) (IntWalk.i64_in _ hg2)) (zyR 1 rfl (zaO ?_))
   exact zal ((room1 - r1)*(room1 - r1)) h rfl (za0 rfl) (zad [0] kr rfl)
  refine zar ?_
  exact zal 0 h rfl (za0 rfl) (zad [0] kr rfl)
 rintro n1 h
 rw [hj1] at h
 obtain ⟨j2,hj2,h⟩:=zbG h
 refine zaX (β:=Int) 0 rfl (fun b=>j2 b=some r) (fun b=>[]) (fun b=>[(7,zI b)]) (fun b=>[zv2 vvl1 Ll1]) (fun cut => ?_) ?_
 ·
  refine cut (zyG (zyR 3 rfl (zdT hwl1 rfl dc rfl Tryz.underlying94 ?_)))
  obtain ⟨hg3,h⟩:=zbr h
  refine zaU rfl (zbt (r:=(l1.length:Int) - 1) (IntWalk.i64_in _ hg3)) ?_
  obtain ⟨q1,hq2,h⟩:=zbi h
  refine za9 hwl1 hq2 Tryz.underlying94 zho rfl dc rfl rfl rfl (zcQ (i:=kl1+((l1.length:Int) - 1:Int).toNat) (j:=0) (k:=0) (q:=q1) (cs:=(zr1 q1)) zh9 zbC rfl dc rfl rfl (Vw.get hwl1 hq2) rfl rfl rfl ?_)
  obtain ⟨r2,hq3,h⟩:=zbi h
  refine zbD (v:=.bool r2) (vs:=[.string s1,.agg (zr1 q1).toArray]) rfl dc rfl rfl rfl zsN (zfI (c1:=q1) hq3) (zee rfl dc rfl zcN (zyN ?_))
  refine zyB rfl h (fun h => ?_) (fun h => ?_)
  ·
   refine zav (zyR 1 rfl ?_)
   obtain ⟨hg4,h⟩:=zbr h
   refine zaU rfl (zaR (r:=n1+1000) (IntWalk.i64_in _ hg4)) (zyR 1 rfl (zaO ?_))
   exact zal (n1+1000) h rfl (za0 rfl) (zad [0] kr rfl)
  refine zar ?_
  exact zal n1 h rfl (za0 rfl) (zad [0] kr rfl)
 rintro n2 h
 rw [hj2] at h
 refine zyG (zyR 2 rfl (zyN (zaG ?_)))
 cases h
 exact zaK (rs:=[.tmp 6]) () (.inl rfl) Tryz.results77 (.cons (.tmp rfl) .nil) rfl (zad [0] kr rfl)
def zcY (s1:ByteArray) (r1:(List Gapi_Cell)) (from3:Int) (j2:(List Int)→(List Int)→(List Int)→Option ((List ByteArray)×Int)) (r2:Int) (ag2:(List Int)→(List Int)→(List Int)→Int→Option ((List ByteArray)×Int)) (cost8:List Int) (rows7:List Int) (next8:List Int) (to3:Int):Option ((List ByteArray)×Int) :=
zay (decide ((from3:Int)<to3)) (
zbk (fun (j3:(List Int)→(List Int)→(List Int)→Option ((List ByteArray)×Int)) =>
grd (0≤(from3:Int)∧(from3:Int)≤to3∧(to3:Int)≤(r1.length:Int)) <|
zah (zgg s1 (zjV r1 from3 to3) r2 ((from3:Int)==0)) fun (r3:Bool) =>
zay (!r3) (
j3 cost8 rows7 next8
) (
zah (zbm rows7 to3) fun (q2:Int) =>
zay (decide ((q2:Int)<0)) (
j3 cost8 rows7 next8
) (
zbk (fun (j4:Int→Option ((List ByteArray)×Int)) =>
zah (zbm cost8 to3) fun (q3:Int) =>
zay (decide ((to3:Int)<(r1.length:Int))) (
grd (0≤(from3:Int)∧(from3:Int)≤to3∧(to3:Int)≤(r1.length:Int)) <|
zah (zex s1 (zjV r1 from3 to3) r2) fun (r4:Int) =>
grd (I64 (q3+r4)) <|
j4 (q3+r4)
) (
j4 q3
)
) (fun (c1:Int) =>
zah (zbm rows7 from3) fun (q4:Int) =>
zay (decide ((q4:Int)<0)) (
zah (zbm rows7 to3) fun (q5:Int) =>
grd (I64 (q5+1)) <|
zah (zbm cost8 from3) fun (q6:Int) =>
zah (zbm rows7 from3) fun (q7:Int) =>
zah (zbm next8 from3) fun (q8:Int) =>
j3 (cost8.set (from3:Int).toNat c1) (rows7.set (from3:Int).toNat (q5+1)) (next8.set (from3:Int).toNat to3)
) (
zah (zbm cost8 from3) fun (q9:Int) =>
zay (decide ((c1:Int)<q9)) (
zah (zbm rows7 to3) fun (q10:Int) =>
grd (I64 (q10+1)) <|
zah (zbm cost8 from3) fun (q11:Int) =>
zah (zbm rows7 from3) fun (q12:Int) =>
zah (zbm next8 from3) fun (q13:Int) =>
j3 (cost8.set (from3:Int).toNat c1) (rows7.set (from3:Int).toNat (q10+1)) (next8.set (from3:Int).toNat to3)
) (
zay ((c1:Int)==q9) (
zah (zbm rows7 to3) fun (q14:Int) =>
grd (I64 (q14+1)) <|
zay (decide (((q14+1):Int)<q4)) (
zah (zbm rows7 to3) fun (q15:Int) =>
grd (I64 (q15+1)) <|
zah (zbm cost8 from3) fun (q16:Int) =>
zah (zbm rows7 from3) fun (q17:Int) =>
zah (zbm next8 from3) fun (q18:Int) =>
j3 (cost8.set (from3:Int).toNat c1) (rows7.set (from3:Int).toNat (q15+1)) (next8.set (from3:Int).toNat to3)
) (
j3 cost8 rows7 next8
)
) (
j3 cost8 rows7 next8
)
)
)
)
)
)
) (fun (cost9:List Int) (rows8:List Int) (next9:List Int) =>
grd (I64 (to3 - 1)) <|
ag2 cost9 rows8 next9 (to3 - 1)
)
) (
j2 cost8 rows7 next8
)
def zcZ (s1:ByteArray) (indent1:Int) (l1:Gapi_Layout) (j1:(List Gapi_Cell)→Int→(List Int)→(List Int)→Option ((List ByteArray)×Int)) (r1:(List Gapi_Cell)) (ag1:(List Int)→(List Int)→(List Int)→Int→Option ((List ByteArray)×Int)) (cost4:List Int) (rows3:List Int) (next4:List Int) (from3:Int):Option ((List ByteArray)×Int) :=
zay (decide ((0:Int)≤from3)) (
zbk (fun (j2:(List Int)→(List Int)→(List Int)→Option ((List ByteArray)×Int)) =>
zah (zbm rows3 from3) fun (q1:Int) =>
zah (zfO l1 indent1 ((from3:Int)==0)) fun (r2:Int) =>
zaE (fun _ _ _ _=>none) (zcY s1 r1 from3 j2 r2) zbN cost4 (rows3.set (from3:Int).toNat (-1)) next4 (r1.length:Int)
) (fun (cost5:List Int) (rows4:List Int) (next5:List Int) =>
grd (I64 (from3 - 1)) <|
ag1 cost5 rows4 next5 (from3 - 1)
)
) (
j1 r1 (r1.length:Int) cost4 next4
)
def zcO (s1:ByteArray) (cells1:List Gapi_Cell) (n1:Int) (next1:List Int) (j5:(List ByteArray)→Option ((List ByteArray)×Int)) (ag3:(List ByteArray)→Int→Option ((List ByteArray)×Int)) (out4:List ByteArray) (from6:Int):Option ((List ByteArray)×Int) :=
zay (decide ((from6:Int)<n1)) (
zah (zbm next1 from6) fun (q19:Int) =>
zah (zbm cells1 from6) fun (q20:Gapi_Cell) =>
grd (I64 (q19 - 1)) <|
zah (zbm cells1 (q19 - 1)) fun (q21:Gapi_Cell) =>
grd (0≤(q20.Span_From:Int)∧(q20.Span_From:Int)≤q21.Span_To∧(q21.Span_To:Int)≤(s1.size:Int)) <|
grd (out4.length+1≤2147483648) <|
ag3 (out4++[zb8 s1 q20.Span_From q21.Span_To]) q19
) (
j5 out4
)
def zfM (s1:ByteArray) (indent1:Int) (l1:Gapi_Layout):Option ((List ByteArray)×Int) :=
zbk (fun (j1:(List Gapi_Cell)→Int→(List Int)→(List Int)→Option ((List ByteArray)×Int)) =>
zah (zfk s1) fun (r1:(List Gapi_Cell)) =>
grd (I64 ((r1.length:Int)+1)) <|
grd (0≤((r1.length:Int)+1)∧((r1.length:Int)+1)≤2147483648) <|
grd (I64 ((r1.length:Int)+1)) <|
grd (0≤((r1.length:Int)+1)∧((r1.length:Int)+1)≤2147483648) <|
grd (I64 ((r1.length:Int)+1)) <|
grd (0≤((r1.length:Int)+1)∧((r1.length:Int)+1)≤2147483648) <|
grd (I64 ((r1.length:Int) - 1)) <|
zaE (fun _ _ _ _=>none) (zcZ s1 indent1 l1 j1 r1) zbN (List.replicate ((r1.length:Int)+1:Int).toNat 0:List Int) (List.replicate ((r1.length:Int)+1:Int).toNat 0:List Int) (List.replicate ((r1.length:Int)+1:Int).toNat 0:List Int) ((r1.length:Int) - 1)
) (fun (cells1:List Gapi_Cell) (n1:Int) (cost1:List Int) (next1:List Int) =>
zbk (fun (j5:(List ByteArray)→Option ((List ByteArray)×Int)) =>
zaE (fun _ _=>none) (zcO s1 cells1 n1 next1 j5) zbN ([]:List ByteArray) 0
) (fun (out1:List ByteArray) =>
zah (zbm cost1 0) fun (q22:Int) =>
some (out1,q22)
)
)
theorem zmI {s1:ByteArray} {indent1:Int} {l1:Gapi_Layout} {r:((List ByteArray)×Int)} (h:zfM s1 indent1 l1=some r):Fn Tryz.prog 42 [.string s1,zI indent1,.agg (zr0 l1).toArray] [] (fun v0:Value=>.tuple #[v0,zI r.2]) (fun v0=>[zv5 v0 r.1]):=by
 unfold zfM at h
 refine Fn.intro Tryz.func42 rfl Tryz.ntmps42 (by simp) ?_
 intro w0 K
 obtain ⟨j1,hj1,h⟩:=zbG h
 refine zaX (β:=(List Gapi_Cell)×Int×(List Int)×(List Int)×Value×Value×Value) 6 rfl (fun b=>j1 b.1 b.2.1 b.2.2.1 b.2.2.2.1=some r) (fun b=>[]) (fun b=>[(0,.string s1),(8,b.2.2.2.2.1),(9,zI b.2.1),(10,b.2.2.2.2.2.1),(12,b.2.2.2.2.2.2)]) (fun b=>[zv2 b.2.2.2.2.1 b.1,zv0 b.2.2.2.2.2.1 b.2.2.1,zv0 b.2.2.2.2.2.2 b.2.2.2.1]) (fun cut => ?_) ?_
 ·
  refine zyG ?_
  refine zea rfl dc rfl (fun b1 => ?_)
  refine zyR 2 rfl (zyH (zyR 1 rfl ?_))
  obtain ⟨r1,hq1,h⟩:=zbi h
  refine zes (vs:=[.string s1]) rfl dc rfl rfl rfl zxy (zlw hq1) Splits.nil ?_
  rintro v4
  refine zyR 1 rfl (zyH (zyR 1 rfl (zbg (k:=1) rfl dc rfl rfl Tryz.underlying94 (zyR 1 rfl (zyH (zyR 1 rfl ?_))))))
  obtain ⟨hg1,h⟩:=zbr h
  refine zaU rfl (zaR (r:=(r1.length:Int)+1) (IntWalk.i64_in _ hg1)) ?_
  obtain ⟨hg2,h⟩:=zbr h
  refine zfc (z:=0) Tryz.underlying49 zpv ztH zaQ rfl dc rfl hg2 (fun v5 => ?_)
  refine zyR 1 rfl (zyH (zyR 1 rfl ?_))
  obtain ⟨hg3,h⟩:=zbr h
  refine zaU rfl (zaR (r:=(r1.length:Int)+1) (IntWalk.i64_in _ hg3)) ?_
  obtain ⟨hg4,h⟩:=zbr h
  refine zfc (z:=0) Tryz.underlying49 zpv ztH zaQ rfl dc rfl hg4 (fun v6 => ?_)
  refine zyR 1 rfl (zyH (zyR 1 rfl ?_))
  obtain ⟨hg5,h⟩:=zbr h
  refine zaU rfl (zaR (r:=(r1.length:Int)+1) (IntWalk.i64_in _ hg5)) ?_
  obtain ⟨hg6,h⟩:=zbr h
  refine zfc (z:=0) Tryz.underlying49 zpv ztH zaQ rfl dc rfl hg6 (fun v7 => ?_)
  refine zyR 1 rfl (zyN (cut (zyG (zyR 1 rfl ?_))))
  obtain ⟨hg7,h⟩:=zbr h
  refine zaU rfl (zbt (r:=(r1.length:Int) - 1) (IntWalk.i64_in _ hg7)) (zyR 1 rfl (zyN (zaF ?_)))
  refine zbj (β:=Nat×(List Int)×(List Int)×(List Int)×Int) (fun b=>zaE (fun _ _ _ _=>none) (zcZ s1 indent1 l1 j1 r1) b.1 b.2.1 b.2.2.1 b.2.2.2.1 b.2.2.2.2=some r) (fun b=>[]) (fun b=>[(0,.string s1),(1,zI indent1),(5,zP b1),(8,v4),(9,zI (r1.length:Int)),(10,v5),(11,v6),(12,v7),(13,zI b.2.2.2.2)]) (fun b=>[cells b1 (zr0 l1) 23,zv2 v4 r1,zv0 v5 b.2.1,zv0 v6 b.2.2.1,zv0 v7 b.2.2.2.1]) (fun b=>b.1) (zbN,(List.replicate ((r1.length:Int)+1:Int).toNat 0:List Int),(List.replicate ((r1.length:Int)+1:Int).toNat 0:List Int),(List.replicate ((r1.length:Int)+1:Int).toNat 0:List Int),(r1.length:Int) - 1) h rfl (za0 rfl) (zad [0,1,2,3,4] kr rfl) ?_
  rintro ⟨n2,cost4,rows3,next4,from3⟩ h
  cases n2 with
  | zero=>exact zdp h
  | succ n2 =>
   obtain ⟨ag1,hag1⟩:∃ ag,ag=zaE (fun _ _ _ _=>none) (zcZ s1 indent1 l1 j1 r1) n2:=⟨_,rfl⟩
   have h:zcZ s1 indent1 l1 j1 r1 ag1 cost4 rows3 next4 from3=some r:=by rw [hag1]; exact h
   unfold zcZ at h
   refine zaI (zyG (zyR 1 rfl (zaU rfl zer (zyN ?_))))
   refine zyB rfl h (fun h => ?_) (fun h => ?_)
   ·
    refine zar (zaH ?_)
    obtain ⟨j2,hj2,h⟩:=zbG h
    refine zaX (β:=(List Int)×(List Int)×(List Int)) 0 rfl (fun b=>j2 b.1 b.2.1 b.2.2=some r) (fun b=>[]) (fun b=>[(0,.string s1),(1,zI indent1),(5,zP b1),(8,v4),(9,zI (r1.length:Int)),(10,v5),(11,v6),(12,v7),(13,zI from3)]) (fun b=>[cells b1 (zr0 l1) 23,zv2 v4 r1,zv0 v5 b.1,zv0 v6 b.2.1,zv0 v7 b.2.2]) (fun cut => ?_) ?_
    ·
     refine cut (zaF (zyG (zyR 2 rfl ?_)))
     obtain ⟨q1,hq2,h⟩:=zbi h
     refine zaj (k:=3) hq2 Tryz.underlying49 zcs rfl dc rfl rfl rfl rfl ?_
     refine zbv (i:=(from3:Int).toNat) (j:=0) (k:=3) (q:=q1) (q':=(-1)) zcs zaQ rfl rfl rfl rfl (zaz hq2) rfl dc rfl (fun _ _=>rfl) ?_
     refine zyH (zbd (k:=0) (cs:=(zr0 l1)) zja rfl dc rfl rfl rfl rfl (zyR 2 rfl (zaU rfl zaT ?_)))
     obtain ⟨r2,hq3,h⟩:=zbi h
     refine zbD (v:=zI r2) (vs:=[.agg (zr0 l1).toArray,zI indent1,.bool ((from3:Int)==0)]) rfl dc rfl rfl rfl zxf (zmK (l1:=l1) hq3) (zyR 1 rfl (zyH (zyR 2 rfl (zyN (zaF ?_)))))
     refine zbj (β:=Nat×(List Int)×(List Int)×(List Int)×Int) (fun b=>zaE (fun _ _ _ _=>none) (zcY s1 r1 from3 j2 r2) b.1 b.2.1 b.2.2.1 b.2.2.2.1 b.2.2.2.2=some r) (fun b=>[]) (fun b=>[(0,.string s1),(1,zI indent1),(5,zP b1),(8,v4),(9,zI (r1.length:Int)),(10,v5),(11,v6),(12,v7),(13,zI from3),(14,zI r2),(15,zI b.2.2.2.2)]) (fun b=>[cells b1 (zr0 l1) 23,zv2 v4 r1,zv0 v5 b.2.1,zv0 v6 b.2.2.1,zv0 v7 b.2.2.2.1]) (fun b=>b.1) (zbN,cost4,rows3.set (from3:Int).toNat (-1),next4,(r1.length:Int)) h rfl (za0 rfl) (zad [0,1,2,3,4] kr rfl) ?_
     rintro ⟨n3,cost8,rows7,next8,to3⟩ h
     cases n3 with
     | zero=>exact zdp h
     | succ n3 =>
      obtain ⟨ag2,hag2⟩:∃ ag,ag=zaE (fun _ _ _ _=>none) (zcY s1 r1 from3 j2 r2) n3:=⟨_,rfl⟩
      have h:zcY s1 r1 from3 j2 r2 ag2 cost8 rows7 next8 to3=some r:=by rw [hag2]; exact h
      unfold zcY at h
      refine zaI (zyG (zyR 2 rfl (zaU rfl zct (zyN ?_))))
      refine zyB rfl h (fun h => ?_) (fun h => ?_)
      ·
       refine zar (zaH ?_)
       obtain ⟨j3,hj3,h⟩:=zbG h
       refine zaX (β:=(List Int)×(List Int)×(List Int)) 0 rfl (fun b=>j3 b.1 b.2.1 b.2.2=some r) (fun b=>[]) (fun b=>[(0,.string s1),(1,zI indent1),(5,zP b1),(8,v4),(9,zI (r1.length:Int)),(10,v5),(11,v6),(12,v7),(13,zI from3),(14,zI r2),(15,zI to3)]) (fun b=>[cells b1 (zr0 l1) 23,zv2 v4 r1,zv0 v5 b.1,zv0 v6 b.2.1,zv0 v7 b.2.2]) (fun cut => ?_) ?_
       ·
        refine cut (zaF (zyG (zyR 4 rfl ?_)))
        refine zhU (k:=1) rfl (fun hw1 => ?_)
        obtain ⟨hg8,h⟩:=zbr h
        obtain ⟨v8,hv1,hs1⟩:=zj2 (lo:=some (zI from3)) (hi:=some (zI to3)) hw1 Tryz.underlying94 zho (.inr rfl) (.inr rfl) hg8
        refine zdG rfl dc rfl rfl rfl hs1 (zyR 2 rfl (zaU rfl zaT ?_))
        obtain ⟨r3,hq4,h⟩:=zbi h
        refine zkf (v:=.bool r3) (vs:=[.string s1,v8,zI r2,.bool ((from3:Int)==0)]) rfl dc rfl rfl rfl zxe (znF hv1 hq4) [1] kr rfl (zyR 1 rfl (zyN (zaI (zyG (zyR 1 rfl (zee rfl dc rfl zcN (zyR 1 rfl ?_)))))))
        refine zyS (s:=65) rfl h (fun h => ?_) (fun h => ?_)
        ·
         refine zyR 6 rfl (zyN (za5 rfl (za3 (zan (zax ?_)))))
         exact zal (cost8,rows7,next8) h rfl (za0 rfl) (zad [0,1,2,3,4] kr rfl)
        refine zyR 2 rfl ?_
        obtain ⟨q2,hq5,h⟩:=zbi h
        refine zaj (k:=3) hq5 Tryz.underlying49 zcs rfl dc rfl rfl rfl rfl (zaA (i:=(to3:Int).toNat) (j:=0) (k:=3) (q:=q2) zbp zaQ rfl dc rfl rfl (zaz hq5) rfl dc rfl (zaU rfl zbc (zyR 1 rfl (zyN ?_))))
        refine zyB rfl h (fun h => ?_) (fun h => ?_)
        ·
         refine za3 (zan (zax ?_))
         exact zal (cost8,rows7,next8) h rfl (za0 rfl) (zad [0,1,2,3,4] kr rfl)
        refine zar (zaH ?_)
        obtain ⟨j4,hj4,h⟩:=zbG h
        refine zaX (β:=Int) 1 rfl (fun b=>j4 b=some r) (fun b=>[]) (fun b=>[(0,.string s1),(1,zI indent1),(5,zP b1),(8,v4),(9,zI (r1.length:Int)),(10,v5),(11,v6),(12,v7),(13,zI from3),(14,zI r2),(15,zI to3),(17,zI b),(66,v6),(67,zI to3),(68,.pointer (some ⟨zbY v6,(to3:Int).toNat*1,none⟩)),(69,zI q2),(70,.bool (decide ((q2:Int)<0)))]) (fun b=>[cells b1 (zr0 l1) 23,zv2 v4 r1,zv0 v5 cost8,zv0 v6 rows7,zv0 v7 next8]) (fun cut => ?_) ?_
        ·
         refine zyG (zyR 2 rfl ?_)
         obtain ⟨q3,hq6,h⟩:=zbi h
         refine zaj (k:=2) hq6 Tryz.underlying49 zcs rfl dc rfl rfl rfl rfl (zaA (i:=(to3:Int).toNat) (j:=0) (k:=2) (q:=q3) zbp zaQ rfl dc rfl rfl (zaz hq6) rfl dc rfl (zyR 1 rfl (zyN (cut (zyG (zyR 2 rfl (zaU rfl zbc (zyN ?_))))))))
         refine zyB rfl h (fun h => ?_) (fun h => ?_)
         ·
          refine zav (zyR 5 rfl ?_)
          refine zhU (k:=1) rfl (fun hw2 => ?_)
          obtain ⟨hg9,h⟩:=zbr h
          obtain ⟨v9,hv2,hs2⟩:=zj2 (lo:=some (zI from3)) (hi:=some (zI to3)) hw2 Tryz.underlying94 zho (.inr rfl) (.inr rfl) hg9
          refine zdG rfl dc rfl rfl rfl hs2 (zyR 1 rfl ?_)
          obtain ⟨r4,hq7,h⟩:=zbi h
          refine zkf (v:=zI r4) (vs:=[.string s1,v9,zI r2]) rfl dc rfl rfl rfl zxd (zjR hv2 hq7) [1] kr rfl ?_
          obtain ⟨hg10,h⟩:=zbr h
          refine zaU rfl (zaR (r:=q3+r4) (IntWalk.i64_in _ hg10)) (zyR 1 rfl (zaO ?_))
          exact zal (q3+r4) h rfl (za0 rfl) (zad [0,1,2,3,4] kr rfl)
         refine zar ?_
         exact zal q3 h rfl (za0 rfl) (zad [0,1,2,3,4] kr rfl)
        rintro c1 h
        rw [hj4] at h
        refine zaI ?_
        obtain ⟨q4,hq8,h⟩:=zbi h
        refine zcW (b:=decide ((q4:Int)<0)) (fun hb6 => ?_) (fun hb6 => ?_)
        ·
         have h:=zf0 hb6 h
         refine zbn 30 [(0,88,v6),(1,89,zI from3),(2,90,.pointer (some ⟨zbY v6,(from3:Int).toNat*1,none⟩)),(3,91,zI q4),(4,92,.bool true),(5,93,.bool true),(6,94,undef),(7,95,undef),(8,96,undef),(9,97,undef),(10,98,undef),(11,99,undef),(12,100,.bool true),(13,101,.bool true),(14,102,undef),(15,103,undef),(16,104,undef),(17,105,undef),(18,106,undef),(19,107,undef),(20,108,undef),(21,109,undef),(22,110,undef),(23,111,undef),(24,112,undef),(25,113,undef),(26,114,undef),(27,115,undef),(28,116,undef),(29,117,undef)] mixed kr kr dc (by rfl) kr kr (zyP 2 0 rfl (zac ?_ (zac ?_ (zac ?_ (zyP 25 5 rfl DrawPre.nil))))) ?_
         · exact fun D n d c u i=>zaj (k:=3) hq8 Tryz.underlying49 zcs rfl dc (zaa (m:=0) u rfl (d 0 dc)) (zaa (m:=1) u rfl (d 1 dc)) rfl rfl (zaf 2 u i rfl)
         · exact fun D n d c u i=>zaA (i:=(from3:Int).toNat) (j:=0) (k:=3) (q:=q4) zbp zaQ rfl dc (zaa (m:=2) u rfl (d 2 dc)) rfl (zaz hq8) rfl dc rfl (zaf 3 u i rfl)
         · exact fun D n d c u i=>zbz rfl dc (zaa (m:=3) u rfl (d 3 dc)) rfl zbc (zcq (show Value.bool (decide ((q4:Int)<0))=Value.bool true from congrArg Value.bool hb6) (zaf 4 u i rfl))
         refine zyR 3 rfl (zyN (za5 rfl (zav (zyR 7 rfl ?_))))
         refine zyR 2 rfl ?_
         obtain ⟨q5,hq9,h⟩:=zbi h
         refine zaj (k:=3) hq9 Tryz.underlying49 zcs rfl dc rfl rfl rfl rfl (zaA (i:=(to3:Int).toNat) (j:=0) (k:=3) (q:=q5) zbp zaQ rfl dc rfl rfl (zaz hq9) rfl dc rfl ?_)
         obtain ⟨hg11,h⟩:=zbr h
         refine zaU rfl (zaR (r:=q5+1) (IntWalk.i64_in _ hg11)) (zyR 1 rfl ?_)
         obtain ⟨q6,hq10,h⟩:=zbi h
         refine zaj (k:=2) hq10 Tryz.underlying49 zcs rfl dc rfl rfl rfl rfl ?_
         refine zbv (i:=(from3:Int).toNat) (j:=0) (k:=2) (q:=q6) (q':=c1) zcs zaQ rfl rfl rfl rfl (zaz hq10) rfl dc rfl (fun _ _=>rfl) ?_
         obtain ⟨q7,hq11,h⟩:=zbi h
         refine zaj (k:=3) hq11 Tryz.underlying49 zcs rfl dc rfl rfl rfl rfl ?_
         refine zbv (i:=(from3:Int).toNat) (j:=0) (k:=3) (q:=q7) (q':=q5+1) zcs zaQ rfl rfl rfl rfl (zaz hq11) rfl dc rfl (fun _ _=>rfl) ?_
         obtain ⟨q8,hq12,h⟩:=zbi h
         refine zaj (k:=4) hq12 Tryz.underlying49 zcs rfl dc rfl rfl rfl rfl ?_
         refine zbv (i:=(from3:Int).toNat) (j:=0) (k:=4) (q:=q8) (q':=to3) zcs zaQ rfl rfl rfl rfl (zaz hq12) rfl dc rfl (fun _ _=>rfl) ?_
         refine zaO (zag ?_)
         exact zal (cost8.set (from3:Int).toNat c1,rows7.set (from3:Int).toNat (q5+1),next8.set (from3:Int).toNat to3) h rfl (za0 rfl) (zad [0,1,2,3,4] kr rfl)
        have h:=zf1 hb6 h
        obtain ⟨q9,hq13,h⟩:=zbi h
        refine zcW (b:=decide ((c1:Int)<q9)) (fun hb7 => ?_) (fun hb7 => ?_)
        ·
         have h:=zf0 hb7 h
         refine zbn 30 [(0,88,v6),(1,89,zI from3),(2,90,.pointer (some ⟨zbY v6,(from3:Int).toNat*1,none⟩)),(3,91,zI q4),(4,92,.bool false),(5,93,.bool false),(6,94,zI c1),(7,95,v5),(8,96,zI from3),(9,97,.pointer (some ⟨zbY v5,(from3:Int).toNat*1,none⟩)),(10,98,zI q9),(11,99,.bool true),(12,100,.bool true),(13,101,.bool true),(14,102,undef),(15,103,undef),(16,104,undef),(17,105,undef),(18,106,undef),(19,107,undef),(20,108,undef),(21,109,undef),(22,110,undef),(23,111,undef),(24,112,undef),(25,113,undef),(26,114,undef),(27,115,undef),(28,116,undef),(29,117,undef)] mixed kr kr dc (by rfl) kr kr (zyP 2 0 rfl (zac ?_ (zac ?_ (zac ?_ (zyP 4 5 rfl (zac ?_ (zac ?_ (zac ?_ (zyP 18 12 rfl DrawPre.nil))))))))) ?_
         · exact fun D n d c u i=>zaj (k:=3) hq8 Tryz.underlying49 zcs rfl dc (zaa (m:=0) u rfl (d 0 dc)) (zaa (m:=1) u rfl (d 1 dc)) rfl rfl (zaf 2 u i rfl)
         · exact fun D n d c u i=>zaA (i:=(from3:Int).toNat) (j:=0) (k:=3) (q:=q4) zbp zaQ rfl dc (zaa (m:=2) u rfl (d 2 dc)) rfl (zaz hq8) rfl dc rfl (zaf 3 u i rfl)
         · exact fun D n d c u i=>zbz rfl dc (zaa (m:=3) u rfl (d 3 dc)) rfl zbc (zcq (show Value.bool (decide ((q4:Int)<0))=Value.bool false from congrArg Value.bool hb6) (zaf 4 u i rfl))
         · exact fun D n d c u i=>zaj (k:=2) hq13 Tryz.underlying49 zcs (zdU rfl (zaa (m:=5) u rfl (d 5 dc))) dc (zaa (m:=7) u rfl (d 7 dc)) (zaa (m:=8) u rfl (d 8 dc)) rfl rfl (zaf 9 u i rfl)
         · exact fun D n d c u i=>zaA (i:=(from3:Int).toNat) (j:=0) (k:=2) (q:=q9) zbp zaQ (zdU rfl (zaa (m:=5) u rfl (d 5 dc))) dc (zaa (m:=9) u rfl (d 9 dc)) rfl (zaz hq13) rfl dc rfl (zaf 10 u i rfl)
         · exact fun D n d c u i=>zbz (zdU rfl (zaa (m:=5) u rfl (d 5 dc))) dc (zaa (m:=6) u rfl (d 6 dc)) (zaa (m:=10) u rfl (d 10 dc)) zbc (zcq (show Value.bool (decide ((c1:Int)<q9))=Value.bool true from congrArg Value.bool hb7) (zaf 11 u i rfl))
         refine zyR 3 rfl (zyN (za5 rfl (zav (zyR 7 rfl ?_))))
         refine zyR 2 rfl ?_
         obtain ⟨q10,hq14,h⟩:=zbi h
         refine zaj (k:=3) hq14 Tryz.underlying49 zcs rfl dc rfl rfl rfl rfl (zaA (i:=(to3:Int).toNat) (j:=0) (k:=3) (q:=q10) zbp zaQ rfl dc rfl rfl (zaz hq14) rfl dc rfl ?_)
         obtain ⟨hg12,h⟩:=zbr h
         refine zaU rfl (zaR (r:=q10+1) (IntWalk.i64_in _ hg12)) (zyR 1 rfl ?_)
         obtain ⟨q11,hq15,h⟩:=zbi h
         refine zaj (k:=2) hq15 Tryz.underlying49 zcs rfl dc rfl rfl rfl rfl ?_
         refine zbv (i:=(from3:Int).toNat) (j:=0) (k:=2) (q:=q11) (q':=c1) zcs zaQ rfl rfl rfl rfl (zaz hq15) rfl dc rfl (fun _ _=>rfl) ?_
         obtain ⟨q12,hq16,h⟩:=zbi h
         refine zaj (k:=3) hq16 Tryz.underlying49 zcs rfl dc rfl rfl rfl rfl ?_
         refine zbv (i:=(from3:Int).toNat) (j:=0) (k:=3) (q:=q12) (q':=q10+1) zcs zaQ rfl rfl rfl rfl (zaz hq16) rfl dc rfl (fun _ _=>rfl) ?_
         obtain ⟨q13,hq17,h⟩:=zbi h
         refine zaj (k:=4) hq17 Tryz.underlying49 zcs rfl dc rfl rfl rfl rfl ?_
         refine zbv (i:=(from3:Int).toNat) (j:=0) (k:=4) (q:=q13) (q':=to3) zcs zaQ rfl rfl rfl rfl (zaz hq17) rfl dc rfl (fun _ _=>rfl) ?_
         refine zaO (zag ?_)
         exact zal (cost8.set (from3:Int).toNat c1,rows7.set (from3:Int).toNat (q10+1),next8.set (from3:Int).toNat to3) h rfl (za0 rfl) (zad [0,1,2,3,4] kr rfl)
        have h:=zf1 hb7 h
        refine zcW (b:=(c1:Int)==q9) (fun hb8 => ?_) (fun hb8 => ?_)
        ·
         have h:=zf0 hb8 h
         obtain ⟨q14,hq18,h⟩:=zbi h
         obtain ⟨hg13,h⟩:=zbr h
         refine zbn 30 [(0,88,v6),(1,89,zI from3),(2,90,.pointer (some ⟨zbY v6,(from3:Int).toNat*1,none⟩)),(3,91,zI q4),(4,92,.bool false),(5,93,.bool false),(6,94,zI c1),(7,95,v5),(8,96,zI from3),(9,97,.pointer (some ⟨zbY v5,(from3:Int).toNat*1,none⟩)),(10,98,zI q9),(11,99,.bool false),(12,100,.bool false),(13,101,.bool false),(14,102,zI c1),(15,103,v5),(16,104,zI from3),(17,105,.pointer (some ⟨zbY v5,(from3:Int).toNat*1,none⟩)),(18,106,zI q9),(19,107,.bool true),(20,108,.bool true),(21,109,v6),(22,110,zI to3),(23,111,.pointer (some ⟨zbY v6,(to3:Int).toNat*1,none⟩)),(24,112,zI q14),(25,113,zI (q14+1)),(26,114,v6),(27,115,zI from3),(28,116,.pointer (some ⟨zbY v6,(from3:Int).toNat*1,none⟩)),(29,117,zI q4)] mixed kr kr dc (by rfl) kr kr (zyP 2 0 rfl (zac ?_ (zac ?_ (zac ?_ (zyP 4 5 rfl (zac ?_ (zac ?_ (zac ?_ (zyP 5 12 rfl (zac ?_ (zac ?_ (zac ?_ (zyP 3 20 rfl (zac ?_ (zac ?_ (zac ?_ (zyP 2 26 rfl (zac ?_ (zac ?_ DrawPre.nil))))))))))))))))))) ?_
         · exact fun D n d c u i=>zaj (k:=3) hq8 Tryz.underlying49 zcs rfl dc (zaa (m:=0) u rfl (d 0 dc)) (zaa (m:=1) u rfl (d 1 dc)) rfl rfl (zaf 2 u i rfl)
         · exact fun D n d c u i=>zaA (i:=(from3:Int).toNat) (j:=0) (k:=3) (q:=q4) zbp zaQ rfl dc (zaa (m:=2) u rfl (d 2 dc)) rfl (zaz hq8) rfl dc rfl (zaf 3 u i rfl)
         · exact fun D n d c u i=>zbz rfl dc (zaa (m:=3) u rfl (d 3 dc)) rfl zbc (zcq (show Value.bool (decide ((q4:Int)<0))=Value.bool false from congrArg Value.bool hb6) (zaf 4 u i rfl))
         · exact fun D n d c u i=>zaj (k:=2) hq13 Tryz.underlying49 zcs (zdU rfl (zaa (m:=5) u rfl (d 5 dc))) dc (zaa (m:=7) u rfl (d 7 dc)) (zaa (m:=8) u rfl (d 8 dc)) rfl rfl (zaf 9 u i rfl)
         · exact fun D n d c u i=>zaA (i:=(from3:Int).toNat) (j:=0) (k:=2) (q:=q9) zbp zaQ (zdU rfl (zaa (m:=5) u rfl (d 5 dc))) dc (zaa (m:=9) u rfl (d 9 dc)) rfl (zaz hq13) rfl dc rfl (zaf 10 u i rfl)
         · exact fun D n d c u i=>zbz (zdU rfl (zaa (m:=5) u rfl (d 5 dc))) dc (zaa (m:=6) u rfl (d 6 dc)) (zaa (m:=10) u rfl (d 10 dc)) zbc (zcq (show Value.bool (decide ((c1:Int)<q9))=Value.bool false from congrArg Value.bool hb7) (zaf 11 u i rfl))
         · exact fun D n d c u i=>zaj (k:=2) hq13 Tryz.underlying49 zcs (zdU rfl (zaa (m:=13) u rfl (d 13 dc))) dc (zaa (m:=15) u rfl (d 15 dc)) (zaa (m:=16) u rfl (d 16 dc)) rfl rfl (zaf 17 u i rfl)
         · exact fun D n d c u i=>zaA (i:=(from3:Int).toNat) (j:=0) (k:=2) (q:=q9) zbp zaQ (zdU rfl (zaa (m:=13) u rfl (d 13 dc))) dc (zaa (m:=17) u rfl (d 17 dc)) rfl (zaz hq13) rfl dc rfl (zaf 18 u i rfl)
         · exact fun D n d c u i=>zbz (zdU rfl (zaa (m:=13) u rfl (d 13 dc))) dc (zaa (m:=14) u rfl (d 14 dc)) (zaa (m:=18) u rfl (d 18 dc)) zaT (zcq (show Value.bool ((c1:Int)==q9)=Value.bool true from congrArg Value.bool hb8) (zaf 19 u i rfl))
         · exact fun D n d c u i=>zaj (k:=3) hq18 Tryz.underlying49 zcs (zdU rfl (zaa (m:=20) u rfl (d 20 dc))) dc (zaa (m:=21) u rfl (d 21 dc)) (zaa (m:=22) u rfl (d 22 dc)) rfl rfl (zaf 23 u i rfl)
         · exact fun D n d c u i=>zaA (i:=(to3:Int).toNat) (j:=0) (k:=3) (q:=q14) zbp zaQ (zdU rfl (zaa (m:=20) u rfl (d 20 dc))) dc (zaa (m:=23) u rfl (d 23 dc)) rfl (zaz hq18) rfl dc rfl (zaf 24 u i rfl)
         · exact fun D n d c u i=>zbz (zdU rfl (zaa (m:=20) u rfl (d 20 dc))) dc (zaa (m:=24) u rfl (d 24 dc)) rfl (zaR (r:=q14+1) (IntWalk.i64_in _ hg13)) (zaf 25 u i rfl)
         · exact fun D n d c u i=>zaj (k:=3) hq8 Tryz.underlying49 zcs (zdU rfl (zaa (m:=20) u rfl (d 20 dc))) dc (zaa (m:=26) u rfl (d 26 dc)) (zaa (m:=27) u rfl (d 27 dc)) rfl rfl (zaf 28 u i rfl)
         · exact fun D n d c u i=>zaA (i:=(from3:Int).toNat) (j:=0) (k:=3) (q:=q4) zbp zaQ (zdU rfl (zaa (m:=20) u rfl (d 20 dc))) dc (zaa (m:=28) u rfl (d 28 dc)) rfl (zaz hq8) rfl dc rfl (zaf 29 u i rfl)
         refine zaU rfl zbc (zyR 2 rfl (zyN ?_))
         refine zyB rfl h (fun h => ?_) (fun h => ?_)
         ·
          refine zav (zyR 9 rfl ?_)
          obtain ⟨q15,hq19,h⟩:=zbi h
          refine zaj (k:=3) hq19 Tryz.underlying49 zcs rfl dc rfl rfl rfl rfl (zaA (i:=(to3:Int).toNat) (j:=0) (k:=3) (q:=q15) zbp zaQ rfl dc rfl rfl (zaz hq19) rfl dc rfl ?_)
          obtain ⟨hg14,h⟩:=zbr h
          refine zaU rfl (zaR (r:=q15+1) (IntWalk.i64_in _ hg14)) (zyR 1 rfl ?_)
          obtain ⟨q16,hq20,h⟩:=zbi h
          refine zaj (k:=2) hq20 Tryz.underlying49 zcs rfl dc rfl rfl rfl rfl ?_
          refine zbv (i:=(from3:Int).toNat) (j:=0) (k:=2) (q:=q16) (q':=c1) zcs zaQ rfl rfl rfl rfl (zaz hq20) rfl dc rfl (fun _ _=>rfl) ?_
          obtain ⟨q17,hq21,h⟩:=zbi h
          refine zaj (k:=3) hq21 Tryz.underlying49 zcs rfl dc rfl rfl rfl rfl ?_
          refine zbv (i:=(from3:Int).toNat) (j:=0) (k:=3) (q:=q17) (q':=q15+1) zcs zaQ rfl rfl rfl rfl (zaz hq21) rfl dc rfl (fun _ _=>rfl) ?_
          obtain ⟨q18,hq22,h⟩:=zbi h
          refine zaj (k:=4) hq22 Tryz.underlying49 zcs rfl dc rfl rfl rfl rfl ?_
          refine zbv (i:=(from3:Int).toNat) (j:=0) (k:=4) (q:=q18) (q':=to3) zcs zaQ rfl rfl rfl rfl (zaz hq22) rfl dc rfl (fun _ _=>rfl) ?_
          refine zaO (zag ?_)
          exact zal (cost8.set (from3:Int).toNat c1,rows7.set (from3:Int).toNat (q15+1),next8.set (from3:Int).toNat to3) h rfl (za0 rfl) (zad [0,1,2,3,4] kr rfl)
         refine zar (zag ?_)
         exact zal (cost8,rows7,next8) h rfl (za0 rfl) (zad [0,1,2,3,4] kr rfl)
        have h:=zf1 hb8 h
        refine zbn 30 [(0,88,v6),(1,89,zI from3),(2,90,.pointer (some ⟨zbY v6,(from3:Int).toNat*1,none⟩)),(3,91,zI q4),(4,92,.bool false),(5,93,.bool false),(6,94,zI c1),(7,95,v5),(8,96,zI from3),(9,97,.pointer (some ⟨zbY v5,(from3:Int).toNat*1,none⟩)),(10,98,zI q9),(11,99,.bool false),(12,100,.bool false),(13,101,.bool false),(14,102,zI c1),(15,103,v5),(16,104,zI from3),(17,105,.pointer (some ⟨zbY v5,(from3:Int).toNat*1,none⟩)),(18,106,zI q9),(19,107,.bool false),(20,108,.bool false),(21,109,undef),(22,110,undef),(23,111,undef),(24,112,undef),(25,113,undef),(26,114,undef),(27,115,undef),(28,116,undef),(29,117,undef)] mixed kr kr dc (by rfl) kr kr (zyP 2 0 rfl (zac ?_ (zac ?_ (zac ?_ (zyP 4 5 rfl (zac ?_ (zac ?_ (zac ?_ (zyP 5 12 rfl (zac ?_ (zac ?_ (zac ?_ (zyP 10 20 rfl DrawPre.nil))))))))))))) ?_
        · exact fun D n d c u i=>zaj (k:=3) hq8 Tryz.underlying49 zcs rfl dc (zaa (m:=0) u rfl (d 0 dc)) (zaa (m:=1) u rfl (d 1 dc)) rfl rfl (zaf 2 u i rfl)
        · exact fun D n d c u i=>zaA (i:=(from3:Int).toNat) (j:=0) (k:=3) (q:=q4) zbp zaQ rfl dc (zaa (m:=2) u rfl (d 2 dc)) rfl (zaz hq8) rfl dc rfl (zaf 3 u i rfl)
        · exact fun D n d c u i=>zbz rfl dc (zaa (m:=3) u rfl (d 3 dc)) rfl zbc (zcq (show Value.bool (decide ((q4:Int)<0))=Value.bool false from congrArg Value.bool hb6) (zaf 4 u i rfl))
        · exact fun D n d c u i=>zaj (k:=2) hq13 Tryz.underlying49 zcs (zdU rfl (zaa (m:=5) u rfl (d 5 dc))) dc (zaa (m:=7) u rfl (d 7 dc)) (zaa (m:=8) u rfl (d 8 dc)) rfl rfl (zaf 9 u i rfl)
        · exact fun D n d c u i=>zaA (i:=(from3:Int).toNat) (j:=0) (k:=2) (q:=q9) zbp zaQ (zdU rfl (zaa (m:=5) u rfl (d 5 dc))) dc (zaa (m:=9) u rfl (d 9 dc)) rfl (zaz hq13) rfl dc rfl (zaf 10 u i rfl)
        · exact fun D n d c u i=>zbz (zdU rfl (zaa (m:=5) u rfl (d 5 dc))) dc (zaa (m:=6) u rfl (d 6 dc)) (zaa (m:=10) u rfl (d 10 dc)) zbc (zcq (show Value.bool (decide ((c1:Int)<q9))=Value.bool false from congrArg Value.bool hb7) (zaf 11 u i rfl))
        · exact fun D n d c u i=>zaj (k:=2) hq13 Tryz.underlying49 zcs (zdU rfl (zaa (m:=13) u rfl (d 13 dc))) dc (zaa (m:=15) u rfl (d 15 dc)) (zaa (m:=16) u rfl (d 16 dc)) rfl rfl (zaf 17 u i rfl)
        · exact fun D n d c u i=>zaA (i:=(from3:Int).toNat) (j:=0) (k:=2) (q:=q9) zbp zaQ (zdU rfl (zaa (m:=13) u rfl (d 13 dc))) dc (zaa (m:=17) u rfl (d 17 dc)) rfl (zaz hq13) rfl dc rfl (zaf 18 u i rfl)
        · exact fun D n d c u i=>zbz (zdU rfl (zaa (m:=13) u rfl (d 13 dc))) dc (zaa (m:=14) u rfl (d 14 dc)) (zaa (m:=18) u rfl (d 18 dc)) zaT (zcq (show Value.bool ((c1:Int)==q9)=Value.bool false from congrArg Value.bool hb8) (zaf 19 u i rfl))
        refine zyR 3 rfl (zyN (zaS rfl (zar (zag ?_))))
        exact zal (cost8,rows7,next8) h rfl (za0 rfl) (zad [0,1,2,3,4] kr rfl)
       rintro ⟨cost9,rows8,next9⟩ h
       rw [hj3] at h
       refine zav (zyR 1 rfl ?_)
       obtain ⟨hg15,h⟩:=zbr h
       refine zaU rfl (zbt (r:=to3 - 1) (IntWalk.i64_in _ hg15)) (zyR 1 rfl (zaO ?_))
       subst hag2
       exact za1 (n3,cost9,rows8,next9,to3 - 1) h (Nat.lt_succ_self _) rfl (za0 rfl) (zad [0,1,2,3,4] kr rfl)
      refine za3 (zan (zan (zax (zag ?_))))
      exact zal (cost8,rows7,next8) h rfl (za0 rfl) (zad [0,1,2,3,4] kr rfl)
    rintro ⟨cost5,rows4,next5⟩ h
    rw [hj2] at h
    refine zav (zyR 1 rfl ?_)
    obtain ⟨hg16,h⟩:=zbr h
    refine zaU rfl (zbt (r:=from3 - 1) (IntWalk.i64_in _ hg16)) (zyR 1 rfl (zaO ?_))
    subst hag1
    exact za1 (n2,cost5,rows4,next5,from3 - 1) h (Nat.lt_succ_self _) rfl (za0 rfl) (zad [0,1,2,3,4] kr rfl)
   refine za3 (zan (zan (zax ?_)))
   exact zal (r1,(r1.length:Int),cost4,next4,v4,v5,v7) h rfl (za0 rfl) (zad [1,2,4] kr rfl)
 rintro ⟨cells1,n1,cost1,next1,v1,v2,v3⟩ h
 rw [hj1] at h
 obtain ⟨j5,hj5,h⟩:=zbG h
 refine zaX (β:=(List ByteArray)×Value) 2 rfl (fun b=>j5 b.1=some r) (fun b=>[]) (fun b=>[(10,v2),(18,b.2)]) (fun b=>[zv0 v2 cost1,zv5 b.2 b.1]) (fun cut => ?_) ?_
 ·
  refine zyG (zyR 1 rfl (zyH (zyR 1 rfl (zyN (cut (zaF (zcR (enc:=zqa) (e:=9) (size:=1) ?_)))))))
  refine zbj (β:=Nat×(List ByteArray)×Int×Value) (fun b=>zaE (fun _ _=>none) (zcO s1 cells1 n1 next1 j5) b.1 b.2.1 b.2.2.1=some r) (fun b=>[]) (fun b=>[(0,.string s1),(8,v1),(9,zI n1),(10,v2),(12,v3),(18,b.2.2.2),(19,zI b.2.2.1)]) (fun b=>[zv2 v1 cells1,zv0 v2 cost1,zv0 v3 next1,zv5 b.2.2.2 b.2.1]) (fun b=>b.1) (zbN,([]:List ByteArray),0,(.slice none 0 0)) h rfl (za0 rfl) (zad [0,1,2,3] kr rfl) ?_
  rintro ⟨n4,out4,from6,v13⟩ h
  cases n4 with
  | zero=>exact zdp h
  | succ n4 =>
   obtain ⟨ag3,hag3⟩:∃ ag,ag=zaE (fun _ _=>none) (zcO s1 cells1 n1 next1 j5) n4:=⟨_,rfl⟩
   have h:zcO s1 cells1 n1 next1 j5 ag3 out4 from6=some r:=by rw [hag3]; exact h
   unfold zcO at h
   refine zaI (zyG (zyR 2 rfl (zaU rfl zbc (zyN ?_))))
   refine zyB rfl h (fun h => ?_) (fun h => ?_)
   ·
    refine zar (zaH (zaF (zyG (zyR 2 rfl ?_))))
    obtain ⟨q19,hq23,h⟩:=zbi h
    refine zaj (k:=2) hq23 Tryz.underlying49 zcs rfl dc rfl rfl rfl rfl (zaA (i:=(from6:Int).toNat) (j:=0) (k:=2) (q:=q19) zbp zaQ rfl dc rfl rfl (zaz hq23) rfl dc rfl (zyR 1 rfl (zyN (zaI ?_))))
    obtain ⟨q20,hq24,h⟩:=zbi h
    obtain ⟨hg17,h⟩:=zbr h
    obtain ⟨q21,hq25,h⟩:=zbi h
    obtain ⟨hg18,h⟩:=zbr h
    obtain ⟨hg19,h⟩:=zbr h
    refine zhV (β:=Nat) 17 16 _ [(0,144,v13),(1,145,.string s1),(2,146,v1),(3,147,zI from6),(4,148,.pointer (some ⟨zbY v1,(from6:Int).toNat*3,none⟩)),(5,149,.pointer (some ⟨zbY v1,((from6:Int).toNat)*3,none⟩)),(6,150,.pointer (some ⟨zbY v1,((from6:Int).toNat)*3,none⟩)),(7,151,zI q20.Span_From),(8,152,v1),(9,153,zI q19),(10,154,zI (q19 - 1)),(11,155,.pointer (some ⟨zbY v1,(q19 - 1:Int).toNat*3,none⟩)),(12,156,.pointer (some ⟨zbY v1,((q19 - 1:Int).toNat)*3,none⟩)),(13,157,.pointer (some ⟨zbY v1,((q19 - 1:Int).toNat)*3+1,none⟩)),(14,158,zI q21.Span_To),(15,159,.string (zb8 s1 q20.Span_From q21.Span_To))] (fun b2=>[(160,.slice (some ⟨b2,0,none⟩) 1 1)]) (fun b2=>[zv2 v1 cells1,zv0 v2 cost1,zv0 v3 next1,zv5 v13 out4,cells b2 [.string (zb8 s1 q20.Span_From q21.Span_To)] 9]) mixed kr kr rfl dc dc (by rfl) kr kr (zyE 4 0 rfl (zai ?_ (zai ?_ (zai ?_ (zai ?_ (zyE 2 8 rfl (zai ?_ (zai ?_ (zai ?_ (zai ?_ (zai ?_ (zai ?_ (zcD DrawPreX.nil))))))))))))) (fun b2=>(zyE 4 0 rfl (zai ?_ (zai ?_ (zai ?_ (zai ?_ (zyE 2 8 rfl (zai ?_ (zai ?_ (zai ?_ (zai ?_ (zai ?_ (zai ?_ (zcD DrawPreX.nil)))))))))))))) ?_ ?_
    · exact fun D n d c u i=>zaj (k:=0) hq24 Tryz.underlying94 zho rfl dc (zaa (m:=2) u rfl (d 2 dc)) (zaa (m:=3) u rfl (d 3 dc)) rfl rfl (zaf 4 u i rfl)
    · exact fun D n d c u i=>zab zfD rfl dc (zaa (m:=4) u rfl (d 4 dc)) (show _=((from6:Int).toNat)*3 from rfl) (zaf 5 u i rfl)
    · exact fun D n d c u i=>zab zdt rfl dc (zaa (m:=5) u rfl (d 5 dc)) (show _=((from6:Int).toNat)*3 from rfl) (zaf 6 u i rfl)
    · exact fun D n d c u i=>zaA (i:=(from6:Int).toNat) (j:=0) (k:=0) (q:=q20) zbp zbC rfl dc (zaa (m:=6) u rfl (d 6 dc)) rfl (zaz hq24) rfl dc rfl (zaf 7 u i rfl)
    · exact fun D n d c u i=>zbz rfl dc (zaa (m:=9) u rfl (d 9 dc)) rfl (zbt (r:=q19 - 1) (IntWalk.i64_in _ hg17)) (zaf 10 u i rfl)
    · exact fun D n d c u i=>zaj (k:=0) hq25 Tryz.underlying94 zho rfl dc (zaa (m:=8) u rfl (d 8 dc)) (zaa (m:=10) u rfl (d 10 dc)) rfl rfl (zaf 11 u i rfl)
    · exact fun D n d c u i=>zab zfD rfl dc (zaa (m:=11) u rfl (d 11 dc)) (show _=((q19 - 1:Int).toNat)*3 from rfl) (zaf 12 u i rfl)
    · exact fun D n d c u i=>zab zdZ rfl dc (zaa (m:=12) u rfl (d 12 dc)) (show _=((q19 - 1:Int).toNat)*3+1 from rfl) (zaf 13 u i rfl)
    · exact fun D n d c u i=>zaA (i:=(q19 - 1:Int).toNat) (j:=1) (k:=0) (q:=q21) zbp zbC rfl dc (zaa (m:=13) u rfl (d 13 dc)) rfl (zaz hq25) rfl dc rfl (zaf 14 u i rfl)
    · exact fun D n d c u i=>zdG rfl dc (zaa (m:=1) u rfl (d 1 dc)) (evO.some (zaa (m:=7) u rfl (d 7 dc))) (evO.some (zaa (m:=14) u rfl (d 14 dc))) (zce (i:=q20.Span_From) (j:=q21.Span_To) Tryz.underlying9 (.inr rfl) (.inr rfl) hg18) (zaf 15 u i rfl)
    · exact fun D n d c u i=>zaj (k:=0) hq24 Tryz.underlying94 zho rfl dc (zaa (m:=2) u rfl (d 2 dc)) (zaa (m:=3) u rfl (d 3 dc)) rfl rfl (zaf 4 u i rfl)
    · exact fun D n d c u i=>zab zfD rfl dc (zaa (m:=4) u rfl (d 4 dc)) (show _=((from6:Int).toNat)*3 from rfl) (zaf 5 u i rfl)
    · exact fun D n d c u i=>zab zdt rfl dc (zaa (m:=5) u rfl (d 5 dc)) (show _=((from6:Int).toNat)*3 from rfl) (zaf 6 u i rfl)
    · exact fun D n d c u i=>zaA (i:=(from6:Int).toNat) (j:=0) (k:=0) (q:=q20) zbp zbC rfl dc (zaa (m:=6) u rfl (d 6 dc)) rfl (zaz hq24) rfl dc rfl (zaf 7 u i rfl)
    · exact fun D n d c u i=>zbz rfl dc (zaa (m:=9) u rfl (d 9 dc)) rfl (zbt (r:=q19 - 1) (IntWalk.i64_in _ hg17)) (zaf 10 u i rfl)
    · exact fun D n d c u i=>zaj (k:=0) hq25 Tryz.underlying94 zho rfl dc (zaa (m:=8) u rfl (d 8 dc)) (zaa (m:=10) u rfl (d 10 dc)) rfl rfl (zaf 11 u i rfl)
    · exact fun D n d c u i=>zab zfD rfl dc (zaa (m:=11) u rfl (d 11 dc)) (show _=((q19 - 1:Int).toNat)*3 from rfl) (zaf 12 u i rfl)
    · exact fun D n d c u i=>zab zdZ rfl dc (zaa (m:=12) u rfl (d 12 dc)) (show _=((q19 - 1:Int).toNat)*3+1 from rfl) (zaf 13 u i rfl)
    · exact fun D n d c u i=>zaA (i:=(q19 - 1:Int).toNat) (j:=1) (k:=0) (q:=q21) zbp zbC rfl dc (zaa (m:=13) u rfl (d 13 dc)) rfl (zaz hq25) rfl dc rfl (zaf 14 u i rfl)
    · exact fun D n d c u i=>zdG rfl dc (zaa (m:=1) u rfl (d 1 dc)) (evO.some (zaa (m:=7) u rfl (d 7 dc))) (evO.some (zaa (m:=14) u rfl (d 14 dc))) (zce (i:=q20.Span_From) (j:=q21.Span_To) Tryz.underlying9 (.inr rfl) (.inr rfl) hg18) (zaf 15 u i rfl)
    ·
     intro D hn hd hcl
     refine zaV (cs:=[.string (zb8 s1 q20.Span_From q21.Span_To)]) (te:=9) (ps:=[(0,.tmp 159)]) rfl dc (evP.cons (zaa (m:=15) kr rfl (hd 15 dc)) evP.nil) (fun _=>by kernel_rfl) (fun b2 => ?_)
     exact fun a w ha hw=>⟨b2,zld (by rfl) _ _ _ ha,hw⟩
    intro b2
    refine za4 (k:=3) (k2:=4) (ys:=[zb8 s1 q20.Span_From q21.Span_To]) Tryz.underlying70 zxN zg9 zm1 rfl dc rfl rfl rfl rfl rfl rfl hg19 (fun v14 => ?_)
    refine zyR 1 rfl (zyN (zav (zyR 2 rfl (zaO (zag ?_)))))
    subst hag3
    exact za1 (n4,out4++[zb8 s1 q20.Span_From q21.Span_To],q19,v14) h (Nat.lt_succ_self _) rfl (za0 rfl) (zad [0,1,2,3] kr rfl)
   refine za3 (zan (zan (zax ?_)))
   exact zal (out4,v13) h rfl (za0 rfl) (zad [1,3] kr rfl)
 rintro ⟨out1,v10⟩ h
 rw [hj5] at h
 refine zaI ?_
 obtain ⟨q22,hq26,h⟩:=zbi h
 refine zbn 5 [(0,163,v10),(1,164,v2),(2,165,.pointer (some ⟨zbY v2,(0:Int).toNat*1,none⟩)),(3,166,zI q22),(4,6,v10)] mixed kr kr dc (by rfl) kr kr (zyP 2 0 rfl (zac ?_ (zac ?_ (zyP 1 4 rfl DrawPre.nil)))) ?_
 · exact fun D n d c u i=>zaj (k:=0) hq26 Tryz.underlying49 zcs rfl dc (zaa (m:=1) u rfl (d 1 dc)) rfl rfl rfl (zaf 2 u i rfl)
 · exact fun D n d c u i=>zaA (i:=(0:Int).toNat) (j:=0) (k:=0) (q:=q22) zbp zaQ rfl dc (zaa (m:=2) u rfl (d 2 dc)) rfl (zaz hq26) rfl dc rfl (zaf 3 u i rfl)
 refine zyR 1 rfl (zyN (zaG ?_))
 cases h
 exact zaK (rs:=[.tmp 6,.tmp 7]) v10 (.inl rfl) Tryz.results42 (.cons (.tmp rfl) (.cons (.tmp rfl) .nil)) rfl (zad [1] kr rfl)
end Go.Proofs.YtbempdelckaccaaGreatDoor

namespace Go.Proofs.YtbempdelckaccaaGreatDoor
open Go.RowKit Go.Lib
set_option linter.unusedVariables false
set_option linter.unusedSimpArgs false
def zgx  : Option Bool :=
zah (zig (⟨#[111,110,101,32,116,119,111,32,116,104,114,101,101]⟩:ByteArray) 0 (⟨8,4,2,0⟩:Gapi_Layout)) fun (r1:((List ByteArray)×Int×Int)) =>
zay (((r1.1.length:Int):Int)==2) (
zah (zbm r1.1 0) fun (q1:ByteArray) =>
zay (decide (q1=(⟨#[111,110,101,32,116,119,111,32]⟩:ByteArray))) (
zay ((r1.2.1:Int)==1) (
some ((r1.2.2:Int)==0)
) (
some false
)
) (
some false
)
) (
some false
)
theorem zmQ  {r:Bool} (h:zgx=some r):FnP Tryz.prog 8 [] (.bool r):=by
 unfold zgx at h
 refine FnP.intro Tryz.func8 rfl Tryz.ntmps8 (by simp) ?_
 intro w0 K
 refine zyG (zyR 1 rfl (zyH ?_))
 refine zba (v:=.agg #[zI 8,zI 4,zI 2,zI 0]) (ps:=[(0,.const (zI 8)),(1,.const (zI 4)),(2,.const (zI 2))]) rfl dc rfl (fun _=>by kernel_rfl) ?_
 obtain ⟨r1,hq1,h⟩:=zbi h
 refine zes (vs:=[.string (⟨#[111,110,101,32,116,119,111,32,116,104,114,101,101]⟩:ByteArray),zI 0,.agg #[zI 8,zI 4,zI 2,zI 0]]) rfl dc rfl rfl rfl zxD (znL (l1:=(⟨8,4,2,0⟩:Gapi_Layout)) hq1) Splits.nil ?_
 rintro v1
 refine zyR 1 rfl (zaN rfl dc rfl rfl (zaN rfl dc rfl rfl (zaN rfl dc rfl rfl (zyR 3 rfl (zyH (zyR 1 rfl (zbg (k:=0) rfl dc rfl rfl Tryz.underlying70 (zaU rfl zaT ?_))))))))
 refine zyR 1 rfl ?_
 refine zyS (s:=13) rfl h (fun h => ?_) (fun h => ?_)
 ·
  refine zyR 1 rfl ?_
  obtain ⟨q1,hq2,h⟩:=zbi h
  refine zaj (k:=0) hq2 Tryz.underlying70 ztO rfl dc rfl rfl rfl rfl (zaA (i:=(0:Int).toNat) (j:=0) (k:=0) (q:=q1) zp7 zg9 rfl dc rfl rfl (zaz hq2) rfl dc rfl (zaU rfl zhR (zyR 2 rfl ?_)))
  refine zyS (s:=19) rfl h (fun h => ?_) (fun h => ?_)
  ·
   refine zyR 1 rfl (zaU rfl zaT (zyR 2 rfl ?_))
   refine zyS (s:=23) rfl h (fun h => ?_) (fun h => ?_)
   ·
    refine zyR 1 rfl (zaU rfl zaT (zyR 2 rfl (zyN (zaG ?_))))
    cases h
    exact zaK (rs:=[.tmp 0]) () (.inl rfl) Tryz.results8 (.cons (.tmp rfl) .nil) rfl Splits.nil
   refine zyR 4 rfl (zyN (zaG ?_))
   cases h
   exact zaK (rs:=[.tmp 0]) () (.inl rfl) Tryz.results8 (.cons (.tmp rfl) .nil) rfl Splits.nil
  refine zyR 8 rfl (zyN (zaG ?_))
  cases h
  exact zaK (rs:=[.tmp 0]) () (.inl rfl) Tryz.results8 (.cons (.tmp rfl) .nil) rfl Splits.nil
 refine zyR 14 rfl ?_
 refine zyN (zaG ?_)
 cases h
 exact zaK (rs:=[.tmp 0]) () (.inl rfl) Tryz.results8 (.cons (.tmp rfl) .nil) rfl Splits.nil
end Go.Proofs.YtbempdelckaccaaGreatDoor

namespace Go.Proofs.YtbempdelckaccaaGreatDoor
open Go.RowKit Go.Lib
set_option linter.unusedVariables false
set_option linter.unusedSimpArgs false
def zlk (l:Gapi_Layout):Bool:=decide ((8:Int)≤l.Width)&&(decide ((l.Width:Int)≤256)&&(decide ((4:Int)≤l.Height)&&(decide ((l.Height:Int)≤200)&&(decide ((0:Int)≤l.Turn)&&(decide ((l.Turn:Int)≤7)&&(decide ((0:Int)≤l.Every)&&decide ((l.Every:Int)≤512)))))))
theorem zi2 (c d:Bool) (r:Option Bool) (h:r=some d):zay c r (some false)=some (c&&d):=by
 cases c
 ·rfl
 ·exact h
theorem zw2 (l:Gapi_Layout):zf6 l=some (zlk l):=by
 unfold zf6 zlk
 exact zi2 _ _ _ (zi2 _ _ _ (zi2 _ _ _ (zi2 _ _ _ (zi2 _ _ _ (zi2 _ _ _ (zi2 _ _ _ rfl))))))
theorem ztf (l:Gapi_Layout):zfz l=some (zlk l):=by
 unfold zfz zlk
 exact zi2 _ _ _ (zi2 _ _ _ (zi2 _ _ _ (zi2 _ _ _ (zi2 _ _ _ (zi2 _ _ _ (zi2 _ _ _ rfl))))))
theorem zsA {l:Gapi_Layout} (h:zlk l=true):(8≤l.Width∧l.Width≤256)∧0≤l.Turn∧l.Turn≤7:=by
 unfold zlk at h
 simp only [Bool.and_eq_true,decide_eq_true_eq] at h
 omega
abbrev zre (i:Int) (l:Gapi_Layout):Int:=max 1 (l.Width - i)
abbrev zq3 (l:Gapi_Layout):Int:=l.Width - l.Turn
theorem zqm {i:Int} {l:Gapi_Layout} (hm:zlk l=true) (hi:0≤i∧i≤1024):I64 (l.Width - i)∧(0≤zre i l∧zre i l≤1000000)∧(0≤zq3 l∧zq3 l≤1000000):=by
 have:=zsA hm
 refine ⟨⟨by omega,by omega⟩,?_,?_⟩
 ·show 0≤max 1 (l.Width - i)∧max 1 (l.Width - i)≤1000000
  omega
 ·show 0≤l.Width - l.Turn∧l.Width - l.Turn≤1000000
  omega
abbrev zyb (s:ByteArray) (i:Int) (l:Gapi_Layout):List ByteArray:=zgK s 0 (zkW s (zre i l) (zq3 l))
theorem zvL:zgx=some true:=by decide +kernel
end Go.Proofs.YtbempdelckaccaaGreatDoor

namespace Go.Proofs.YtbempdelckaccaaGreatDoor
open Go.RowKit Go.Lib
set_option linter.unusedVariables false
set_option linter.unusedSimpArgs false
def p2 (p:Pc):Gref02_Piece:=⟨p.i,p.w,p.r⟩
def p2z (p:Pc):Gref02_Piece:=⟨p.i,0,p.r⟩
theorem zpd (l:List UInt8) (P:List Pc) (x:Pc) (B:List Pc) (h:pcs l=P++x::B):(B=[]→x.i+x.w=l.length)∧∀ y B',B=y::B'→y.i=x.i+x.w:=by
 obtain ⟨h1,h2,h3,h4⟩:=ziC l P x B h
 constructor
 ·intro e
  rw [e] at h4
  by_cases hl:l.drop (x.i+x.w)=[]
  ·have:=congrArg List.length hl
   rw [List.length_drop] at this
   simp at this; omega
  ·rw [zcF _ _ hl] at h4; cases h4
 ·intro y B' e
  rw [e] at h4
  by_cases hl:l.drop (x.i+x.w)=[]
  ·rw [hl,zdi] at h4; cases h4
  ·rw [zcF _ _ hl] at h4
   have:=(List.cons.inj h4).1
   rw [this]
theorem zo8 {α:Type} (A:List α) (x y:α):(A++[x]).set (((A++[x]).length:Int) - 1:Int).toNat y=A++[y]:=by
 rw [show (((A++[x]).length:Int) - 1:Int).toNat=A.length by rw [List.length_append]; simp,List.set_append_right _ _ (Nat.le_refl _),Nat.sub_self]; rfl
theorem zpl {α:Type} (A:List α) (x:α):zbm (A++[x]) (((A++[x]).length:Int) - 1)=some x :=
 zdk (n:=A.length) (by rw [List.length_append]; simp) (by simp)
theorem zvD (s:ByteArray) (hs:s.size≤2147483647) (j:List Gref02_Piece→Option (List Gref02_Piece)) (hj:∀ Q q,pcs s.data.toList=Q++[q]→j (Q.map p2++[p2z q])=some ((pcs s.data.toList).map p2)) :
  ∀ (ts Q:List Pc) (q:Pc) (m:Nat),pcs s.data.toList=Q++q::ts→ts.length<m→zaE (fun _ _=>none) (zbQ s j) m (Q.map p2++[p2z q]) (Q.length+1)=some ((pcs s.data.toList).map p2)
 | [],Q,q,m,h,hm=>by
  obtain ⟨m,rfl⟩:∃ k,m=k+1:=⟨m - 1,by simp at hm; omega⟩
  rw [zb5]
  generalize zaE (fun _ _=>none) (zbQ s j) m=ag
  unfold zbQ
  exact zaw (decide_eq_false (by rw [h]; simp)) (hj Q q h)
 | t::ts,Q,q,m,h,hm=>by
  obtain ⟨m,rfl⟩:∃ k,m=k+1:=⟨m - 1,by simp at hm; omega⟩
  have ih:=zvD s hs j hj ts (Q++[q]) t m (by rw [h]; simp) (by simp at hm; omega)
  rw [zb5]
  generalize zaE (fun _ _=>none) (zbQ s j) m=ag at ih ⊢
  have hn:=(zpd _ _ _ _ h).2 t ts rfl
  have hq:=zgk s.data.toList q (by rw [h]; simp)
  have ht:=zgk s.data.toList t (by rw [h]; simp)
  have hc:=zgP s.data.toList (Q++[q]).length (Q++[q]) t ts (Nat.le_refl _) (by rw [h]; simp)
  have hsz:=zf5 s
  have hx:(pcs s.data.toList)[Q.length+1]?=some t:=by rw [h]; simp
  unfold zbQ
  refine zaC (decide_eq_true ((List.getElem?_eq_some_iff.1 hx).1)) (zaJ hx (zbs (zaC (decide_eq_true (by rw [List.length_append]; simp)) ?_)))
  have hl:(((Q.map p2++[p2z q]).length:Nat):Int)=(Q.length:Int)+1:=by simp
  rw [List.length_append] at hc
  simp only [List.length_cons,List.length_nil] at hc
  refine zbl ⟨by omega,by omega⟩ (zbl ⟨by omega,by omega⟩ (zaJ (zpl _ _) (zbl ⟨?_,?_⟩ ?_)))
  ·show -9223372036854775808≤(t.i:Int) - (q.i:Int); omega
  ·show (t.i:Int) - (q.i:Int)≤9223372036854775807; omega
  ·rw [zo8]
   have e:(⟨(p2z q).At,(t.i:Int) - (p2z q).At,(p2z q).Rune⟩:Gref02_Piece)=p2 q:=by
    show (⟨(q.i:Int),(t.i:Int) - (q.i:Int),(q.r:Int)⟩:Gref02_Piece)=⟨q.i,q.w,q.r⟩
    rw [hn,show ((q.i+q.w:Nat):Int) - (q.i:Int)=(q.w:Int) by omega]
   rw [e]
   have hm2:Q.map p2++[p2 q]=(Q++[q]).map p2:=by simp
   rw [hm2]
   refine zbl (by rw [List.length_map,List.length_append]; show Q.length+1+1≤_; omega) ?_
   rw [show (Q++[q]).length=Q.length+1 by simp] at ih
   exact ih
def r2J (s:ByteArray):List Gref02_Piece→Option (List Gref02_Piece):=fun (l1:List Gref02_Piece)=>zbk (fun (j3:(List Gref02_Piece)→Option (List Gref02_Piece))=>zay (decide ((0:Int)<(l1.length:Int))) (grd (I64 ((l1.length:Int) - 1))<|grd (I64 ((l1.length:Int) - 1))<|zah (zbm l1 ((l1.length:Int) - 1)) fun (q2:Gref02_Piece) =>
   grd (I64 ((s.size:Int) - q2.At))<|j3 (l1.set ((l1.length:Int) - 1:Int).toNat (⟨q2.At,(s.size:Int) - q2.At,q2.Rune⟩:Gref02_Piece))) (j3 l1)) (fun (l6:List Gref02_Piece)=>some l6)
theorem zyc (s:ByteArray) (hs:s.size≤2147483647):zeU s=some ((pcs s.data.toList).map p2):=by
 unfold zeU
 refine zbs ?_
 change zaE (fun _ _=>none) (zbQ s (r2J s)) zbN ([]:List Gref02_Piece) 0=_
 have hsz:=zf5 s
 have hj:∀ Q q,pcs s.data.toList=Q++[q]→r2J s (Q.map p2++[p2z q])=some ((pcs s.data.toList).map p2):=by
  intro Q q h
  have hn:=(zpd _ _ _ _ h).1 rfl
  have hq:=zgk s.data.toList q (by rw [h]; simp)
  have hc:=zgP s.data.toList Q.length Q q [] (Nat.le_refl _) h
  have hl:(((Q.map p2++[p2z q]).length:Nat):Int)=(Q.length:Int)+1:=by simp
  refine zbs (zaC (decide_eq_true (by omega)) (zbl ⟨by omega,by omega⟩ (zbl ⟨by omega,by omega⟩ (zaJ (zpl _ _) (zbl ⟨?_,?_⟩ ?_)))))
  ·show -9223372036854775808≤(s.size:Int) - (q.i:Int); omega
  ·show (s.size:Int) - (q.i:Int)≤9223372036854775807; omega
  ·rw [zo8]
   have e:(⟨(p2z q).At,(s.size:Int) - (p2z q).At,(p2z q).Rune⟩:Gref02_Piece)=p2 q:=by
    show (⟨(q.i:Int),(s.size:Int) - (q.i:Int),(q.r:Int)⟩:Gref02_Piece)=⟨q.i,q.w,q.r⟩
    rw [← hsz,← hn,show ((q.i+q.w:Nat):Int) - (q.i:Int)=(q.w:Int) by omega]
   rw [e,h]; simp
 cases hP:pcs s.data.toList with
 | nil =>
  obtain ⟨F,hF,_⟩:=zoz 1 (by decide)
  rw [hF,zb5]
  generalize zaE (fun _ _=>none) (zbQ s _) F=ag
  unfold zbQ
  exact zaw (decide_eq_false (by rw [hP]; simp)) (zbs (zaw rfl rfl))
 | cons q ts =>
  rw [← hP]
  have hg:=fun m hm=>zvD s hs _ hj ts [] q m hP hm
  have hlen:ts.length≤2147483647:=by
   have:=zgP s.data.toList _ _ _ _ (Nat.le_refl _) (show pcs s.data.toList=([]:List Pc)++q::ts from hP)
   rcases List.eq_nil_or_concat ts with rfl | ⟨D,z,rfl⟩
   ·simp
   ·rw [List.concat_eq_append] at hP ⊢
    have h1:=zgP s.data.toList _ (q::D) z [] (Nat.le_refl _) (by rw [hP]; simp)
    have h2:=zgk s.data.toList z (by rw [hP]; simp)
    simp at h1 ⊢; omega
  obtain ⟨F,hF,hF2⟩:=zoz 1 (by decide)
  rw [hF,zb5]
  have hg:=hg F (by omega)
  generalize zaE (fun _ _=>none) (zbQ s _) F=ag at hg ⊢
  unfold zbQ
  refine zaC (decide_eq_true (by rw [hP]; simp)) (zaJ (a:=q) (by rw [hP]; rfl) (zbs (zaw rfl (zbl (by decide) ?_))))
  exact hg
def PW:List (Int×Int):=[(4352,4447),(11904,12350),(12353,19903),(19968,42191),(44032,55203),(63744,64255),(65072,65135),(65280,65376),(65504,65510),(127744,128591),(129280,129535),(131072,262141)]
def inW (r:Int) (p:Int×Int):Bool:=decide (p.1≤r)&&decide (r≤p.2)
def srt:Int→List (Int×Int)→Prop
 | _,[]=>True
 | a,p::ps=>a<p.1∧p.1≤p.2∧srt p.2 ps
theorem zqv (r:Int):∀ (ps:List (Int×Int)) (a:Int),srt a ps→r≤a→ps.any (inW r)=false
 | [],a,_,_=>rfl
 | p::ps,a,⟨h1,h2,h3⟩,h=>by
  rw [List.any_cons,zqv r ps p.2 h3 (by omega),Bool.or_false]
  unfold inW
  rw [decide_eq_false (by omega)]; rfl
theorem znl (r:Int):∀ (ps:List (Int×Int)) (a:Int),srt a ps→zlo r false (ps.flatMap fun p=>[p.1,p.2])=ps.any (inW r)
 | [],a,_=>rfl
 | p::ps,a,⟨h1,h2,h3⟩=>by
  show zlo r false (p.1::p.2::ps.flatMap fun p=>[p.1,p.2])=_
  rw [List.any_cons]
  unfold zlo
  by_cases e1:r<p.1
  ·rw [if_pos e1,zqv r ps p.2 h3 (by omega)]
   unfold inW; rw [decide_eq_false (by omega)]; rfl
  ·rw [if_neg e1]
   unfold zlo
   by_cases e2:r≤p.2
   ·rw [if_pos e2]; unfold inW; rw [decide_eq_true (by omega),decide_eq_true e2]; rfl
   ·rw [if_neg e2,znl r ps p.2 h3]; unfold inW; rw [decide_eq_false e2,Bool.and_false,Bool.false_or]
theorem zqn:zqo=PW.flatMap fun p=>[p.1,p.2]:=by decide +kernel
theorem zql (r:Int):zmm r=PW.any (inW r):=by
 unfold zmm
 rw [zqn]
 exact znl r PW 0 (by unfold PW; simp [srt])
theorem ztX (r:Int):zey r=some (zmm r):=by
 unfold zey
 refine zbs ?_
 have key:∀ (d k n:Nat),k+d=12→d<n→zaE (fun _=>none) (zc5 r (some false)) n (k:Int)=some ((PW.drop k).any (inW r)):=by
  intro d
  induction d with
  | zero =>
   intro k n hk hn
   obtain ⟨n,rfl⟩:∃ q,n=q+1:=⟨n - 1,by omega⟩
   rw [zb5]
   generalize zaE (fun _=>none) (zc5 r (some false)) n=ag
   unfold zc5
   refine zaw (decide_eq_false (by omega)) ?_
   rw [show k=PW.length by show k=12; omega,List.drop_length]; rfl
  | succ d ih =>
   intro k n hk hn
   obtain ⟨n,rfl⟩:∃ q,n=q+1:=⟨n - 1,by omega⟩
   have ih':=ih (k+1) n (by omega) (by omega)
   rw [zb5]
   rw [show ((k+1:Nat):Int)=(k:Int)+1 by omega] at ih'
   generalize zaE (fun _=>none) (zc5 r (some false)) n=ag at ih' ⊢
   have hkl:k<PW.length:=by show k<12; omega
   have hx:PW[k]?=some PW[k]:=List.getElem?_eq_getElem hkl
   have hd:=List.drop_eq_getElem_cons hkl
   generalize PW[k]=p at hx hd
   have hA:zbm ([4352,11904,12353,19968,44032,63744,65072,65280,65504,127744,129280,131072]:List Int) (k:Int)=some p.1:=by
    refine zcv (xs:=PW.map Prod.fst) ?_
    rw [List.getElem?_map,hx]; rfl
   have hB:zbm ([4447,12350,19903,42191,55203,64255,65135,65376,65510,128591,129535,262141]:List Int) (k:Int)=some p.2:=by
    refine zcv (xs:=PW.map Prod.snd) ?_
    rw [List.getElem?_map,hx]; rfl
   unfold zc5
   rw [hd,List.any_cons]
   refine zaC (decide_eq_true (by omega)) (zbs (zaJ hA ?_))
   by_cases e1:p.1≤r
   ·refine zaC (decide_eq_true e1) (zaJ hB ?_)
    by_cases e2:r≤p.2
    ·refine zaC (decide_eq_true e2) ?_
     unfold inW; rw [decide_eq_true e1,decide_eq_true e2]; rfl
    ·refine zaw (decide_eq_false e2) (zbl ⟨by omega,by omega⟩ (ih'.trans ?_))
     show _=some ((decide (p.1≤r)&&decide (r≤p.2))||_)
     rw [decide_eq_false e2,Bool.and_false,Bool.false_or]
   ·refine zaw (decide_eq_false e1) (zbl ⟨by omega,by omega⟩ (ih'.trans ?_))
    show _=some ((decide (p.1≤r)&&decide (r≤p.2))||_)
    rw [decide_eq_false e1,Bool.false_and,Bool.false_or]
 have:=key 12 0 zbN rfl (zbM (by decide))
 rw [zql]
 exact this
end Go.Proofs.YtbempdelckaccaaGreatDoor

namespace Go.Proofs.YtbempdelckaccaaGreatDoor
open Go.RowKit Go.Lib
set_option linter.unusedVariables false
set_option linter.unusedSimpArgs false
theorem zsD (r:Int):0≤kind r∧kind r≤10:=by
 unfold kind zsE
 repeat' split
 all_goals omega
abbrev jnP (p:Pc):Bool:=!p.broken&&decide ((p.r:Int)=8205)
def p5 (p:Pc):Gref05_Piece:=⟨p.i,(p.i:Int)+(p.w:Int),kdP (pcG p),jnP p,zgY (pcG p)⟩
theorem zul {p:Pc} (h:p.broken=true):kdP (pcG p)=11:=by unfold kdP zdA pcG; rw [if_pos h]
theorem zuk {p:Pc} (h:p.broken=false):kdP (pcG p)=kind (p.r:Int):=by show (if p.broken=true then (11:Int) else kind (p.r:Int))=_; rw [h]; exact if_neg Bool.false_ne_true
theorem zpz (p:Pc):p.broken=true↔(p.r:Int)=65533∧(p.w:Int)=1:=by
 unfold Pc.broken
 simp only [Bool.and_eq_true,beq_iff_eq]
 omega
theorem zub {α:Type} (r1:List Gref02_Piece) (i3:Int) (p:Pc) (hg:zbm r1 i3=some (p2 p)) (h32:I32 (p.r:Int)) (hb:p.broken=false) (J:Gref02_Piece→Gref02_Piece→Int→Option α) :
  (zah (zbm r1 i3) fun (q3:Gref02_Piece)=>grd (I32 q3.Rune)<|zah (zbm r1 i3) fun (q4:Gref02_Piece)=>zay ((q4.Rune:Int)==8205) (J q3 q4 0) (zay (((kind q3.Rune):Int)==2) (J q3 q4 0) (zay (((kind q3.Rune):Int)==4) (J q3 q4 0) (zay (((kind q3.Rune):Int)==9) (J q3 q4 0)
   (zah (zbm r1 i3) fun (q5:Gref02_Piece)=>zah (zey q5.Rune) fun (r2:Bool)=>zay (r2) (J q3 q4 2) (J q3 q4 1))))))=J (p2 p) (p2 p) (zgY (pcG p)):=by
 refine zaJ hg (zbl h32 (zaJ hg ?_))
 have hr:(p2 p).Rune=(p.r:Int):=rfl
 have hk:=zuk hb
 have hkr:=zsD (p.r:Int)
 have hrg:(pcG p).Rune=(p.r:Int):=rfl
 rw [hr]
 unfold zgY
 rw [hk,if_neg (by omega),hrg]
 by_cases h0:(p.r:Int)=8205
 ·refine zaC (zgt h0) ?_
  rw [if_pos (.inr (.inr (by rw [h0]; decide)))]
 refine zaw (zgD h0) ?_
 by_cases h2:kind (p.r:Int)=2
 ·rw [if_pos (.inl h2)]; exact zaC (zgt h2) rfl
 refine zaw (zgD h2) ?_
 by_cases h4:kind (p.r:Int)=4
 ·rw [if_pos (.inr (.inl h4))]; exact zaC (zgt h4) rfl
 refine zaw (zgD h4) ?_
 by_cases h9:kind (p.r:Int)=9
 ·rw [if_pos (.inr (.inr h9))]; exact zaC (zgt h9) rfl
 rw [if_neg (by omega)]
 refine zaw (zgD h9) (zaJ hg (zaJ (ztX _) ?_))
 rw [hr]
 cases zmm (p.r:Int) <;> rfl
theorem zvC (X:List Pc) (hX:∀ p∈X,I32 (p.r:Int)∧p.i≤2147483647∧p.w≤2147483647) (hl:X.length≤2147483646) (j:List Gref05_Piece→Option (List Gref05_Piece)):∀ (ts pre:List Pc) (m:Nat),X=pre++ts→ts.length<m →
  zaE (fun _ _=>none) (zcz j (X.map p2)) m (pre.map p5) (pre.length:Int)=j (X.map p5)
 | [],pre,m,h,hm=>by
  obtain ⟨m,rfl⟩:∃ q,m=q+1:=⟨m - 1,by simp at hm; omega⟩
  rw [List.append_nil] at h; subst h
  rw [zb5]
  generalize zaE (fun _ _=>none) (zcz j (X.map p2)) m=ag
  unfold zcz
  exact zaw (decide_eq_false (by simp)) rfl
 | p::ts,pre,m,h,hm=>by
  obtain ⟨m,rfl⟩:∃ q,m=q+1:=⟨m - 1,by simp at hm; omega⟩
  have ih:=zvC X hX hl j ts (pre++[p]) m (by rw [h]; simp) (by simp at hm; omega)
  rw [zb5]
  generalize zaE (fun _ _=>none) (zcz j (X.map p2)) m=ag at ih ⊢
  have hx:(X.map p2)[pre.length]?=some (p2 p):=by rw [List.getElem?_map,h]; simp
  have hg:=zcj hx
  obtain ⟨o1,o2,o3⟩:=hX p (by rw [h]; simp)
  have hpl:pre.length<X.length:=by rw [h]; simp
  have hJ:∀ c,c=zgY (pcG p)→∀ k,k=kdP (pcG p)→∀ b,b=jnP p→(grd ((pre.map p5).length+1≤2147483648)<|grd (I64 ((pre.length:Int)+1))<|ag (pre.map p5++[(⟨(p2 p).At,(p2 p).At+(p2 p).Width,k,b,c⟩:Gref05_Piece)]) ((pre.length:Int)+1))=j (X.map p5):=by
   rintro c rfl k rfl b rfl
   refine zbl (by rw [List.length_map]; omega) (zbl ⟨by omega,by omega⟩ ?_)
   rw [← ih]
   have e1:(pre++[p]).map p5=pre.map p5++[p5 p]:=by simp
   rw [e1,show (((pre++[p]).length:Nat):Int)=(pre.length:Int)+1 by simp]; rfl
  unfold zcz
  refine zaC (zow hx) (zbs (zaJ hg (zbl ⟨?_,?_⟩ (zaJ hg ?_))))
  ·show -9223372036854775808≤(p.i:Int)+(p.w:Int); omega
  ·show (p.i:Int)+(p.w:Int)≤9223372036854775807; omega
  have nb:=fun (hb:p.broken=false)=>(zub (X.map p2) (pre.length:Int) p hg o1 hb (fun q3 q4 (c:Int)=>(grd ((pre.map p5).length+1≤2147483648)<|grd (I64 ((pre.length:Int)+1))<|ag (pre.map p5++[(⟨(p2 p).At,(p2 p).At+(p2 p).Width,kind q3.Rune,(q4.Rune:Int)==8205,c⟩:Gref05_Piece)]) ((pre.length:Int)+1)))).trans (hJ _ rfl _ (zuk hb).symm _ (by
   show ((p.r:Int)==8205)=(!p.broken&&decide ((p.r:Int)=8205))
   rw [hb]; rfl))
  cases hb:p.broken with
  | true =>
   obtain ⟨e1,e2⟩:=(zpz p).1 hb
   have hj1:=hJ 1 (by unfold zgY; rw [if_pos (zul hb)]) 11 (zul hb).symm false (by show false=(!p.broken&&_); rw [hb]; rfl)
   refine zaC ?_ (zaC ?_ ?_)
   ·exact zgt e1
   ·exact zgt e2
   ·exact hj1
  | false =>
   have hn:¬ ((p.r:Int)=65533∧(p.w:Int)=1):=fun e=>by rw [(zpz p).2 e] at hb; cases hb
   by_cases e1:(p.r:Int)=65533
   ·refine zaC ?_ (zaw ?_ (nb hb))
    ·exact zgt e1
    ·exact zgD (fun e=>hn ⟨e1,e⟩)
   ·refine zaw ?_ (nb hb)
    exact zgD e1
theorem zkA (s:ByteArray) (hs:s.size≤2147483646):(∀ p∈pcs s.data.toList,I32 (p.r:Int)∧p.i≤2147483647∧p.w≤2147483647)∧(pcs s.data.toList).length≤s.size:=by
 have hsz:=zf5 s
 constructor
 ·intro p hp
  obtain ⟨h1,h2,h3⟩:=zgk s.data.toList p hp
  have:=h3.valid
  exact ⟨⟨by omega,by omega⟩,by omega,by omega⟩
 ·rcases List.eq_nil_or_concat (pcs s.data.toList) with h | ⟨D,z,h⟩
  ·rw [h]; simp
  ·rw [List.concat_eq_append] at h
   have h1:=zgP s.data.toList _ D z [] (Nat.le_refl _) h
   have h2:=zgk s.data.toList z (by rw [h]; simp)
   rw [h,List.length_append]; simp; omega
theorem zwY (s:ByteArray) (hs:s.size≤2147483646):zeR s=some ((pcs s.data.toList).map p5):=by
 obtain ⟨h1,h2⟩:=zkA s hs
 unfold zeR
 refine zbs (zaJ (zyc s (by omega)) ?_)
 exact zvC (pcs s.data.toList) h1 (by omega) (fun out1=>some out1) (pcs s.data.toList) [] zbN rfl (zbM (by omega))
theorem zlU (s:ByteArray) {p:Pc} (hp:p∈pcs s.data.toList) (n:Nat) (hn:n<128):∃ c:Int,zjg s (p.i:Int)=some c∧(c=(n:Int)↔p.r=n):=by
 obtain ⟨h1,h2,h3⟩:=zgk s.data.toList p hp
 have hsz:=zf5 s
 have hb:=zuo (s:=s) (a:=p.i) (i:=0) (by omega)
 rw [show (p.i:Int)+((0:Nat):Int)=(p.i:Int) by omega] at hb
 refine ⟨_,hb,?_⟩
 have hen:encodeRune ((n:Nat):Int)=[UInt8.ofNat n]:=by
  have:∀ n:Fin 128,encodeRune ((n.val:Nat):Int)=[UInt8.ofNat n.val]:=by decide +kernel
  exact this ⟨n,hn⟩
 cases hl:s.data.toList.drop p.i with
 | nil=>have:=congrArg List.length hl; rw [List.length_drop] at this; simp at this; omega
 | cons b l =>
  have hby:byI (b::l) 0=(b.toNat:Int):=rfl
  rw [hby]
  rw [hl] at h3
  constructor
  ·intro e
   have hbn:b=UInt8.ofNat n:=by
    have:b.toNat=n:=by omega
    rw [← this]; simp
   have hd:=zm7 n (by omega) l
   rw [hen] at hd
   have:[UInt8.ofNat n]++l=b::l:=by rw [hbn]; rfl
   rw [this,h3.eq] at hd
   exact (Prod.mk.inj hd).1
  ·intro e
   have hnb:¬ (p.r=65533∧p.w=1):=by omega
   have hby:=h3.bytes hnb
   rw [e,hen] at hby
   have hw:1≤p.w:=h3.pos
   obtain ⟨w,hw'⟩:∃ w,p.w=w+1:=⟨p.w - 1,by omega⟩
   rw [hw',List.take_succ_cons] at hby
   have:=(List.cons.inj hby).1
   rw [← this]
   have:(UInt8.ofNat n).toNat=n:=by simp; omega
   omega
end Go.Proofs.YtbempdelckaccaaGreatDoor

namespace Go.Proofs.YtbempdelckaccaaGreatDoor
open Go.RowKit Go.Lib
set_option linter.unusedVariables false
set_option linter.unusedSimpArgs false
def tkN (h:Int):Pc→List Pc→Nat
 | _,[]=>0
 | l,t::ts=>if zh0 h (l.r:Int) (pcG t)=true then tkN h t ts+1 else 0
def zrX (e:Int):List Pc→Int
 | []=>e
 | t::ts=>zrX ((t.i:Int)+(t.w:Int)) ts
def zp8 (c:Int):List Pc→Int
 | []=>c
 | t::ts=>zp8 (max c (zgY (pcG t))) ts
def zi8 (h:Int):Prop:=h=11∨h=4∨h=9
instance (h:Int):Decidable (zi8 h):=by unfold zi8; infer_instance
def nTk (x:Pc) (ts:List Pc):Nat :=
 if (x.r:Int)=13 then (match ts with | y::_=>if (y.r:Int)=10 then 1 else 0 | []=>0) else if zi8 (kdP (pcG x)) then 0 else tkN (kdP (pcG x)) x ts
theorem zo0 (h:Int) (l t:Pc) (ts:List Pc):tkN h l (t::ts)=if zh0 h (l.r:Int) (pcG t)=true then tkN h t ts+1 else 0:=rfl
theorem zs7 (h:Int):∀ (ts:List Pc) (l:Pc),tkN h l ts≤ts.length
 | [],_=>Nat.le_refl _
 | t::ts,l=>by
  unfold tkN
  have:=zs7 h ts t
  split
  ·rw [List.length_cons]; omega
  ·exact Nat.zero_le _
theorem zvJ (x:Pc) (ts:List Pc):nTk x ts≤ts.length:=by
 unfold nTk
 split
 ·cases ts with
  | nil=>exact Nat.le_refl _
  | cons y ts =>
   simp only
   split
   ·rw [List.length_cons]; omega
   ·exact Nat.zero_le _
 split
 ·exact Nat.zero_le _
 ·exact zs7 _ _ _
theorem zlJ {h:Int} (hs:zi8 h) (l:Int) (x:Gapi_Piece):zkl h l x=false:=by
 unfold zkl
 rcases hs with rfl | rfl | rfl <;> rfl
theorem zse {h:Int} (hs:¬ zi8 h) (l:Int) (x:Gapi_Piece):zkl h l x=zh0 h l x:=by
 unfold zkl
 unfold zi8 at hs
 rw [zth (by omega:h≠11),zth (by omega:h≠4),zth (by omega:h≠9)]; rfl
theorem zwA {p:Pc} (h:(p.r:Int)=13∨(p.r:Int)=10):kdP (pcG p)=4:=by
 have hb:p.broken=false:=by
  cases hb:p.broken with
  | false=>rfl
  | true=>have:=(zpz p).1 hb; omega
 rw [zuk hb]
 rcases h with h | h <;> rw [h] <;> decide
theorem zvN {h l:Int} {p:Pc} (hj:zh0 h l (pcG p)=true):(p.r:Int)≠13:=by
 intro e
 have hk:=zwA (p:=p) (.inl e)
 unfold zh0 at hj
 rw [hk] at hj
 have hr:(pcG p).Rune=(p.r:Int):=rfl
 rw [hr,e] at hj
 simp at hj
theorem zrD {h:Int} (hs:¬ zi8 h):∀ (ts:List Pc) (c:Gapi_Cell) (l:Pc),(l.r:Int)≠13 →
  zgq c h (l.r:Int) (ts.map pcG)=⟨c.Span_From,zrX c.Span_To (ts.take (tkN h l ts)),zp8 c.Columns (ts.take (tkN h l ts))⟩::zhg ((ts.drop (tkN h l ts)).map pcG)
 | [],c,l,_=>rfl
 | t::ts,c,l,hl=>by
  have hr:(pcG t).Rune=(t.r:Int):=rfl
  rw [List.map_cons,zfE,if_neg (fun e=>hl e.1),zse hs]
  unfold tkN
  by_cases hj:zh0 h (l.r:Int) (pcG t)=true
  ·rw [if_pos hj,if_pos hj,hr,zrD hs ts _ t (zvN hj)]
   rfl
  ·rw [if_neg hj,if_neg hj]; rfl
theorem zrE {h:Int} (hs:zi8 h) (ts:List Pc) (c:Gapi_Cell) (l:Int) (hl:l≠13):zgq c h l (ts.map pcG)=c::zhg (ts.map pcG):=by
 cases ts with
 | nil=>rfl
 | cons t ts =>
  rw [List.map_cons,zfE,if_neg (fun e=>hl e.1),zlJ hs,if_neg (by decide)]; rfl
theorem zrF (x:Pc) (ts:List Pc):zhg ((x::ts).map pcG) =
  ⟨x.i,zrX ((x.i:Int)+(x.w:Int)) (ts.take (nTk x ts)),zp8 (zgY (pcG x)) (ts.take (nTk x ts))⟩::zhg ((ts.drop (nTk x ts)).map pcG):=by
 show zgq ⟨x.i,(x.i:Int)+(x.w:Int),zgY (pcG x)⟩ (kdP (pcG x)) (x.r:Int) (ts.map pcG)=_
 unfold nTk
 by_cases h13:(x.r:Int)=13
 ·rw [if_pos h13]
  have hk:=zwA (p:=x) (.inl h13)
  have hst:zi8 (kdP (pcG x)):=by rw [hk]; exact .inr (.inl rfl)
  have hc0:∀ p:Pc,((p.r:Int)=13∨(p.r:Int)=10)→zgY (pcG p)=0:=by
   intro p hp
   unfold zgY
   rw [zwA hp]; rfl
  cases ts with
  | nil=>rfl
  | cons y ts =>
   simp only
   have hr:(pcG y).Rune=(y.r:Int):=rfl
   rw [List.map_cons,zfE,hr]
   by_cases h10:(y.r:Int)=10
   ·rw [if_pos ⟨h13,h10⟩,if_pos h10,zrE hst ts _ _ (by omega)]
    have e1:=hc0 x (.inl h13)
    have e2:=hc0 y (.inr h10)
    show (⟨(x.i:Int),(y.i:Int)+(y.w:Int),zgY (pcG x)⟩:Gapi_Cell)::_=⟨(x.i:Int),(y.i:Int)+(y.w:Int),max (zgY (pcG x)) (zgY (pcG y))⟩::_
    rw [e1,e2]; rfl
   ·rw [if_neg (fun e=>h10 e.2),if_neg h10,zlJ hst,if_neg (by decide)]; rfl
 ·rw [if_neg h13]
  by_cases hs:zi8 (kdP (pcG x))
  ·rw [if_pos hs,zrE hs ts _ _ h13]; rfl
  ·rw [if_neg hs,zrD hs ts _ x h13]
theorem zsr (h:Int) (l t:Pc):zh0 h (l.r:Int) (pcG t)=(decide (kdP (pcG t)=2)||(jnP t||(decide (h=10)&&(decide (kdP (pcG t)=10)&&jnP l)))):=by
 have hr:(pcG t).Rune=(t.r:Int):=rfl
 have hbr:(pcG t).Broken=t.broken:=rfl
 unfold zh0
 rw [hr,hbr]
 cases hb:t.broken with
 | true =>
  rw [zul hb]
  simp [jnP,hb]
 | false =>
  have hjn:jnP t=decide ((t.r:Int)=8205):=by unfold jnP; rw [hb]; rfl
  have hjl:jnP l=decide ((l.r:Int)=8205):=by
   unfold jnP
   cases hlb:l.broken with
   | false=>rfl
   | true =>
    have:=(zpz l).1 hlb
    rw [decide_eq_false (by omega)]; rfl
  rw [hjn,hjl]
  simp only [Bool.false_eq_true,if_false]
  by_cases h2:kdP (pcG t)=2
  ·rw [if_pos h2,decide_eq_true h2]; rfl
  rw [if_neg h2,decide_eq_false h2,Bool.false_or]
  by_cases hj:(t.r:Int)=8205
  ·rw [if_pos hj,decide_eq_true hj]; rfl
  rw [if_neg hj,decide_eq_false hj,Bool.false_or]
  by_cases hh:h=10
  ·rw [if_pos hh,decide_eq_true hh,Bool.true_and]
   by_cases h10:kdP (pcG t)=10
   ·rw [if_pos h10,decide_eq_true h10,Bool.true_and]
   ·rw [if_neg h10,decide_eq_false h10]; rfl
  ·rw [if_neg hh,decide_eq_false hh]; rfl
theorem zq7 (X:List Pc) (hX:X.length≤2147483646) (j2:Int→Option (List Gapi_Cell)) (q1:Gref05_Piece):∀ (ts pre:List Pc) (l:Pc) (m:Nat),X=pre++l::ts→ts.length<m →
  zaE (fun _=>none) (zcB (X.map p5) j2 q1) m ((pre.length:Int)+1)=j2 ((pre.length:Int)+1+(tkN q1.Kind l ts:Int))
 | [],pre,l,m,h,hm=>by
  obtain ⟨m,rfl⟩:∃ q,m=q+1:=⟨m - 1,by simp at hm; omega⟩
  rw [zb5]
  generalize zaE (fun _=>none) (zcB (X.map p5) j2 q1) m=ag
  unfold zcB
  refine zbs (zaw (decide_eq_false (by rw [List.length_map,h]; simp)) ?_)
  show j2 _=j2 ((pre.length:Int)+1+0)
  rw [Int.add_zero]
 | t::ts,pre,l,m,h,hm=>by
  obtain ⟨m,rfl⟩:∃ q,m=q+1:=⟨m - 1,by simp at hm; omega⟩
  have ih:=zq7 X hX j2 q1 ts (pre++[l]) t m (by rw [h]; simp) (by simp at hm; omega)
  rw [zb5]
  generalize zaE (fun _=>none) (zcB (X.map p5) j2 q1) m=ag at ih ⊢
  have hx:(X.map p5)[pre.length+1]?=some (p5 t):=by rw [List.getElem?_map,h]; simp
  have hg:=zcj hx
  have hlt:=zow hx
  rw [show ((pre.length+1:Nat):Int)=(pre.length:Int)+1 by omega] at hg hlt
  have hy:zbm (X.map p5) ((pre.length:Int)+1 - 1)=some (p5 l):=zdk (n:=pre.length) (by omega) (by rw [List.getElem?_map,h]; simp)
  have hxl:X.length=pre.length+(ts.length+2):=by rw [h]; simp
  have e0:(((pre++[l]).length:Nat):Int)+1=(pre.length:Int)+1+1:=by simp
  rw [e0] at ih
  have go:zh0 q1.Kind (l.r:Int) (pcG t)=true→(grd (I64 ((pre.length:Int)+1+1))<|ag ((pre.length:Int)+1+1))=j2 ((pre.length:Int)+1+(tkN q1.Kind l (t::ts):Int)):=by
   intro hj
   refine zbl ⟨by omega,by omega⟩ (ih.trans ?_)
   rw [zo0,if_pos hj]
   congr 1
   push_cast; omega
  have no:zh0 q1.Kind (l.r:Int) (pcG t)=false→j2 ((pre.length:Int)+1)=j2 ((pre.length:Int)+1+(tkN q1.Kind l (t::ts):Int)):=by
   intro hj
   rw [zo0,if_neg (by rw [hj]; decide)]
   show j2 _=j2 ((pre.length:Int)+1+0)
   rw [Int.add_zero]
  rw [zsr] at go no
  unfold zcB
  refine zbs (zaC hlt (zaJ hg ?_))
  have hK:(p5 t).Kind=kdP (pcG t):=rfl
  have hJ:(p5 t).Joiner=jnP t:=rfl
  have hJl:(p5 l).Joiner=jnP l:=rfl
  rw [hK,hJ]
  by_cases h2:kdP (pcG t)=2
  ·rw [decide_eq_true h2] at go
   exact zaC (zgt h2) (go rfl)
  rw [decide_eq_false h2,Bool.false_or] at go no
  refine zaw (zgD h2) ?_
  cases hj:jnP t with
  | true =>
   rw [hj] at go
   exact zaC rfl (go rfl)
  | false =>
   rw [hj,Bool.false_or] at go no
   refine zaw rfl ?_
   by_cases hh:q1.Kind=10
   ·rw [decide_eq_true hh,Bool.true_and] at go no
    refine zaC (zgt hh) ?_
    by_cases h10:kdP (pcG t)=10
    ·rw [decide_eq_true h10,Bool.true_and] at go no
     refine zaC (zgt h10) (zbl ⟨by omega,by omega⟩ (zaJ hy ?_))
     rw [hJl]
     cases hl:jnP l with
     | true=>rw [hl] at go; exact zaC rfl (go rfl)
     | false=>rw [hl] at no; exact zaw rfl (no rfl)
    ·rw [decide_eq_false h10] at no
     exact zaw (zgD h10) (no rfl)
   ·rw [decide_eq_false hh] at no
    exact zaw (zgD hh) (no rfl)
theorem ztj (X:List Pc) (hX:X.length≤2147483646) (k:Int) (j6:Int→Int→Int→Int→Option (List Gapi_Cell)) (q10 q11:Gref05_Piece) (rest:List Pc):∀ (seg pre:List Pc) (m:Nat) (c:Int),X=pre++(seg++rest)→k=(pre.length:Int)+(seg.length:Int)→seg.length<m →
  zaE (fun _ _=>none) (zcA (X.map p5) k j6 q10 q11) m (pre.length:Int) c=j6 k q10.Span_From q11.Span_To (zp8 c seg)
 | [],pre,m,c,h,hk,hm=>by
  obtain ⟨m,rfl⟩:∃ q,m=q+1:=⟨m - 1,by simp at hm; omega⟩
  rw [zb5]
  generalize zaE (fun _ _=>none) (zcA (X.map p5) k j6 q10 q11) m=ag
  unfold zcA
  have:k=(pre.length:Int):=by rw [hk]; simp
  refine zaw (decide_eq_false (by omega)) ?_
  rw [← this]; rfl
 | t::seg,pre,m,c,h,hk,hm=>by
  obtain ⟨m,rfl⟩:∃ q,m=q+1:=⟨m - 1,by simp at hm; omega⟩
  rw [List.length_cons] at hk hm
  have ih:=ztj X hX k j6 q10 q11 rest seg (pre++[t]) m (max c (zgY (pcG t))) (by rw [h]; simp) (by rw [hk,List.length_append]; simp; omega) (by omega)
  rw [zb5]
  generalize zaE (fun _ _=>none) (zcA (X.map p5) k j6 q10 q11) m=ag at ih ⊢
  have hx:(X.map p5)[pre.length]?=some (p5 t):=by rw [List.getElem?_map,h]; simp
  have hxl:X.length=pre.length+(seg.length+1+rest.length):=by rw [h]; simp; omega
  rw [show (((pre++[t]).length:Nat):Int)=(pre.length:Int)+1 by simp] at ih
  unfold zcA
  exact zaC (decide_eq_true (by omega)) (zaJ (zcj hx) (zbl ⟨by omega,by omega⟩ ih))
theorem zo9:∀ (seg pre:List Pc) (x:Pc),∃ z,(pre++x::seg)[pre.length+seg.length]?=some z∧(z.i:Int)+(z.w:Int)=zrX ((x.i:Int)+(x.w:Int)) seg
 | [],pre,x=>⟨x,by simp,rfl⟩
 | t::seg,pre,x=>by
  obtain ⟨z,h1,h2⟩:=zo9 seg (pre++[x]) t
  refine ⟨z,?_,h2⟩
  rw [← h1]
  congr 1
  ·simp
  ·simp; omega
theorem zye (x:Pc) (seg:List Pc):zp8 0 (x::seg)=zp8 (zgY (pcG x)) seg:=by
 have:=zoK (pcG x)
 show zp8 (max 0 (zgY (pcG x))) seg=_
 rw [show max 0 (zgY (pcG x))=zgY (pcG x) by omega]
theorem zwX (s:ByteArray) (hs:s.size≤2147483646) (j:List Gapi_Cell→Option (List Gapi_Cell)):∀ (d:Nat) (ts pre:List Pc) (m:Nat) (out:List Gapi_Cell),ts.length≤d→pcs s.data.toList=pre++ts→d<m→out.length≤pre.length →
  zaE (fun _ _=>none) (zcC s j ((pcs s.data.toList).map p5)) m out (pre.length:Int)=j (out++zhg (ts.map pcG)):=by
 obtain ⟨hX,hXl⟩:=zkA s hs
 have end_:∀ (pre:List Pc) (m:Nat) (out:List Gapi_Cell),pcs s.data.toList=pre→0<m→zaE (fun _ _=>none) (zcC s j ((pcs s.data.toList).map p5)) m out (pre.length:Int)=j (out++zhg (([]:List Pc).map pcG)):=by
  intro pre m out h hm
  obtain ⟨m,rfl⟩:∃ q,m=q+1:=⟨m - 1,by omega⟩
  rw [zb5]
  generalize zaE (fun _ _=>none) (zcC s j ((pcs s.data.toList).map p5)) m=ag
  unfold zcC
  refine zaw (decide_eq_false (by rw [List.length_map,h]; omega)) ?_
  show j out=j (out++[])
  rw [List.append_nil]
 intro d
 induction d with
 | zero =>
  intro ts pre m out hd h hm ho
  have:ts=[]:=List.length_eq_zero_iff.1 (by omega)
  subst this
  exact end_ pre m out (by simpa using h) (by omega)
 | succ d ih =>
  intro ts pre m out hd h hm ho
  cases ts with
  | nil=>exact end_ pre m out (by simpa using h) (by omega)
  | cons x ts =>
   obtain ⟨m,rfl⟩:∃ q,m=q+1:=⟨m - 1,by omega⟩
   rw [List.length_cons] at hd
   have hn:=zvJ x ts
   have hone:=zrF x ts
   have ih':=ih (ts.drop (nTk x ts)) (pre++x::ts.take (nTk x ts)) m (out++[⟨x.i,zrX ((x.i:Int)+(x.w:Int)) (ts.take (nTk x ts)),zp8 (zgY (pcG x)) (ts.take (nTk x ts))⟩]) (by rw [List.length_drop]; omega) (by rw [h]; simp) (by omega) (by simp; omega)
   rw [show (((pre++x::ts.take (nTk x ts)).length:Nat):Int)=(pre.length:Int)+1+(nTk x ts:Int) by rw [List.length_append,List.length_cons,List.length_take,Nat.min_eq_left hn]; omega,List.append_assoc] at ih'
   rw [hone]
   rw [zb5]
   generalize zaE (fun _ _=>none) (zcC s j ((pcs s.data.toList).map p5)) m=ag at ih' ⊢
   have hxl:(pcs s.data.toList).length=pre.length+(ts.length+1):=by rw [h]; simp
   have hx:((pcs s.data.toList).map p5)[pre.length]?=some (p5 x):=by rw [List.getElem?_map,h]; simp
   have hg:=zcj hx
   have hrest:∀ k:Int,k=(pre.length:Int)+1+(nTk x ts:Int)→(zbk (fun (j6:Int→Int→Int→Int→Option (List Gapi_Cell))=>zah (zbm ((pcs s.data.toList).map p5) (pre.length:Int)) fun (q10:Gref05_Piece)=>grd (I64 (k - 1))<|zah (zbm ((pcs s.data.toList).map p5) (k - 1)) fun (q11:Gref05_Piece) =>
     zaE (fun _ _=>none) (zcA ((pcs s.data.toList).map p5) k j6 q10 q11) zbN (pre.length:Int) 0) (fun (i4:Int) (c3:Int) (c4:Int) (c5:Int)=>grd (out.length+1≤2147483648)<|ag (out++[(⟨c3,c4,c5⟩:Gapi_Cell)]) i4)) =
     j (out++⟨x.i,zrX ((x.i:Int)+(x.w:Int)) (ts.take (nTk x ts)),zp8 (zgY (pcG x)) (ts.take (nTk x ts))⟩::zhg ((ts.drop (nTk x ts)).map pcG)):=by
    rintro k rfl
    obtain ⟨z,hz1,hz2⟩:=zo9 (ts.take (nTk x ts)) pre x
    have hz:((pcs s.data.toList).map p5)[pre.length+nTk x ts]?=some (p5 z):=by
     rw [List.getElem?_map]
     rw [List.length_take,Nat.min_eq_left hn] at hz1
     have:(pcs s.data.toList)[pre.length+nTk x ts]?=some z:=by
      rw [h,← hz1,show pre++x::ts=(pre++x::ts.take (nTk x ts))++ts.drop (nTk x ts) by simp]
      exact List.getElem?_append_left (by rw [List.length_append,List.length_cons,List.length_take,Nat.min_eq_left hn]; omega)
     rw [this]; rfl
    refine zbs (zaJ hg (zbl ⟨by omega,by omega⟩ (zaJ (zdk (n:=pre.length+nTk x ts) (by push_cast; omega) hz) ?_)))
    refine (ztj (pcs s.data.toList) (by omega) _ _ (p5 x) (p5 z) (ts.drop (nTk x ts)) (x::ts.take (nTk x ts)) pre zbN 0 (by rw [h]; simp) (by rw [List.length_cons,List.length_take,Nat.min_eq_left hn]; push_cast; omega) (by rw [List.length_cons,List.length_take,Nat.min_eq_left hn]; exact zbM (by omega))).trans ?_
    rw [zye]
    refine zbl (by omega) ?_
    have e1:(p5 x).Span_From=(x.i:Int):=rfl
    have e2:(p5 z).Span_To=zrX ((x.i:Int)+(x.w:Int)) (ts.take (nTk x ts)):=hz2
    rw [e1,e2]
    exact ih'
   obtain ⟨b,hb1,hb2⟩:=zlU s (p:=x) (by rw [h]; simp) 13 (by decide)
   have hK:(p5 x).Kind=kdP (pcG x):=rfl
   have hbx:zjg s (p5 x).Span_From=some b:=hb1
   have hno:(x.r:Int)≠13→∀ J:Int→Option (List Gapi_Cell),(∀ k:Int,k=(pre.length:Int)+1+(nTk x ts:Int)→J k=j (out++⟨x.i,zrX ((x.i:Int)+(x.w:Int)) (ts.take (nTk x ts)),zp8 (zgY (pcG x)) (ts.take (nTk x ts))⟩::zhg ((ts.drop (nTk x ts)).map pcG))) →
     zay (((p5 x).Kind:Int)==11) (J ((pre.length:Int)+1)) (zay (((p5 x).Kind:Int)==4) (J ((pre.length:Int)+1)) (zay (((p5 x).Kind:Int)==9) (J ((pre.length:Int)+1)) (zaE (fun _=>none) (zcB ((pcs s.data.toList).map p5) J (p5 x)) zbN ((pre.length:Int)+1)))) =
     j (out++⟨x.i,zrX ((x.i:Int)+(x.w:Int)) (ts.take (nTk x ts)),zp8 (zgY (pcG x)) (ts.take (nTk x ts))⟩::zhg ((ts.drop (nTk x ts)).map pcG)):=by
    intro h13 J hJ
    have hstop:zi8 (kdP (pcG x))→J ((pre.length:Int)+1)=j (out++⟨x.i,zrX ((x.i:Int)+(x.w:Int)) (ts.take (nTk x ts)),zp8 (zgY (pcG x)) (ts.take (nTk x ts))⟩::zhg ((ts.drop (nTk x ts)).map pcG)):=fun hs=>hJ _ (by
     have:nTk x ts=0:=by unfold nTk; rw [if_neg h13,if_pos hs]
     rw [this]; simp)
    rw [hK]
    by_cases k11:kdP (pcG x)=11
    ·exact zaC (zgt k11) (hstop (.inl k11))
    refine zaw (zgD k11) ?_
    by_cases k4:kdP (pcG x)=4
    ·exact zaC (zgt k4) (hstop (.inr (.inl k4)))
    refine zaw (zgD k4) ?_
    by_cases k9:kdP (pcG x)=9
    ·exact zaC (zgt k9) (hstop (.inr (.inr k9)))
    refine zaw (zgD k9) ?_
    have hns:¬ zi8 (kdP (pcG x)):=by unfold zi8; omega
    rw [zq7 (pcs s.data.toList) (by omega) J (p5 x) ts pre x zbN h (zbM (by omega))]
    refine hJ _ ?_
    unfold nTk
    rw [if_neg h13,if_neg hns]; rfl
   have hI:I64 ((pre.length:Int)+1):=⟨by omega,by omega⟩
   unfold zcC
   refine zaC (zow hx) (zbs (zbl hI (zaJ hg (zaJ hg (zaJ hbx ?_)))))
   by_cases h13:(x.r:Int)=13
   ·refine zaC (zgt (hb2.2 (by omega))) ?_
    have hk4:(p5 x).Kind=4:=zwA (.inl h13)
    cases ts with
    | nil =>
     have hn0:nTk x []=0:=by unfold nTk; rw [if_pos h13]
     refine zaw (decide_eq_false (by rw [List.length_map,hxl]; simp)) (zaw (by rw [hk4]; rfl) (zaC (by rw [hk4]; rfl) ?_))
     exact hrest _ (by rw [hn0]; simp)
    | cons y ts =>
     have hy:((pcs s.data.toList).map p5)[pre.length+1]?=some (p5 y):=by rw [List.getElem?_map,h]; simp
     have hgy:=zcj hy
     have hly:=zow hy
     rw [show ((pre.length+1:Nat):Int)=(pre.length:Int)+1 by omega] at hgy hly
     obtain ⟨b',hc1,hc2⟩:=zlU s (p:=y) (by rw [h]; simp) 10 (by decide)
     refine zaC hly (zaJ hgy (zaJ hc1 ?_))
     by_cases h10:(y.r:Int)=10
     ·have hn1:nTk x (y::ts)=1:=by unfold nTk; rw [if_pos h13]; simp only; rw [if_pos h10]
      rw [List.length_cons] at hxl
      refine zaC (zgt (hc2.2 (by omega))) (zbl ⟨by omega,by omega⟩ ?_)
      exact hrest _ (by rw [hn1]; simp)
     ·have hn0:nTk x (y::ts)=0:=by unfold nTk; rw [if_pos h13]; simp only; rw [if_neg h10]
      refine zaw (zgD (fun e=>h10 (by have:=hc2.1 e; omega))) (zaw (by rw [hk4]; rfl) (zaC (by rw [hk4]; rfl) ?_))
      exact hrest _ (by rw [hn0]; simp)
   ·refine zaw (zgD (fun e=>h13 (by have:=hb2.1 e; omega))) ?_
    exact hno h13 _ hrest
theorem zst (s:ByteArray) (hs:s.size≤2147483646):zfk s=some (zam s):=by
 obtain ⟨h1,h2⟩:=zkA s hs
 unfold zfk
 refine zbs (zaJ (zwY s hs) ?_)
 exact zwX s hs (fun out1=>some out1) _ (pcs s.data.toList) [] zbN [] (Nat.le_refl _) rfl (zbM (by omega)) (Nat.le_refl _)
end Go.Proofs.YtbempdelckaccaaGreatDoor

namespace Go.Proofs.YtbempdelckaccaaGreatDoor
open Go.RowKit Go.Lib
set_option linter.unusedVariables false
set_option linter.unusedSimpArgs false
def okC (s:ByteArray) (c:zet):Prop:=0≤c.Span_From∧c.Span_From<c.Span_To∧c.Span_To≤(s.size:Int)∧0≤c.Columns∧c.Columns≤2
theorem zk6 (s:ByteArray):∀ c∈zam s,okC s c:=(zeM s).mem
theorem zj5 (s:ByteArray) (hs:s.size≤100000) (c:zet) (hc:okC s c):zdr s c=some (spB s c):=by
 obtain ⟨h1,h2,h3,h4,h5⟩:=hc
 unfold zdr spB
 refine zbl ⟨by omega,by omega⟩ ?_
 by_cases h:c.Span_To=c.Span_From+1
 ·rw [if_pos h]
  obtain ⟨m,hm⟩:∃ m:Nat,c.Span_From=m:=⟨c.Span_From.toNat,by omega⟩
  have hg:=zmT hm (show m<s.size by omega)
  refine zaC (zgt (by omega)) (zaJ hg ?_)
  rw [hg]
  show some _=some _
  congr 1
 ·rw [if_neg h]; exact zaw (zgD (by omega)) rfl
theorem znn {α:Type} {l:List α} {k:Nat} (h:k<l.length):l.take (k+1)=l.take k++[l[k]]:=zgL (List.getElem?_eq_getElem h)
theorem zvB (s:ByteArray) (hs:s.size≤100000) (l:List zet) (hl:∀ c∈l,okC s c) (hn:l.length≤100000) (j:Int→Option Int):∀ (n m:Nat),n≤l.length→n<m→zaE (fun _=>none) (zcl s l j) m (n:Int)=j (eN (spB s) (l.take n):Int)
 | 0,m,h,hm=>by
  obtain ⟨m,rfl⟩:∃ q,m=q+1:=⟨m - 1,by omega⟩
  rw [zb5]
  generalize zaE (fun _=>none) (zcl s l j) m=ag
  unfold zcl
  exact zaw rfl rfl
 | n+1,m,h,hm=>by
  obtain ⟨m,rfl⟩:∃ q,m=q+1:=⟨m - 1,by omega⟩
  have ih:=zvB s hs l hl hn j n m (by omega) (by omega)
  rw [zb5]
  generalize zaE (fun _=>none) (zcl s l j) m=ag at ih ⊢
  have hx:l[n]?=some l[n]:=List.getElem?_eq_getElem (by omega)
  unfold zcl
  rw [znn (by omega),zhF]
  refine zaC (decide_eq_true (by omega)) (zbl ⟨by omega,by omega⟩ (zaJ (zdk (n:=n) (by omega) hx) (zaJ (zj5 s hs _ (hl _ (List.mem_of_getElem? hx))) ?_)))
  cases hsp:spB s l[n] with
  | true =>
   refine zaC rfl (zbl ⟨by omega,by omega⟩ ?_)
   rw [if_pos rfl,show ((n+1:Nat):Int) - 1=(n:Int) by omega]
   exact ih
  | false =>
   refine zaw rfl ?_
   rw [if_neg (by decide),List.length_take,Nat.min_eq_left (by omega)]
theorem zvA (l:List zet) (hl:∀ c∈l,0≤c.Columns∧c.Columns≤2) (n:Nat) (hn:n≤l.length) (hn2:l.length≤100000) (j:Int→Option Int):∀ (d k m:Nat),k+d=n→d<m→zaE (fun _ _=>none) (zck l (n:Int) j) m (zdH (l.take k)) (k:Int)=j (zdH (l.take n))
 | 0,k,m,h,hm=>by
  obtain ⟨m,rfl⟩:∃ q,m=q+1:=⟨m - 1,by omega⟩
  rw [zb5]
  generalize zaE (fun _ _=>none) (zck l (n:Int) j) m=ag
  unfold zck
  refine zaw (decide_eq_false (by omega)) ?_
  rw [show k=n by omega]
 | d+1,k,m,h,hm=>by
  obtain ⟨m,rfl⟩:∃ q,m=q+1:=⟨m - 1,by omega⟩
  have ih:=zvA l hl n hn hn2 j d (k+1) m (by omega) (by omega)
  rw [zb5]
  generalize zaE (fun _ _=>none) (zck l (n:Int) j) m=ag at ih ⊢
  have hx:l[k]?=some l[k]:=List.getElem?_eq_getElem (by omega)
  rw [znn (by omega),zhP,zma,show ((k+1:Nat):Int)=(k:Int)+1 by omega] at ih
  have h1:=zgV (l:=l.take k) fun c hc=>hl c (List.mem_of_mem_take hc)
  have h2:=hl _ (List.mem_of_getElem? hx)
  have h3:(l.take k).length≤100000:=by rw [List.length_take]; omega
  unfold zck
  exact zaC (decide_eq_true (by omega)) (zaJ (zcj hx) (zbl ⟨by omega,by omega⟩ (zbl ⟨by omega,by omega⟩ ih)))
theorem zpO (s:ByteArray) (hs:s.size≤100000) (l:List zet) (hl:∀ c∈l,okC s c) (hn:l.length≤100000):zc9 s l=some (zdH (l.take (eN (spB s) l))):=by
 unfold zc9
 refine zbs ((zvB s hs l hl hn _ l.length zbN (Nat.le_refl _) (zbM (by omega))).trans (zbs ?_))
 rw [List.take_length]
 exact zvA l (fun c hc=>(hl c hc).2.2.2) (eN (spB s) l) (zn1 _ _) hn _ (eN (spB s) l) 0 zbN (by omega) (zbM (by have:=zn1 (spB s) l; omega))
theorem ztZ (l:Gapi_Layout) (i:Int) (f:Nat) (h1:I64 (l.Width - i)) (h2:I64 (l.Width - l.Turn)):zfO l i ((f:Int)==0)=some (ze0 (max 1 (l.Width - i)) (l.Width - l.Turn) f):=by
 unfold zfO ze0
 by_cases h:f=0
 ·rw [if_pos h,zgt (by omega)]
  refine zaw rfl (zbl h1 ?_)
  by_cases h3:l.Width - i<1
  ·refine zaC (decide_eq_true h3) ?_
   rw [show max 1 (l.Width - i)=1 by omega]
  ·refine zaw (decide_eq_false h3) (zbl h1 ?_)
   rw [show max 1 (l.Width - i)=l.Width - i by omega]
 ·rw [if_neg h,zgD (by omega)]
  exact zaC rfl (zbl h2 rfl)
def zjQ (C:List zet) (f t:Nat):List zet:=(C.drop f).take (t - f)
theorem zpw (C:List zet) (f t:Nat) (h:f≤t):zjV C (f:Int) (t:Int)=zjQ C f t:=by
 unfold zjV zjQ
 rw [Int.toNat_natCast,Int.toNat_natCast]
theorem zmx (C:List zet) (f t:Nat) (h:t≤C.length):(zjQ C f t).length=t - f:=by
 unfold zjQ; rw [List.length_take,List.length_drop]; omega
theorem zqG (C:List zet) (f t k:Nat) (h:k<t - f):(zjQ C f t)[k]?=C[f+k]?:=by
 unfold zjQ; rw [List.getElem?_take,if_pos h,List.getElem?_drop]
theorem zqH (sp:zet→Bool) (C:List zet) (f:Nat):∀ (d:Nat),f+d≤C.length→eN sp (zjQ C f (f+d))=eN sp (C.take (f+d)) - f
 | 0,h=>by
  have:=zn1 sp (C.take f)
  rw [List.length_take] at this
  have e:zjQ C f (f+0)=[]:=by unfold zjQ; simp
  rw [e,ztt]
  show 0=eN sp (C.take f) - f
  omega
 | d+1,h=>by
  have ih:=zqH sp C f d (by omega)
  have hx:C[f+d]?=some C[f+d]:=List.getElem?_eq_getElem (by omega)
  have e:zjQ C f (f+(d+1))=zjQ C f (f+d)++[C[f+d]]:=by
   unfold zjQ
   rw [show f+(d+1) - f=d+1 by omega,show f+d - f=d by omega]
   exact zgL (by rw [List.getElem?_drop]; exact hx)
  have hl:=zmx C f (f+d) (by omega)
  rw [e,zhF,ih,show f+(d+1)=f+d+1 by omega,zgL hx,zhF]
  split
  ·rfl
  ·rw [hl,List.length_take]; omega
theorem ztU (C:List zet) (f t m:Nat) (hf:f≤C.length) (h:m≤t - f):zdH ((zjQ C f t).take m)=zdH (C.take (f+m)) - zdH (C.take f):=by
 have e:C.take (f+m)=C.take f++(zjQ C f t).take m:=by
  unfold zjQ
  rw [List.take_take,Nat.min_eq_left h,List.take_add]
 rw [e,zhP]; omega
theorem ztu (sp:zet→Bool) (k:Nat):∀ (l:List zet),(l.drop k).all sp=decide (eN sp l≤k):=by
 intro l
 rcases List.eq_nil_or_concat l with rfl | ⟨D,x,rfl⟩
 ·simp [ztt]
 ·rw [List.concat_eq_append,zhF]
  have ih:=ztu sp k D
  by_cases h:k≤D.length
  ·rw [List.drop_append_of_le_length h,List.all_append,ih]
   cases hx:sp x with
   | true=>rw [if_pos rfl]; simp [hx]
   | false=>rw [if_neg (by decide),decide_eq_false (show ¬ D.length+1≤k by omega)]; simp [hx]
  ·have h1:=zn1 sp (D++[x])
   rw [zhF,List.length_append] at h1
   simp only [List.length_cons,List.length_nil] at h1
   rw [List.drop_of_length_le (by simp; omega),decide_eq_true (by omega)]; rfl
termination_by l=>l.length
decreasing_by rename_i e; subst e; simp
theorem zqF {s:ByteArray} (f t:Nat):∀ c∈zjQ (zam s) f t,okC s c:=fun c hc=>zk6 s c (List.mem_of_mem_drop (List.mem_of_mem_take hc))
section
variable {s:ByteArray} (hs:s.size≤100000)
include hs
theorem zvz (f t:Nat) (hf:f<t) (ht:t≤(zam s).length):zc9 s (zjQ (zam s) f t)=some (zju (spB s) (zam s) f t):=by
 have hle:=zh3 hs
 have hl:=zmx (zam s) f t ht
 have he:=zqH (spB s) (zam s) f (t - f) (by omega)
 rw [show f+(t - f)=t by omega] at he
 have h2:=zn1 (spB s) ((zam s).take t)
 rw [List.length_take] at h2
 rw [zpO s hs _ (zqF f t) (by omega),he,ztU _ _ _ _ (by omega) (by omega)]
 unfold zju
 rw [show f+(eN (spB s) ((zam s).take t) - f)=max f (eN (spB s) ((zam s).take t)) by omega]
theorem zqM (l:List zet) (hl:∀ c∈l,okC s c) (hn:l.length≤100000):∀ (d k m:Nat),k+d=l.length→d<m→zaE (fun _=>none) (zc8 s l (some true)) m (k:Int)=some ((l.drop k).all (spB s))
 | 0,k,m,h,hm=>by
  obtain ⟨m,rfl⟩:∃ q,m=q+1:=⟨m - 1,by omega⟩
  rw [zb5]
  generalize zaE (fun _=>none) (zc8 s l (some true)) m=ag
  unfold zc8
  refine zaw (decide_eq_false (by omega)) ?_
  rw [List.drop_of_length_le (by omega)]; rfl
 | d+1,k,m,h,hm=>by
  obtain ⟨m,rfl⟩:∃ q,m=q+1:=⟨m - 1,by omega⟩
  have ih:=zqM l hl hn d (k+1) m (by omega) (by omega)
  rw [zb5]
  generalize zaE (fun _=>none) (zc8 s l (some true)) m=ag at ih ⊢
  have hx:l[k]?=some l[k]:=List.getElem?_eq_getElem (by omega)
  rw [show ((k+1:Nat):Int)=(k:Int)+1 by omega] at ih
  unfold zc8
  rw [List.drop_eq_getElem_cons (show k<l.length by omega),List.all_cons]
  refine zaC (decide_eq_true (by omega)) (zaJ (zcj hx) (zaJ (zj5 s hs _ (hl _ (List.mem_of_getElem? hx))) ?_))
  cases spB s l[k] with
  | true=>exact zaw rfl (zbl ⟨by omega,by omega⟩ ih)
  | false=>exact zaC rfl rfl
theorem zvs {a b:Int} (f t:Nat) (hf:f<t) (ht:t≤(zam s).length):zgg s (zjV (zam s) (f:Int) (t:Int)) (ze0 a b f) ((f:Int)==0)=some (znB (spB s) (zam s) a b f t):=by
 have hle:=zh3 hs
 rw [zpw _ _ _ (by omega)]
 have hl:=zmx (zam s) f t ht
 have hok:=zqF (s:=s) f t
 have hx:(zjQ (zam s) f t)[0]?=some (zam s)[f]:=by rw [zqG _ _ _ _ (by omega)]; exact List.getElem?_eq_getElem (by omega)
 have he:=zqH (spB s) (zam s) f (t - f) (by omega)
 rw [show f+(t - f)=t by omega] at he
 have hsp:zjB (spB s) (zam s) f=spB s (zam s)[f]:=by unfold zjB; rw [List.getElem?_eq_getElem (by omega)]
 unfold zgg znB
 have tail:(zah (zc9 s (zjQ (zam s) f t)) fun (r2:Int)=>zay (decide ((r2:Int)≤(ze0 a b f))) (some true) (zbk (fun (j2:Option Bool)=>zaE (fun _=>none) (zc8 s (zjQ (zam s) f t) j2) zbN 1) (some true)))=some (decide (zju (spB s) (zam s) f t≤ze0 a b f)||decide (eN (spB s) ((zam s).take t)≤f+1)):=by
  refine zaJ (zvz hs f t hf ht) ?_
  by_cases h:zju (spB s) (zam s) f t≤ze0 a b f
  ·rw [decide_eq_true h]; exact zaC rfl rfl
  ·rw [decide_eq_false h]
   refine zaw rfl (zbs ((zqM hs (zjQ (zam s) f t) hok (by omega) (t - f - 1) 1 zbN (by omega) (zbM (by omega))).trans ?_))
   rw [ztu,he,Bool.false_or]
   congr 1
   by_cases h2:eN (spB s) ((zam s).take t)≤f+1
   ·rw [decide_eq_true h2,decide_eq_true (by omega)]
   ·rw [decide_eq_false h2,decide_eq_false (by omega)]
 refine zbs (zaw (zgD (by omega)) ?_)
 by_cases h0:0<f
 ·rw [decide_eq_true h0,zgD (by omega:(f:Int)≠0),hsp]
  refine zaC rfl (zaJ (zdk (n:=0) rfl hx) (zaJ (zj5 s hs _ (zk6 s _ (List.getElem_mem _))) ?_))
  cases spB s (zam s)[f] with
  | true=>exact zaC rfl rfl
  | false=>exact zaw rfl tail
 ·rw [decide_eq_false h0,zgt (by omega:(f:Int)=0)]
  exact zaw rfl tail
theorem zt8 {a b:Int} (ha:0≤a∧a≤1000000) (hb:0≤b∧b≤1000000) (f t:Nat) (hf:f<t) (ht:t≤(zam s).length):zex s (zjV (zam s) (f:Int) (t:Int)) (ze0 a b f)=some (zn7 (spB s) (zam s) a b f t):=by
 have hle:=zh3 hs
 have h1:=zmF ha hb f
 have h2:=zna hs f t
 have h3:=zfT hs ha hb f t
 rw [zpw _ _ _ (by omega)]
 have hl:=zmx (zam s) f t ht
 have hx:(zjQ (zam s) f t)[t - f - 1]?=some (zam s)[t - 1]:=by
  rw [zqG _ _ _ _ (by omega),show f+(t - f - 1)=t - 1 by omega]; exact List.getElem?_eq_getElem (by omega)
 have hsp:zjB (spB s) (zam s) (t - 1)=spB s (zam s)[t - 1]:=by unfold zjB; rw [List.getElem?_eq_getElem (by omega)]
 unfold zex
 refine zbs (zaJ (zvz hs f t hf ht) (zbl ⟨by omega,by omega⟩ ?_))
 have tail:∀ n:Int,0≤n→n≤2000000000000→zbk (fun (j2:Int→Option Int)=>grd (I64 (((zjQ (zam s) f t).length:Int) - 1))<|zah (zbm (zjQ (zam s) f t) (((zjQ (zam s) f t).length:Int) - 1)) fun (q1:Gapi_Cell)=>zah (zdr s q1) fun (r2:Bool)=>zay (!r2) (grd (I64 (n+1000))<|j2 (n+1000)) (j2 n)) (fun (n2:Int)=>some n2)=some (n+(if zjB (spB s) (zam s) (t - 1) then 0 else 1000)):=by
  intro n hn1 hn2
  refine zbs (zbl ⟨by omega,by omega⟩ (zaJ (zdk (n:=t - f - 1) (by omega) hx) (zaJ (zj5 s hs _ (zk6 s _ (List.getElem_mem _))) ?_)))
  rw [hsp]
  cases spB s (zam s)[t - 1] with
  | true=>exact zaw rfl (congrArg some (Int.add_zero n).symm)
  | false=>exact zaC rfl (zbl ⟨by omega,by omega⟩ rfl)
 unfold zn7 at h3 ⊢
 have hq:(if zjB (spB s) (zam s) (t - 1) then (0:Int) else 1000)≤1000∧0≤(if zjB (spB s) (zam s) (t - 1) then (0:Int) else 1000):=by split <;> omega
 by_cases h:0<ze0 a b f - zju (spB s) (zam s) f t
 ·rw [if_pos h] at h3 ⊢
  have hm:0≤(ze0 a b f - zju (spB s) (zam s) f t)*(ze0 a b f - zju (spB s) (zam s) f t):=Int.mul_nonneg (by omega) (by omega)
  refine zaC (decide_eq_true h) (zbl ⟨by omega,by omega⟩ (tail _ hm (by omega)))
 ·rw [if_neg h]
  exact zaw (decide_eq_false h) (tail 0 (by omega) (by omega))
end
end Go.Proofs.YtbempdelckaccaaGreatDoor

namespace Go.Proofs.YtbempdelckaccaaGreatDoor
open Go.RowKit Go.Lib
set_option linter.unusedVariables false
set_option linter.unusedSimpArgs false
def opB (a b:Bst):Bst:=if b.rows<0 then a else if a.rows<0∨b.cost<a.cost∨(b.cost=a.cost∧b.rows≤a.rows) then b else a
theorem zq1 (x y z:Bst) (hy:0≤y.rows):opB (opB x y) z=opB x (opB y z):=by
 unfold opB
 repeat' split
 all_goals first | rfl | omega
section
variable {R:Nat→Nat→Bool} {K:Nat→Nat→Int} {n:Nat}
def zuL (x:Bst):Option Bst→Bst
 | none=>x
 | some y=>opB y x
def zhk (R:Nat→Nat→Bool) (K:Nat→Nat→Int) (n:Nat) (T:Nat→Bst) (f:Nat):Nat→Nat→Bst
 | 0,_=>bm
 | d+1,t=>zuL (zhk R K n T f d (t+1)) (zfv R K n T f t)
theorem znV {T:Nat→Bst} {f:Nat} (hT:∀ t y,zfv R K n T f t=some y→0≤y.rows):∀ (d t:Nat) (x:Bst),zeA R K n T f d t x=opB x (zhk R K n T f d t)
 | 0,t,x=>by
  show x=opB x bm
  unfold opB
  rw [if_pos (show bm.rows<0 by decide)]
 | d+1,t,x=>by
  have ih:=znV hT d (t+1)
  unfold zeA zhk
  rw [ih]
  cases hc:zfv R K n T f t with
  | none=>rfl
  | some y =>
   have hy:=hT t y hc
   show opB (zoj x (some y)) _=opB x (opB y _)
   rw [← zq1 _ _ _ hy]
   have e:zoj x (some y)=opB x y:=by
    rw [zgJ]
    unfold opB
    rw [if_neg (show ¬ y.rows<0 by omega)]
   rw [e]
theorem zl1 {T:Nat→Bst} {f:Nat} (hT:∀ t y,zfv R K n T f t=some y→0≤y.rows):∀ (d t:Nat),zhk R K n T f d t=bm∨0≤(zhk R K n T f d t).rows
 | 0,t=>.inl rfl
 | d+1,t=>by
  have ih:=zl1 hT d (t+1)
  unfold zhk
  cases hc:zfv R K n T f t with
  | none=>exact ih
  | some y =>
   have hy:=hT t y hc
   refine .inr ?_
   show 0≤(opB y _).rows
   unfold opB
   split
   ·exact hy
   ·split
    ·omega
    ·exact hy
theorem zrf {T:Nat→Bst} {f:Nat} (hT:∀ t y,zfv R K n T f t=some y→0≤y.rows) (d t:Nat):zeA R K n T f d t bm=zhk R K n T f d t:=by
 rw [znV hT]
 rcases zl1 hT d t with h | h
 ·rw [h]; rfl
 ·unfold opB
  rw [if_neg (by omega),if_pos (.inl (by decide))]
theorem zrT:∀ (k:Nat),Bf R K n k n=b0
 | 0=>rfl
 | k+1=>by rw [zfu,if_neg (by omega)]; exact zrT k
end
def tC (T:Nat→Bst) (n:Nat):List Int:=(zff T n).map (·.cost)
def tR (T:Nat→Bst) (n:Nat):List Int:=(zff T n).map (·.rows)
def tN (T:Nat→Bst) (n:Nat):List Int:=(zff T n).map (·.to_)
theorem zno (g:Bst→Int) (T:Nat→Bst) (n k:Nat) (h:k≤n):((zff T n).map g)[k]?=some (g (T k)):=by rw [List.getElem?_map,zeF T n k h]; rfl
theorem zwv (g:Bst→Int) (T:Nat→Bst) (n f k:Nat) (x:Int) (h:k≤n) (hne:f≠k):zbm (((zff T n).map g).set f x) (k:Int)=some (g (T k)):=zcj (by rw [List.getElem?_set_ne hne]; exact zno g T n k h)
theorem zuV (g:Bst→Int) (T:Nat→Bst) (n f:Nat) (x:Int) (h:f≤n):zbm (((zff T n).map g).set f x) (f:Int)=some x:=zcj (by rw [List.getElem?_set_self (by rw [List.length_map,zgw]; omega)])
section
variable {s:ByteArray} {a b:Int} (hs:s.size≤100000) (ha:0≤a∧a≤1000000) (hb:0≤b∧b≤1000000)
include hs ha hb
theorem zwS (k f:Nat) (hf:f<(zam s).length) (hk:k≤100000) (j2:List Int→List Int→List Int→Option ((List ByteArray)×Int)) :
  ∀ (e t m:Nat) (x:Bst),t=f+e→t≤(zam s).length→e<m→x=zhk (Rs s a b) (Ks s a b) (zam s).length (Bf (Rs s a b) (Ks s a b) (zam s).length k) f ((zam s).length - t) (t+1) →
  zaE (fun _ _ _ _=>none) (zcY s (zam s) (f:Int) j2 (ze0 a b f)) m ((tC (Bf (Rs s a b) (Ks s a b) (zam s).length k) (zam s).length).set f x.cost) ((tR (Bf (Rs s a b) (Ks s a b) (zam s).length k) (zam s).length).set f x.rows) ((tN (Bf (Rs s a b) (Ks s a b) (zam s).length k) (zam s).length).set f x.to_) (t:Int) =
  (let y:=zhk (Rs s a b) (Ks s a b) (zam s).length (Bf (Rs s a b) (Ks s a b) (zam s).length k) f ((zam s).length - f) (f+1); j2 ((tC (Bf (Rs s a b) (Ks s a b) (zam s).length k) (zam s).length).set f y.cost) ((tR (Bf (Rs s a b) (Ks s a b) (zam s).length k) (zam s).length).set f y.rows) ((tN (Bf (Rs s a b) (Ks s a b) (zam s).length k) (zam s).length).set f y.to_)):=by
 have hle:=zh3 hs
 have hK:=zfT hs ha hb
 have hok:=zjX (R:=Rs s a b) (K:=Ks s a b) (n:=(zam s).length) hK k
 have hTn:=zrT (R:=Rs s a b) (K:=Ks s a b) (n:=(zam s).length) k
 intro e
 induction e with
 | zero =>
  intro t m x ht htn hm hx
  obtain ⟨m,rfl⟩:∃ q,m=q+1:=⟨m - 1,by omega⟩
  rw [zb5]
  generalize zaE (fun _ _ _ _=>none) (zcY s (zam s) (f:Int) j2 (ze0 a b f)) m=ag
  have:t=f:=by omega
  subst this; subst hx
  unfold zcY
  exact zaw (decide_eq_false (by omega)) rfl
 | succ e ih =>
  intro t m x ht htn hm hx
  obtain ⟨m,rfl⟩:∃ q,m=q+1:=⟨m - 1,by omega⟩
  have ih':=fun y=>ih (t - 1) m y (by omega) (by omega) (by omega)
  rw [zb5]
  rw [show (zam s).length - (t - 1)=(zam s).length - t+1 by omega,show t - 1+1=t by omega] at ih'
  rw [show ((t - 1:Nat):Int)=(t:Int) - 1 by omega] at ih'
  generalize zaE (fun _ _ _ _=>none) (zcY s (zam s) (f:Int) j2 (ze0 a b f)) m=ag at ih' ⊢
  have hstep:zhk (Rs s a b) (Ks s a b) (zam s).length (Bf (Rs s a b) (Ks s a b) (zam s).length k) f ((zam s).length - t+1) t=zuL x (zfv (Rs s a b) (Ks s a b) (zam s).length (Bf (Rs s a b) (Ks s a b) (zam s).length k) f t):=by rw [hx]; rfl
  rw [hstep] at ih'
  have hcnd:zfv (Rs s a b) (Ks s a b) (zam s).length (Bf (Rs s a b) (Ks s a b) (zam s).length k) f t=if znB (spB s) (zam s) a b f t=true then (if t<(zam s).length then (if (Bf (Rs s a b) (Ks s a b) (zam s).length k t).rows<0 then none else some ⟨Ks s a b f t+(Bf (Rs s a b) (Ks s a b) (zam s).length k t).cost,(Bf (Rs s a b) (Ks s a b) (zam s).length k t).rows+1,(t:Int)⟩) else some ⟨0,1,(t:Int)⟩) else none:=rfl
  generalize hT:Bf (Rs s a b) (Ks s a b) (zam s).length k=T at *
  generalize zhk (Rs s a b) (Ks s a b) (zam s).length T f ((zam s).length - f) (f+1)=yy at ih' ⊢
  clear hstep hx
  have gRt:=fun x=>zwv (·.rows) T (zam s).length f t x htn (by omega)
  have gCt:=fun x=>zwv (·.cost) T (zam s).length f t x htn (by omega)
  have gRf:=fun x=>zuV (·.rows) T (zam s).length f x (by omega)
  have gCf:=fun x=>zuV (·.cost) T (zam s).length f x (by omega)
  have gNf:=fun x=>zuV (·.to_) T (zam s).length f x (by omega)
  have hnext:∀ y:Bst,y=zuL x (zfv (Rs s a b) (Ks s a b) (zam s).length T f t)→(grd (I64 ((t:Int) - 1))<|ag ((tC T (zam s).length).set f y.cost) ((tR T (zam s).length).set f y.rows) ((tN T (zam s).length).set f y.to_) ((t:Int) - 1))=j2 ((tC T (zam s).length).set f yy.cost) ((tR T (zam s).length).set f yy.rows) ((tN T (zam s).length).set f yy.to_):=fun y hy=>zbl ⟨by omega,by omega⟩ (ih' y hy)
  obtain ⟨o1,o2,o3,o4⟩:=hok t
  have hk2:=hK f t
  have hI:I64 ((T t).rows+1):=⟨by omega,by omega⟩
  have hsets:∀ (L:List Int) (u v:Int),(L.set f u).set ((f:Int).toNat) v=L.set f v:=fun L u v=>by rw [Int.toNat_natCast,List.set_set]
  unfold zcY
  refine zaC (decide_eq_true (by omega)) (zbs (zbl ⟨by omega,by omega,by omega⟩ (zaJ (zvs hs f t (by omega) htn) ?_)))
  cases hR:znB (spB s) (zam s) a b f t with
  | false=>exact zaC rfl (hnext x (by rw [hcnd,hR,if_neg (by decide)]; rfl))
  | true =>
   rw [hR,if_pos rfl] at hcnd
   refine zaw rfl (zaJ (gRt _) ?_)
   by_cases hn:(T t).rows<0
   ·refine zaC (decide_eq_true hn) (hnext x ?_)
    have htn2:t<(zam s).length:=by
     rcases Nat.lt_or_ge t (zam s).length with h | h
     ·exact h
     ·have e:t=(zam s).length:=by omega
      rw [e,hTn] at hn; exact absurd hn (by decide)
    rw [hcnd,if_pos htn2,if_pos hn]; rfl
   refine zaw (decide_eq_false hn) ?_
   have hy:∃ y:Bst,zfv (Rs s a b) (Ks s a b) (zam s).length T f t=some y∧y.rows=(T t).rows+1∧y.to_=(t:Int)∧y.cost=(if t<(zam s).length then (T t).cost+Ks s a b f t else (T t).cost):=by
    by_cases htn2:t<(zam s).length
    ·rw [if_pos htn2] at hcnd ⊢
     rw [if_neg hn] at hcnd
     exact ⟨_,hcnd,rfl,rfl,Int.add_comm _ _⟩
    ·rw [if_neg htn2] at hcnd ⊢
     have e:t=(zam s).length:=by omega
     refine ⟨_,hcnd,?_,rfl,?_⟩ <;> rw [e,hTn] <;> rfl
   obtain ⟨y,hc,y1,y2,y3⟩:=hy
   rw [hc] at hnext
   have main:∀ c1:Int,c1=y.cost→(zah (zbm ((tR T (zam s).length).set f x.rows) (f:Int)) fun (q4:Int)=>zay (decide ((q4:Int)<0)) (zah (zbm ((tR T (zam s).length).set f x.rows) (t:Int)) fun (q5:Int)=>grd (I64 (q5+1))<|zah (zbm ((tC T (zam s).length).set f x.cost) (f:Int)) fun (q6:Int)=>zah (zbm ((tR T (zam s).length).set f x.rows) (f:Int)) fun (q7:Int)=>zah (zbm ((tN T (zam s).length).set f x.to_) (f:Int)) fun (q8:Int) =>
      grd (I64 ((t:Int) - 1))<|ag (((tC T (zam s).length).set f x.cost).set (f:Int).toNat c1) (((tR T (zam s).length).set f x.rows).set (f:Int).toNat (q5+1)) (((tN T (zam s).length).set f x.to_).set (f:Int).toNat (t:Int)) ((t:Int) - 1))
     (zah (zbm ((tC T (zam s).length).set f x.cost) (f:Int)) fun (q9:Int)=>zay (decide ((c1:Int)<q9)) (zah (zbm ((tR T (zam s).length).set f x.rows) (t:Int)) fun (q10:Int)=>grd (I64 (q10+1))<|zah (zbm ((tC T (zam s).length).set f x.cost) (f:Int)) fun (q11:Int)=>zah (zbm ((tR T (zam s).length).set f x.rows) (f:Int)) fun (q12:Int)=>zah (zbm ((tN T (zam s).length).set f x.to_) (f:Int)) fun (q13:Int) =>
      grd (I64 ((t:Int) - 1))<|ag (((tC T (zam s).length).set f x.cost).set (f:Int).toNat c1) (((tR T (zam s).length).set f x.rows).set (f:Int).toNat (q10+1)) (((tN T (zam s).length).set f x.to_).set (f:Int).toNat (t:Int)) ((t:Int) - 1))
     (zay ((c1:Int)==q9) (zah (zbm ((tR T (zam s).length).set f x.rows) (t:Int)) fun (q14:Int)=>grd (I64 (q14+1))<|zay (decide (((q14+1):Int)<q4)) (zah (zbm ((tR T (zam s).length).set f x.rows) (t:Int)) fun (q15:Int)=>grd (I64 (q15+1))<|zah (zbm ((tC T (zam s).length).set f x.cost) (f:Int)) fun (q16:Int)=>zah (zbm ((tR T (zam s).length).set f x.rows) (f:Int)) fun (q17:Int)=>zah (zbm ((tN T (zam s).length).set f x.to_) (f:Int)) fun (q18:Int) =>
      grd (I64 ((t:Int) - 1))<|ag (((tC T (zam s).length).set f x.cost).set (f:Int).toNat c1) (((tR T (zam s).length).set f x.rows).set (f:Int).toNat (q15+1)) (((tN T (zam s).length).set f x.to_).set (f:Int).toNat (t:Int)) ((t:Int) - 1))
      (grd (I64 ((t:Int) - 1))<|ag ((tC T (zam s).length).set f x.cost) ((tR T (zam s).length).set f x.rows) ((tN T (zam s).length).set f x.to_) ((t:Int) - 1)))
      (grd (I64 ((t:Int) - 1))<|ag ((tC T (zam s).length).set f x.cost) ((tR T (zam s).length).set f x.rows) ((tN T (zam s).length).set f x.to_) ((t:Int) - 1)))))=j2 ((tC T (zam s).length).set f yy.cost) ((tR T (zam s).length).set f yy.rows) ((tN T (zam s).length).set f yy.to_):=by
    rintro c1 rfl
    have hput:(grd (I64 ((t:Int) - 1))<|ag (((tC T (zam s).length).set f x.cost).set (f:Int).toNat y.cost) (((tR T (zam s).length).set f x.rows).set (f:Int).toNat ((T t).rows+1)) (((tN T (zam s).length).set f x.to_).set (f:Int).toNat (t:Int)) ((t:Int) - 1))=(grd (I64 ((t:Int) - 1))<|ag ((tC T (zam s).length).set f y.cost) ((tR T (zam s).length).set f y.rows) ((tN T (zam s).length).set f y.to_) ((t:Int) - 1)):=by
     rw [hsets,hsets,hsets,y1,y2]
    have hadd:zuL x (some y)=opB y x:=rfl
    rw [hadd] at hnext
    unfold opB at hnext
    refine zaJ (gRf _) ?_
    by_cases h1:x.rows<0
    ·rw [if_pos h1] at hnext
     exact zaC (decide_eq_true h1) (zaJ (gRt _) (zbl hI (zaJ (gCf _) (zaJ (gRf _) (zaJ (gNf _) (hput.trans (hnext y rfl)))))))
    rw [if_neg h1] at hnext
    refine zaw (decide_eq_false h1) (zaJ (gCf _) ?_)
    by_cases h2:y.cost<x.cost
    ·rw [if_neg (by omega)] at hnext
     exact zaC (decide_eq_true h2) (zaJ (gRt _) (zbl hI (zaJ (gCf _) (zaJ (gRf _) (zaJ (gNf _) (hput.trans (hnext y rfl)))))))
    refine zaw (decide_eq_false h2) ?_
    by_cases h3:y.cost=x.cost
    ·refine zaC (zgt h3) (zaJ (gRt _) (zbl hI ?_))
     by_cases h4:(T t).rows+1<x.rows
     ·rw [if_neg (by omega)] at hnext
      exact zaC (decide_eq_true h4) (zaJ (gRt _) (zbl hI (zaJ (gCf _) (zaJ (gRf _) (zaJ (gNf _) (hput.trans (hnext y rfl)))))))
     ·rw [if_pos (by omega)] at hnext
      exact zaw (decide_eq_false h4) (hnext x rfl)
    ·rw [if_pos (by omega)] at hnext
     exact zaw (zgD h3) (hnext x rfl)
   refine zbs (zaJ (gCt _) ?_)
   by_cases htn2:t<(zam s).length
   ·rw [if_pos htn2] at y3
    have hk3:0≤Ks s a b f t∧Ks s a b f t≤2000000000000:=hk2
    refine zaC (decide_eq_true (by omega)) (zbl ⟨by omega,by omega,by omega⟩ (zaJ (zt8 hs ha hb f t (by omega) htn) (zbl ⟨?_,?_⟩ (main _ y3.symm))))
    ·show -9223372036854775808≤(T t).cost+Ks s a b f t; omega
    ·show (T t).cost+Ks s a b f t≤9223372036854775807; omega
   ·rw [if_neg htn2] at y3
    exact zaw (decide_eq_false (by omega)) (main _ y3.symm)
end
end Go.Proofs.YtbempdelckaccaaGreatDoor

namespace Go.Proofs.YtbempdelckaccaaGreatDoor
open Go.RowKit Go.Lib
set_option linter.unusedVariables false
set_option linter.unusedSimpArgs false
section
variable {R:Nat→Nat→Bool} {K:Nat→Nat→Int} {n:Nat} (hK:∀ f t,0≤K f t∧K f t≤2000000000000) (h1:∀ f,f<n→R f (f+1)=true)
include hK h1
theorem zlh:∀ (k t:Nat),n≤t+k→t≤n→0≤(Bf R K n k t).rows
 | 0,t,_,_=>Int.le_refl _
 | k+1,t,h,ht=>by
  rw [zfu]
  split
  ·rename_i he
   have hl:=(zmU (R:=R) (K:=K) (n:=n) (T:=Bf R K n k) (f:=t) (fun t y h=>(zhb hK (zjX hK k) h).2) (n - t) (t+1) bm).2
   have hf:=zlh k (t+1) (by omega)
   by_cases hn:t+1<n
   ·have hc:zfv R K n (Bf R K n k) t (t+1)=some ⟨K t (t+1)+(Bf R K n k (t+1)).cost,(Bf R K n k (t+1)).rows+1,((t+1:Nat):Int)⟩:=by
     unfold zfv
     have:=hf (by omega)
     rw [if_pos (h1 t (by omega)),if_pos hn,if_neg (by omega)]
    exact (hl (t+1) _ (Nat.le_refl _) (by omega) hc).1
   ·have hc:zfv R K n (Bf R K n k) t (t+1)=some ⟨0,1,((t+1:Nat):Int)⟩:=by
     unfold zfv
     rw [if_pos (h1 t (by omega)),if_neg hn]
    exact (hl (t+1) _ (Nat.le_refl _) (by omega) hc).1
  ·exact zlh k t (by omega) ht
theorem zuR (t:Nat) (ht:t≤n):0≤(BB R K n t).rows:=zlh hK h1 n t (by omega) ht
theorem zoX {f:Nat} (hf:f<n):∃ t:Nat,(BB R K n f).to_=(t:Int)∧f<t∧t≤n∧R f t=true:=by
 obtain ⟨t,h2,h3,h4,h5,_⟩:=zwq (R:=R) (K:=K) hK hf (zuR hK h1 f (by omega))
 exact ⟨t,h2,h3,h4,h5⟩
end
def znZ (T:Nat→Bst) (n:Nat):Nat→Nat→List Nat
 | 0,_=>[]
 | m+1,f=>if f<n then (T f).to_.toNat::znZ T n m (T f).to_.toNat else []
def zoU (R:Nat→Nat→Bool) (n:Nat):Nat→List Nat→Prop
 | f,[]=>f=n
 | f,t::ts=>f<t∧t≤n∧R f t=true∧zoU R n t ts
theorem zjp {R:Nat→Nat→Bool} {K:Nat→Nat→Int} {n:Nat} (hK:∀ f t,0≤K f t∧K f t≤2000000000000) (h1:∀ f,f<n→R f (f+1)=true):∀ (m f:Nat),f≤n→n≤f+m→zoU R n f (znZ (BB R K n) n m f)
 | 0,f,hf,hm=>show f=n by omega
 | m+1,f,hf,hm=>by
  unfold znZ
  split
  ·rename_i h
   obtain ⟨t,h2,h3,h4,h5⟩:=zoX hK h1 h
   rw [h2,Int.toNat_natCast]
   exact ⟨h3,h4,h5,zjp hK h1 m t h4 (by omega)⟩
  ·show f=n; omega
end Go.Proofs.YtbempdelckaccaaGreatDoor

namespace Go.Proofs.YtbempdelckaccaaGreatDoor
open Go.RowKit Go.Lib
set_option linter.unusedVariables false
set_option linter.unusedSimpArgs false
theorem zlM (g:Bst→Int) {T T':Nat→Bst} {n f:Nat} (hf:f≤n) (h1:∀ j,j≠f→T' j=T j):((zff T n).map g).set f (g (T' f))=(zff T' n).map g:=by
 rw [← zmq hf h1,List.map_set]
theorem zo3 (g:Bst→Int) {T:Nat→Bst} {n f:Nat} (hf:f≤n) {v:Int} (h:v=g (T f)):((zff T n).map g).set f v=(zff T n).map g:=by
 subst h; exact zsg (zno g T n f hf)
theorem zqr (R:Nat→Nat→Bool) (K:Nat→Nat→Int) (n:Nat):zff (Bf R K n 0) n=List.replicate (n+1) b0:=by
 apply List.ext_getElem?
 intro j
 by_cases hj:j≤n
 ·rw [zeF _ _ j hj,List.getElem?_replicate,if_pos (by omega)]; rfl
 ·rw [List.getElem?_eq_none (by rw [zgw]; omega),List.getElem?_eq_none (by rw [List.length_replicate]; omega)]
section
variable {s:ByteArray} {a b:Int} (hs:s.size≤100000) (ha:0≤a∧a≤1000000) (hb:0≤b∧b≤1000000)
include hs ha hb
theorem zvq (i:Int) (l:Gapi_Layout) (hI:I64 (l.Width - i)) (hI2:I64 (l.Width - l.Turn)) (ea:a=max 1 (l.Width - i)) (eb:b=l.Width - l.Turn) (j1:List Gapi_Cell→Int→List Int→List Int→Option ((List ByteArray)×Int)):∀ (d k m:Nat),k+d=(zam s).length→d<m →
  zaE (fun _ _ _ _=>none) (zcZ s i l j1 (zam s)) m (tC (Bf (Rs s a b) (Ks s a b) (zam s).length k) (zam s).length) (tR (Bf (Rs s a b) (Ks s a b) (zam s).length k) (zam s).length) (tN (Bf (Rs s a b) (Ks s a b) (zam s).length k) (zam s).length) (((zam s).length:Int) - 1 - (k:Int)) =
  j1 (zam s) ((zam s).length:Int) (tC (TT s a b) (zam s).length) (tN (TT s a b) (zam s).length):=by
 have hle:=zh3 hs
 have hK:=zfT hs ha hb
 intro d
 induction d with
 | zero =>
  intro k m hk hm
  obtain ⟨m,rfl⟩:∃ q,m=q+1:=⟨m - 1,by omega⟩
  rw [zb5]
  generalize zaE (fun _ _ _ _=>none) (zcZ s i l j1 (zam s)) m=ag
  unfold zcZ
  refine zaw (decide_eq_false (by omega)) ?_
  rw [show k=(zam s).length by omega]; rfl
 | succ d ih =>
  intro k m hk hm
  obtain ⟨m,rfl⟩:∃ q,m=q+1:=⟨m - 1,by omega⟩
  have ih':=ih (k+1) m (by omega) (by omega)
  rw [zb5]
  generalize zaE (fun _ _ _ _=>none) (zcZ s i l j1 (zam s)) m=ag at ih' ⊢
  obtain ⟨f,hf⟩:∃ f:Nat,f+(k+1)=(zam s).length:=⟨d,by omega⟩
  rw [show ((zam s).length:Int) - 1 - (k:Int)=(f:Int) by omega]
  rw [show ((zam s).length:Int) - 1 - ((k+1:Nat):Int)=(f:Int) - 1 by omega] at ih'
  have hb0:Bf (Rs s a b) (Ks s a b) (zam s).length k f=b0:=zrS k f (by omega)
  have hcand:∀ t y,zfv (Rs s a b) (Ks s a b) (zam s).length (Bf (Rs s a b) (Ks s a b) (zam s).length k) f t=some y→0≤y.rows:=fun t y h=>(zhb hK (zjX hK k) h).2
  have hfold:=zrf (R:=Rs s a b) (K:=Ks s a b) (n:=(zam s).length) hcand ((zam s).length - f) (f+1)
  have hin:=zwS hs ha hb k f (by omega) (by omega) (fun (cost5:List Int) (rows4:List Int) (next5:List Int)=>grd (I64 ((f:Int) - 1))<|ag cost5 rows4 next5 ((f:Int) - 1)) ((zam s).length - f) (zam s).length zbN bm (by omega) (Nat.le_refl _) (zbM (by omega)) (by rw [Nat.sub_self]; rfl)
  simp only at hin
  rw [← hfold] at hin
  have e1:Bf (Rs s a b) (Ks s a b) (zam s).length (k+1) f=zeA (Rs s a b) (Ks s a b) (zam s).length (Bf (Rs s a b) (Ks s a b) (zam s).length k) f ((zam s).length - f) (f+1) bm:=by rw [zfu,if_pos hf]
  rw [← e1] at hin
  have hne:∀ j,j≠f→Bf (Rs s a b) (Ks s a b) (zam s).length (k+1) j=Bf (Rs s a b) (Ks s a b) (zam s).length k j:=fun j hj=>by rw [zfu,if_neg (by omega)]
  unfold tC tR tN at hin ih' ⊢
  rw [zlM (·.cost) (by omega) hne,zlM (·.rows) (by omega) hne,zlM (·.to_) (by omega) hne,zo3 (·.cost) (by omega) (by rw [hb0]; rfl),zo3 (·.to_) (by omega) (by rw [hb0]; rfl)] at hin
  unfold zcZ
  have hgR:zbm ((zff (Bf (Rs s a b) (Ks s a b) (zam s).length k) (zam s).length).map (·.rows)) (f:Int)=some ((Bf (Rs s a b) (Ks s a b) (zam s).length k f).rows):=zcj (zno (·.rows) _ _ f (by omega))
  refine zaC (decide_eq_true (by omega)) (zbs (zaJ hgR (zaJ (ztZ l i f hI hI2) ?_)))
  rw [← ea,← eb,Int.toNat_natCast]
  refine hin.trans (zbl ⟨by omega,by omega⟩ ih')
theorem zvr (j5:List ByteArray→Option ((List ByteArray)×Int)):∀ (m f N:Nat) (out:List ByteArray),zoC s a b f→(zam s).length≤f+m→m<N→out.length≤f→f≤(zam s).length→zaE (fun _ _=>none) (zcO s (zam s) ((zam s).length:Int) (tN (TT s a b) (zam s).length) j5) N out (f:Int)=j5 (out++zgK s f (zlD s a b m f)):=by
 have hle:=zh3 hs
 intro m
 induction m with
 | zero =>
  intro f N out hfe hm hN ho hf
  obtain ⟨N,rfl⟩:∃ q,N=q+1:=⟨N - 1,by omega⟩
  rw [zb5]
  generalize zaE (fun _ _=>none) (zcO s (zam s) ((zam s).length:Int) (tN (TT s a b) (zam s).length) j5) N=ag
  unfold zcO
  refine zaw (decide_eq_false (by omega)) ?_
  show j5 out=j5 (out++[])
  rw [List.append_nil]
 | succ m ih =>
  intro f N out hfe hm hN ho hf
  obtain ⟨N,rfl⟩:∃ q,N=q+1:=⟨N - 1,by omega⟩
  rw [zb5]
  have ih':=fun t out=>ih t N out
  generalize zaE (fun _ _=>none) (zcO s (zam s) ((zam s).length:Int) (tN (TT s a b) (zam s).length) j5) N=ag at ih' ⊢
  unfold zcO zlD
  by_cases h:f<(zam s).length
  ·obtain ⟨t,h1,h2,h3,h4,h5,_⟩:=zmZ hs ha hb hfe h
   have hg:zbm (tN (TT s a b) (zam s).length) (f:Int)=some (t:Int):=by rw [← h1]; exact zcj (zno (·.to_) _ _ f (by omega))
   have hx:(zam s)[f]?=some (zam s)[f]:=List.getElem?_eq_getElem (by omega)
   have hy:(zam s)[t - 1]?=some (zam s)[t - 1]:=List.getElem?_eq_getElem (by omega)
   obtain ⟨x1,x2,x3,x4,x5⟩:=znq s hx
   obtain ⟨y1,y2,y3,y4,y5⟩:=znq s hy
   rw [show t - 1+1=t by omega] at y2
   have hl:=zkp s (t - f) f (by omega)
   rw [show f+(t - f)=t by omega] at hl
   rw [if_pos h,h1,Int.toNat_natCast]
   refine zaC (decide_eq_true (by omega)) (zaJ hg (zaJ (zcj hx) (zbl ⟨by omega,by omega⟩ (zaJ (zdk (n:=t - 1) (by omega) hy) (zbl ⟨by omega,by omega,by omega⟩ (zbl (by omega) ?_))))))
   rw [← x1,← y2]
   rw [ih' t (out++[zb8 s (stN s f) (stN s t)]) h5 (by omega) (by omega) (by rw [List.length_append]; simp; omega) h3,List.append_assoc]; rfl
  ·rw [if_neg h]
   refine zaw (decide_eq_false (by omega)) ?_
   show j5 out=j5 (out++[])
   rw [List.append_nil]
end
theorem zrz (s:ByteArray):zb8 s 0 (s.size:Int)=s:=by
 apply ByteArray.ext; apply Array.toList_inj.1
 have:=zgU s 0 s.size
 rw [show ((0:Nat):Int)=0 from rfl,Int.zero_add,List.drop_zero] at this
 rw [this,List.take_of_length_le (by simp)]
theorem zry (s:ByteArray) (a b c:Int) (h:0≤a∧a≤b∧b≤c):zb8 s a b++zb8 s b c=zb8 s a c:=by
 obtain ⟨p,rfl⟩:∃ p:Nat,a=p:=⟨a.toNat,by omega⟩
 obtain ⟨m,rfl⟩:∃ m:Nat,b=(p:Int)+m:=⟨(b - p).toNat,by omega⟩
 obtain ⟨n,rfl⟩:∃ n:Nat,c=((p+m:Nat):Int)+n:=⟨(c - p - m).toNat,by omega⟩
 apply ByteArray.ext; apply Array.toList_inj.1
 have h1:=zgU s p m
 have h2:=zgU s (p+m) n
 have h3:=zgU s p (m+n)
 rw [show (p:Int)+((m+n:Nat):Int)=((p+m:Nat):Int)+(n:Int) by omega] at h3
 rw [show ((p+m:Nat):Int)=(p:Int)+(m:Int) by omega] at h2 h3 ⊢
 rw [ByteArray.data_append,Array.toList_append,h1,h2,h3,List.take_add,List.drop_drop]
theorem zsQ (s:ByteArray) (a:Int) (h:0≤a):zb8 s a a=⟨#[]⟩:=by
 obtain ⟨p,rfl⟩:∃ p:Nat,a=p:=⟨a.toNat,by omega⟩
 apply ByteArray.ext; apply Array.toList_inj.1
 have:=zgU s p 0
 rw [show (p:Int)+((0:Nat):Int)=(p:Int) by omega] at this
 rw [this]; rfl
theorem zn9 (s:ByteArray):∀ (ts:List Nat) (f:Nat),zu0 (zam s).length f ts→f≤(zam s).length→zwC (zgK s f ts)=zb8 s (stN s f) (stN s (ts.getLastD f))
 | [],f,_,hf=>by
  have:=zqu s hf
  show (⟨#[]⟩:ByteArray)=zb8 s (stN s f) (stN s f)
  rw [zsQ s _ this.1]
 | t::ts,f,⟨h1,h2,h3⟩,hf=>by
  have ih:=zn9 s ts t h3 h2
  have hl:=zkp s (t - f) f (by omega)
  rw [show f+(t - f)=t by omega] at hl
  have hr:=zqu s hf
  have hmono:∀ (ts:List Nat) (t:Nat),zu0 (zam s).length t ts→t≤(zam s).length→stN s t≤stN s (ts.getLastD t):=by
   intro ts
   induction ts with
   | nil=>intro t _ _; exact Int.le_refl _
   | cons u us ih =>
    intro t ⟨g1,g2,g3⟩ _
    have:=ih u g3 g2
    have hl:=zkp s (u - t) t (by omega)
    rw [show t+(u - t)=u by omega] at hl
    rw [List.getLastD_cons]; omega
  have:=hmono ts t h3 h2
  show zb8 s (stN s f) (stN s t)++zwC (zgK s t ts)=_
  rw [ih,List.getLastD_cons,zry s _ _ _ ⟨hr.1,by omega,this⟩]
section
variable {s:ByteArray} {a b:Int} (hs:s.size≤100000) (ha:0≤a∧a≤1000000) (hb:0≤b∧b≤1000000)
include hs ha hb
theorem znY:∀ (m f:Nat),zoC s a b f→f≤(zam s).length→(zam s).length≤f+m→(zlD s a b m f).getLastD f=(zam s).length
 | 0,f,_,hf,hm=>by show f=_; omega
 | m+1,f,hfe,hf,hm=>by
  unfold zlD
  split
  ·rename_i h
   obtain ⟨t,h1,h2,h3,h4,h5,_⟩:=zmZ hs ha hb hfe h
   rw [h1,Int.toNat_natCast,List.getLastD_cons]
   exact znY m t h5 h3 (by omega)
  ·show f=_; omega
theorem zsR:zwC (zgK s 0 (zkW s a b))=s:=by
 rw [zn9 s _ 0 (ziX hs ha hb _ 0 (zp0 hs ha hb) (Nat.zero_le _)) (Nat.zero_le _),znY hs ha hb _ 0 (zp0 hs ha hb) (Nat.zero_le _) (by omega),zvl,zvk,zrz]
end
theorem zt9 (s:ByteArray) (hs:s.size≤100000) (i:Int) (l:Gapi_Layout) (h1:I64 (l.Width - i)) (ha:0≤max 1 (l.Width - i)∧max 1 (l.Width - i)≤1000000) (hb:0≤l.Width - l.Turn∧l.Width - l.Turn≤1000000) :
  zfM s i l=some (zgK s 0 (zkW s (max 1 (l.Width - i)) (l.Width - l.Turn)),(TT s (max 1 (l.Width - i)) (l.Width - l.Turn) 0).cost):=by
 have hle:=zh3 hs
 unfold zfM
 refine zbs (zaJ (zst s (by omega)) (zbl ⟨by omega,by omega⟩ (zbl ⟨by omega,by omega⟩ (zbl ⟨by omega,by omega⟩ (zbl ⟨by omega,by omega⟩ (zbl ⟨by omega,by omega⟩ (zbl ⟨by omega,by omega⟩ (zbl ⟨by omega,by omega⟩ ?_))))))))
 have ho:=zvq hs ha hb i l h1 ⟨by omega,by omega⟩ rfl rfl (fun (cells1:List Gapi_Cell) (n1:Int) (cost1:List Int) (next1:List Int)=>zbk (fun (j5:(List ByteArray)→Option ((List ByteArray)×Int))=>zaE (fun _ _=>none) (zcO s cells1 n1 next1 j5) zbN ([]:List ByteArray) 0) (fun (out1:List ByteArray)=>zah (zbm cost1 0) fun (q22:Int)=>some (out1,q22))) (zam s).length 0 zbN (by omega) (zbM (by omega))
 have er:∀ g:Bst→Int,g b0=0→(zff (Bf (Rs s (max 1 (l.Width - i)) (l.Width - l.Turn)) (Ks s (max 1 (l.Width - i)) (l.Width - l.Turn)) (zam s).length 0) (zam s).length).map g=List.replicate (((zam s).length:Int)+1:Int).toNat 0:=by
  intro g hg
  rw [zqr,List.map_replicate,hg,show (((zam s).length:Int)+1:Int).toNat=(zam s).length+1 by omega]
 unfold tC tR tN at ho
 rw [er _ rfl,er _ rfl,er _ rfl,show ((zam s).length:Int) - 1 - ((0:Nat):Int)=((zam s).length:Int) - 1 by omega] at ho
 refine ho.trans (zbs ?_)
 have hext:=zvr hs ha hb (fun (out1:List ByteArray)=>zah (zbm (tC (TT s (max 1 (l.Width - i)) (l.Width - l.Turn)) (zam s).length) 0) fun (q22:Int)=>some (out1,q22)) (zam s).length 0 zbN [] (zp0 hs ha hb) (by omega) (zbM (by omega)) (Nat.zero_le _) (Nat.zero_le _)
 refine hext.trans (zaJ (zdk (n:=0) rfl (zno (·.cost) _ _ 0 (Nat.zero_le _))) rfl)
end Go.Proofs.YtbempdelckaccaaGreatDoor

namespace Go.Proofs.YtbempdelckaccaaGreatDoor
open Go.RowKit Go.Lib
set_option linter.unusedVariables false
set_option linter.unusedSimpArgs false
end Go.Proofs.YtbempdelckaccaaGreatDoor

namespace Go.Proofs.YtbempdelckaccaaGreatDoor
open Go.RowKit Go.Lib Go.Shelf
set_option linter.unusedVariables false
set_option linter.unusedSimpArgs false
theorem zux (r:Nat) (hv:r<55296∨(57343<r∧r≤1114111)) (h:128≤r):2≤(encodeRune (r:Int)).length∧(encodeRune (r:Int)).length≤4∧∀ x∈encodeRune (r:Int),128≤x.toNat:=by
 unfold encodeRune
 rcases zjq r hv with ⟨h1,_⟩ | ⟨h1,h2,e⟩ | ⟨h1,h2,e⟩ | ⟨h1,h2,e⟩
 ·omega
 all_goals
  rw [e]
  refine ⟨by simp,by simp,fun x hx => ?_⟩
  simp only [List.map_cons,List.map_nil,List.mem_cons,List.not_mem_nil,or_false] at hx
 ·rcases hx with rfl | rfl <;> rw [zeu _ (by omega) (by omega)] <;> omega
 ·rcases hx with rfl | rfl | rfl <;> rw [zeu _ (by omega) (by omega)] <;> omega
 ·rcases hx with rfl | rfl | rfl | rfl <;> rw [zeu _ (by omega) (by omega)] <;> omega
theorem zuw (r:Nat) (h:r<128):encodeRune (r:Int)=[r.toUInt8]:=by
 unfold encodeRune; rw [encodeRuneZ_one (by omega) (by omega)]; simp
def isE (b:UInt8):Bool:=b==13||b==10
end Go.Proofs.YtbempdelckaccaaGreatDoor

namespace Go.Proofs.YtbempdelckaccaaGreatDoor
open Go.RowKit Go.Lib
set_option linter.unusedVariables false
set_option linter.unusedSimpArgs false
def zdx (s1:ByteArray) (j1:(List Gapi_Place)→(List Gplace_ended)→Int→Int→Int→Int→Int→Int→Int→Option ((Option Gplace_Map)×Int)) (ag1:(List Gapi_Place)→(List Gplace_ended)→Int→Int→Int→Int→Int→Int→Int→Nat→Option ((Option Gplace_Map)×Int)) (m10:List Gapi_Place) (m11:List Gplace_ended) (p16:Int) (p17:Int) (p18:Int) (p19:Int) (p20:Int) (line7:Int) (line8:Int) (m12:Nat):Option ((Option Gplace_Map)×Int) :=
zay (decide (m12<(pcs s1.data.toList).length)) (
zah ((pcs s1.data.toList)[m12]?) fun (p21:Pc) =>
zbk (fun (j2:Int→Option ((Option Gplace_Map)×Int)) =>
grd (m10.length+1≤2147483648) <|
grd (I64 (p17+1)) <|
grd (I64 (p18+1)) <|
grd (I64 (p20+1)) <|
zay (decide ((65536:Int)≤(p21.r:Int))) (
grd (I64 ((p18+1)+1)) <|
j2 ((p18+1)+1)
) (
j2 (p18+1)
)
) (fun (p22:Int) =>
zbk (fun (j3:Int→Option ((Option Gplace_Map)×Int)) =>
zay (((p21.r:Int):Int)==13) (
grd (I64 ((p21.i:Int)+1)) <|
zay (decide ((((p21.i:Int)+1):Int)<(s1.size:Int))) (
grd (I64 ((p21.i:Int)+1)) <|
zah (zjg s1 ((p21.i:Int)+1)) fun (c1:Int) =>
zay ((c1:Int)==10) (
ag1 (m10++[(⟨(p21.i:Int),p17,p18,p19,p20⟩:Gapi_Place)]) m11 (p21.i:Int) (p17+1) p22 p19 (p20+1) line7 line8 (m12+1)
) (
zay (((p21.r:Int):Int)==10) (
zay (decide ((0:Int)<(p21.i:Int))) (
grd (I64 ((p21.i:Int) - 1)) <|
zah (zjg s1 ((p21.i:Int) - 1)) fun (c2:Int) =>
zay ((c2:Int)==13) (
j3 2
) (
zay (((p21.r:Int):Int) != 13) (
zay (((p21.r:Int):Int) != 10) (
ag1 (m10++[(⟨(p21.i:Int),p17,p18,p19,p20⟩:Gapi_Place)]) m11 (p21.i:Int) (p17+1) p22 p19 (p20+1) line7 line8 (m12+1)
) (
j3 1
)
) (
j3 1
)
)
) (
zay (((p21.r:Int):Int) != 13) (
zay (((p21.r:Int):Int) != 10) (
ag1 (m10++[(⟨(p21.i:Int),p17,p18,p19,p20⟩:Gapi_Place)]) m11 (p21.i:Int) (p17+1) p22 p19 (p20+1) line7 line8 (m12+1)
) (
j3 1
)
) (
j3 1
)
)
) (
zay (((p21.r:Int):Int) != 13) (
zay (((p21.r:Int):Int) != 10) (
ag1 (m10++[(⟨(p21.i:Int),p17,p18,p19,p20⟩:Gapi_Place)]) m11 (p21.i:Int) (p17+1) p22 p19 (p20+1) line7 line8 (m12+1)
) (
j3 1
)
) (
j3 1
)
)
)
) (
zay (((p21.r:Int):Int)==10) (
zay (decide ((0:Int)<(p21.i:Int))) (
grd (I64 ((p21.i:Int) - 1)) <|
zah (zjg s1 ((p21.i:Int) - 1)) fun (c3:Int) =>
zay ((c3:Int)==13) (
j3 2
) (
zay (((p21.r:Int):Int) != 13) (
zay (((p21.r:Int):Int) != 10) (
ag1 (m10++[(⟨(p21.i:Int),p17,p18,p19,p20⟩:Gapi_Place)]) m11 (p21.i:Int) (p17+1) p22 p19 (p20+1) line7 line8 (m12+1)
) (
j3 1
)
) (
j3 1
)
)
) (
zay (((p21.r:Int):Int) != 13) (
zay (((p21.r:Int):Int) != 10) (
ag1 (m10++[(⟨(p21.i:Int),p17,p18,p19,p20⟩:Gapi_Place)]) m11 (p21.i:Int) (p17+1) p22 p19 (p20+1) line7 line8 (m12+1)
) (
j3 1
)
) (
j3 1
)
)
) (
zay (((p21.r:Int):Int) != 13) (
zay (((p21.r:Int):Int) != 10) (
ag1 (m10++[(⟨(p21.i:Int),p17,p18,p19,p20⟩:Gapi_Place)]) m11 (p21.i:Int) (p17+1) p22 p19 (p20+1) line7 line8 (m12+1)
) (
j3 1
)
) (
j3 1
)
)
)
) (
zay (((p21.r:Int):Int)==10) (
zay (decide ((0:Int)<(p21.i:Int))) (
grd (I64 ((p21.i:Int) - 1)) <|
zah (zjg s1 ((p21.i:Int) - 1)) fun (c4:Int) =>
zay ((c4:Int)==13) (
j3 2
) (
zay (((p21.r:Int):Int) != 13) (
zay (((p21.r:Int):Int) != 10) (
ag1 (m10++[(⟨(p21.i:Int),p17,p18,p19,p20⟩:Gapi_Place)]) m11 (p21.i:Int) (p17+1) p22 p19 (p20+1) line7 line8 (m12+1)
) (
j3 1
)
) (
j3 1
)
)
) (
zay (((p21.r:Int):Int) != 13) (
zay (((p21.r:Int):Int) != 10) (
ag1 (m10++[(⟨(p21.i:Int),p17,p18,p19,p20⟩:Gapi_Place)]) m11 (p21.i:Int) (p17+1) p22 p19 (p20+1) line7 line8 (m12+1)
) (
j3 1
)
) (
j3 1
)
)
) (
zay (((p21.r:Int):Int) != 13) (
zay (((p21.r:Int):Int) != 10) (
ag1 (m10++[(⟨(p21.i:Int),p17,p18,p19,p20⟩:Gapi_Place)]) m11 (p21.i:Int) (p17+1) p22 p19 (p20+1) line7 line8 (m12+1)
) (
j3 1
)
) (
j3 1
)
)
)
) (fun (width1:Int) =>
grd (I64 ((p21.i:Int)+1)) <|
grd (I64 (((p21.i:Int)+1) - width1)) <|
grd (m11.length+1≤2147483648) <|
grd (I64 ((p21.i:Int)+1)) <|
grd (I64 (p19+1)) <|
ag1 (m10++[(⟨(p21.i:Int),p17,p18,p19,p20⟩:Gapi_Place)]) (m11++[(⟨line7,((p21.i:Int)+1) - width1,width1,line8⟩:Gplace_ended)]) (p21.i:Int) (p17+1) p22 (p19+1) 0 ((p21.i:Int)+1) ((m10++[(⟨(p21.i:Int),p17,p18,p19,p20⟩:Gapi_Place)]).length:Int) (m12+1)
)
)
) (
j1 m10 m11 p16 p17 p18 p19 p20 line7 line8
)
def ze2 (s1:ByteArray):Option ((Option Gplace_Map)×Int) :=
zay (decide ((65536:Int)<(s1.size:Int))) (
some (none,3)
) (
zbk (fun (j1:(List Gapi_Place)→(List Gplace_ended)→Int→Int→Int→Int→Int→Int→Int→Option ((Option Gplace_Map)×Int)) =>
zaE (fun _ _ _ _ _ _ _ _ _ _=>none) (zdx s1 j1) zbN ([]:List Gapi_Place) ([]:List Gplace_ended) 0 0 0 0 0 0 0 0
) (fun (m1:List Gapi_Place) (m2:List Gplace_ended) (p1:Int) (p2:Int) (p3:Int) (p4:Int) (p5:Int) (line1:Int) (line2:Int) =>
grd (m1.length+1≤2147483648) <|
grd (m2.length+1≤2147483648) <|
some ((some (⟨s1,m1++[(⟨(s1.size:Int),p2,p3,p4,p5⟩:Gapi_Place)],m2++[(⟨line1,(s1.size:Int),0,line2⟩:Gplace_ended)]⟩:Gplace_Map)),0)
)
)
theorem znK {s1:ByteArray} {r:((Option Gplace_Map)×Int)} (h:ze2 s1=some r):Fn Tryz.prog 45 [.string s1] [] (fun v0:Value=>.tuple #[v0,zI r.2]) (fun v0=>[zmP zeB zez 153 v0 r.1]):=by
 unfold ze2 at h
 refine Fn.intro Tryz.func45 rfl Tryz.ntmps45 (by simp) ?_
 intro w0 K
 refine zyG (zyR 2 rfl (zyN ?_))
 refine zkg (β:=Unit) (l:=0) (fun _=>False) (fun _=>[]) (fun _=>[]) rfl ?_ ?_
 ·
  refine zaI (zyG (zyR 1 rfl (zcg rfl dc rfl Tryz.underlying9 (zaU rfl zct (zyN ?_)))))
  refine zyB rfl h (fun h => ?_) (fun h => ?_)
  ·
   refine zyG (zyR 2 rfl (zyN (zaG (zao (zd9 (by simp) (zd8 zeB zez 153 ?_))))))
   cases h
   exact zaK (rs:=[.tmp 2,.tmp 3]) (.pointer none) (.inl rfl) Tryz.results45 (.cons (.tmp rfl) (.cons (.tmp rfl) .nil)) rfl (zad [0] kr rfl)
  refine zar (zaH ?_)
  obtain ⟨j1,hj1,h⟩:=zbG h
  refine zaX (β:=(List Gapi_Place)×(List Gplace_ended)×Int×Int×Int×Int×Int×Int×Int×Nat×Hd×Hd×Nat×Nat) 4 rfl (fun b=>j1 b.1 b.2.1 b.2.2.1 b.2.2.2.1 b.2.2.2.2.1 b.2.2.2.2.2.1 b.2.2.2.2.2.2.1 b.2.2.2.2.2.2.2.1 b.2.2.2.2.2.2.2.2.1=some r) (fun b=>[]) (fun b=>[(0,.string s1),(4,zP b.2.2.2.2.2.2.2.2.2.1),(5,zP b.2.2.2.2.2.2.2.2.2.2.2.2.1),(6,zP b.2.2.2.2.2.2.2.2.2.2.2.2.2)]) (fun b=>[cells b.2.2.2.2.2.2.2.2.2.1 [.string s1,b.2.2.2.2.2.2.2.2.2.2.1.v,b.2.2.2.2.2.2.2.2.2.2.2.1.v] 153,zv4 b.2.2.2.2.2.2.2.2.2.2.1.v b.1,zv3 b.2.2.2.2.2.2.2.2.2.2.2.1.v b.2.1,cells b.2.2.2.2.2.2.2.2.2.2.2.2.1 [zI b.2.2.1,zI b.2.2.2.1,zI b.2.2.2.2.1,zI b.2.2.2.2.2.1,zI b.2.2.2.2.2.2.1] 155,cells b.2.2.2.2.2.2.2.2.2.2.2.2.2 [zI b.2.2.2.2.2.2.2.1,zI 0,zI 0,zI b.2.2.2.2.2.2.2.2.1] 157]) (fun cut => ?_) ?_
  ·
   refine zyG (zyR 1 rfl ?_)
   refine zba (v:=.agg #[.string s1,.slice none 0 0,.slice none 0 0]) (ps:=[(0,.tmp 13)]) rfl dc rfl (fun _=>by kernel_rfl) ?_
   refine zea rfl dc rfl (fun b4 => ?_)
   refine zyR 1 rfl (zyH ?_)
   refine zba (v:=.agg #[zI 0,zI 0,zI 0,zI 0,zI 0]) (ps:=[]) rfl dc rfl (fun _=>by kernel_rfl) ?_
   refine zbE zu6 rfl dc (fun b5 => ?_)
   refine za6 (k:=1) (vs:=[zI 0,zI 0,zI 0,zI 0,zI 0]) (l':=[zI 0,zI 0,zI 0,zI 0,zI 0]) zvh rfl rfl rfl rfl rfl (show _≤_ by simp) rfl rfl (zyH ?_)
   refine zba (v:=.agg #[zI 0,zI 0,zI 0,zI 0]) (ps:=[]) rfl dc rfl (fun _=>by kernel_rfl) ?_
   refine zbE zu5 rfl dc (fun b6 => ?_)
   refine za6 (k:=2) (vs:=[zI 0,zI 0,zI 0,zI 0]) (l':=[zI 0,zI 0,zI 0,zI 0]) zlN rfl rfl rfl rfl rfl (show _≤_ by simp) rfl rfl (zyN (zaI (zkh (zaH (cut (zyG (zyR 1 rfl ?_)))))))
   refine zfF Tryz.underlying9 rfl dc rfl (fun b7 => ?_)
   refine zyN (zaF (zcR (enc:=zen) (e:=155) (size:=5) ?_))
   refine zcR (enc:=zdL) (e:=157) (size:=4) ?_
   refine zbj (β:=Nat×(List Gapi_Place)×(List Gplace_ended)×Int×Int×Int×Int×Int×Int×Int×Nat×Hd×Hd) (fun b=>zaE (fun _ _ _ _ _ _ _ _ _ _=>none) (zdx s1 j1) b.1 b.2.1 b.2.2.1 b.2.2.2.1 b.2.2.2.2.1 b.2.2.2.2.2.1 b.2.2.2.2.2.2.1 b.2.2.2.2.2.2.2.1 b.2.2.2.2.2.2.2.2.1 b.2.2.2.2.2.2.2.2.2.1 b.2.2.2.2.2.2.2.2.2.2.1=some r) (fun b=>[]) (fun b=>[(0,.string s1),(4,zP b4),(5,zP b5),(6,zP b6),(19,zP b7)]) (fun b=>[cells b4 [.string s1,b.2.2.2.2.2.2.2.2.2.2.2.1.v,b.2.2.2.2.2.2.2.2.2.2.2.2.v] 153,zv4 b.2.2.2.2.2.2.2.2.2.2.2.1.v b.2.1,zv3 b.2.2.2.2.2.2.2.2.2.2.2.2.v b.2.2.1,cells b5 [zI b.2.2.2.1,zI b.2.2.2.2.1,zI b.2.2.2.2.2.1,zI b.2.2.2.2.2.2.1,zI b.2.2.2.2.2.2.2.1] 155,cells b6 [zI b.2.2.2.2.2.2.2.2.1,zI 0,zI 0,zI b.2.2.2.2.2.2.2.2.2.1] 157,obj b7 (.stringIter s1 (zfW s1 b.2.2.2.2.2.2.2.2.2.2.1))]) (fun b=>b.1) (zbN,([]:List Gapi_Place),([]:List Gplace_ended),0,0,0,0,0,0,0,0,Hd.nil,Hd.nil) (by exact h) rfl (za0 rfl) (zad [0,4,5,1,2,3] kr rfl) ?_
   rintro ⟨n1,m10,m11,p16,p17,p18,p19,p20,line7,line8,m12,hd8,hd9⟩ h
   cases n1 with
   | zero=>exact zdp h
   | succ n1 =>
    obtain ⟨ag1,hag1⟩:∃ ag,ag=zaE (fun _ _ _ _ _ _ _ _ _ _=>none) (zdx s1 j1) n1:=⟨_,rfl⟩
    have h:zdx s1 j1 ag1 m10 m11 p16 p17 p18 p19 p20 line7 line8 m12=some r:=by rw [hag1]; exact h
    unfold zdx at h
    refine zyG ?_
    refine zfG (b:=decide (m12<(pcs s1.data.toList).length)) (fun hb2 => ?_) (fun hb2 => ?_)
    ·
     have h:=zf0 hb2 h
     obtain ⟨p21,hq1,h⟩:=zbi h
     refine zf9 (k:=5) (m:=m12) (p:=p21) rfl dc rfl rfl hq1 (zaN rfl dc rfl rfl (zyN (zaI (za5 rfl (zar (zaH (zaF ?_)))))))
     obtain ⟨j2,hj2,h⟩:=zbG h
     refine zaX (β:=Int×Hd) 6 rfl (fun b=>j2 b.1=some r) (fun b=>[]) (fun b=>[(0,.string s1),(4,zP b4),(5,zP b5),(6,zP b6),(7,zI (p21.i:Int)),(8,.int .i32 (p21.r:Int)),(19,zP b7)]) (fun b=>[cells b4 [.string s1,b.2.v,hd9.v] 153,zv4 b.2.v (m10++[(⟨(p21.i:Int),p17,p18,p19,p20⟩:Gapi_Place)]),zv3 hd9.v m11,cells b5 [zI (p21.i:Int),zI (p17+1),zI b.1,zI p19,zI (p20+1)] 155,cells b6 [zI line7,zI 0,zI 0,zI line8] 157,obj b7 (.stringIter s1 (zfW s1 (m12+1)))]) (fun cut => ?_) ?_
     ·
      refine zyG (zaN rfl dc rfl rfl (zaN rfl dc rfl rfl (zyR 2 rfl (zyH (zyR 1 rfl (zab zpr rfl dc rfl (show _=0 from rfl) ?_))))))
      refine zbb (k:=3) (l':=[zI (p21.i:Int),zI p17,zI p18,zI p19,zI p20]) zcs rfl rfl rfl rfl rfl (fun _ _=>rfl) rfl ?_
      refine zyN (zaI ?_)
      obtain ⟨hg1,h⟩:=zbr h
      refine zgs 1 ?_
      refine let vals1:(Nat×Hd)→List (Nat×Nat×Value):=fun b=>[(0,26,zP b4),(1,27,zP b4),(2,28,zP b4),(3,29,.pointer (some ⟨b4,1,none⟩)),(4,30,hd8.v),(5,31,.agg #[zI (p21.i:Int),zI p17,zI p18,zI p19,zI p20]),(6,32,.slice (some ⟨b.1,0,none⟩) 1 1),(7,33,b.2.v)]; let LL1:(Nat→Prop)→(Nat×Hd)→List Asn:=fun D b=>[cells b4 [.string s1,hd8.v,hd9.v] 153,eD D (zv4 hd8.v m10) [(7,zv4 b.2.v (m10++[(⟨(p21.i:Int),p17,p18,p19,p20⟩:Gapi_Place)]))],zv3 hd9.v m11,cells b5 [zI (p21.i:Int),zI p17,zI p18,zI p19,zI p20] 155,cells b6 [zI line7,zI 0,zI 0,zI line8] 157,obj b7 (.stringIter s1 (zfW s1 (m12+1))),eD D emp [(6,cells b.1 [zI (p21.i:Int),zI p17,zI p18,zI p19,zI p20] 155)]]; ?_
      have zhq:zyQ [6,7] LL1:=fun i h D b=>zae rfl (zae (zjY rfl h) (zae rfl (zae rfl (zae rfl (zae rfl (zae (zjY rfl h) rfl))))))
      refine zd3 (β:=Nat×Hd) 8 ((0:Nat),Hd.nil) vals1 LL1 mixed kr kr dc (fun _=>rfl) (zae rfl (zae zb7 (zfL (zae zb7 rfl)))) (zmg zhq (fun _=>rfl) (fun _=>rfl) 2 0 (fun _=>rfl) rfl (zyq zhq rfl (fun _=>rfl) (fun _=>rfl) ?_ (zyq zhq rfl (fun _=>rfl) (fun _=>rfl) ?_ (zi5 zhq rfl (fun _=>rfl) (fun _=>rfl) ?_ (zi5 zhq rfl (fun _=>rfl) (fun _=>rfl) ?_ (zaB ?_ (zaB ?_ DrawG.nil))))))) ?_
      · exact fun D ⟨b8,hd11⟩ n d c u i=>zaD rfl dc (zaa (m:=1) u rfl (d 1 dc)) (zaf 2 u i rfl)
      · exact fun D ⟨b8,hd11⟩ n d c u i=>zab ziO rfl dc (zaa (m:=2) u rfl (d 2 dc)) (show _=1 from rfl) (zaf 3 u i rfl)
      · exact fun D ⟨b8,hd11⟩ n d c u i=>⟨_,(zae rfl (zae (zak (fun hD=>n (c 7 _ rfl hD 4 dc)) zaq) (zog rfl))),zau (k:=0) zqL rfl dc (zaa (m:=3) u rfl (d 3 dc)) rfl rfl (zaf 4 u i rfl)⟩
      · exact fun D ⟨b8,hd11⟩ n d c u i=>⟨_,(zae rfl (zae (zak (fun hD=>n (c 6 _ rfl (c 7 _ rfl hD 6 dc) 5 dc)) zaq) (zfL (zae (zak (fun hD=>n (c 6 _ rfl hD 5 dc)) zaq) rfl)))),zbd (k:=3) (cs:=[zI (p21.i:Int),zI p17,zI p18,zI p19,zI p20]) ztd rfl dc (zbe (by rfl) rfl) rfl rfl rfl (zaf 5 u i rfl)⟩
      ·
       intro D b hn hd hcl
       obtain ⟨zb0,hd11⟩:=b
       refine zaL (zae rfl (zae (zak (fun hD=>hn (hcl 7 _ rfl hD 6 dc)) zaq) (zfL (zae (zak hn zaq) rfl)))) ?_
       refine zaV (cs:=[zI (p21.i:Int),zI p17,zI p18,zI p19,zI p20]) (te:=155) (ps:=[(0,.tmp 31)]) rfl dc (evP.cons (zaa (m:=5) rfl rfl (hd 5 dc)) evP.nil) (fun _=>by kernel_rfl) (fun b8 => ?_)
       refine zcU 6 rfl rfl ?_
       exact zaW (b:=(zb0,hd11)) (b8,hd11) 6 (by rfl) (by rfl) rfl (ztB (zas (fun hD=>absurd hD hn) (zas (fun _=>rfl) rfl))) (zae rfl (zae ((zap (by rfl)).trans (zak (fun hD=>hn (hcl 7 _ rfl hD 6 dc)) zaq)) (zfL (zae (zaM (Or.inr rfl) rfl) rfl))))
      ·
       intro D b hn hd hcl
       obtain ⟨b8,zb1⟩:=b
       refine zaL (zae rfl (zae (zak hn zaq) (zfL (zae (zaM (hd 6 dc) rfl) rfl)))) ?_
       refine za4 (k:=1) (k2:=6) (ys:=[(⟨(p21.i:Int),p17,p18,p19,p20⟩:Gapi_Place)]) Tryz.underlying150 zts zgB zgA rfl dc (zaa (m:=4) rfl rfl (hd 4 dc)) (zaa (m:=6) rfl rfl (hd 6 dc)) rfl rfl rfl rfl hg1 (fun v1 => ?_)
       refine zby (k:=1) rfl (fun hd11 he1 => ?_)
       subst he1
       exact zaW (b:=(b8,zb1)) (b8,hd11) 7 (by rfl) (by rfl) rfl (zjP (zas (fun hD=>absurd hD hn) rfl)) (zae rfl (zae (zaM (Or.inr rfl) rfl) (zfL (zae ((zap (by rfl)).trans (zaM (hd 6 dc) rfl)) rfl))))
      intro D b hall
      obtain ⟨b8,hd11⟩:=b
      refine zaL (zae rfl (zae (zaM (hall 7 dc) rfl) (zfL (zae (zaM (hall 6 dc) rfl) rfl)))) (zaD rfl dc rfl (zab ziO rfl dc rfl (show _=1 from rfl) ?_))
      refine zbb (k:=0) (l':=[.string s1,hd11.v,hd9.v]) zta rfl rfl rfl rfl rfl (fun _ _=>rfl) rfl ?_
      refine zyH (zab zpq rfl dc rfl (show _=1 from rfl) (zau (k:=3) zbp rfl dc rfl rfl rfl ?_))
      obtain ⟨hg2,h⟩:=zbr h
      refine zaU rfl (zaR (r:=p17+1) (IntWalk.i64_in _ hg2)) (zab zpq rfl dc rfl (show _=1 from rfl) ?_)
      refine zbb (k:=3) (l':=[zI (p21.i:Int),zI (p17+1),zI p18,zI p19,zI p20]) zcs rfl rfl rfl rfl rfl (fun _ _=>rfl) rfl ?_
      refine zyH (zab zkb rfl dc rfl (show _=2 from rfl) (zau (k:=3) zbp rfl dc rfl rfl rfl ?_))
      obtain ⟨hg3,h⟩:=zbr h
      refine zaU rfl (zaR (r:=p18+1) (IntWalk.i64_in _ hg3)) (zab zkb rfl dc rfl (show _=2 from rfl) ?_)
      refine zbb (k:=3) (l':=[zI (p21.i:Int),zI (p17+1),zI (p18+1),zI p19,zI p20]) zcs rfl rfl rfl rfl rfl (fun _ _=>rfl) rfl ?_
      refine zyH (zab zmY rfl dc rfl (show _=4 from rfl) (zau (k:=3) zbp rfl dc rfl rfl rfl ?_))
      obtain ⟨hg4,h⟩:=zbr h
      refine zaU rfl (zaR (r:=p20+1) (IntWalk.i64_in _ hg4)) (zab zmY rfl dc rfl (show _=4 from rfl) ?_)
      refine zbb (k:=3) (l':=[zI (p21.i:Int),zI (p17+1),zI (p18+1),zI p19,zI (p20+1)]) zcs rfl rfl rfl rfl rfl (fun _ _=>rfl) rfl ?_
      refine zyN (cut (zyG (zyR 1 rfl (zaU rfl zer (zyN ?_)))))
      refine zyB rfl h (fun h => ?_) (fun h => ?_)
      ·
       refine zav (zab zkb rfl dc rfl (show _=2 from rfl) (zau (k:=3) zbp rfl dc rfl rfl rfl ?_))
       obtain ⟨hg5,h⟩:=zbr h
       refine zaU rfl (zaR (r:=(p18+1)+1) (IntWalk.i64_in _ hg5)) (zab zkb rfl dc rfl (show _=2 from rfl) ?_)
       refine zbb (k:=3) (l':=[zI (p21.i:Int),zI (p17+1),zI ((p18+1)+1),zI p19,zI (p20+1)]) zcs rfl rfl rfl rfl rfl (fun _ _=>rfl) rfl ?_
       refine zaO ?_
       exact zal ((p18+1)+1,hd11) h rfl (za0 rfl) (zad [0,1,2,3,4,5] kr rfl)
      refine zar ?_
      exact zal (p18+1,hd11) h rfl (za0 rfl) (zad [0,1,2,3,4,5] kr rfl)
     rintro ⟨p22,hd10⟩ h
     rw [hj2] at h
     obtain ⟨j3,hj3,h⟩:=zbG h
     refine zaX (β:=Int) 1 rfl (fun b=>j3 b=some r) (fun b=>[]) (fun b=>[(0,.string s1),(4,zP b4),(5,zP b5),(6,zP b6),(7,zI (p21.i:Int)),(9,zI b),(19,zP b7)]) (fun b=>[cells b4 [.string s1,hd10.v,hd9.v] 153,zv4 hd10.v (m10++[(⟨(p21.i:Int),p17,p18,p19,p20⟩:Gapi_Place)]),zv3 hd9.v m11,cells b5 [zI (p21.i:Int),zI (p17+1),zI p22,zI p19,zI (p20+1)] 155,cells b6 [zI line7,zI 0,zI 0,zI line8] 157,obj b7 (.stringIter s1 (zfW s1 (m12+1)))]) (fun cut => ?_) ?_
     ·
      refine zyG (zyR 1 rfl (zyN (cut (zaF (zyG (zyR 1 rfl (zaU rfl zaT (zyR 1 rfl ?_))))))))
      refine zyS (s:=57) rfl h (fun h => ?_) (fun h => ?_)
      ·
       refine zyR 1 rfl ?_
       obtain ⟨hg6,h⟩:=zbr h
       refine zaU rfl (zaR (r:=(p21.i:Int)+1) (IntWalk.i64_in _ hg6)) (zyR 1 rfl (zcg rfl dc rfl Tryz.underlying9 (zaU rfl zbc (zyR 2 rfl ?_))))
       refine zyS (s:=64) rfl h (fun h => ?_) (fun h => ?_)
       ·
        refine zyR 2 rfl ?_
        obtain ⟨hg7,h⟩:=zbr h
        refine zaU rfl (zaR (r:=(p21.i:Int)+1) (IntWalk.i64_in _ hg7)) ?_
        obtain ⟨c1,hq2,h⟩:=zbi h
        refine zc7 rfl dc rfl rfl (zbx Tryz.underlying9 hq2) (zaU rfl zaT (zyR 2 rfl (zyN ?_)))
        refine zyB rfl h (fun h => ?_) (fun h => ?_)
        ·
         refine za3 (zcH dc (zan (zax ?_)))
         subst hag1
         exact za1 (n1,m10++[(⟨(p21.i:Int),p17,p18,p19,p20⟩:Gapi_Place)],m11,(p21.i:Int),p17+1,p22,p19,p20+1,line7,line8,m12+1,hd10,hd9) h (Nat.lt_succ_self _) rfl (za0 rfl) (zad [0,1,2,3,4,5] kr rfl)
        refine zyG (zyR 1 rfl (zaU rfl zaT (zyR 1 rfl ?_)))
        refine zyS (s:=74) rfl h (fun h => ?_) (fun h => ?_)
        ·
         refine zyR 1 rfl (zaU rfl zct (zyR 2 rfl ?_))
         refine zyS (s:=78) rfl h (fun h => ?_) (fun h => ?_)
         ·
          refine zyR 2 rfl ?_
          obtain ⟨hg8,h⟩:=zbr h
          refine zaU rfl (zbt (r:=(p21.i:Int) - 1) (IntWalk.i64_in _ hg8)) ?_
          obtain ⟨c2,hq3,h⟩:=zbi h
          refine zc7 rfl dc rfl rfl (zbx Tryz.underlying9 hq3) (zaU rfl zaT (zyR 2 rfl (zyN ?_)))
          refine zyB rfl h (fun h => ?_) (fun h => ?_)
          ·
           refine zav (zyR 1 rfl (zaO (zag ?_)))
           exact zal 2 h rfl (za0 rfl) (zad [0,1,2,3,4,5] kr rfl)
          refine zyG (zyR 1 rfl (zaU rfl zbS (zyR 1 rfl ?_)))
          refine zyS (s:=88) rfl h (fun h => ?_) (fun h => ?_)
          ·
           refine zyR 1 rfl (zaU rfl zbS (zyR 2 rfl (zyN ?_)))
           refine zyB rfl h (fun h => ?_) (fun h => ?_)
           ·
            refine za3 (zcH dc (zan (zax ?_)))
            subst hag1
            exact za1 (n1,m10++[(⟨(p21.i:Int),p17,p18,p19,p20⟩:Gapi_Place)],m11,(p21.i:Int),p17+1,p22,p19,p20+1,line7,line8,m12+1,hd10,hd9) h (Nat.lt_succ_self _) rfl (za0 rfl) (zad [0,1,2,3,4,5] kr rfl)
           refine zar (zag ?_)
           exact zal 1 h rfl (za0 rfl) (zad [0,1,2,3,4,5] kr rfl)
          refine zyR 4 rfl (zyN (zaS rfl (zar (zag ?_))))
          exact zal 1 h rfl (za0 rfl) (zad [0,1,2,3,4,5] kr rfl)
         refine zyR 7 rfl (zyN (zaS rfl (zyG (zyR 1 rfl (zaU rfl zbS ?_)))))
         refine zyR 1 rfl ?_
         refine zyS (s:=88) rfl h (fun h => ?_) (fun h => ?_)
         ·
          refine zyR 1 rfl (zaU rfl zbS (zyR 2 rfl (zyN ?_)))
          refine zyB rfl h (fun h => ?_) (fun h => ?_)
          ·
           refine za3 (zcH dc (zan (zax ?_)))
           subst hag1
           exact za1 (n1,m10++[(⟨(p21.i:Int),p17,p18,p19,p20⟩:Gapi_Place)],m11,(p21.i:Int),p17+1,p22,p19,p20+1,line7,line8,m12+1,hd10,hd9) h (Nat.lt_succ_self _) rfl (za0 rfl) (zad [0,1,2,3,4,5] kr rfl)
          refine zar (zag ?_)
          exact zal 1 h rfl (za0 rfl) (zad [0,1,2,3,4,5] kr rfl)
         refine zyR 4 rfl (zyN (zaS rfl (zar (zag ?_))))
         exact zal 1 h rfl (za0 rfl) (zad [0,1,2,3,4,5] kr rfl)
        refine zyR 11 rfl (zyN (zaS rfl ?_))
        refine zyG (zyR 1 rfl (zaU rfl zbS (zyR 1 rfl ?_)))
        refine zyS (s:=88) rfl h (fun h => ?_) (fun h => ?_)
        ·
         refine zyR 1 rfl (zaU rfl zbS (zyR 2 rfl (zyN ?_)))
         refine zyB rfl h (fun h => ?_) (fun h => ?_)
         ·
          refine za3 (zcH dc (zan (zax ?_)))
          subst hag1
          exact za1 (n1,m10++[(⟨(p21.i:Int),p17,p18,p19,p20⟩:Gapi_Place)],m11,(p21.i:Int),p17+1,p22,p19,p20+1,line7,line8,m12+1,hd10,hd9) h (Nat.lt_succ_self _) rfl (za0 rfl) (zad [0,1,2,3,4,5] kr rfl)
         refine zar (zag ?_)
         exact zal 1 h rfl (za0 rfl) (zad [0,1,2,3,4,5] kr rfl)
        refine zyR 4 rfl (zyN (zaS rfl (zar (zag ?_))))
        exact zal 1 h rfl (za0 rfl) (zad [0,1,2,3,4,5] kr rfl)
       refine zyR 7 rfl (zyN (zaS rfl (zyG (zyR 1 rfl (zaU rfl zaT ?_)))))
       refine zyR 1 rfl ?_
       refine zyS (s:=74) rfl h (fun h => ?_) (fun h => ?_)
       ·
        refine zyR 1 rfl (zaU rfl zct (zyR 2 rfl ?_))
        refine zyS (s:=78) rfl h (fun h => ?_) (fun h => ?_)
        ·
         refine zyR 2 rfl ?_
         obtain ⟨hg9,h⟩:=zbr h
         refine zaU rfl (zbt (r:=(p21.i:Int) - 1) (IntWalk.i64_in _ hg9)) ?_
         obtain ⟨c3,hq4,h⟩:=zbi h
         refine zc7 rfl dc rfl rfl (zbx Tryz.underlying9 hq4) (zaU rfl zaT (zyR 2 rfl (zyN ?_)))
         refine zyB rfl h (fun h => ?_) (fun h => ?_)
         ·
          refine zav (zyR 1 rfl (zaO (zag ?_)))
          exact zal 2 h rfl (za0 rfl) (zad [0,1,2,3,4,5] kr rfl)
         refine zyG (zyR 1 rfl (zaU rfl zbS (zyR 1 rfl ?_)))
         refine zyS (s:=88) rfl h (fun h => ?_) (fun h => ?_)
         ·
          refine zyR 1 rfl (zaU rfl zbS (zyR 2 rfl (zyN ?_)))
          refine zyB rfl h (fun h => ?_) (fun h => ?_)
          ·
           refine za3 (zcH dc (zan (zax ?_)))
           subst hag1
           exact za1 (n1,m10++[(⟨(p21.i:Int),p17,p18,p19,p20⟩:Gapi_Place)],m11,(p21.i:Int),p17+1,p22,p19,p20+1,line7,line8,m12+1,hd10,hd9) h (Nat.lt_succ_self _) rfl (za0 rfl) (zad [0,1,2,3,4,5] kr rfl)
          refine zar (zag ?_)
          exact zal 1 h rfl (za0 rfl) (zad [0,1,2,3,4,5] kr rfl)
         refine zyR 4 rfl (zyN (zaS rfl (zar (zag ?_))))
         exact zal 1 h rfl (za0 rfl) (zad [0,1,2,3,4,5] kr rfl)
        refine zyR 7 rfl (zyN (zaS rfl (zyG (zyR 1 rfl (zaU rfl zbS ?_)))))
        refine zyR 1 rfl ?_
        refine zyS (s:=88) rfl h (fun h => ?_) (fun h => ?_)
        ·
         refine zyR 1 rfl (zaU rfl zbS (zyR 2 rfl (zyN ?_)))
         refine zyB rfl h (fun h => ?_) (fun h => ?_)
         ·
          refine za3 (zcH dc (zan (zax ?_)))
          subst hag1
          exact za1 (n1,m10++[(⟨(p21.i:Int),p17,p18,p19,p20⟩:Gapi_Place)],m11,(p21.i:Int),p17+1,p22,p19,p20+1,line7,line8,m12+1,hd10,hd9) h (Nat.lt_succ_self _) rfl (za0 rfl) (zad [0,1,2,3,4,5] kr rfl)
         refine zar (zag ?_)
         exact zal 1 h rfl (za0 rfl) (zad [0,1,2,3,4,5] kr rfl)
        refine zyR 4 rfl (zyN (zaS rfl (zar (zag ?_))))
        exact zal 1 h rfl (za0 rfl) (zad [0,1,2,3,4,5] kr rfl)
       refine zyR 11 rfl (zyN (zaS rfl ?_))
       refine zyG (zyR 1 rfl (zaU rfl zbS (zyR 1 rfl ?_)))
       refine zyS (s:=88) rfl h (fun h => ?_) (fun h => ?_)
       ·
        refine zyR 1 rfl (zaU rfl zbS (zyR 2 rfl (zyN ?_)))
        refine zyB rfl h (fun h => ?_) (fun h => ?_)
        ·
         refine za3 (zcH dc (zan (zax ?_)))
         subst hag1
         exact za1 (n1,m10++[(⟨(p21.i:Int),p17,p18,p19,p20⟩:Gapi_Place)],m11,(p21.i:Int),p17+1,p22,p19,p20+1,line7,line8,m12+1,hd10,hd9) h (Nat.lt_succ_self _) rfl (za0 rfl) (zad [0,1,2,3,4,5] kr rfl)
        refine zar (zag ?_)
        exact zal 1 h rfl (za0 rfl) (zad [0,1,2,3,4,5] kr rfl)
       refine zyR 4 rfl (zyN (zaS rfl (zar (zag ?_))))
       exact zal 1 h rfl (za0 rfl) (zad [0,1,2,3,4,5] kr rfl)
      refine zyR 14 rfl ?_
      refine zyN (zaS rfl (zyG (zyR 1 rfl (zaU rfl zaT (zyR 1 rfl ?_)))))
      refine zyS (s:=74) rfl h (fun h => ?_) (fun h => ?_)
      ·
       refine zyR 1 rfl (zaU rfl zct (zyR 2 rfl ?_))
       refine zyS (s:=78) rfl h (fun h => ?_) (fun h => ?_)
       ·
        refine zyR 2 rfl ?_
        obtain ⟨hg10,h⟩:=zbr h
        refine zaU rfl (zbt (r:=(p21.i:Int) - 1) (IntWalk.i64_in _ hg10)) ?_
        obtain ⟨c4,hq5,h⟩:=zbi h
        refine zc7 rfl dc rfl rfl (zbx Tryz.underlying9 hq5) (zaU rfl zaT (zyR 2 rfl (zyN ?_)))
        refine zyB rfl h (fun h => ?_) (fun h => ?_)
        ·
         refine zav (zyR 1 rfl (zaO (zag ?_)))
         exact zal 2 h rfl (za0 rfl) (zad [0,1,2,3,4,5] kr rfl)
        refine zyG (zyR 1 rfl (zaU rfl zbS (zyR 1 rfl ?_)))
        refine zyS (s:=88) rfl h (fun h => ?_) (fun h => ?_)
        ·
         refine zyR 1 rfl (zaU rfl zbS (zyR 2 rfl (zyN ?_)))
         refine zyB rfl h (fun h => ?_) (fun h => ?_)
         ·
          refine za3 (zcH dc (zan (zax ?_)))
          subst hag1
          exact za1 (n1,m10++[(⟨(p21.i:Int),p17,p18,p19,p20⟩:Gapi_Place)],m11,(p21.i:Int),p17+1,p22,p19,p20+1,line7,line8,m12+1,hd10,hd9) h (Nat.lt_succ_self _) rfl (za0 rfl) (zad [0,1,2,3,4,5] kr rfl)
         refine zar (zag ?_)
         exact zal 1 h rfl (za0 rfl) (zad [0,1,2,3,4,5] kr rfl)
        refine zyR 4 rfl (zyN (zaS rfl (zar (zag ?_))))
        exact zal 1 h rfl (za0 rfl) (zad [0,1,2,3,4,5] kr rfl)
       refine zyR 7 rfl (zyN (zaS rfl (zyG (zyR 1 rfl (zaU rfl zbS ?_)))))
       refine zyR 1 rfl ?_
       refine zyS (s:=88) rfl h (fun h => ?_) (fun h => ?_)
       ·
        refine zyR 1 rfl (zaU rfl zbS (zyR 2 rfl (zyN ?_)))
        refine zyB rfl h (fun h => ?_) (fun h => ?_)
        ·
         refine za3 (zcH dc (zan (zax ?_)))
         subst hag1
         exact za1 (n1,m10++[(⟨(p21.i:Int),p17,p18,p19,p20⟩:Gapi_Place)],m11,(p21.i:Int),p17+1,p22,p19,p20+1,line7,line8,m12+1,hd10,hd9) h (Nat.lt_succ_self _) rfl (za0 rfl) (zad [0,1,2,3,4,5] kr rfl)
        refine zar (zag ?_)
        exact zal 1 h rfl (za0 rfl) (zad [0,1,2,3,4,5] kr rfl)
       refine zyR 4 rfl (zyN (zaS rfl (zar (zag ?_))))
       exact zal 1 h rfl (za0 rfl) (zad [0,1,2,3,4,5] kr rfl)
      refine zyR 11 rfl (zyN (zaS rfl ?_))
      refine zyG (zyR 1 rfl (zaU rfl zbS (zyR 1 rfl ?_)))
      refine zyS (s:=88) rfl h (fun h => ?_) (fun h => ?_)
      ·
       refine zyR 1 rfl (zaU rfl zbS (zyR 2 rfl (zyN ?_)))
       refine zyB rfl h (fun h => ?_) (fun h => ?_)
       ·
        refine za3 (zcH dc (zan (zax ?_)))
        subst hag1
        exact za1 (n1,m10++[(⟨(p21.i:Int),p17,p18,p19,p20⟩:Gapi_Place)],m11,(p21.i:Int),p17+1,p22,p19,p20+1,line7,line8,m12+1,hd10,hd9) h (Nat.lt_succ_self _) rfl (za0 rfl) (zad [0,1,2,3,4,5] kr rfl)
       refine zar (zag ?_)
       exact zal 1 h rfl (za0 rfl) (zad [0,1,2,3,4,5] kr rfl)
      refine zyR 4 rfl (zyN (zaS rfl (zar (zag ?_))))
      exact zal 1 h rfl (za0 rfl) (zad [0,1,2,3,4,5] kr rfl)
     rintro width1 h
     rw [hj3] at h
     refine zyG (zyR 1 rfl ?_)
     obtain ⟨hg11,h⟩:=zbr h
     refine zaU rfl (zaR (r:=(p21.i:Int)+1) (IntWalk.i64_in _ hg11)) (zyR 1 rfl ?_)
     obtain ⟨hg12,h⟩:=zbr h
     refine zaU rfl (zbt (r:=((p21.i:Int)+1) - width1) (IntWalk.i64_in _ hg12)) (zab zka rfl dc rfl (show _=0 from rfl) (zab zdZ rfl dc rfl (show _=1 from rfl) ?_))
     refine zbb (k:=4) (l':=[zI line7,zI (((p21.i:Int)+1) - width1),zI 0,zI line8]) zcs rfl rfl rfl rfl rfl (fun _ _=>rfl) rfl ?_
     refine zyH (zyR 1 rfl (zab zmX rfl dc rfl (show _=2 from rfl) ?_))
     refine zbb (k:=4) (l':=[zI line7,zI (((p21.i:Int)+1) - width1),zI width1,zI line8]) zcs rfl rfl rfl rfl rfl (fun _ _=>rfl) rfl ?_
     refine zyN (zaI ?_)
     obtain ⟨hg13,h⟩:=zbr h
     refine zgs 1 ?_
     refine let vals2:(Nat×Hd)→List (Nat×Nat×Value):=fun b=>[(0,100,zP b4),(1,101,zP b4),(2,102,zP b4),(3,103,.pointer (some ⟨b4,2,none⟩)),(4,104,hd9.v),(5,105,.agg #[zI line7,zI (((p21.i:Int)+1) - width1),zI width1,zI line8]),(6,106,.slice (some ⟨b.1,0,none⟩) 1 1),(7,107,b.2.v)]; let LL2:(Nat→Prop)→(Nat×Hd)→List Asn:=fun D b=>[cells b4 [.string s1,hd10.v,hd9.v] 153,zv4 hd10.v (m10++[(⟨(p21.i:Int),p17,p18,p19,p20⟩:Gapi_Place)]),eD D (zv3 hd9.v m11) [(7,zv3 b.2.v (m11++[(⟨line7,((p21.i:Int)+1) - width1,width1,line8⟩:Gplace_ended)]))],cells b5 [zI (p21.i:Int),zI (p17+1),zI p22,zI p19,zI (p20+1)] 155,cells b6 [zI line7,zI (((p21.i:Int)+1) - width1),zI width1,zI line8] 157,obj b7 (.stringIter s1 (zfW s1 (m12+1))),eD D emp [(6,cells b.1 [zI line7,zI (((p21.i:Int)+1) - width1),zI width1,zI line8] 157)]]; ?_
     refine zd3 (β:=Nat×Hd) 8 ((0:Nat),Hd.nil) vals2 LL2 mixed kr kr dc (fun _=>rfl) (zdh (zae zb7 (zcK (zae zb7 rfl)))) (zaB ?_ (zaB ?_ (zaB ?_ (zaB ?_ (zaB ?_ (zaB ?_ (zaB ?_ (zaB ?_ DrawG.nil)))))))) ?_
     ·
      intro D b hn hd hcl
      obtain ⟨b9,hd12⟩:=b
      refine zaL (zwt rfl) (zeE rfl dc (zbe (by rfl) rfl) ?_)
      exact zaW (b:=(b9,hd12)) (b9,hd12) 0 (by rfl) (by rfl) rfl (zi6 rfl) (zdh (zae (zap (by rfl)) (zcK (zae (zap (by rfl)) rfl))))
     ·
      intro D b hn hd hcl
      obtain ⟨b9,hd12⟩:=b
      refine zaL (zdh (zae (zak (fun hD=>hn (hcl 2 _ rfl (hcl 3 _ rfl (hcl 4 _ rfl (hcl 7 _ rfl hD 4 dc) 3 dc) 2 dc) 1 dc)) zaq) (zfL rfl))) ?_
      refine zeE rfl dc (zbe (by rfl) rfl) ?_
      exact zaW (b:=(b9,hd12)) (b9,hd12) 1 (by rfl) (by rfl) rfl (zi6 rfl) (zdh (zae ((zap (by rfl)).trans (zak (fun hD=>hn (hcl 2 _ rfl (hcl 3 _ rfl (hcl 4 _ rfl (hcl 7 _ rfl hD 4 dc) 3 dc) 2 dc) 1 dc)) zaq)) (zcK (zae (zap (by rfl)) rfl))))
     ·
      intro D b hn hd hcl
      obtain ⟨b9,hd12⟩:=b
      refine zaL (zdh (zae (zak (fun hD=>hn (hcl 3 _ rfl (hcl 4 _ rfl (hcl 7 _ rfl hD 4 dc) 3 dc) 2 dc)) zaq) (zfL rfl))) ?_
      refine zaD rfl dc (zaa (m:=1) rfl rfl (hd 1 dc)) ?_
      exact zaW (b:=(b9,hd12)) (b9,hd12) 2 (by rfl) (by rfl) rfl (zi6 rfl) (zdh (zae ((zap (by rfl)).trans (zak (fun hD=>hn (hcl 3 _ rfl (hcl 4 _ rfl (hcl 7 _ rfl hD 4 dc) 3 dc) 2 dc)) zaq)) (zcK (zae (zap (by rfl)) rfl))))
     ·
      intro D b hn hd hcl
      obtain ⟨b9,hd12⟩:=b
      refine zaL (zdh (zae (zak (fun hD=>hn (hcl 4 _ rfl (hcl 7 _ rfl hD 4 dc) 3 dc)) zaq) (zfL rfl))) ?_
      refine zab zfJ rfl dc (zaa (m:=2) rfl rfl (hd 2 dc)) (show _=2 from rfl) ?_
      exact zaW (b:=(b9,hd12)) (b9,hd12) 3 (by rfl) (by rfl) rfl (zi6 rfl) (zdh (zae ((zap (by rfl)).trans (zak (fun hD=>hn (hcl 4 _ rfl (hcl 7 _ rfl hD 4 dc) 3 dc)) zaq)) (zcK (zae (zap (by rfl)) rfl))))
     ·
      intro D b hn hd hcl
      obtain ⟨b9,hd12⟩:=b
      refine zaL (zdh (zae (zak (fun hD=>hn (hcl 7 _ rfl hD 4 dc)) zaq) (zfL rfl))) ?_
      refine zau (k:=0) zjD rfl dc (zaa (m:=3) rfl rfl (hd 3 dc)) rfl rfl ?_
      exact zaW (b:=(b9,hd12)) (b9,hd12) 4 (by rfl) (by rfl) rfl (zi6 rfl) (zdh (zae ((zap (by rfl)).trans (zak (fun hD=>hn (hcl 7 _ rfl hD 4 dc)) zaq)) (zcK (zae (zap (by rfl)) rfl))))
     ·
      intro D b hn hd hcl
      obtain ⟨b9,hd12⟩:=b
      refine zaL (zdh (zae (zak (fun hD=>hn (hcl 6 _ rfl (hcl 7 _ rfl hD 6 dc) 5 dc)) zaq) (zcK (zae (zak (fun hD=>hn (hcl 6 _ rfl hD 5 dc)) zaq) rfl)))) ?_
      refine zbd (k:=4) (cs:=[zI line7,zI (((p21.i:Int)+1) - width1),zI width1,zI line8]) ztc rfl dc (zbe (by rfl) rfl) rfl rfl rfl ?_
      exact zaW (b:=(b9,hd12)) (b9,hd12) 5 (by rfl) (by rfl) rfl (zi6 rfl) (zdh (zae ((zap (by rfl)).trans (zak (fun hD=>hn (hcl 6 _ rfl (hcl 7 _ rfl hD 6 dc) 5 dc)) zaq)) (zcK (zae ((zap (by rfl)).trans (zak (fun hD=>hn (hcl 6 _ rfl hD 5 dc)) zaq)) rfl))))
     ·
      intro D b hn hd hcl
      obtain ⟨zb0,hd12⟩:=b
      refine zaL (zdh (zae (zak (fun hD=>hn (hcl 7 _ rfl hD 6 dc)) zaq) (zcK (zae (zak hn zaq) rfl)))) ?_
      refine zaV (cs:=[zI line7,zI (((p21.i:Int)+1) - width1),zI width1,zI line8]) (te:=157) (ps:=[(0,.tmp 105)]) rfl dc (evP.cons (zaa (m:=5) rfl rfl (hd 5 dc)) evP.nil) (fun _=>by kernel_rfl) (fun b9 => ?_)
      refine zcU 6 rfl rfl ?_
      exact zaW (b:=(zb0,hd12)) (b9,hd12) 6 (by rfl) (by rfl) rfl (ztB (zas (fun hD=>absurd hD hn) (zas (fun _=>rfl) rfl))) (zdh (zae ((zap (by rfl)).trans (zak (fun hD=>hn (hcl 7 _ rfl hD 6 dc)) zaq)) (zcK (zae (zaM (Or.inr rfl) rfl) rfl))))
     ·
      intro D b hn hd hcl
      obtain ⟨b9,zb1⟩:=b
      refine zaL (zdh (zae (zak hn zaq) (zcK (zae (zaM (hd 6 dc) rfl) rfl)))) ?_
      refine za4 (k:=2) (k2:=6) (ys:=[(⟨line7,((p21.i:Int)+1) - width1,width1,line8⟩:Gplace_ended)]) Tryz.underlying151 ztr zcT zfV rfl dc (zaa (m:=4) rfl rfl (hd 4 dc)) (zaa (m:=6) rfl rfl (hd 6 dc)) rfl rfl rfl rfl hg13 (fun v2 => ?_)
      refine zby (k:=2) rfl (fun hd12 he2 => ?_)
      subst he2
      exact zaW (b:=(b9,zb1)) (b9,hd12) 7 (by rfl) (by rfl) rfl (zjP (zas (fun hD=>absurd hD hn) rfl)) (zdh (zae (zaM (Or.inr rfl) rfl) (zcK (zae ((zap (by rfl)).trans (zaM (hd 6 dc) rfl)) rfl))))
     intro D b hall
     obtain ⟨b9,hd12⟩:=b
     refine zaL (zdh (zae (zaM (hall 7 dc) rfl) (zcK (zae (zaM (hall 6 dc) rfl) rfl)))) (zaD rfl dc rfl (zab zfJ rfl dc rfl (show _=2 from rfl) ?_))
     refine zbb (k:=0) (l':=[.string s1,hd10.v,hd12.v]) zs9 rfl rfl rfl rfl rfl (fun _ _=>rfl) rfl ?_
     refine zyH (zyR 1 rfl ?_)
     obtain ⟨hg14,h⟩:=zbr h
     refine zaU rfl (zaR (r:=(p21.i:Int)+1) (IntWalk.i64_in _ hg14)) ?_
     refine zba (v:=.agg #[zI ((p21.i:Int)+1),zI 0]) (ps:=[(0,.tmp 111)]) rfl dc rfl (fun _=>by kernel_rfl) ?_
     refine zyR 1 rfl (zaD rfl dc rfl (zab ziO rfl dc rfl (show _=1 from rfl) (zau (k:=0) zqL rfl dc rfl rfl rfl (zbg (k:=1) rfl dc rfl rfl Tryz.underlying150 ?_))))
     refine zba (v:=.agg #[zI ((p21.i:Int)+1),zI 0,zI 0,zI ((m10++[(⟨(p21.i:Int),p17,p18,p19,p20⟩:Gapi_Place)]).length:Int)]) (ps:=[(0,.tmp 112),(2,.tmp 117)]) rfl dc rfl (fun _=>by kernel_rfl) ?_
     refine za6 (k:=4) (vs:=[zI ((p21.i:Int)+1),zI 0,zI 0,zI ((m10++[(⟨(p21.i:Int),p17,p18,p19,p20⟩:Gapi_Place)]).length:Int)]) (l':=[zI ((p21.i:Int)+1),zI 0,zI 0,zI ((m10++[(⟨(p21.i:Int),p17,p18,p19,p20⟩:Gapi_Place)]).length:Int)]) zlN rfl rfl rfl rfl rfl (show _≤_ by simp) rfl rfl ?_
     refine zyH (zab zpp rfl dc rfl (show _=3 from rfl) (zau (k:=3) zbp rfl dc rfl rfl rfl ?_))
     obtain ⟨hg15,h⟩:=zbr h
     refine zaU rfl (zaR (r:=p19+1) (IntWalk.i64_in _ hg15)) (zab zpp rfl dc rfl (show _=3 from rfl) ?_)
     refine zbb (k:=3) (l':=[zI (p21.i:Int),zI (p17+1),zI p22,zI (p19+1),zI (p20+1)]) zcs rfl rfl rfl rfl rfl (fun _ _=>rfl) rfl ?_
     refine zyN (zav (zab zmY rfl dc rfl (show _=4 from rfl) ?_))
     refine zbb (k:=3) (l':=[zI (p21.i:Int),zI (p17+1),zI p22,zI (p19+1),zI 0]) zcs rfl rfl rfl rfl rfl (fun _ _=>rfl) rfl ?_
     refine zaO (zag ?_)
     subst hag1
     exact za1 (n1,m10++[(⟨(p21.i:Int),p17,p18,p19,p20⟩:Gapi_Place)],m11++[(⟨line7,((p21.i:Int)+1) - width1,width1,line8⟩:Gplace_ended)],(p21.i:Int),p17+1,p22,p19+1,0,(p21.i:Int)+1,((m10++[(⟨(p21.i:Int),p17,p18,p19,p20⟩:Gapi_Place)]).length:Int),m12+1,hd10,hd12) h (Nat.lt_succ_self _) rfl (za0 rfl) (zad [0,1,2,3,4,5] kr rfl)
    have h:=zf1 hb2 h
    refine zga (k:=5) (m:=m12) rfl dc rfl rfl (Nat.le_of_not_lt (of_decide_eq_false hb2)) (zaN rfl dc rfl rfl (zyN (zaI (zaS rfl (za3 (zan (zan (zax ?_))))))))
    exact zal (m10,m11,p16,p17,p18,p19,p20,line7,line8,b4,hd8,hd9,b5,b6) h rfl (za0 rfl) (zad [0,1,2,3,4] kr rfl)
  rintro ⟨m1,m2,p1,p2,p3,p4,p5,line1,line2,b1,hd1,hd2,b2,b3⟩ h
  rw [hj1] at h
  refine zyG (zyR 1 rfl (zcg rfl dc rfl Tryz.underlying9 (zab zpr rfl dc rfl (show _=0 from rfl) ?_)))
  refine zbb (k:=3) (l':=[zI (s1.size:Int),zI p2,zI p3,zI p4,zI p5]) zcs rfl rfl rfl rfl rfl (fun _ _=>rfl) rfl ?_
  refine zyN (zaI ?_)
  obtain ⟨hg16,h⟩:=zbr h
  refine zgs 1 ?_
  refine let vals3:(Nat×Hd)→List (Nat×Nat×Value):=fun b=>[(0,127,zP b1),(1,128,zP b1),(2,129,zP b1),(3,130,.pointer (some ⟨b1,1,none⟩)),(4,131,hd1.v),(5,132,.agg #[zI (s1.size:Int),zI p2,zI p3,zI p4,zI p5]),(6,133,.slice (some ⟨b.1,0,none⟩) 1 1),(7,134,b.2.v)]; let LL3:(Nat→Prop)→(Nat×Hd)→List Asn:=fun D b=>[cells b1 [.string s1,hd1.v,hd2.v] 153,eD D (zv4 hd1.v m1) [(7,zv4 b.2.v (m1++[(⟨(s1.size:Int),p2,p3,p4,p5⟩:Gapi_Place)]))],zv3 hd2.v m2,cells b2 [zI (s1.size:Int),zI p2,zI p3,zI p4,zI p5] 155,cells b3 [zI line1,zI 0,zI 0,zI line2] 157,eD D emp [(6,cells b.1 [zI (s1.size:Int),zI p2,zI p3,zI p4,zI p5] 155)]]; ?_
  refine zd3 (β:=Nat×Hd) 8 ((0:Nat),Hd.nil) vals3 LL3 mixed kr kr dc (fun _=>rfl) (zae rfl (zae zb7 (zcK (zae zb7 rfl)))) (zaB ?_ (zaB ?_ (zaB ?_ (zaB ?_ (zaB ?_ (zaB ?_ (zaB ?_ (zaB ?_ DrawG.nil)))))))) ?_
  ·
   intro D b hn hd hcl
   obtain ⟨b10,hd13⟩:=b
   refine zaL (ztz rfl) (zeE rfl dc (zbe (by rfl) rfl) ?_)
   exact zaW (b:=(b10,hd13)) (b10,hd13) 0 (by rfl) (by rfl) rfl (zi6 rfl) (zae rfl (zae (zap (by rfl)) (zcK (zae (zap (by rfl)) rfl))))
  ·
   intro D b hn hd hcl
   obtain ⟨b10,hd13⟩:=b
   refine zaL (zae rfl (zae (zak (fun hD=>hn (hcl 2 _ rfl (hcl 3 _ rfl (hcl 4 _ rfl (hcl 7 _ rfl hD 4 dc) 3 dc) 2 dc) 1 dc)) zaq) (zfL rfl))) ?_
   refine zeE rfl dc (zbe (by rfl) rfl) ?_
   exact zaW (b:=(b10,hd13)) (b10,hd13) 1 (by rfl) (by rfl) rfl (zi6 rfl) (zae rfl (zae ((zap (by rfl)).trans (zak (fun hD=>hn (hcl 2 _ rfl (hcl 3 _ rfl (hcl 4 _ rfl (hcl 7 _ rfl hD 4 dc) 3 dc) 2 dc) 1 dc)) zaq)) (zcK (zae (zap (by rfl)) rfl))))
  ·
   intro D b hn hd hcl
   obtain ⟨b10,hd13⟩:=b
   refine zaL (zae rfl (zae (zak (fun hD=>hn (hcl 3 _ rfl (hcl 4 _ rfl (hcl 7 _ rfl hD 4 dc) 3 dc) 2 dc)) zaq) (zfL rfl))) ?_
   refine zaD rfl dc (zaa (m:=1) rfl rfl (hd 1 dc)) ?_
   exact zaW (b:=(b10,hd13)) (b10,hd13) 2 (by rfl) (by rfl) rfl (zi6 rfl) (zae rfl (zae ((zap (by rfl)).trans (zak (fun hD=>hn (hcl 3 _ rfl (hcl 4 _ rfl (hcl 7 _ rfl hD 4 dc) 3 dc) 2 dc)) zaq)) (zcK (zae (zap (by rfl)) rfl))))
  ·
   intro D b hn hd hcl
   obtain ⟨b10,hd13⟩:=b
   refine zaL (zae rfl (zae (zak (fun hD=>hn (hcl 4 _ rfl (hcl 7 _ rfl hD 4 dc) 3 dc)) zaq) (zfL rfl))) ?_
   refine zab ziO rfl dc (zaa (m:=2) rfl rfl (hd 2 dc)) (show _=1 from rfl) ?_
   exact zaW (b:=(b10,hd13)) (b10,hd13) 3 (by rfl) (by rfl) rfl (zi6 rfl) (zae rfl (zae ((zap (by rfl)).trans (zak (fun hD=>hn (hcl 4 _ rfl (hcl 7 _ rfl hD 4 dc) 3 dc)) zaq)) (zcK (zae (zap (by rfl)) rfl))))
  ·
   intro D b hn hd hcl
   obtain ⟨b10,hd13⟩:=b
   refine zaL (zae rfl (zae (zak (fun hD=>hn (hcl 7 _ rfl hD 4 dc)) zaq) (zfL rfl))) ?_
   refine zau (k:=0) zqL rfl dc (zaa (m:=3) rfl rfl (hd 3 dc)) rfl rfl ?_
   exact zaW (b:=(b10,hd13)) (b10,hd13) 4 (by rfl) (by rfl) rfl (zi6 rfl) (zae rfl (zae ((zap (by rfl)).trans (zak (fun hD=>hn (hcl 7 _ rfl hD 4 dc)) zaq)) (zcK (zae (zap (by rfl)) rfl))))
  ·
   intro D b hn hd hcl
   obtain ⟨b10,hd13⟩:=b
   refine zaL (zae rfl (zae (zak (fun hD=>hn (hcl 6 _ rfl (hcl 7 _ rfl hD 6 dc) 5 dc)) zaq) (zcK (zae (zak (fun hD=>hn (hcl 6 _ rfl hD 5 dc)) zaq) rfl)))) ?_
   refine zbd (k:=3) (cs:=[zI (s1.size:Int),zI p2,zI p3,zI p4,zI p5]) ztd rfl dc (zbe (by rfl) rfl) rfl rfl rfl ?_
   exact zaW (b:=(b10,hd13)) (b10,hd13) 5 (by rfl) (by rfl) rfl (zi6 rfl) (zae rfl (zae ((zap (by rfl)).trans (zak (fun hD=>hn (hcl 6 _ rfl (hcl 7 _ rfl hD 6 dc) 5 dc)) zaq)) (zcK (zae ((zap (by rfl)).trans (zak (fun hD=>hn (hcl 6 _ rfl hD 5 dc)) zaq)) rfl))))
  ·
   intro D b hn hd hcl
   obtain ⟨zb0,hd13⟩:=b
   refine zaL (zae rfl (zae (zak (fun hD=>hn (hcl 7 _ rfl hD 6 dc)) zaq) (zcK (zae (zak hn zaq) rfl)))) ?_
   refine zaV (cs:=[zI (s1.size:Int),zI p2,zI p3,zI p4,zI p5]) (te:=155) (ps:=[(0,.tmp 132)]) rfl dc (evP.cons (zaa (m:=5) rfl rfl (hd 5 dc)) evP.nil) (fun _=>by kernel_rfl) (fun b10 => ?_)
   refine zcU 5 rfl rfl ?_
   exact zaW (b:=(zb0,hd13)) (b10,hd13) 6 (by rfl) (by rfl) rfl (ztB (zas (fun hD=>absurd hD hn) (zas (fun _=>rfl) rfl))) (zae rfl (zae ((zap (by rfl)).trans (zak (fun hD=>hn (hcl 7 _ rfl hD 6 dc)) zaq)) (zcK (zae (zaM (Or.inr rfl) rfl) rfl))))
  ·
   intro D b hn hd hcl
   obtain ⟨b10,zb1⟩:=b
   refine zaL (zae rfl (zae (zak hn zaq) (zcK (zae (zaM (hd 6 dc) rfl) rfl)))) ?_
   refine za4 (k:=1) (k2:=5) (ys:=[(⟨(s1.size:Int),p2,p3,p4,p5⟩:Gapi_Place)]) Tryz.underlying150 zts zgB zgA rfl dc (zaa (m:=4) rfl rfl (hd 4 dc)) (zaa (m:=6) rfl rfl (hd 6 dc)) rfl rfl rfl rfl hg16 (fun v3 => ?_)
   refine zby (k:=1) rfl (fun hd13 he3 => ?_)
   subst he3
   exact zaW (b:=(b10,zb1)) (b10,hd13) 7 (by rfl) (by rfl) rfl (zjP (zas (fun hD=>absurd hD hn) rfl)) (zae rfl (zae (zaM (Or.inr rfl) rfl) (zcK (zae ((zap (by rfl)).trans (zaM (hd 6 dc) rfl)) rfl))))
  intro D b hall
  obtain ⟨b10,hd13⟩:=b
  refine zaL (zae rfl (zae (zaM (hall 7 dc) rfl) (zcK (zae (zaM (hall 6 dc) rfl) rfl)))) (zaD rfl dc rfl (zab ziO rfl dc rfl (show _=1 from rfl) ?_))
  refine zbb (k:=0) (l':=[.string s1,hd13.v,hd2.v]) zta rfl rfl rfl rfl rfl (fun _ _=>rfl) rfl ?_
  refine zyH (zyR 1 rfl (zcg rfl dc rfl Tryz.underlying9 (zab zka rfl dc rfl (show _=0 from rfl) (zab zdZ rfl dc rfl (show _=1 from rfl) ?_))))
  refine zbb (k:=4) (l':=[zI line1,zI (s1.size:Int),zI 0,zI line2]) zcs rfl rfl rfl rfl rfl (fun _ _=>rfl) rfl ?_
  refine zyN (zaI ?_)
  obtain ⟨hg17,h⟩:=zbr h
  refine zgs 1 ?_
  refine let vals4:(Nat×Hd)→List (Nat×Nat×Value):=fun b=>[(0,141,zP b1),(1,142,zP b1),(2,143,zP b1),(3,144,.pointer (some ⟨b1,2,none⟩)),(4,145,hd2.v),(5,146,.agg #[zI line1,zI (s1.size:Int),zI 0,zI line2]),(6,147,.slice (some ⟨b.1,0,none⟩) 1 1),(7,148,b.2.v)]; let LL4:(Nat→Prop)→(Nat×Hd)→List Asn:=fun D b=>[cells b1 [.string s1,hd13.v,hd2.v] 153,zv4 hd13.v (m1++[(⟨(s1.size:Int),p2,p3,p4,p5⟩:Gapi_Place)]),eD D (zv3 hd2.v m2) [(7,zv3 b.2.v (m2++[(⟨line1,(s1.size:Int),0,line2⟩:Gplace_ended)]))],cells b2 [zI (s1.size:Int),zI p2,zI p3,zI p4,zI p5] 155,cells b3 [zI line1,zI (s1.size:Int),zI 0,zI line2] 157,cells b10 [zI (s1.size:Int),zI p2,zI p3,zI p4,zI p5] 155,eD D emp [(6,cells b.1 [zI line1,zI (s1.size:Int),zI 0,zI line2] 157)]]; ?_
  refine zd3 (β:=Nat×Hd) 8 ((0:Nat),Hd.nil) vals4 LL4 mixed kr kr dc (fun _=>rfl) (zdh (zae zb7 (zcK (zae zb7 rfl)))) (zaB ?_ (zaB ?_ (zaB ?_ (zaB ?_ (zaB ?_ (zaB ?_ (zaB ?_ (zaB ?_ DrawG.nil)))))))) ?_
  ·
   intro D b hn hd hcl
   obtain ⟨b11,hd14⟩:=b
   refine zaL (zwt rfl) (zeE rfl dc (zbe (by rfl) rfl) ?_)
   exact zaW (b:=(b11,hd14)) (b11,hd14) 0 (by rfl) (by rfl) rfl (zi6 rfl) (zdh (zae (zap (by rfl)) (zcK (zae (zap (by rfl)) rfl))))
  ·
   intro D b hn hd hcl
   obtain ⟨b11,hd14⟩:=b
   refine zaL (zdh (zae (zak (fun hD=>hn (hcl 2 _ rfl (hcl 3 _ rfl (hcl 4 _ rfl (hcl 7 _ rfl hD 4 dc) 3 dc) 2 dc) 1 dc)) zaq) (zfL rfl))) ?_
   refine zeE rfl dc (zbe (by rfl) rfl) ?_
   exact zaW (b:=(b11,hd14)) (b11,hd14) 1 (by rfl) (by rfl) rfl (zi6 rfl) (zdh (zae ((zap (by rfl)).trans (zak (fun hD=>hn (hcl 2 _ rfl (hcl 3 _ rfl (hcl 4 _ rfl (hcl 7 _ rfl hD 4 dc) 3 dc) 2 dc) 1 dc)) zaq)) (zcK (zae (zap (by rfl)) rfl))))
  ·
   intro D b hn hd hcl
   obtain ⟨b11,hd14⟩:=b
   refine zaL (zdh (zae (zak (fun hD=>hn (hcl 3 _ rfl (hcl 4 _ rfl (hcl 7 _ rfl hD 4 dc) 3 dc) 2 dc)) zaq) (zfL rfl))) ?_
   refine zaD rfl dc (zaa (m:=1) rfl rfl (hd 1 dc)) ?_
   exact zaW (b:=(b11,hd14)) (b11,hd14) 2 (by rfl) (by rfl) rfl (zi6 rfl) (zdh (zae ((zap (by rfl)).trans (zak (fun hD=>hn (hcl 3 _ rfl (hcl 4 _ rfl (hcl 7 _ rfl hD 4 dc) 3 dc) 2 dc)) zaq)) (zcK (zae (zap (by rfl)) rfl))))
  ·
   intro D b hn hd hcl
   obtain ⟨b11,hd14⟩:=b
   refine zaL (zdh (zae (zak (fun hD=>hn (hcl 4 _ rfl (hcl 7 _ rfl hD 4 dc) 3 dc)) zaq) (zfL rfl))) ?_
   refine zab zfJ rfl dc (zaa (m:=2) rfl rfl (hd 2 dc)) (show _=2 from rfl) ?_
   exact zaW (b:=(b11,hd14)) (b11,hd14) 3 (by rfl) (by rfl) rfl (zi6 rfl) (zdh (zae ((zap (by rfl)).trans (zak (fun hD=>hn (hcl 4 _ rfl (hcl 7 _ rfl hD 4 dc) 3 dc)) zaq)) (zcK (zae (zap (by rfl)) rfl))))
  ·
   intro D b hn hd hcl
   obtain ⟨b11,hd14⟩:=b
   refine zaL (zdh (zae (zak (fun hD=>hn (hcl 7 _ rfl hD 4 dc)) zaq) (zfL rfl))) ?_
   refine zau (k:=0) zjD rfl dc (zaa (m:=3) rfl rfl (hd 3 dc)) rfl rfl ?_
   exact zaW (b:=(b11,hd14)) (b11,hd14) 4 (by rfl) (by rfl) rfl (zi6 rfl) (zdh (zae ((zap (by rfl)).trans (zak (fun hD=>hn (hcl 7 _ rfl hD 4 dc)) zaq)) (zcK (zae (zap (by rfl)) rfl))))
  ·
   intro D b hn hd hcl
   obtain ⟨b11,hd14⟩:=b
   refine zaL (zdh (zae (zak (fun hD=>hn (hcl 6 _ rfl (hcl 7 _ rfl hD 6 dc) 5 dc)) zaq) (zcK (zae (zak (fun hD=>hn (hcl 6 _ rfl hD 5 dc)) zaq) rfl)))) ?_
   refine zbd (k:=4) (cs:=[zI line1,zI (s1.size:Int),zI 0,zI line2]) ztc rfl dc (zbe (by rfl) rfl) rfl rfl rfl ?_
   exact zaW (b:=(b11,hd14)) (b11,hd14) 5 (by rfl) (by rfl) rfl (zi6 rfl) (zdh (zae ((zap (by rfl)).trans (zak (fun hD=>hn (hcl 6 _ rfl (hcl 7 _ rfl hD 6 dc) 5 dc)) zaq)) (zcK (zae ((zap (by rfl)).trans (zak (fun hD=>hn (hcl 6 _ rfl hD 5 dc)) zaq)) rfl))))
  ·
   intro D b hn hd hcl
   obtain ⟨zb0,hd14⟩:=b
   refine zaL (zdh (zae (zak (fun hD=>hn (hcl 7 _ rfl hD 6 dc)) zaq) (zcK (zae (zak hn zaq) rfl)))) ?_
   refine zaV (cs:=[zI line1,zI (s1.size:Int),zI 0,zI line2]) (te:=157) (ps:=[(0,.tmp 146)]) rfl dc (evP.cons (zaa (m:=5) rfl rfl (hd 5 dc)) evP.nil) (fun _=>by kernel_rfl) (fun b11 => ?_)
   refine zcU 6 rfl rfl ?_
   exact zaW (b:=(zb0,hd14)) (b11,hd14) 6 (by rfl) (by rfl) rfl (ztB (zas (fun hD=>absurd hD hn) (zas (fun _=>rfl) rfl))) (zdh (zae ((zap (by rfl)).trans (zak (fun hD=>hn (hcl 7 _ rfl hD 6 dc)) zaq)) (zcK (zae (zaM (Or.inr rfl) rfl) rfl))))
  ·
   intro D b hn hd hcl
   obtain ⟨b11,zb1⟩:=b
   refine zaL (zdh (zae (zak hn zaq) (zcK (zae (zaM (hd 6 dc) rfl) rfl)))) ?_
   refine za4 (k:=2) (k2:=6) (ys:=[(⟨line1,(s1.size:Int),0,line2⟩:Gplace_ended)]) Tryz.underlying151 ztr zcT zfV rfl dc (zaa (m:=4) rfl rfl (hd 4 dc)) (zaa (m:=6) rfl rfl (hd 6 dc)) rfl rfl rfl rfl hg17 (fun v4 => ?_)
   refine zby (k:=2) rfl (fun hd14 he4 => ?_)
   subst he4
   exact zaW (b:=(b11,zb1)) (b11,hd14) 7 (by rfl) (by rfl) rfl (zjP (zas (fun hD=>absurd hD hn) rfl)) (zdh (zae (zaM (Or.inr rfl) rfl) (zcK (zae ((zap (by rfl)).trans (zaM (hd 6 dc) rfl)) rfl))))
  intro D b hall
  obtain ⟨b11,hd14⟩:=b
  refine zaL (zdh (zae (zaM (hall 7 dc) rfl) (zcK (zae (zaM (hall 6 dc) rfl) rfl)))) (zaD rfl dc rfl (zab zfJ rfl dc rfl (show _=2 from rfl) ?_))
  refine zbb (k:=0) (l':=[.string s1,hd13.v,hd14.v]) zs9 rfl rfl rfl rfl rfl (fun _ _=>rfl) rfl ?_
  refine zyH (zyR 3 rfl (zyN (zaG (zd9 (by simp) ?_))))
  refine zoM (As:=[cells b1 [.string s1,hd13.v,hd14.v] 153,zv4 hd13.v (m1++[(⟨(s1.size:Int),p2,p3,p4,p5⟩:Gapi_Place)]),zv3 hd14.v (m2++[(⟨line1,(s1.size:Int),0,line2⟩:Gplace_ended)])]) (zad [0,1,2] kr rfl) (zjz (enc:=zeB) (nest:=zez) (t:=153) (x:=(⟨s1,m1++[(⟨(s1.size:Int),p2,p3,p4,p5⟩:Gapi_Place)],m2++[(⟨line1,(s1.size:Int),0,line2⟩:Gplace_ended)]⟩:Gplace_Map)) (b:=b1) (hd:=(hd13,hd14))) (fun _ _ => ?_)
  cases h
  exact zaK (rs:=[.tmp 2,.tmp 3]) (zP b1) (.inl rfl) Tryz.results45 (.cons (.tmp rfl) (.cons (.tmp rfl) .nil)) rfl (zad [7] kr rfl)
 exact fun b hb=>hb.elim
def zfA (m1:Gplace_Map):Option Int :=
some (m1.lines.length:Int)
theorem ziB {bm1:Nat} {m1:Gplace_Map} {m1_h0 m1_h1:Hd} {r:Int} (h:zfA m1=some r):FnR Tryz.prog 46 [zP bm1] [cells bm1 [.string m1.text,m1_h0.v,m1_h1.v] 153,zv4 m1_h0.v m1.places,zv3 m1_h1.v m1.lines] [] (fun _:Unit=>(zI r)) (fun _=>[]):=by
 unfold zfA at h
 refine FnR.intro Tryz.func46 rfl Tryz.ntmps46 (by simp) ?_
 intro w0 K hrd
 refine zyG (zyR 1 rfl (zyN (zaI (zyG (zyR 1 rfl (zaU rfl (zc6 Tryz.underlying99) (zyN (zaS rfl (zar ?_)))))))))
 refine zaH (zyG (zyR 1 rfl (zaD rfl dc rfl (zab zfJ rfl dc rfl (show _=2 from rfl) (zbw (i:=0) hrd rfl zjD rfl dc rfl rfl (zdT (hrd.vw (i:=2) rfl) rfl dc rfl Tryz.underlying151 (zyR 1 rfl (zyN (zaG ?_)))))))))
 cases h
 exact zaK (rs:=[.tmp 2]) () (.inl rfl) Tryz.results46 (.cons (.tmp rfl) .nil) rfl Splits.nil
def zeh (m1:Gplace_Map) (line1:Int):Option (Gapi_Span×Int×Int) :=
zay (decide ((line1:Int)<0)) (
some ((⟨0,0⟩:Gapi_Span),0,5)
) (
zay (decide (((m1.lines.length:Int):Int)≤line1)) (
some ((⟨0,0⟩:Gapi_Span),0,5)
) (
zah (zbm m1.lines line1) fun (q1:Gplace_ended) =>
some ((⟨q1.span_From,q1.span_To⟩:Gapi_Span),q1.end_,0)
)
)
theorem zjc {bm1:Nat} {m1:Gplace_Map} {m1_h0 m1_h1:Hd} {line1:Int} {r:(Gapi_Span×Int×Int)} (h:zeh m1 line1=some r):FnR Tryz.prog 47 [zP bm1,zI line1] [cells bm1 [.string m1.text,m1_h0.v,m1_h1.v] 153,zv4 m1_h0.v m1.places,zv3 m1_h1.v m1.lines] [] (fun _:Unit=>(.tuple #[.agg (zr5 r.1).toArray,zI r.2.1,zI r.2.2])) (fun _=>[]):=by
 unfold zeh at h
 refine FnR.intro Tryz.func47 rfl Tryz.ntmps47 (by simp) ?_
 intro w0 K hrd
 refine zyG ?_
 refine zbE zqf rfl dc (fun b1 => ?_)
 refine zyR 2 rfl (zyN (zaI (zyG (zyR 1 rfl (zaU rfl (zc6 Tryz.underlying99) (zyN (zaS rfl (zar (zaH ?_)))))))))
 refine zaI (zyG (zyR 1 rfl (zaU rfl zbc (zyR 1 rfl ?_))))
 refine zyS (s:=12) rfl h (fun h => ?_) (fun h => ?_)
 ·
  refine zyR 8 rfl (zyN (za5 rfl (zyG ?_)))
  refine zba (v:=.agg #[zI 0,zI 0]) (ps:=[]) rfl dc rfl (fun _=>by kernel_rfl) ?_
  refine za6 (k:=0) (vs:=[zI 0,zI 0]) (l':=[zI 0,zI 0]) zkn rfl rfl rfl rfl rfl (show _≤_ by simp) rfl rfl ?_
  refine zyR 2 rfl (zyN (zaG (zao ?_)))
  cases h
  exact zaK (rs:=[.cell 4 38,.tmp 5,.tmp 6]) () (.inl rfl) Tryz.results47 (.cons (.cells znw (k:=0) rfl rfl rfl) (.cons (.tmp rfl) (.cons (.tmp rfl) .nil))) rfl Splits.nil
 refine zyR 2 rfl (zaD rfl dc rfl (zab zfJ rfl dc rfl (show _=2 from rfl) (zbw (i:=0) hrd rfl zjD rfl dc rfl rfl (zdT (hrd.vw (i:=2) rfl) rfl dc rfl Tryz.underlying151 (zaU rfl zer (zyR 1 rfl (zyN ?_)))))))
 refine zyB rfl h (fun h => ?_) (fun h => ?_)
 ·
  refine zyG ?_
  refine zba (v:=.agg #[zI 0,zI 0]) (ps:=[]) rfl dc rfl (fun _=>by kernel_rfl) ?_
  refine za6 (k:=0) (vs:=[zI 0,zI 0]) (l':=[zI 0,zI 0]) zkn rfl rfl rfl rfl rfl (show _≤_ by simp) rfl rfl ?_
  refine zyR 2 rfl (zyN (zaG (zao ?_)))
  cases h
  exact zaK (rs:=[.cell 4 38,.tmp 5,.tmp 6]) () (.inl rfl) Tryz.results47 (.cons (.cells znw (k:=0) rfl rfl rfl) (.cons (.tmp rfl) (.cons (.tmp rfl) .nil))) rfl Splits.nil
 refine zar (zaH (zaI ?_))
 obtain ⟨q1,hq1,h⟩:=zbi h
 refine zhV (β:=Unit) 17 16 _ [(0,22,zP bm1),(1,23,zP bm1),(2,24,.pointer (some ⟨bm1,2,none⟩)),(3,25,m1_h1.v),(4,26,zI line1),(5,27,.pointer (some ⟨zbY m1_h1.v,(0+(line1:Int).toNat)*4,none⟩)),(6,28,.pointer (some ⟨zbY m1_h1.v,(0+(line1:Int).toNat)*4,none⟩)),(7,29,.agg #[zI q1.span_From,zI q1.span_To]),(8,30,zP bm1),(9,31,zP bm1),(10,32,.pointer (some ⟨bm1,2,none⟩)),(11,33,m1_h1.v),(12,34,zI line1),(13,35,.pointer (some ⟨zbY m1_h1.v,(0+(line1:Int).toNat)*4,none⟩)),(14,36,.pointer (some ⟨zbY m1_h1.v,(0+(line1:Int).toNat)*4+2,none⟩)),(15,37,zI q1.end_)] (fun _b=>[]) (fun _b=>[cells b1 [zI q1.span_From,zI q1.span_To] 38]) mixed kr kr rfl dc dc (by rfl) kr kr (zyE 1 0 rfl (zai ?_ (zai ?_ (zai ?_ (zyE 1 4 rfl (zai ?_ (zai ?_ (zai ?_ (zyE 1 8 rfl (zai ?_ (zai ?_ (zai ?_ (zyE 1 12 rfl (zai ?_ (zai ?_ (zai ?_ (zcD DrawPreX.nil))))))))))))))))) (fun _b=>(zyE 1 0 rfl (zai ?_ (zai ?_ (zai ?_ (zyE 1 4 rfl (zai ?_ (zai ?_ (zai ?_ (zyE 1 8 rfl (zai ?_ (zai ?_ (zai ?_ (zyE 1 12 rfl (zai ?_ (zai ?_ (zai ?_ (zcD DrawPreX.nil)))))))))))))))))) ?_ ?_
 · exact fun D n d c u i=>zaD rfl dc (zaa (m:=0) u rfl (d 0 dc)) (zaf 1 u i rfl)
 · exact fun D n d c u i=>zab zfJ rfl dc (zaa (m:=1) u rfl (d 1 dc)) (show _=2 from rfl) (zaf 2 u i rfl)
 · exact fun D n d c u i=>zbw (i:=0) hrd rfl zjD rfl dc (zaa (m:=2) u rfl (d 2 dc)) rfl (zaf 3 u i rfl)
 · exact fun D n d c u i=>za9 (hrd.vw (i:=2) rfl) hq1 Tryz.underlying151 zlN rfl dc (zaa (m:=3) u rfl (d 3 dc)) (zaa (m:=4) u rfl (d 4 dc)) rfl (zaf 5 u i rfl)
 · exact fun D n d c u i=>zab zka rfl dc (zaa (m:=5) u rfl (d 5 dc)) (show _=(0+(line1:Int).toNat)*4 from rfl) (zaf 6 u i rfl)
 · exact fun D n d c u i=>zeN (m:=0+(line1:Int).toNat) (j:=0) (i:=2) (q:=q1) (cs:=[zI q1.span_From,zI q1.span_To]) hrd rfl znw zcT rfl dc (zaa (m:=6) u rfl (d 6 dc)) (Vw.get (hrd.vw (i:=2) rfl) hq1) rfl rfl rfl (zaf 7 u i rfl)
 · exact fun D n d c u i=>zaD rfl dc (zaa (m:=8) u rfl (d 8 dc)) (zaf 9 u i rfl)
 · exact fun D n d c u i=>zab zfJ rfl dc (zaa (m:=9) u rfl (d 9 dc)) (show _=2 from rfl) (zaf 10 u i rfl)
 · exact fun D n d c u i=>zbw (i:=0) hrd rfl zjD rfl dc (zaa (m:=10) u rfl (d 10 dc)) rfl (zaf 11 u i rfl)
 · exact fun D n d c u i=>za9 (hrd.vw (i:=2) rfl) hq1 Tryz.underlying151 zlN rfl dc (zaa (m:=11) u rfl (d 11 dc)) (zaa (m:=12) u rfl (d 12 dc)) rfl (zaf 13 u i rfl)
 · exact fun D n d c u i=>zab zmX rfl dc (zaa (m:=13) u rfl (d 13 dc)) (show _=(0+(line1:Int).toNat)*4+2 from rfl) (zaf 14 u i rfl)
 · exact fun D n d c u i=>zcI (n:=0+(line1:Int).toNat) (j:=2) (i:=2) (q:=q1) hrd rfl zbp zcT rfl dc (zaa (m:=14) u rfl (d 14 dc)) (Vw.get (hrd.vw (i:=2) rfl) hq1) rfl dc rfl (zaf 15 u i rfl)
 · exact fun D n d c u i=>zaD rfl dc (zaa (m:=0) u rfl (d 0 dc)) (zaf 1 u i rfl)
 · exact fun D n d c u i=>zab zfJ rfl dc (zaa (m:=1) u rfl (d 1 dc)) (show _=2 from rfl) (zaf 2 u i rfl)
 · exact fun D n d c u i=>zbw (i:=0) hrd rfl zjD rfl dc (zaa (m:=2) u rfl (d 2 dc)) rfl (zaf 3 u i rfl)
 · exact fun D n d c u i=>za9 (hrd.vw (i:=2) rfl) hq1 Tryz.underlying151 zlN rfl dc (zaa (m:=3) u rfl (d 3 dc)) (zaa (m:=4) u rfl (d 4 dc)) rfl (zaf 5 u i rfl)
 · exact fun D n d c u i=>zab zka rfl dc (zaa (m:=5) u rfl (d 5 dc)) (show _=(0+(line1:Int).toNat)*4 from rfl) (zaf 6 u i rfl)
 · exact fun D n d c u i=>zeN (m:=0+(line1:Int).toNat) (j:=0) (i:=2) (q:=q1) (cs:=[zI q1.span_From,zI q1.span_To]) hrd rfl znw zcT rfl dc (zaa (m:=6) u rfl (d 6 dc)) (Vw.get (hrd.vw (i:=2) rfl) hq1) rfl rfl rfl (zaf 7 u i rfl)
 · exact fun D n d c u i=>zaD rfl dc (zaa (m:=8) u rfl (d 8 dc)) (zaf 9 u i rfl)
 · exact fun D n d c u i=>zab zfJ rfl dc (zaa (m:=9) u rfl (d 9 dc)) (show _=2 from rfl) (zaf 10 u i rfl)
 · exact fun D n d c u i=>zbw (i:=0) hrd rfl zjD rfl dc (zaa (m:=10) u rfl (d 10 dc)) rfl (zaf 11 u i rfl)
 · exact fun D n d c u i=>za9 (hrd.vw (i:=2) rfl) hq1 Tryz.underlying151 zlN rfl dc (zaa (m:=11) u rfl (d 11 dc)) (zaa (m:=12) u rfl (d 12 dc)) rfl (zaf 13 u i rfl)
 · exact fun D n d c u i=>zab zmX rfl dc (zaa (m:=13) u rfl (d 13 dc)) (show _=(0+(line1:Int).toNat)*4+2 from rfl) (zaf 14 u i rfl)
 · exact fun D n d c u i=>zcI (n:=0+(line1:Int).toNat) (j:=2) (i:=2) (q:=q1) hrd rfl zbp zcT rfl dc (zaa (m:=14) u rfl (d 14 dc)) (Vw.get (hrd.vw (i:=2) rfl) hq1) rfl dc rfl (zaf 15 u i rfl)
 ·
  intro D hn hd hcl
  refine za6 (k:=0) (vs:=[zI q1.span_From,zI q1.span_To]) (l':=[zI q1.span_From,zI q1.span_To]) zkn rfl (zbe (by rfl) rfl) (zaa (m:=7) kr rfl (hd 7 dc)) rfl rfl (show _≤_ by simp) rfl rfl ?_
  exact fun a w ha hw=>⟨(),ha,hw⟩
 intro _b
 refine zyR 2 rfl (zyN (zaG ?_))
 cases h
 exact zaK (rs:=[.cell 4 38,.tmp 5,.tmp 6]) () (.inl rfl) Tryz.results47 (.cons (.cells znw (k:=0) rfl rfl rfl) (.cons (.tmp rfl) (.cons (.tmp rfl) .nil))) rfl Splits.nil
end Go.Proofs.YtbempdelckaccaaGreatDoor
