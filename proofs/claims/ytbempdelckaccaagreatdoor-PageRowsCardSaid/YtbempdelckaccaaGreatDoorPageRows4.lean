/-
  Texts laid together: LpF, LpG, LpH, Pf, Pg, Ph, Pi, Pj, Pk, PgA, Pn, LqA, Ca, LqP, LqQ, PqA, PqB, LqS, LqR. Nothing is assumed.
-/
import Derived.Test.YtbempdelckaccaaGreatDoorPageRows3
import Derived.Test.YtbempdelckaccaaGreatDoorPageRows2
set_option maxRecDepth 100000
set_option maxHeartbeats 4000000

namespace Go.Proofs.YtbempdelckaccaaGreatDoor
open Go.RowKit Go.Lib
set_option linter.unusedVariables false
set_option linter.unusedSimpArgs false
def zbD (s1:ByteArray) (j1:(List Gref02_Piece)→Option (List Gref02_Piece)) (ag1:(List Gref02_Piece)→Nat→Option (List Gref02_Piece)) (l4:List Gref02_Piece) (m3:Nat):Option (List Gref02_Piece) :=
zaw (decide (m3<(pcs s1.data.toList).length)) (
zal ((pcs s1.data.toList)[m3]?) fun (p1:Pc) =>
zbi (fun (j2:(List Gref02_Piece)→Option (List Gref02_Piece)) =>
zaw (decide ((0:Int)<(l4.length:Int))) (
grd (I64 ((l4.length:Int) - 1)) <|
grd (I64 ((l4.length:Int) - 1)) <|
zal (zcb l4 ((l4.length:Int) - 1)) fun (q1:Gref02_Piece) =>
grd (I64 ((p1.i:Int) - q1.At)) <|
j2 (l4.set ((l4.length:Int) - 1:Int).toNat (⟨q1.At,(p1.i:Int) - q1.At,q1.Rune⟩:Gref02_Piece))
) (
j2 l4
)
) (fun (l5:List Gref02_Piece) =>
grd (l5.length+1≤2147483648) <|
ag1 (l5++[(⟨(p1.i:Int),0,(p1.r:Int)⟩:Gref02_Piece)]) (m3+1)
)
) (
j1 l4
)
def zeP (s1:ByteArray):Option (List Gref02_Piece) :=
zbi (fun (j1:(List Gref02_Piece)→Option (List Gref02_Piece)) =>
zaF (fun _ _=>none) (zbD s1 j1) zbT ([]:List Gref02_Piece) 0
) (fun (l1:List Gref02_Piece) =>
zbi (fun (j3:(List Gref02_Piece)→Option (List Gref02_Piece)) =>
zaw (decide ((0:Int)<(l1.length:Int))) (
grd (I64 ((l1.length:Int) - 1)) <|
grd (I64 ((l1.length:Int) - 1)) <|
zal (zcb l1 ((l1.length:Int) - 1)) fun (q2:Gref02_Piece) =>
grd (I64 ((s1.size:Int) - q2.At)) <|
j3 (l1.set ((l1.length:Int) - 1:Int).toNat (⟨q2.At,(s1.size:Int) - q2.At,q2.Rune⟩:Gref02_Piece))
) (
j3 l1
)
) (fun (l6:List Gref02_Piece) =>
some l6
)
)
theorem zkI {s1:ByteArray} {r:(List Gref02_Piece)} (h:zeP s1=some r):Fn Tryz.prog 105 [.string s1] [] (fun v0:Value=>v0) (fun v0=>[ztu v0 r]):=by
 unfold zeP at h
 refine Fn.intro Tryz.func105 rfl Tryz.ntmps105 (by simp) ?_
 intro w0 K
 obtain ⟨j1,hj1,h⟩:=zbF h
 refine za1 (β:=(List Gref02_Piece)×Value) 2 rfl (fun b=>j1 b.1=some r) (fun b=>[]) (fun b=>[(0,.string s1),(3,b.2)]) (fun b=>[ztu b.2 b.1]) (fun cut => ?_) ?_
 ·
  refine zyG (zyR 1 rfl (zyH (zyR 1 rfl (zyN (cut (zyG (zyR 1 rfl ?_)))))))
  refine zfz Tryz.underlying9 rfl dc rfl (fun b1 => ?_)
  refine zyN (zaC (zc1 (enc:=zeg) (e:=187) (size:=3) ?_))
  refine zbq (β:=Nat×(List Gref02_Piece)×Nat×Value) (fun b=>zaF (fun _ _=>none) (zbD s1 j1) b.1 b.2.1 b.2.2.1=some r) (fun b=>[]) (fun b=>[(0,.string s1),(3,b.2.2.2),(7,zP b1)]) (fun b=>[ztu b.2.2.2 b.2.1,obj b1 (.stringIter s1 (zfS s1 b.2.2.1))]) (fun b=>b.1) (zbT,([]:List Gref02_Piece),0,(.slice none 0 0)) (by exact h) rfl (za5 rfl) (zad [1,0] kr rfl) ?_
  rintro ⟨n1,l4,m3,v4⟩ h
  cases n1 with
  | zero=>exact zdM h
  | succ n1 =>
   obtain ⟨ag1,hag1⟩:∃ ag,ag=zaF (fun _ _=>none) (zbD s1 j1) n1:=⟨_,rfl⟩
   have h:zbD s1 j1 ag1 l4 m3=some r:=by rw [hag1]; exact h
   unfold zbD at h
   refine zyG ?_
   refine zfB (b:=decide (m3<(pcs s1.data.toList).length)) (fun hb1 => ?_) (fun hb1 => ?_)
   ·
    have h:=zhY hb1 h
    obtain ⟨p1,hq1,h⟩:=zbw h
    refine zf2 (k:=1) (m:=m3) (p:=p1) rfl dc rfl rfl hq1 (zaY rfl dc rfl rfl (zyN (zaJ (za9 rfl (zas (zaI (zaC ?_)))))))
    obtain ⟨j2,hj2,h⟩:=zbF h
    refine za1 (β:=(List Gref02_Piece)) 1 rfl (fun b=>j2 b=some r) (fun b=>[]) (fun b=>[(0,.string s1),(3,v4),(4,zI (p1.i:Int)),(5,.int .i32 (p1.r:Int)),(7,zP b1)]) (fun b=>[ztu v4 b,obj b1 (.stringIter s1 (zfS s1 (m3+1)))]) (fun cut => ?_) ?_
    ·
     refine zyG (zaY rfl dc rfl rfl (zaY rfl dc rfl rfl (zyR 2 rfl (zyN (cut (zyG (zyR 1 rfl (zbl (k:=0) rfl dc rfl rfl Tryz.underlying184 (zaW rfl zcK ?_)))))))))
     refine zyN ?_
     refine zyB rfl h (fun h => ?_) (fun h => ?_)
     ·
      refine zat (zyR 2 rfl (zbl (k:=0) rfl dc rfl rfl Tryz.underlying184 ?_))
      obtain ⟨hg1,h⟩:=zbn h
      refine zaW rfl (zbG (r:=(l4.length:Int) - 1) (IntWalk.i64_in _ hg1)) (zyR 3 rfl (zbl (k:=0) rfl dc rfl rfl Tryz.underlying184 ?_))
      obtain ⟨hg2,h⟩:=zbn h
      refine zaW rfl (zbG (r:=(l4.length:Int) - 1) (IntWalk.i64_in _ hg2)) ?_
      obtain ⟨q1,hq2,h⟩:=zbw h
      refine zar (k:=0) hq2 Tryz.underlying184 zfn rfl dc rfl rfl rfl rfl (zab zhK rfl dc rfl (show _=(((l4.length:Int) - 1:Int).toNat)*3 from rfl) (zaH (i:=((l4.length:Int) - 1:Int).toNat) (j:=0) (k:=0) (q:=q1) zbr za2 rfl dc rfl rfl (zaG hq2) rfl dc rfl ?_))
      obtain ⟨hg3,h⟩:=zbn h
      refine zaW rfl (zbG (r:=(p1.i:Int) - q1.At) (IntWalk.i64_in _ hg3)) (zar (k:=0) hq2 Tryz.underlying184 zfn rfl dc rfl rfl rfl rfl (zab ziN rfl dc rfl (show _=(((l4.length:Int) - 1:Int).toNat)*3+1 from rfl) ?_))
      refine zez (i:=((l4.length:Int) - 1:Int).toNat) (j:=1) (k:=0) (q:=q1) (q':=(⟨q1.At,(p1.i:Int) - q1.At,q1.Rune⟩:Gref02_Piece)) zeA za2 rfl rfl rfl rfl (zaG hq2) rfl dc rfl (fun _ _=>rfl) ?_
      refine zaQ ?_
      exact zai (l4.set ((l4.length:Int) - 1:Int).toNat (⟨q1.At,(p1.i:Int) - q1.At,q1.Rune⟩:Gref02_Piece)) h rfl (za5 rfl) (zad [0,1] kr rfl)
     refine zas ?_
     exact zai l4 h rfl (za5 rfl) (zad [0,1] kr rfl)
    rintro l5 h
    rw [hj2] at h
    refine zat (zyR 3 rfl ?_)
    refine za7 (v:=.agg #[zI (p1.i:Int),zI 0,.int .i32 (p1.r:Int)]) (ps:=[(0,.tmp 31),(2,.tmp 32)]) rfl dc rfl (fun _=>by kernel_rfl) ?_
    refine zaR (cs:=[zI (p1.i:Int),zI 0,.int .i32 (p1.r:Int)]) (te:=187) (ps:=[(0,.tmp 33)]) rfl dc rfl (fun _=>by kernel_rfl) (fun b2 => ?_)
    obtain ⟨hg4,h⟩:=zbn h
    refine za3 (k:=0) (k2:=2) (ys:=[(⟨(p1.i:Int),0,(p1.r:Int)⟩:Gref02_Piece)]) Tryz.underlying184 zwH za2 zhX rfl dc rfl rfl rfl rfl rfl rfl hg4 (fun v5 => ?_)
    refine zyR 1 rfl (zaQ (zag ?_))
    subst hag1
    exact za8 (n1,l5++[(⟨(p1.i:Int),0,(p1.r:Int)⟩:Gref02_Piece)],m3+1,v5) h (Nat.lt_succ_self _) rfl (za5 rfl) (zad [0,1] kr rfl)
   have h:=zhZ hb1 h
   refine zf3 (k:=1) (m:=m3) rfl dc rfl rfl (Nat.le_of_not_lt (of_decide_eq_false hb1)) (zaY rfl dc rfl rfl (zyN (zaJ (zaN rfl (za6 (zak (zak (zav ?_))))))))
   exact zai (l4,v4) h rfl (za5 rfl) (zad [0] kr rfl)
 rintro ⟨l1,v1⟩ h
 rw [hj1] at h
 obtain ⟨j3,hj3,h⟩:=zbF h
 refine za1 (β:=(List Gref02_Piece)) 0 rfl (fun b=>j3 b=some r) (fun b=>[]) (fun b=>[(3,v1)]) (fun b=>[ztu v1 b]) (fun cut => ?_) ?_
 ·
  refine cut (zyG (zyR 1 rfl (zbl (k:=0) rfl dc rfl rfl Tryz.underlying184 (zaW rfl zcK (zyN ?_)))))
  refine zyB rfl h (fun h => ?_) (fun h => ?_)
  ·
   refine zat (zyR 2 rfl (zbl (k:=0) rfl dc rfl rfl Tryz.underlying184 ?_))
   obtain ⟨hg5,h⟩:=zbn h
   refine zaW rfl (zbG (r:=(l1.length:Int) - 1) (IntWalk.i64_in _ hg5)) (zyR 1 rfl (zbS rfl dc rfl Tryz.underlying9 (zyR 2 rfl (zbl (k:=0) rfl dc rfl rfl Tryz.underlying184 ?_))))
   obtain ⟨hg6,h⟩:=zbn h
   refine zaW rfl (zbG (r:=(l1.length:Int) - 1) (IntWalk.i64_in _ hg6)) ?_
   obtain ⟨q2,hq3,h⟩:=zbw h
   refine zar (k:=0) hq3 Tryz.underlying184 zfn rfl dc rfl rfl rfl rfl (zab zhK rfl dc rfl (show _=(((l1.length:Int) - 1:Int).toNat)*3 from rfl) (zaH (i:=((l1.length:Int) - 1:Int).toNat) (j:=0) (k:=0) (q:=q2) zbr za2 rfl dc rfl rfl (zaG hq3) rfl dc rfl ?_))
   obtain ⟨hg7,h⟩:=zbn h
   refine zaW rfl (zbG (r:=(s1.size:Int) - q2.At) (IntWalk.i64_in _ hg7)) (zar (k:=0) hq3 Tryz.underlying184 zfn rfl dc rfl rfl rfl rfl (zab ziN rfl dc rfl (show _=(((l1.length:Int) - 1:Int).toNat)*3+1 from rfl) ?_))
   refine zez (i:=((l1.length:Int) - 1:Int).toNat) (j:=1) (k:=0) (q:=q2) (q':=(⟨q2.At,(s1.size:Int) - q2.At,q2.Rune⟩:Gref02_Piece)) zeA za2 rfl rfl rfl rfl (zaG hq3) rfl dc rfl (fun _ _=>rfl) ?_
   refine zaQ ?_
   exact zai (l1.set ((l1.length:Int) - 1:Int).toNat (⟨q2.At,(s1.size:Int) - q2.At,q2.Rune⟩:Gref02_Piece)) h rfl (za5 rfl) (zad [0] kr rfl)
  refine zas ?_
  exact zai l1 h rfl (za5 rfl) (zad [0] kr rfl)
 rintro l6 h
 rw [hj3] at h
 refine zyG (zyR 2 rfl (zyN (zaE ?_)))
 cases h
 exact zaS (rs:=[.tmp 2]) v1 (.inl rfl) Tryz.results105 (.cons (.tmp rfl) .nil) rfl (zad [0] kr rfl)
def zcS (r1:Int) (j1:Option Bool) (ag1:Int→Option Bool) (i3:Int):Option Bool :=
zaw (decide ((i3:Int)<12)) (
zbi (fun (j2:Option Bool) =>
zal (zcb ([4352,11904,12353,19968,44032,63744,65072,65280,65504,127744,129280,131072]:List Int) i3) fun (q1:Int) =>
zaw (decide ((q1:Int)≤r1)) (
zal (zcb ([4447,12350,19903,42191,55203,64255,65135,65376,65510,128591,129535,262141]:List Int) i3) fun (q2:Int) =>
zaw (decide ((r1:Int)≤q2)) (
some true
) (
j2
)
) (
j2
)
) (
grd (I64 (i3+1)) <|
ag1 (i3+1)
)
) (
j1
)
def zeu (r1:Int):Option Bool :=
zbi (fun (j1:Option Bool) =>
zaF (fun _=>none) (zcS r1 j1) zbT 0
) (
some false
)
theorem zix {r1:Int} {r:Bool} (h:zeu r1=some r):FnP Tryz.prog 107 [.int .i32 r1] (.bool r):=by
 unfold zeu at h
 refine FnP.intro Tryz.func107 rfl Tryz.ntmps107 (by simp) ?_
 intro w0 K
 obtain ⟨j1,hj1,h⟩:=zbF h
 refine za1 (β:=Unit) 3 rfl (fun b=>j1=some r) (fun b=>[]) (fun b=>[]) (fun b=>[]) (fun cut => ?_) ?_
 ·
  refine zyG (zyR 1 rfl (zyH ?_))
  refine za7 (v:=.agg #[.int .i32 4352,.int .i32 11904,.int .i32 12353,.int .i32 19968,.int .i32 44032,.int .i32 63744,.int .i32 65072,.int .i32 65280,.int .i32 65504,.int .i32 127744,.int .i32 129280,.int .i32 131072]) (ps:=[(0,.const (.int .i32 4352)),(1,.const (.int .i32 11904)),(2,.const (.int .i32 12353)),(3,.const (.int .i32 19968)),(4,.const (.int .i32 44032)),(5,.const (.int .i32 63744)),(6,.const (.int .i32 65072)),(7,.const (.int .i32 65280)),(8,.const (.int .i32 65504)),(9,.const (.int .i32 127744)),(10,.const (.int .i32 129280)),(11,.const (.int .i32 131072))]) rfl dc rfl (fun _=>by kernel_rfl) ?_
  refine zbc ztv rfl dc (fun b1 => ?_)
  refine za0 (k:=0) (vs:=[.int .i32 4352,.int .i32 11904,.int .i32 12353,.int .i32 19968,.int .i32 44032,.int .i32 63744,.int .i32 65072,.int .i32 65280,.int .i32 65504,.int .i32 127744,.int .i32 129280,.int .i32 131072]) (l':=[.int .i32 4352,.int .i32 11904,.int .i32 12353,.int .i32 19968,.int .i32 44032,.int .i32 63744,.int .i32 65072,.int .i32 65280,.int .i32 65504,.int .i32 127744,.int .i32 129280,.int .i32 131072]) ztA rfl rfl rfl rfl rfl (show _≤_ by simp) rfl rfl ?_
  refine zyH ?_
  refine za7 (v:=.agg #[.int .i32 4447,.int .i32 12350,.int .i32 19903,.int .i32 42191,.int .i32 55203,.int .i32 64255,.int .i32 65135,.int .i32 65376,.int .i32 65510,.int .i32 128591,.int .i32 129535,.int .i32 262141]) (ps:=[(0,.const (.int .i32 4447)),(1,.const (.int .i32 12350)),(2,.const (.int .i32 19903)),(3,.const (.int .i32 42191)),(4,.const (.int .i32 55203)),(5,.const (.int .i32 64255)),(6,.const (.int .i32 65135)),(7,.const (.int .i32 65376)),(8,.const (.int .i32 65510)),(9,.const (.int .i32 128591)),(10,.const (.int .i32 129535)),(11,.const (.int .i32 262141))]) rfl dc rfl (fun _=>by kernel_rfl) ?_
  refine zbc ztv rfl dc (fun b2 => ?_)
  refine za0 (k:=1) (vs:=[.int .i32 4447,.int .i32 12350,.int .i32 19903,.int .i32 42191,.int .i32 55203,.int .i32 64255,.int .i32 65135,.int .i32 65376,.int .i32 65510,.int .i32 128591,.int .i32 129535,.int .i32 262141]) (l':=[.int .i32 4447,.int .i32 12350,.int .i32 19903,.int .i32 42191,.int .i32 55203,.int .i32 64255,.int .i32 65135,.int .i32 65376,.int .i32 65510,.int .i32 128591,.int .i32 129535,.int .i32 262141]) ztA rfl rfl rfl rfl rfl (show _≤_ by simp) rfl rfl ?_
  refine zyN (cut (zyG (zyR 1 rfl (zyN (zaC ?_)))))
  refine zbq (β:=Nat×Int) (fun b=>zaF (fun _=>none) (zcS r1 j1) b.1 b.2=some r) (fun b=>[]) (fun b=>[(0,.int .i32 r1),(3,zP b1),(4,zP b2),(5,zI b.2)]) (fun b=>[cells b1 [.int .i32 4352,.int .i32 11904,.int .i32 12353,.int .i32 19968,.int .i32 44032,.int .i32 63744,.int .i32 65072,.int .i32 65280,.int .i32 65504,.int .i32 127744,.int .i32 129280,.int .i32 131072] 207,cells b2 [.int .i32 4447,.int .i32 12350,.int .i32 19903,.int .i32 42191,.int .i32 55203,.int .i32 64255,.int .i32 65135,.int .i32 65376,.int .i32 65510,.int .i32 128591,.int .i32 129535,.int .i32 262141] 207]) (fun b=>b.1) (zbT,0) h rfl (za5 rfl) (zad [0,1] kr rfl) ?_
  rintro ⟨n1,i3⟩ h
  cases n1 with
  | zero=>exact zdM h
  | succ n1 =>
   obtain ⟨ag1,hag1⟩:∃ ag,ag=zaF (fun _=>none) (zcS r1 j1) n1:=⟨_,rfl⟩
   have h:zcS r1 j1 ag1 i3=some r:=by rw [hag1]; exact h
   unfold zcS at h
   refine zaJ (zyG (zyR 1 rfl (zaW rfl zbC (zyN ?_))))
   refine zyB rfl h (fun h => ?_) (fun h => ?_)
   ·
    refine zas (zaI ?_)
    obtain ⟨j2,hj2,h⟩:=zbF h
    refine za1 (β:=Unit) 0 rfl (fun b=>j2=some r) (fun b=>[]) (fun b=>[(0,.int .i32 r1),(3,zP b1),(4,zP b2),(5,zI i3)]) (fun b=>[cells b1 [.int .i32 4352,.int .i32 11904,.int .i32 12353,.int .i32 19968,.int .i32 44032,.int .i32 63744,.int .i32 65072,.int .i32 65280,.int .i32 65504,.int .i32 127744,.int .i32 129280,.int .i32 131072] 207,cells b2 [.int .i32 4447,.int .i32 12350,.int .i32 19903,.int .i32 42191,.int .i32 55203,.int .i32 64255,.int .i32 65135,.int .i32 65376,.int .i32 65510,.int .i32 128591,.int .i32 129535,.int .i32 262141] 207]) (fun cut => ?_) ?_
    ·
     refine cut (zaC (zyG (zyR 1 rfl ?_)))
     obtain ⟨q1,hq1,h⟩:=zbw h
     refine zlq (zm0 hq1) Tryz.underlying207 zvD rfl dc rfl rfl (Nat.zero_add _) (zg1 (enc:=(zm9 (.i32))) (size:=1) ([4352,11904,12353,19968,44032,63744,65072,65280,65504,127744,129280,131072]:List Int) (k:=0) rfl zbO rfl (show 12≤maxLen by decide) ?_)
     refine zaH (i:=(i3:Int).toNat) (j:=0) (k:=0) (q:=q1) ziu zbO rfl dc rfl rfl (zaG hq1) rfl dc rfl (zso (k:=0) rfl (zjR (by rfl)) ?_)
     refine zyR 1 rfl (zaW rfl zdO (zyR 1 rfl ?_))
     refine zyS (s:=17) rfl h (fun h => ?_) (fun h => ?_)
     ·
      refine zyR 2 rfl ?_
      obtain ⟨q2,hq2,h⟩:=zbw h
      refine zlq (zm0 hq2) Tryz.underlying207 zvD rfl dc rfl rfl (Nat.zero_add _) (zg1 (enc:=(zm9 (.i32))) (size:=1) ([4447,12350,19903,42191,55203,64255,65135,65376,65510,128591,129535,262141]:List Int) (k:=1) rfl zbO rfl (show 12≤maxLen by decide) ?_)
      refine zaH (i:=(i3:Int).toNat) (j:=0) (k:=1) (q:=q2) ziu zbO rfl dc rfl rfl (zaG hq2) rfl dc rfl (zso (k:=1) rfl (zjR (by rfl)) ?_)
      refine zaW rfl zdO (zyR 1 rfl (zyN ?_))
      refine zyB rfl h (fun h => ?_) (fun h => ?_)
      ·
       refine zyG (zyR 1 rfl (zyN (zaE (zaA (zaq (zaq (zaA (zaq ?_))))))))
       cases h
       exact zaS (rs:=[.tmp 2]) () (.inl rfl) Tryz.results107 (.cons (.tmp rfl) .nil) rfl Splits.nil
      refine zas (zag ?_)
      exact zai () h rfl (za5 rfl) (zad [0,1] kr rfl)
     refine zyR 6 rfl (zyN (zaN rfl (zas (zag ?_))))
     exact zai () h rfl (za5 rfl) (zad [0,1] kr rfl)
    rintro _ h
    rw [hj2] at h
    refine zat (zyR 1 rfl ?_)
    obtain ⟨hg1,h⟩:=zbn h
    refine zaW rfl (zaX (r:=i3+1) (IntWalk.i64_in _ hg1)) (zyR 1 rfl (zaQ ?_))
    subst hag1
    exact za8 (n1,i3+1) h (Nat.lt_succ_self _) rfl (za5 rfl) (zad [0,1] kr rfl)
   refine za6 (zak (zak (zav ?_)))
   exact zai () h rfl (znl) Splits.nil
 rintro _ h
 rw [hj1] at h
 refine zyG (zyR 1 rfl (zyN (zaE ?_)))
 cases h
 exact zaS (rs:=[.tmp 2]) () (.inl rfl) Tryz.results107 (.cons (.tmp rfl) .nil) rfl Splits.nil
def zcq (j1:(List Gref05_Piece)→Option (List Gref05_Piece)) (r1:(List Gref02_Piece)) (ag1:(List Gref05_Piece)→Int→Option (List Gref05_Piece)) (out4:List Gref05_Piece) (i3:Int):Option (List Gref05_Piece) :=
zaw (decide ((i3:Int)<(r1.length:Int))) (
zbi (fun (j2:Int→Int→Int→Bool→Int→Option (List Gref05_Piece)) =>
zal (zcb r1 i3) fun (q1:Gref02_Piece) =>
grd (I64 (q1.At+q1.Width)) <|
zal (zcb r1 i3) fun (q2:Gref02_Piece) =>
zaw ((q2.Rune:Int)==65533) (
zaw ((q2.Width:Int)==1) (
j2 q1.At (q1.At+q1.Width) 11 false 1
) (
zal (zcb r1 i3) fun (q3:Gref02_Piece) =>
grd (I32 q3.Rune) <|
zal (zcb r1 i3) fun (q4:Gref02_Piece) =>
zaw ((q4.Rune:Int)==8205) (
j2 q1.At (q1.At+q1.Width) (kind q3.Rune) ((q4.Rune:Int)==8205) 0
) (
zaw (((kind q3.Rune):Int)==2) (
j2 q1.At (q1.At+q1.Width) (kind q3.Rune) ((q4.Rune:Int)==8205) 0
) (
zaw (((kind q3.Rune):Int)==4) (
j2 q1.At (q1.At+q1.Width) (kind q3.Rune) ((q4.Rune:Int)==8205) 0
) (
zaw (((kind q3.Rune):Int)==9) (
j2 q1.At (q1.At+q1.Width) (kind q3.Rune) ((q4.Rune:Int)==8205) 0
) (
zal (zcb r1 i3) fun (q5:Gref02_Piece) =>
zal (zeu q5.Rune) fun (r2:Bool) =>
zaw (r2) (
j2 q1.At (q1.At+q1.Width) (kind q3.Rune) ((q4.Rune:Int)==8205) 2
) (
j2 q1.At (q1.At+q1.Width) (kind q3.Rune) ((q4.Rune:Int)==8205) 1
)
)
)
)
)
)
) (
zal (zcb r1 i3) fun (q6:Gref02_Piece) =>
grd (I32 q6.Rune) <|
zal (zcb r1 i3) fun (q7:Gref02_Piece) =>
zaw ((q7.Rune:Int)==8205) (
j2 q1.At (q1.At+q1.Width) (kind q6.Rune) ((q7.Rune:Int)==8205) 0
) (
zaw (((kind q6.Rune):Int)==2) (
j2 q1.At (q1.At+q1.Width) (kind q6.Rune) ((q7.Rune:Int)==8205) 0
) (
zaw (((kind q6.Rune):Int)==4) (
j2 q1.At (q1.At+q1.Width) (kind q6.Rune) ((q7.Rune:Int)==8205) 0
) (
zaw (((kind q6.Rune):Int)==9) (
j2 q1.At (q1.At+q1.Width) (kind q6.Rune) ((q7.Rune:Int)==8205) 0
) (
zal (zcb r1 i3) fun (q8:Gref02_Piece) =>
zal (zeu q8.Rune) fun (r3:Bool) =>
zaw (r3) (
j2 q1.At (q1.At+q1.Width) (kind q6.Rune) ((q7.Rune:Int)==8205) 2
) (
j2 q1.At (q1.At+q1.Width) (kind q6.Rune) ((q7.Rune:Int)==8205) 1
)
)
)
)
)
)
) (fun (p1:Int) (p2:Int) (p3:Int) (p4:Bool) (p5:Int) =>
grd (out4.length+1≤2147483648) <|
grd (I64 (i3+1)) <|
ag1 (out4++[(⟨p1,p2,p3,p4,p5⟩:Gref05_Piece)]) (i3+1)
)
) (
j1 out4
)
def zeM (s1:ByteArray):Option (List Gref05_Piece) :=
zbi (fun (j1:(List Gref05_Piece)→Option (List Gref05_Piece)) =>
zal (zeP s1) fun (r1:(List Gref02_Piece)) =>
zaF (fun _ _=>none) (zcq j1 r1) zbT ([]:List Gref05_Piece) 0
) (fun (out1:List Gref05_Piece) =>
some out1
)
theorem zkH {s1:ByteArray} {r:(List Gref05_Piece)} (h:zeM s1=some r):Fn Tryz.prog 74 [.string s1] [] (fun v0:Value=>v0) (fun v0=>[zv9 v0 r]):=by
 unfold zeM at h
 refine Fn.intro Tryz.func74 rfl Tryz.ntmps74 (by simp) ?_
 intro w0 K
 obtain ⟨j1,hj1,h⟩:=zbF h
 refine za1 (β:=(List Gref05_Piece)×Value) 3 rfl (fun b=>j1 b.1=some r) (fun b=>[]) (fun b=>[(4,b.2)]) (fun b=>[zv9 b.2 b.1]) (fun cut => ?_) ?_
 ·
  refine zyG (zyR 1 rfl (zyH (zyR 1 rfl ?_)))
  obtain ⟨r1,hq1,h⟩:=zbw h
  refine zdu (vs:=[.string s1]) rfl dc rfl rfl rfl zwA (zkI hq1) Splits.nil ?_
  rintro v2
  refine zyR 1 rfl (zyH (zyR 1 rfl (zyN (cut (zyG (zyR 1 rfl (zyN ?_)))))))
  refine zaC (zc1 (enc:=zef) (e:=146) (size:=5) ?_)
  refine zbq (β:=Nat×(List Gref05_Piece)×Int×Value) (fun b=>zaF (fun _ _=>none) (zcq j1 r1) b.1 b.2.1 b.2.2.1=some r) (fun b=>[]) (fun b=>[(3,v2),(4,b.2.2.2),(5,zI b.2.2.1)]) (fun b=>[ztu v2 r1,zv9 b.2.2.2 b.2.1]) (fun b=>b.1) (zbT,([]:List Gref05_Piece),0,(.slice none 0 0)) h rfl (za5 rfl) (zad [0,1] kr rfl) ?_
  rintro ⟨n1,out4,i3,v5⟩ h
  cases n1 with
  | zero=>exact zdM h
  | succ n1 =>
   obtain ⟨ag1,hag1⟩:∃ ag,ag=zaF (fun _ _=>none) (zcq j1 r1) n1:=⟨_,rfl⟩
   have h:zcq j1 r1 ag1 out4 i3=some r:=by rw [hag1]; exact h
   unfold zcq at h
   refine zaJ (zyG (zyR 2 rfl (zbl (k:=0) rfl dc rfl rfl Tryz.underlying184 (zaW rfl zbC (zyN ?_)))))
   refine zyB rfl h (fun h => ?_) (fun h => ?_)
   ·
    refine zas (zaI (zaJ (zaC ?_)))
    obtain ⟨j2,hj2,h⟩:=zbF h
    refine za1 (β:=Int×Int×Int×Bool×Int×Nat) 1 rfl (fun b=>j2 b.1 b.2.1 b.2.2.1 b.2.2.2.1 b.2.2.2.2.1=some r) (fun b=>[]) (fun b=>[(3,v2),(4,v5),(5,zI i3),(6,zP b.2.2.2.2.2)]) (fun b=>[ztu v2 r1,zv9 v5 out4,cells b.2.2.2.2.2 [zI b.1,zI b.2.1,zI b.2.2.1,.bool b.2.2.2.1,zI b.2.2.2.2.1] 146]) (fun cut => ?_) ?_
    ·
     refine zaJ ?_
     obtain ⟨q1,hq2,h⟩:=zbw h
     obtain ⟨hg1,h⟩:=zbn h
     refine zi4 (β:=Nat) 19 18 _ [(0,15,v2),(1,16,zI i3),(2,17,.pointer (some ⟨zcN v2,(i3:Int).toNat*3,none⟩)),(3,18,.pointer (some ⟨zcN v2,((i3:Int).toNat)*3,none⟩)),(4,19,zI q1.At),(5,20,v2),(6,21,zI i3),(7,22,.pointer (some ⟨zcN v2,(i3:Int).toNat*3,none⟩)),(8,23,.pointer (some ⟨zcN v2,((i3:Int).toNat)*3,none⟩)),(9,24,zI q1.At),(10,25,v2),(11,26,zI i3),(12,27,.pointer (some ⟨zcN v2,(i3:Int).toNat*3,none⟩)),(13,28,.pointer (some ⟨zcN v2,((i3:Int).toNat)*3+1,none⟩)),(14,29,zI q1.Width),(15,30,zI (q1.At+q1.Width)),(16,31,.agg #[zI q1.At,zI (q1.At+q1.Width)]),(17,32,.agg #[zI q1.At,zI (q1.At+q1.Width),zI 0,.bool false,zI 1])] (fun b2=>[(6,zP b2)]) (fun b2=>[ztu v2 r1,zv9 v5 out4,cells b2 [zI 0,zI 0,zI 0,.bool false,zI 0] 146]) mixed kr kr rfl dc dc (by rfl) kr kr (zyE 2 0 rfl (zaj ?_ (zaj ?_ (zaj ?_ (zyE 2 5 rfl (zaj ?_ (zaj ?_ (zaj ?_ (zyE 2 10 rfl (zaj ?_ (zaj ?_ (zaj ?_ (zaj ?_ (zaj ?_ (zaj ?_ (zcT DrawPreX.nil)))))))))))))))) (fun b2=>(zyE 2 0 rfl (zaj ?_ (zaj ?_ (zaj ?_ (zyE 2 5 rfl (zaj ?_ (zaj ?_ (zaj ?_ (zyE 2 10 rfl (zaj ?_ (zaj ?_ (zaj ?_ (zaj ?_ (zaj ?_ (zaj ?_ (zcT DrawPreX.nil))))))))))))))))) ?_ ?_
     · exact fun D n d c u i=>zar (k:=0) hq2 Tryz.underlying184 zfn rfl dc (zaa (m:=0) u rfl (d 0 dc)) (zaa (m:=1) u rfl (d 1 dc)) rfl rfl (zaf 2 u i rfl)
     · exact fun D n d c u i=>zab zhK rfl dc (zaa (m:=2) u rfl (d 2 dc)) (show _=((i3:Int).toNat)*3 from rfl) (zaf 3 u i rfl)
     · exact fun D n d c u i=>zaH (i:=(i3:Int).toNat) (j:=0) (k:=0) (q:=q1) zbr za2 rfl dc (zaa (m:=3) u rfl (d 3 dc)) rfl (zaG hq2) rfl dc rfl (zaf 4 u i rfl)
     · exact fun D n d c u i=>zar (k:=0) hq2 Tryz.underlying184 zfn rfl dc (zaa (m:=5) u rfl (d 5 dc)) (zaa (m:=6) u rfl (d 6 dc)) rfl rfl (zaf 7 u i rfl)
     · exact fun D n d c u i=>zab zhK rfl dc (zaa (m:=7) u rfl (d 7 dc)) (show _=((i3:Int).toNat)*3 from rfl) (zaf 8 u i rfl)
     · exact fun D n d c u i=>zaH (i:=(i3:Int).toNat) (j:=0) (k:=0) (q:=q1) zbr za2 rfl dc (zaa (m:=8) u rfl (d 8 dc)) rfl (zaG hq2) rfl dc rfl (zaf 9 u i rfl)
     · exact fun D n d c u i=>zar (k:=0) hq2 Tryz.underlying184 zfn rfl dc (zaa (m:=10) u rfl (d 10 dc)) (zaa (m:=11) u rfl (d 11 dc)) rfl rfl (zaf 12 u i rfl)
     · exact fun D n d c u i=>zab ziN rfl dc (zaa (m:=12) u rfl (d 12 dc)) (show _=((i3:Int).toNat)*3+1 from rfl) (zaf 13 u i rfl)
     · exact fun D n d c u i=>zaH (i:=(i3:Int).toNat) (j:=1) (k:=0) (q:=q1) zbr za2 rfl dc (zaa (m:=13) u rfl (d 13 dc)) rfl (zaG hq2) rfl dc rfl (zaf 14 u i rfl)
     · exact fun D n d c u i=>zb9 rfl dc (zaa (m:=9) u rfl (d 9 dc)) (zaa (m:=14) u rfl (d 14 dc)) (zaX (r:=q1.At+q1.Width) (IntWalk.i64_in _ hg1)) (zaf 15 u i rfl)
     · exact fun D n d c u i=>za7 (v:=.agg #[zI q1.At,zI (q1.At+q1.Width)]) (ps:=[(0,.tmp 19),(1,.tmp 30)]) rfl dc (evP.cons (zaa (m:=4) u rfl (d 4 dc)) (evP.cons (zaa (m:=15) u rfl (d 15 dc)) evP.nil)) (fun _=>by kernel_rfl) (zaf 16 u i rfl)
     · exact fun D n d c u i=>za7 (v:=.agg #[zI q1.At,zI (q1.At+q1.Width),zI 0,.bool false,zI 1]) (ps:=[(0,.tmp 31),(3,.const (zI 1))]) rfl dc (evP.cons (zaa (m:=16) u rfl (d 16 dc)) (evP.cons rfl evP.nil)) (fun _=>by kernel_rfl) (zaf 17 u i rfl)
     · exact fun D n d c u i=>zar (k:=0) hq2 Tryz.underlying184 zfn rfl dc (zaa (m:=0) u rfl (d 0 dc)) (zaa (m:=1) u rfl (d 1 dc)) rfl rfl (zaf 2 u i rfl)
     · exact fun D n d c u i=>zab zhK rfl dc (zaa (m:=2) u rfl (d 2 dc)) (show _=((i3:Int).toNat)*3 from rfl) (zaf 3 u i rfl)
     · exact fun D n d c u i=>zaH (i:=(i3:Int).toNat) (j:=0) (k:=0) (q:=q1) zbr za2 rfl dc (zaa (m:=3) u rfl (d 3 dc)) rfl (zaG hq2) rfl dc rfl (zaf 4 u i rfl)
     · exact fun D n d c u i=>zar (k:=0) hq2 Tryz.underlying184 zfn rfl dc (zaa (m:=5) u rfl (d 5 dc)) (zaa (m:=6) u rfl (d 6 dc)) rfl rfl (zaf 7 u i rfl)
     · exact fun D n d c u i=>zab zhK rfl dc (zaa (m:=7) u rfl (d 7 dc)) (show _=((i3:Int).toNat)*3 from rfl) (zaf 8 u i rfl)
     · exact fun D n d c u i=>zaH (i:=(i3:Int).toNat) (j:=0) (k:=0) (q:=q1) zbr za2 rfl dc (zaa (m:=8) u rfl (d 8 dc)) rfl (zaG hq2) rfl dc rfl (zaf 9 u i rfl)
     · exact fun D n d c u i=>zar (k:=0) hq2 Tryz.underlying184 zfn rfl dc (zaa (m:=10) u rfl (d 10 dc)) (zaa (m:=11) u rfl (d 11 dc)) rfl rfl (zaf 12 u i rfl)
     · exact fun D n d c u i=>zab ziN rfl dc (zaa (m:=12) u rfl (d 12 dc)) (show _=((i3:Int).toNat)*3+1 from rfl) (zaf 13 u i rfl)
     · exact fun D n d c u i=>zaH (i:=(i3:Int).toNat) (j:=1) (k:=0) (q:=q1) zbr za2 rfl dc (zaa (m:=13) u rfl (d 13 dc)) rfl (zaG hq2) rfl dc rfl (zaf 14 u i rfl)
     · exact fun D n d c u i=>zb9 rfl dc (zaa (m:=9) u rfl (d 9 dc)) (zaa (m:=14) u rfl (d 14 dc)) (zaX (r:=q1.At+q1.Width) (IntWalk.i64_in _ hg1)) (zaf 15 u i rfl)
     · exact fun D n d c u i=>za7 (v:=.agg #[zI q1.At,zI (q1.At+q1.Width)]) (ps:=[(0,.tmp 19),(1,.tmp 30)]) rfl dc (evP.cons (zaa (m:=4) u rfl (d 4 dc)) (evP.cons (zaa (m:=15) u rfl (d 15 dc)) evP.nil)) (fun _=>by kernel_rfl) (zaf 16 u i rfl)
     · exact fun D n d c u i=>za7 (v:=.agg #[zI q1.At,zI (q1.At+q1.Width),zI 0,.bool false,zI 1]) (ps:=[(0,.tmp 31),(3,.const (zI 1))]) rfl dc (evP.cons (zaa (m:=16) u rfl (d 16 dc)) (evP.cons rfl evP.nil)) (fun _=>by kernel_rfl) (zaf 17 u i rfl)
     ·
      intro D hn hd hcl
      refine zbc zvs rfl dc (fun b2 => ?_)
      exact fun a w ha hw=>⟨b2,znm (by rfl) _ _ _ ha,hw⟩
     intro b2
     refine za0 (k:=2) (vs:=[zI q1.At,zI (q1.At+q1.Width),zI 0,.bool false,zI 1]) (l':=[zI q1.At,zI (q1.At+q1.Width),zI 0,.bool false,zI 1]) zeK rfl rfl rfl rfl rfl (show _≤_ by simp) rfl rfl (zyN (cut (zaC (zyG (zyR 2 rfl ?_)))))
     obtain ⟨q2,hq3,h⟩:=zbw h
     refine zar (k:=0) hq3 Tryz.underlying184 zfn rfl dc rfl rfl rfl rfl (zab zgW rfl dc rfl (show _=((i3:Int).toNat)*3+2 from rfl) (zaH (i:=(i3:Int).toNat) (j:=2) (k:=0) (q:=q2) ziu za2 rfl dc rfl rfl (zaG hq3) rfl dc rfl (zaW rfl zaT (zyR 1 rfl ?_))))
     refine zyS (s:=81) rfl h (fun h => ?_) (fun h => ?_)
     ·
      refine zyR 2 rfl (zar (k:=0) hq3 Tryz.underlying184 zfn rfl dc rfl rfl rfl rfl (zab ziN rfl dc rfl (show _=((i3:Int).toNat)*3+1 from rfl) (zaH (i:=(i3:Int).toNat) (j:=1) (k:=0) (q:=q2) zbr za2 rfl dc rfl rfl (zaG hq3) rfl dc rfl (zaW rfl zaT (zyR 2 rfl (zyN ?_))))))
      refine zyB rfl h (fun h => ?_) (fun h => ?_)
      ·
       refine zat (zab zdR rfl dc rfl (show _=2 from rfl) ?_)
       refine zaM (k:=2) (l':=[zI q1.At,zI (q1.At+q1.Width),zI 11,.bool false,zI 1]) zeA rfl rfl rfl rfl rfl (fun _ _=>rfl) rfl ?_
       refine zaQ (zag ?_)
       exact zai (q1.At,q1.At+q1.Width,11,false,1,b2) h rfl (za5 rfl) (zad [0,1,2] kr rfl)
      refine zyG (zyR 2 rfl ?_)
      obtain ⟨q3,hq4,h⟩:=zbw h
      refine zar (k:=0) hq4 Tryz.underlying184 zfn rfl dc rfl rfl rfl rfl (zab zgW rfl dc rfl (show _=((i3:Int).toNat)*3+2 from rfl) (zaH (i:=(i3:Int).toNat) (j:=2) (k:=0) (q:=q3) ziu za2 rfl dc rfl rfl (zaG hq4) rfl dc rfl ?_))
      obtain ⟨hg2,h⟩:=zbn h
      refine zbe (v:=zI (kind q3.Rune)) (vs:=[.int .i32 q3.Rune]) rfl dc rfl rfl rfl ztQ (zlv fun w=>znG q3.Rune w hg2.1 hg2.2) ?_
      refine zab zdR rfl dc rfl (show _=2 from rfl) ?_
      refine zaM (k:=2) (l':=[zI q1.At,zI (q1.At+q1.Width),zI (kind q3.Rune),.bool false,zI 1]) zeA rfl rfl rfl rfl rfl (fun _ _=>rfl) rfl ?_
      refine zyH (zyR 2 rfl ?_)
      obtain ⟨q4,hq5,h⟩:=zbw h
      refine zar (k:=0) hq5 Tryz.underlying184 zfn rfl dc rfl rfl rfl rfl (zab zgW rfl dc rfl (show _=((i3:Int).toNat)*3+2 from rfl) (zaH (i:=(i3:Int).toNat) (j:=2) (k:=0) (q:=q4) ziu za2 rfl dc rfl rfl (zaG hq5) rfl dc rfl (zaW rfl zaT (zab zfF rfl dc rfl (show _=3 from rfl) ?_))))
      refine zaM (k:=2) (l':=[zI q1.At,zI (q1.At+q1.Width),zI (kind q3.Rune),.bool ((q4.Rune:Int)==8205),zI 1]) zoA rfl rfl rfl rfl rfl (fun _ _=>rfl) rfl ?_
      refine zyN (zaC (zyG (zab zfF rfl dc rfl (show _=3 from rfl) (zam (k:=2) zl4 rfl dc rfl rfl rfl (zyR 1 rfl ?_)))))
      refine zyS (s:=50) rfl h (fun h => ?_) (fun h => ?_)
      ·
       refine zyR 14 rfl ?_
       refine zyR 1 rfl (zyN (za9 rfl (zat (zab zfj rfl dc rfl (show _=4 from rfl) ?_))))
       refine zaM (k:=2) (l':=[zI q1.At,zI (q1.At+q1.Width),zI (kind q3.Rune),.bool ((q4.Rune:Int)==8205),zI 0]) zeA rfl rfl rfl rfl rfl (fun _ _=>rfl) rfl ?_
       refine zaQ (zag (zag ?_))
       exact zai (q1.At,q1.At+q1.Width,kind q3.Rune,(q4.Rune:Int)==8205,0,b2) h rfl (za5 rfl) (zad [0,1,2] kr rfl)
      refine zab zdR rfl dc rfl (show _=2 from rfl) (zam (k:=2) zbr rfl dc rfl rfl rfl (zaW rfl zaT (zyR 2 rfl ?_)))
      refine zyS (s:=55) rfl h (fun h => ?_) (fun h => ?_)
      ·
       refine zyR 10 rfl (zyN (za9 rfl (zat ?_)))
       refine zab zfj rfl dc rfl (show _=4 from rfl) ?_
       refine zaM (k:=2) (l':=[zI q1.At,zI (q1.At+q1.Width),zI (kind q3.Rune),.bool ((q4.Rune:Int)==8205),zI 0]) zeA rfl rfl rfl rfl rfl (fun _ _=>rfl) rfl ?_
       refine zaQ (zag (zag ?_))
       exact zai (q1.At,q1.At+q1.Width,kind q3.Rune,(q4.Rune:Int)==8205,0,b2) h rfl (za5 rfl) (zad [0,1,2] kr rfl)
      refine zab zdR rfl dc rfl (show _=2 from rfl) (zam (k:=2) zbr rfl dc rfl rfl rfl (zaW rfl zaT (zyR 2 rfl ?_)))
      refine zyS (s:=60) rfl h (fun h => ?_) (fun h => ?_)
      ·
       refine zyR 5 rfl (zyN (za9 rfl (zat (zab zfj rfl dc rfl (show _=4 from rfl) ?_))))
       refine zaM (k:=2) (l':=[zI q1.At,zI (q1.At+q1.Width),zI (kind q3.Rune),.bool ((q4.Rune:Int)==8205),zI 0]) zeA rfl rfl rfl rfl rfl (fun _ _=>rfl) rfl ?_
       refine zaQ (zag (zag ?_))
       exact zai (q1.At,q1.At+q1.Width,kind q3.Rune,(q4.Rune:Int)==8205,0,b2) h rfl (za5 rfl) (zad [0,1,2] kr rfl)
      refine zab zdR rfl dc rfl (show _=2 from rfl) (zam (k:=2) zbr rfl dc rfl rfl rfl (zaW rfl zaT (zyR 2 rfl (zyN ?_))))
      refine zyB rfl h (fun h => ?_) (fun h => ?_)
      ·
       refine zat (zab zfj rfl dc rfl (show _=4 from rfl) ?_)
       refine zaM (k:=2) (l':=[zI q1.At,zI (q1.At+q1.Width),zI (kind q3.Rune),.bool ((q4.Rune:Int)==8205),zI 0]) zeA rfl rfl rfl rfl rfl (fun _ _=>rfl) rfl ?_
       refine zaQ (zag (zag ?_))
       exact zai (q1.At,q1.At+q1.Width,kind q3.Rune,(q4.Rune:Int)==8205,0,b2) h rfl (za5 rfl) (zad [0,1,2] kr rfl)
      refine zyG (zyR 2 rfl ?_)
      obtain ⟨q5,hq6,h⟩:=zbw h
      refine zar (k:=0) hq6 Tryz.underlying184 zfn rfl dc rfl rfl rfl rfl (zab zgW rfl dc rfl (show _=((i3:Int).toNat)*3+2 from rfl) (zaH (i:=(i3:Int).toNat) (j:=2) (k:=0) (q:=q5) ziu za2 rfl dc rfl rfl (zaG hq6) rfl dc rfl ?_))
      obtain ⟨r2,hq7,h⟩:=zbw h
      refine zbe (v:=.bool r2) (vs:=[.int .i32 q5.Rune]) rfl dc rfl rfl rfl ztP (zix hq7) (zyR 1 rfl (zyN ?_))
      refine zyB rfl h (fun h => ?_) (fun h => ?_)
      ·
       refine zat (zab zfj rfl dc rfl (show _=4 from rfl) ?_)
       refine zaM (k:=2) (l':=[zI q1.At,zI (q1.At+q1.Width),zI (kind q3.Rune),.bool ((q4.Rune:Int)==8205),zI 2]) zeA rfl rfl rfl rfl rfl (fun _ _=>rfl) rfl ?_
       refine zaQ (zag (zag ?_))
       exact zai (q1.At,q1.At+q1.Width,kind q3.Rune,(q4.Rune:Int)==8205,2,b2) h rfl (za5 rfl) (zad [0,1,2] kr rfl)
      refine zas (zag (zag ?_))
      exact zai (q1.At,q1.At+q1.Width,kind q3.Rune,(q4.Rune:Int)==8205,1,b2) h rfl (za5 rfl) (zad [0,1,2] kr rfl)
     refine zyR 8 rfl (zyN (zaN rfl (zyG (zyR 1 rfl ?_))))
     refine zyR 1 rfl ?_
     obtain ⟨q6,hq8,h⟩:=zbw h
     refine zar (k:=0) hq8 Tryz.underlying184 zfn rfl dc rfl rfl rfl rfl (zab zgW rfl dc rfl (show _=((i3:Int).toNat)*3+2 from rfl) (zaH (i:=(i3:Int).toNat) (j:=2) (k:=0) (q:=q6) ziu za2 rfl dc rfl rfl (zaG hq8) rfl dc rfl ?_))
     obtain ⟨hg3,h⟩:=zbn h
     refine zbe (v:=zI (kind q6.Rune)) (vs:=[.int .i32 q6.Rune]) rfl dc rfl rfl rfl ztQ (zlv fun w=>znG q6.Rune w hg3.1 hg3.2) ?_
     refine zab zdR rfl dc rfl (show _=2 from rfl) ?_
     refine zaM (k:=2) (l':=[zI q1.At,zI (q1.At+q1.Width),zI (kind q6.Rune),.bool false,zI 1]) zeA rfl rfl rfl rfl rfl (fun _ _=>rfl) rfl ?_
     refine zyH (zyR 2 rfl ?_)
     obtain ⟨q7,hq9,h⟩:=zbw h
     refine zar (k:=0) hq9 Tryz.underlying184 zfn rfl dc rfl rfl rfl rfl (zab zgW rfl dc rfl (show _=((i3:Int).toNat)*3+2 from rfl) (zaH (i:=(i3:Int).toNat) (j:=2) (k:=0) (q:=q7) ziu za2 rfl dc rfl rfl (zaG hq9) rfl dc rfl (zaW rfl zaT (zab zfF rfl dc rfl (show _=3 from rfl) ?_))))
     refine zaM (k:=2) (l':=[zI q1.At,zI (q1.At+q1.Width),zI (kind q6.Rune),.bool ((q7.Rune:Int)==8205),zI 1]) zoA rfl rfl rfl rfl rfl (fun _ _=>rfl) rfl ?_
     refine zyN (zaC (zyG (zab zfF rfl dc rfl (show _=3 from rfl) (zam (k:=2) zl4 rfl dc rfl rfl rfl (zyR 1 rfl ?_)))))
     refine zyS (s:=50) rfl h (fun h => ?_) (fun h => ?_)
     ·
      refine zyR 14 rfl ?_
      refine zyR 1 rfl (zyN (za9 rfl (zat (zab zfj rfl dc rfl (show _=4 from rfl) ?_))))
      refine zaM (k:=2) (l':=[zI q1.At,zI (q1.At+q1.Width),zI (kind q6.Rune),.bool ((q7.Rune:Int)==8205),zI 0]) zeA rfl rfl rfl rfl rfl (fun _ _=>rfl) rfl ?_
      refine zaQ (zag (zag ?_))
      exact zai (q1.At,q1.At+q1.Width,kind q6.Rune,(q7.Rune:Int)==8205,0,b2) h rfl (za5 rfl) (zad [0,1,2] kr rfl)
     refine zab zdR rfl dc rfl (show _=2 from rfl) (zam (k:=2) zbr rfl dc rfl rfl rfl (zaW rfl zaT (zyR 2 rfl ?_)))
     refine zyS (s:=55) rfl h (fun h => ?_) (fun h => ?_)
     ·
      refine zyR 10 rfl (zyN (za9 rfl (zat ?_)))
      refine zab zfj rfl dc rfl (show _=4 from rfl) ?_
      refine zaM (k:=2) (l':=[zI q1.At,zI (q1.At+q1.Width),zI (kind q6.Rune),.bool ((q7.Rune:Int)==8205),zI 0]) zeA rfl rfl rfl rfl rfl (fun _ _=>rfl) rfl ?_
      refine zaQ (zag (zag ?_))
      exact zai (q1.At,q1.At+q1.Width,kind q6.Rune,(q7.Rune:Int)==8205,0,b2) h rfl (za5 rfl) (zad [0,1,2] kr rfl)
     refine zab zdR rfl dc rfl (show _=2 from rfl) (zam (k:=2) zbr rfl dc rfl rfl rfl (zaW rfl zaT (zyR 2 rfl ?_)))
     refine zyS (s:=60) rfl h (fun h => ?_) (fun h => ?_)
     ·
      refine zyR 5 rfl (zyN (za9 rfl (zat (zab zfj rfl dc rfl (show _=4 from rfl) ?_))))
      refine zaM (k:=2) (l':=[zI q1.At,zI (q1.At+q1.Width),zI (kind q6.Rune),.bool ((q7.Rune:Int)==8205),zI 0]) zeA rfl rfl rfl rfl rfl (fun _ _=>rfl) rfl ?_
      refine zaQ (zag (zag ?_))
      exact zai (q1.At,q1.At+q1.Width,kind q6.Rune,(q7.Rune:Int)==8205,0,b2) h rfl (za5 rfl) (zad [0,1,2] kr rfl)
     refine zab zdR rfl dc rfl (show _=2 from rfl) (zam (k:=2) zbr rfl dc rfl rfl rfl (zaW rfl zaT (zyR 2 rfl (zyN ?_))))
     refine zyB rfl h (fun h => ?_) (fun h => ?_)
     ·
      refine zat (zab zfj rfl dc rfl (show _=4 from rfl) ?_)
      refine zaM (k:=2) (l':=[zI q1.At,zI (q1.At+q1.Width),zI (kind q6.Rune),.bool ((q7.Rune:Int)==8205),zI 0]) zeA rfl rfl rfl rfl rfl (fun _ _=>rfl) rfl ?_
      refine zaQ (zag (zag ?_))
      exact zai (q1.At,q1.At+q1.Width,kind q6.Rune,(q7.Rune:Int)==8205,0,b2) h rfl (za5 rfl) (zad [0,1,2] kr rfl)
     refine zyG (zyR 2 rfl ?_)
     obtain ⟨q8,hq10,h⟩:=zbw h
     refine zar (k:=0) hq10 Tryz.underlying184 zfn rfl dc rfl rfl rfl rfl (zab zgW rfl dc rfl (show _=((i3:Int).toNat)*3+2 from rfl) (zaH (i:=(i3:Int).toNat) (j:=2) (k:=0) (q:=q8) ziu za2 rfl dc rfl rfl (zaG hq10) rfl dc rfl ?_))
     obtain ⟨r3,hq11,h⟩:=zbw h
     refine zbe (v:=.bool r3) (vs:=[.int .i32 q8.Rune]) rfl dc rfl rfl rfl ztP (zix hq11) (zyR 1 rfl (zyN ?_))
     refine zyB rfl h (fun h => ?_) (fun h => ?_)
     ·
      refine zat (zab zfj rfl dc rfl (show _=4 from rfl) ?_)
      refine zaM (k:=2) (l':=[zI q1.At,zI (q1.At+q1.Width),zI (kind q6.Rune),.bool ((q7.Rune:Int)==8205),zI 2]) zeA rfl rfl rfl rfl rfl (fun _ _=>rfl) rfl ?_
      refine zaQ (zag (zag ?_))
      exact zai (q1.At,q1.At+q1.Width,kind q6.Rune,(q7.Rune:Int)==8205,2,b2) h rfl (za5 rfl) (zad [0,1,2] kr rfl)
     refine zas (zag (zag ?_))
     exact zai (q1.At,q1.At+q1.Width,kind q6.Rune,(q7.Rune:Int)==8205,1,b2) h rfl (za5 rfl) (zad [0,1,2] kr rfl)
    rintro ⟨p1,p2,p3,p4,p5,b1⟩ h
    rw [hj2] at h
    refine zat (zyR 1 rfl (zbb (k:=2) (cs:=[zI p1,zI p2,zI p3,.bool p4,zI p5]) zvO rfl dc rfl rfl rfl rfl ?_))
    refine zaR (cs:=[zI p1,zI p2,zI p3,.bool p4,zI p5]) (te:=146) (ps:=[(0,.tmp 91)]) rfl dc rfl (fun _=>by kernel_rfl) (fun b3 => ?_)
    obtain ⟨hg4,h⟩:=zbn h
    refine za3 (k:=1) (k2:=3) (ys:=[(⟨p1,p2,p3,p4,p5⟩:Gref05_Piece)]) Tryz.underlying143 zwI zaV zhW rfl dc rfl rfl rfl rfl rfl rfl hg4 (fun v6 => ?_)
    refine zyR 1 rfl (zaQ (zag (zaI (zat (zyR 1 rfl ?_)))))
    obtain ⟨hg5,h⟩:=zbn h
    refine zaW rfl (zaX (r:=i3+1) (IntWalk.i64_in _ hg5)) (zyR 1 rfl (zaQ ?_))
    subst hag1
    exact za8 (n1,out4++[(⟨p1,p2,p3,p4,p5⟩:Gref05_Piece)],i3+1,v6) h (Nat.lt_succ_self _) rfl (za5 rfl) (zad [0,1] kr rfl)
   refine za6 (zak (zak (zav ?_)))
   exact zai (out4,v5) h rfl (za5 rfl) (zad [1] kr rfl)
 rintro ⟨out1,v1⟩ h
 rw [hj1] at h
 refine zyG (zyR 2 rfl (zyN (zaE ?_)))
 cases h
 exact zaS (rs:=[.tmp 2]) v1 (.inl rfl) Tryz.results74 (.cons (.tmp rfl) .nil) rfl (zad [0] kr rfl)
def zeO (r1:(List Gref05_Piece)) (j2:Int→Option (List Gapi_Cell)) (q1:Gref05_Piece) (ag2:Int→Option (List Gapi_Cell)) (k4:Int):Option (List Gapi_Cell) :=
zbi (fun (j3:Int→Bool→Bool→Bool→Bool→Bool→Option (List Gapi_Cell)) =>
zaw (decide ((k4:Int)<(r1.length:Int))) (
zal (zcb r1 k4) fun (q4:Gref05_Piece) =>
zaw ((q4.Kind:Int)==2) (
j3 q4.Kind ((q4.Kind:Int)==2) true true true true
) (
zaw (q4.Joiner) (
j3 q4.Kind ((q4.Kind:Int)==2) false q4.Joiner true true
) (
zaw ((q1.Kind:Int)==10) (
zaw ((q4.Kind:Int)==10) (
grd (I64 (k4 - 1)) <|
zal (zcb r1 (k4 - 1)) fun (q5:Gref05_Piece) =>
zaw (q5.Joiner) (
j3 q4.Kind ((q4.Kind:Int)==2) false q4.Joiner false q5.Joiner
) (
j2 k4
)
) (
j2 k4
)
) (
j2 k4
)
)
)
) (
j2 k4
)
) (fun (x1:Int) (x2:Bool) (x3:Bool) (x4:Bool) (x5:Bool) (x6:Bool) =>
grd (I64 (k4+1)) <|
ag2 (k4+1)
)
def zeN (r1:(List Gref05_Piece)) (j2:Int→Option (List Gapi_Cell)) (q1:Gref05_Piece) (ag3:Int→Option (List Gapi_Cell)) (k7:Int):Option (List Gapi_Cell) :=
zbi (fun (j4:Int→Bool→Bool→Bool→Bool→Bool→Option (List Gapi_Cell)) =>
zaw (decide ((k7:Int)<(r1.length:Int))) (
zal (zcb r1 k7) fun (q6:Gref05_Piece) =>
zaw ((q6.Kind:Int)==2) (
j4 q6.Kind ((q6.Kind:Int)==2) true true true true
) (
zaw (q6.Joiner) (
j4 q6.Kind ((q6.Kind:Int)==2) false q6.Joiner true true
) (
zaw ((q1.Kind:Int)==10) (
zaw ((q6.Kind:Int)==10) (
grd (I64 (k7 - 1)) <|
zal (zcb r1 (k7 - 1)) fun (q7:Gref05_Piece) =>
zaw (q7.Joiner) (
j4 q6.Kind ((q6.Kind:Int)==2) false q6.Joiner false q7.Joiner
) (
j2 k7
)
) (
j2 k7
)
) (
j2 k7
)
)
)
) (
j2 k7
)
) (fun (x7:Int) (x8:Bool) (x9:Bool) (x10:Bool) (x11:Bool) (x12:Bool) =>
grd (I64 (k7+1)) <|
ag3 (k7+1)
)
def zcs (r1:(List Gref05_Piece)) (j2:Int→Option (List Gapi_Cell)) (q1:Gref05_Piece) (ag4:Int→Option (List Gapi_Cell)) (k10:Int):Option (List Gapi_Cell) :=
zbi (fun (j5:Int→Bool→Bool→Bool→Bool→Bool→Option (List Gapi_Cell)) =>
zaw (decide ((k10:Int)<(r1.length:Int))) (
zal (zcb r1 k10) fun (q8:Gref05_Piece) =>
zaw ((q8.Kind:Int)==2) (
j5 q8.Kind ((q8.Kind:Int)==2) true true true true
) (
zaw (q8.Joiner) (
j5 q8.Kind ((q8.Kind:Int)==2) false q8.Joiner true true
) (
zaw ((q1.Kind:Int)==10) (
zaw ((q8.Kind:Int)==10) (
grd (I64 (k10 - 1)) <|
zal (zcb r1 (k10 - 1)) fun (q9:Gref05_Piece) =>
zaw (q9.Joiner) (
j5 q8.Kind ((q8.Kind:Int)==2) false q8.Joiner false q9.Joiner
) (
j2 k10
)
) (
j2 k10
)
) (
j2 k10
)
)
)
) (
j2 k10
)
) (fun (x13:Int) (x14:Bool) (x15:Bool) (x16:Bool) (x17:Bool) (x18:Bool) =>
grd (I64 (k10+1)) <|
ag4 (k10+1)
)
def zcr (r1:(List Gref05_Piece)) (k1:Int) (j6:Int→Int→Int→Int→Option (List Gapi_Cell)) (q10:Gref05_Piece) (q11:Gref05_Piece) (ag5:Int→Int→Option (List Gapi_Cell)) (i7:Int) (c8:Int):Option (List Gapi_Cell) :=
zaw (decide ((i7:Int)<k1)) (
zal (zcb r1 i7) fun (q12:Gref05_Piece) =>
grd (I64 (i7+1)) <|
ag5 (i7+1) (max c8 q12.Columns)
) (
j6 i7 q10.Span_From q11.Span_To c8
)
def zct (s1:ByteArray) (j1:(List Gapi_Cell)→Option (List Gapi_Cell)) (r1:(List Gref05_Piece)) (ag1:(List Gapi_Cell)→Int→Option (List Gapi_Cell)) (out4:List Gapi_Cell) (i3:Int):Option (List Gapi_Cell) :=
zaw (decide ((i3:Int)<(r1.length:Int))) (
zbi (fun (j2:Int→Option (List Gapi_Cell)) =>
grd (I64 (i3+1)) <|
zal (zcb r1 i3) fun (q1:Gref05_Piece) =>
zal (zcb r1 i3) fun (q2:Gref05_Piece) =>
zal (zin s1 q2.Span_From) fun (c1:Int) =>
zaw ((c1:Int)==13) (
zaw (decide (((i3+1):Int)<(r1.length:Int))) (
zal (zcb r1 (i3+1)) fun (q3:Gref05_Piece) =>
zal (zin s1 q3.Span_From) fun (c2:Int) =>
zaw ((c2:Int)==10) (
grd (I64 ((i3+1)+1)) <|
j2 ((i3+1)+1)
) (
zaw ((q1.Kind:Int)==11) (
j2 (i3+1)
) (
zaw ((q1.Kind:Int)==4) (
j2 (i3+1)
) (
zaw ((q1.Kind:Int)==9) (
j2 (i3+1)
) (
zaF (fun _=>none) (zeO r1 j2 q1) zbT (i3+1)
)
)
)
)
) (
zaw ((q1.Kind:Int)==11) (
j2 (i3+1)
) (
zaw ((q1.Kind:Int)==4) (
j2 (i3+1)
) (
zaw ((q1.Kind:Int)==9) (
j2 (i3+1)
) (
zaF (fun _=>none) (zeN r1 j2 q1) zbT (i3+1)
)
)
)
)
) (
zaw ((q1.Kind:Int)==11) (
j2 (i3+1)
) (
zaw ((q1.Kind:Int)==4) (
j2 (i3+1)
) (
zaw ((q1.Kind:Int)==9) (
j2 (i3+1)
) (
zaF (fun _=>none) (zcs r1 j2 q1) zbT (i3+1)
)
)
)
)
) (fun (k1:Int) =>
zbi (fun (j6:Int→Int→Int→Int→Option (List Gapi_Cell)) =>
zal (zcb r1 i3) fun (q10:Gref05_Piece) =>
grd (I64 (k1 - 1)) <|
zal (zcb r1 (k1 - 1)) fun (q11:Gref05_Piece) =>
zaF (fun _ _=>none) (zcr r1 k1 j6 q10 q11) zbT i3 0
) (fun (i4:Int) (c3:Int) (c4:Int) (c5:Int) =>
grd (out4.length+1≤2147483648) <|
ag1 (out4++[(⟨c3,c4,c5⟩:Gapi_Cell)]) i4
)
)
) (
j1 out4
)
def zff (s1:ByteArray):Option (List Gapi_Cell) :=
zbi (fun (j1:(List Gapi_Cell)→Option (List Gapi_Cell)) =>
zal (zeM s1) fun (r1:(List Gref05_Piece)) =>
zaF (fun _ _=>none) (zct s1 j1 r1) zbT ([]:List Gapi_Cell) 0
) (fun (out1:List Gapi_Cell) =>
some out1
)
theorem zlK {s1:ByteArray} {r:(List Gapi_Cell)} (h:zff s1=some r):Fn Tryz.prog 40 [.string s1] [] (fun v0:Value=>v0) (fun v0=>[zv2 v0 r]):=by
 unfold zff at h
 refine Fn.intro Tryz.func40 rfl Tryz.ntmps40 (by simp) ?_
 intro w0 K
 obtain ⟨j1,hj1,h⟩:=zbF h
 refine za1 (β:=(List Gapi_Cell)×Value) 4 rfl (fun b=>j1 b.1=some r) (fun b=>[]) (fun b=>[(4,b.2)]) (fun b=>[zv2 b.2 b.1]) (fun cut => ?_) ?_
 ·
  refine zyG (zyR 1 rfl (zyH (zyR 1 rfl ?_)))
  obtain ⟨r1,hq1,h⟩:=zbw h
  refine zdu (vs:=[.string s1]) rfl dc rfl rfl rfl zxD (zkH hq1) Splits.nil ?_
  rintro v2
  refine zyR 1 rfl (zyH (zyR 1 rfl (zyH (zyR 1 rfl (zyN (cut ?_))))))
  refine zaC (zc1 (enc:=zeF) (e:=40) (size:=3) ?_)
  refine zbq (β:=Nat×(List Gapi_Cell)×Int×Value) (fun b=>zaF (fun _ _=>none) (zct s1 j1 r1) b.1 b.2.1 b.2.2.1=some r) (fun b=>[]) (fun b=>[(0,.string s1),(3,v2),(4,b.2.2.2),(5,zI b.2.2.1)]) (fun b=>[zv9 v2 r1,zv2 b.2.2.2 b.2.1]) (fun b=>b.1) (zbT,([]:List Gapi_Cell),0,(.slice none 0 0)) h rfl (za5 rfl) (zad [0,1] kr rfl) ?_
  rintro ⟨n1,out4,i3,v5⟩ h
  cases n1 with
  | zero=>exact zdM h
  | succ n1 =>
   obtain ⟨ag1,hag1⟩:∃ ag,ag=zaF (fun _ _=>none) (zct s1 j1 r1) n1:=⟨_,rfl⟩
   have h:zct s1 j1 r1 ag1 out4 i3=some r:=by rw [hag1]; exact h
   unfold zct at h
   refine zaJ (zyG (zyR 2 rfl (zbl (k:=0) rfl dc rfl rfl Tryz.underlying143 (zaW rfl zbC (zyN ?_)))))
   refine zyB rfl h (fun h => ?_) (fun h => ?_)
   ·
    refine zas (zaI (zaC ?_))
    obtain ⟨j2,hj2,h⟩:=zbF h
    refine za1 (β:=Int) 2 rfl (fun b=>j2 b=some r) (fun b=>[]) (fun b=>[(0,.string s1),(3,v2),(4,v5),(5,zI i3),(6,zI b)]) (fun b=>[zv9 v2 r1,zv2 v5 out4]) (fun cut => ?_) ?_
    ·
     refine zyG (zyR 1 rfl ?_)
     obtain ⟨hg1,h⟩:=zbn h
     refine zaW rfl (zaX (r:=i3+1) (IntWalk.i64_in _ hg1)) (zyR 1 rfl (zyH (zyR 2 rfl ?_)))
     obtain ⟨q1,hq2,h⟩:=zbw h
     refine zar (k:=0) hq2 Tryz.underlying143 zeK rfl dc rfl rfl rfl rfl (zab zdR rfl dc rfl (show _=((i3:Int).toNat)*5+2 from rfl) (zaH (i:=(i3:Int).toNat) (j:=2) (k:=0) (q:=q1) zbr zaV rfl dc rfl rfl (zaG hq2) rfl dc rfl (zyR 1 rfl (zyN (cut (zaC (zyG (zyR 3 rfl ?_))))))))
     obtain ⟨q2,hq3,h⟩:=zbw h
     refine zar (k:=0) hq3 Tryz.underlying143 zeK rfl dc rfl rfl rfl rfl (zab zhL rfl dc rfl (show _=((i3:Int).toNat)*5 from rfl) (zab zdc rfl dc rfl (show _=((i3:Int).toNat)*5 from rfl) (zaH (i:=(i3:Int).toNat) (j:=0) (k:=0) (q:=q2) zbr zaV rfl dc rfl rfl (zaG hq3) rfl dc rfl ?_)))
     obtain ⟨c1,hq4,h⟩:=zbw h
     refine zcG rfl dc rfl rfl (zbh Tryz.underlying9 hq4) (zaW rfl zaT (zyR 1 rfl ?_))
     refine zyS (s:=73) rfl h (fun h => ?_) (fun h => ?_)
     ·
      refine zyR 2 rfl (zbl (k:=0) rfl dc rfl rfl Tryz.underlying143 (zaW rfl zbC (zyR 2 rfl ?_)))
      refine zyS (s:=79) rfl h (fun h => ?_) (fun h => ?_)
      ·
       refine zyR 3 rfl ?_
       obtain ⟨q3,hq5,h⟩:=zbw h
       refine zar (k:=0) hq5 Tryz.underlying143 zeK rfl dc rfl rfl rfl rfl (zab zhL rfl dc rfl (show _=((i3+1:Int).toNat)*5 from rfl) (zab zdc rfl dc rfl (show _=((i3+1:Int).toNat)*5 from rfl) (zaH (i:=(i3+1:Int).toNat) (j:=0) (k:=0) (q:=q3) zbr zaV rfl dc rfl rfl (zaG hq5) rfl dc rfl ?_)))
       obtain ⟨c2,hq6,h⟩:=zbw h
       refine zcG rfl dc rfl rfl (zbh Tryz.underlying9 hq6) (zaW rfl zaT (zyR 2 rfl (zyN ?_)))
       refine zyB rfl h (fun h => ?_) (fun h => ?_)
       ·
        refine zat (zyR 1 rfl ?_)
        obtain ⟨hg2,h⟩:=zbn h
        refine zaW rfl (zaX (r:=(i3+1)+1) (IntWalk.i64_in _ hg2)) (zyR 1 rfl (zaQ (zag ?_)))
        exact zai ((i3+1)+1) h rfl (za5 rfl) (zad [0,1] kr rfl)
       refine zyG (zyR 1 rfl (zaW rfl zaT (zyR 1 rfl ?_)))
       refine zyS (s:=95) rfl h (fun h => ?_) (fun h => ?_)
       ·
        refine zyR 8 rfl (zyN (za9 rfl (zas (zag ?_))))
        exact zai (i3+1) h rfl (za5 rfl) (zad [0,1] kr rfl)
       refine zyR 1 rfl (zaW rfl zaT (zyR 2 rfl ?_))
       refine zyS (s:=99) rfl h (fun h => ?_) (fun h => ?_)
       ·
        refine zyR 4 rfl (zyN (za9 rfl (zas (zag ?_))))
        exact zai (i3+1) h rfl (za5 rfl) (zad [0,1] kr rfl)
       refine zyR 1 rfl (zaW rfl zaT (zyR 2 rfl (zyN ?_)))
       refine zyB rfl h (fun h => ?_) (fun h => ?_)
       ·
        refine zas (zag ?_)
        exact zai (i3+1) h rfl (za5 rfl) (zad [0,1] kr rfl)
       refine zaC ?_
       refine zbq (β:=Nat×Int) (fun b=>zaF (fun _=>none) (zeO r1 j2 q1) b.1 b.2=some r) (fun b=>[]) (fun b=>[(0,.string s1),(3,v2),(4,v5),(5,zI i3),(6,zI b.2),(7,zI q1.Kind),(74,zI (i3+1)),(75,v2),(76,zI (r1.length:Int)),(77,.bool (decide (((i3+1):Int)<(r1.length:Int)))),(80,.string s1),(81,v2),(82,zI (i3+1)),(83,.pointer (some ⟨zcN v2,(i3+1:Int).toNat*5,none⟩)),(84,.pointer (some ⟨zcN v2,((i3+1:Int).toNat)*5,none⟩)),(85,.pointer (some ⟨zcN v2,((i3+1:Int).toNat)*5,none⟩)),(86,zI q3.Span_From),(87,.int .u8 c2),(88,.bool ((c2:Int)==10)),(96,zI q1.Kind),(97,.bool ((q1.Kind:Int)==4)),(100,zI q1.Kind),(101,.bool ((q1.Kind:Int)==9))]) (fun b=>[zv9 v2 r1,zv2 v5 out4]) (fun b=>b.1) (zbT,i3+1) h rfl (za5 rfl) (zad [0,1] kr rfl) ?_
       rintro ⟨n2,k4⟩ h
       cases n2 with
       | zero=>exact zdM h
       | succ n2 =>
        obtain ⟨ag2,hag2⟩:∃ ag,ag=zaF (fun _=>none) (zeO r1 j2 q1) n2:=⟨_,rfl⟩
        have h:zeO r1 j2 q1 ag2 k4=some r:=by rw [hag2]; exact h
        unfold zeO at h
        obtain ⟨j3,hj3,h⟩:=zbF h
        refine za1 (β:=Int×Bool×Bool×Bool×Bool×Bool) 0 rfl (fun b=>j3 b.1 b.2.1 b.2.2.1 b.2.2.2.1 b.2.2.2.2.1 b.2.2.2.2.2=some r) (fun b=>[]) (fun b=>[(0,.string s1),(3,v2),(4,v5),(5,zI i3),(6,zI k4),(7,zI q1.Kind),(27,v2),(28,zI k4),(29,.pointer (some ⟨zcN v2,(k4:Int).toNat*5,none⟩)),(30,.pointer (some ⟨zcN v2,((k4:Int).toNat)*5+2,none⟩)),(31,zI b.1),(32,.bool b.2.1),(33,.bool b.2.2.1),(39,.bool b.2.2.2.1),(40,.bool b.2.2.2.2.1),(59,.bool b.2.2.2.2.2),(74,zI (i3+1)),(75,v2),(76,zI (r1.length:Int)),(77,.bool (decide (((i3+1):Int)<(r1.length:Int)))),(80,.string s1),(81,v2),(82,zI (i3+1)),(83,.pointer (some ⟨zcN v2,(i3+1:Int).toNat*5,none⟩)),(84,.pointer (some ⟨zcN v2,((i3+1:Int).toNat)*5,none⟩)),(85,.pointer (some ⟨zcN v2,((i3+1:Int).toNat)*5,none⟩)),(86,zI q3.Span_From),(87,.int .u8 c2),(88,.bool ((c2:Int)==10)),(96,zI q1.Kind),(97,.bool ((q1.Kind:Int)==4)),(100,zI q1.Kind),(101,.bool ((q1.Kind:Int)==9))]) (fun b=>[zv9 v2 r1,zv2 v5 out4]) (fun cut => ?_) ?_
        ·
         refine cut (zyG (zyR 2 rfl (zbl (k:=0) rfl dc rfl rfl Tryz.underlying143 (zaW rfl zbC (zyR 1 rfl ?_)))))
         refine zyS (s:=26) rfl h (fun h => ?_) (fun h => ?_)
         ·
          refine zyR 2 rfl ?_
          obtain ⟨q4,hq7,h⟩:=zbw h
          refine zar (k:=0) hq7 Tryz.underlying143 zeK rfl dc rfl rfl rfl rfl (zab zdR rfl dc rfl (show _=((k4:Int).toNat)*5+2 from rfl) (zaH (i:=(k4:Int).toNat) (j:=2) (k:=0) (q:=q4) zbr zaV rfl dc rfl rfl (zaG hq7) rfl dc rfl (zaW rfl zaT (zyR 1 rfl ?_))))
          refine zyS (s:=33) rfl h (fun h => ?_) (fun h => ?_)
          ·
           refine zyR 14 rfl ?_
           refine zyR 13 rfl (zaQ ?_)
           refine zaI (za9 rfl (zas ?_))
           exact zai (q4.Kind,(q4.Kind:Int)==2,true,true,true,true) h rfl (za5 rfl) (zad [0,1] kr rfl)
          refine zyR 2 rfl (zar (k:=0) hq7 Tryz.underlying143 zeK rfl dc rfl rfl rfl rfl (zab zfF rfl dc rfl (show _=((k4:Int).toNat)*5+3 from rfl) (zaH (i:=(k4:Int).toNat) (j:=3) (k:=0) (q:=q4) zl4 zaV rfl dc rfl rfl (zaG hq7) rfl dc rfl (zyR 2 rfl ?_))))
          refine zyS (s:=40) rfl h (fun h => ?_) (fun h => ?_)
          ·
           refine zyR 14 rfl ?_
           refine zyR 6 rfl (zyN (za9 rfl (zas ?_)))
           exact zai (q4.Kind,(q4.Kind:Int)==2,false,q4.Joiner,true,true) h rfl (za5 rfl) (zad [0,1] kr rfl)
          refine zyR 1 rfl (zaW rfl zaT (zyR 1 rfl ?_))
          refine zyS (s:=43) rfl h (fun h => ?_) (fun h => ?_)
          ·
           refine zyR 2 rfl (zar (k:=0) hq7 Tryz.underlying143 zeK rfl dc rfl rfl rfl rfl (zab zdR rfl dc rfl (show _=((k4:Int).toNat)*5+2 from rfl) (zaH (i:=(k4:Int).toNat) (j:=2) (k:=0) (q:=q4) zbr zaV rfl dc rfl rfl (zaG hq7) rfl dc rfl (zaW rfl zaT (zyR 2 rfl ?_)))))
           refine zyS (s:=51) rfl h (fun h => ?_) (fun h => ?_)
           ·
            refine zyR 2 rfl ?_
            obtain ⟨hg3,h⟩:=zbn h
            refine zaW rfl (zbG (r:=k4 - 1) (IntWalk.i64_in _ hg3)) ?_
            obtain ⟨q5,hq8,h⟩:=zbw h
            refine zar (k:=0) hq8 Tryz.underlying143 zeK rfl dc rfl rfl rfl rfl (zab zfF rfl dc rfl (show _=((k4 - 1:Int).toNat)*5+3 from rfl) (zaH (i:=(k4 - 1:Int).toNat) (j:=3) (k:=0) (q:=q5) zl4 zaV rfl dc rfl rfl (zaG hq8) rfl dc rfl (zyR 3 rfl (zyN ?_))))
            refine zyB rfl h (fun h => ?_) (fun h => ?_)
            ·
             refine zas ?_
             exact zai (q4.Kind,(q4.Kind:Int)==2,false,q4.Joiner,false,q5.Joiner) h rfl (za5 rfl) (zad [0,1] kr rfl)
            refine za6 (zak (zak (zav (zag ?_))))
            exact zai k4 h rfl (za5 rfl) (zad [0,1] kr rfl)
           refine zyR 9 rfl (zyN (zaN rfl (za6 (zak ?_))))
           refine zak (zav (zag ?_))
           exact zai k4 h rfl (za5 rfl) (zad [0,1] kr rfl)
          refine zyR 14 rfl ?_
          refine zyR 3 rfl (zyN (zaN rfl (za6 (zak (zak (zav (zag ?_)))))))
          exact zai k4 h rfl (za5 rfl) (zad [0,1] kr rfl)
         refine zyR 14 rfl ?_
         refine zyR 14 rfl ?_
         refine zyR 6 rfl (zyN (zaN rfl (za6 (zak (zak (zav (zag ?_)))))))
         exact zai k4 h rfl (za5 rfl) (zad [0,1] kr rfl)
        rintro ⟨x1,x2,x3,x4,x5,x6⟩ h
        rw [hj3] at h
        refine zaC (zat (zyR 1 rfl ?_))
        obtain ⟨hg4,h⟩:=zbn h
        refine zaW rfl (zaX (r:=k4+1) (IntWalk.i64_in _ hg4)) (zyR 1 rfl (zaQ (zag ?_)))
        subst hag2
        exact za8 (n2,k4+1) h (Nat.lt_succ_self _) rfl (za5 rfl) (zad [0,1] kr rfl)
      refine zyR 11 rfl (zyN (zaN rfl ?_))
      refine zyG (zyR 1 rfl (zaW rfl zaT (zyR 1 rfl ?_)))
      refine zyS (s:=95) rfl h (fun h => ?_) (fun h => ?_)
      ·
       refine zyR 8 rfl (zyN (za9 rfl (zas (zag ?_))))
       exact zai (i3+1) h rfl (za5 rfl) (zad [0,1] kr rfl)
      refine zyR 1 rfl (zaW rfl zaT (zyR 2 rfl ?_))
      refine zyS (s:=99) rfl h (fun h => ?_) (fun h => ?_)
      ·
       refine zyR 4 rfl (zyN (za9 rfl (zas (zag ?_))))
       exact zai (i3+1) h rfl (za5 rfl) (zad [0,1] kr rfl)
      refine zyR 1 rfl (zaW rfl zaT (zyR 2 rfl (zyN ?_)))
      refine zyB rfl h (fun h => ?_) (fun h => ?_)
      ·
       refine zas (zag ?_)
       exact zai (i3+1) h rfl (za5 rfl) (zad [0,1] kr rfl)
      refine zaC ?_
      refine zbq (β:=Nat×Int) (fun b=>zaF (fun _=>none) (zeN r1 j2 q1) b.1 b.2=some r) (fun b=>[]) (fun b=>[(0,.string s1),(3,v2),(4,v5),(5,zI i3),(6,zI b.2),(7,zI q1.Kind),(74,zI (i3+1)),(75,v2),(76,zI (r1.length:Int)),(77,.bool (decide (((i3+1):Int)<(r1.length:Int)))),(80,undef),(81,undef),(82,undef),(83,undef),(84,undef),(85,undef),(86,undef),(87,undef),(88,undef),(96,zI q1.Kind),(97,.bool ((q1.Kind:Int)==4)),(100,zI q1.Kind),(101,.bool ((q1.Kind:Int)==9))]) (fun b=>[zv9 v2 r1,zv2 v5 out4]) (fun b=>b.1) (zbT,i3+1) h rfl (za5 rfl) (zad [0,1] kr rfl) ?_
      rintro ⟨n3,k7⟩ h
      cases n3 with
      | zero=>exact zdM h
      | succ n3 =>
       obtain ⟨ag3,hag3⟩:∃ ag,ag=zaF (fun _=>none) (zeN r1 j2 q1) n3:=⟨_,rfl⟩
       have h:zeN r1 j2 q1 ag3 k7=some r:=by rw [hag3]; exact h
       unfold zeN at h
       obtain ⟨j4,hj4,h⟩:=zbF h
       refine za1 (β:=Int×Bool×Bool×Bool×Bool×Bool) 0 rfl (fun b=>j4 b.1 b.2.1 b.2.2.1 b.2.2.2.1 b.2.2.2.2.1 b.2.2.2.2.2=some r) (fun b=>[]) (fun b=>[(0,.string s1),(3,v2),(4,v5),(5,zI i3),(6,zI k7),(7,zI q1.Kind),(27,v2),(28,zI k7),(29,.pointer (some ⟨zcN v2,(k7:Int).toNat*5,none⟩)),(30,.pointer (some ⟨zcN v2,((k7:Int).toNat)*5+2,none⟩)),(31,zI b.1),(32,.bool b.2.1),(33,.bool b.2.2.1),(39,.bool b.2.2.2.1),(40,.bool b.2.2.2.2.1),(59,.bool b.2.2.2.2.2),(74,zI (i3+1)),(75,v2),(76,zI (r1.length:Int)),(77,.bool (decide (((i3+1):Int)<(r1.length:Int)))),(80,undef),(81,undef),(82,undef),(83,undef),(84,undef),(85,undef),(86,undef),(87,undef),(88,undef),(96,zI q1.Kind),(97,.bool ((q1.Kind:Int)==4)),(100,zI q1.Kind),(101,.bool ((q1.Kind:Int)==9))]) (fun b=>[zv9 v2 r1,zv2 v5 out4]) (fun cut => ?_) ?_
       ·
        refine cut (zyG (zyR 2 rfl (zbl (k:=0) rfl dc rfl rfl Tryz.underlying143 (zaW rfl zbC (zyR 1 rfl ?_)))))
        refine zyS (s:=26) rfl h (fun h => ?_) (fun h => ?_)
        ·
         refine zyR 2 rfl ?_
         obtain ⟨q6,hq9,h⟩:=zbw h
         refine zar (k:=0) hq9 Tryz.underlying143 zeK rfl dc rfl rfl rfl rfl (zab zdR rfl dc rfl (show _=((k7:Int).toNat)*5+2 from rfl) (zaH (i:=(k7:Int).toNat) (j:=2) (k:=0) (q:=q6) zbr zaV rfl dc rfl rfl (zaG hq9) rfl dc rfl (zaW rfl zaT (zyR 1 rfl ?_))))
         refine zyS (s:=33) rfl h (fun h => ?_) (fun h => ?_)
         ·
          refine zyR 14 rfl ?_
          refine zyR 13 rfl (zaQ ?_)
          refine zaI (za9 rfl (zas ?_))
          exact zai (q6.Kind,(q6.Kind:Int)==2,true,true,true,true) h rfl (za5 rfl) (zad [0,1] kr rfl)
         refine zyR 2 rfl (zar (k:=0) hq9 Tryz.underlying143 zeK rfl dc rfl rfl rfl rfl (zab zfF rfl dc rfl (show _=((k7:Int).toNat)*5+3 from rfl) (zaH (i:=(k7:Int).toNat) (j:=3) (k:=0) (q:=q6) zl4 zaV rfl dc rfl rfl (zaG hq9) rfl dc rfl (zyR 2 rfl ?_))))
         refine zyS (s:=40) rfl h (fun h => ?_) (fun h => ?_)
         ·
          refine zyR 14 rfl ?_
          refine zyR 6 rfl (zyN (za9 rfl (zas ?_)))
          exact zai (q6.Kind,(q6.Kind:Int)==2,false,q6.Joiner,true,true) h rfl (za5 rfl) (zad [0,1] kr rfl)
         refine zyR 1 rfl (zaW rfl zaT (zyR 1 rfl ?_))
         refine zyS (s:=43) rfl h (fun h => ?_) (fun h => ?_)
         ·
          refine zyR 2 rfl (zar (k:=0) hq9 Tryz.underlying143 zeK rfl dc rfl rfl rfl rfl (zab zdR rfl dc rfl (show _=((k7:Int).toNat)*5+2 from rfl) (zaH (i:=(k7:Int).toNat) (j:=2) (k:=0) (q:=q6) zbr zaV rfl dc rfl rfl (zaG hq9) rfl dc rfl (zaW rfl zaT (zyR 2 rfl ?_)))))
          refine zyS (s:=51) rfl h (fun h => ?_) (fun h => ?_)
          ·
           refine zyR 2 rfl ?_
           obtain ⟨hg5,h⟩:=zbn h
           refine zaW rfl (zbG (r:=k7 - 1) (IntWalk.i64_in _ hg5)) ?_
           obtain ⟨q7,hq10,h⟩:=zbw h
           refine zar (k:=0) hq10 Tryz.underlying143 zeK rfl dc rfl rfl rfl rfl (zab zfF rfl dc rfl (show _=((k7 - 1:Int).toNat)*5+3 from rfl) (zaH (i:=(k7 - 1:Int).toNat) (j:=3) (k:=0) (q:=q7) zl4 zaV rfl dc rfl rfl (zaG hq10) rfl dc rfl (zyR 3 rfl (zyN ?_))))
           refine zyB rfl h (fun h => ?_) (fun h => ?_)
           ·
            refine zas ?_
            exact zai (q6.Kind,(q6.Kind:Int)==2,false,q6.Joiner,false,q7.Joiner) h rfl (za5 rfl) (zad [0,1] kr rfl)
           refine za6 (zak (zak (zav (zag ?_))))
           exact zai k7 h rfl (za5 rfl) (zad [0,1] kr rfl)
          refine zyR 9 rfl (zyN (zaN rfl (za6 (zak ?_))))
          refine zak (zav (zag ?_))
          exact zai k7 h rfl (za5 rfl) (zad [0,1] kr rfl)
         refine zyR 14 rfl ?_
         refine zyR 3 rfl (zyN (zaN rfl (za6 (zak (zak (zav (zag ?_)))))))
         exact zai k7 h rfl (za5 rfl) (zad [0,1] kr rfl)
        refine zyR 14 rfl ?_
        refine zyR 14 rfl ?_
        refine zyR 6 rfl (zyN (zaN rfl (za6 (zak (zak (zav (zag ?_)))))))
        exact zai k7 h rfl (za5 rfl) (zad [0,1] kr rfl)
       rintro ⟨x7,x8,x9,x10,x11,x12⟩ h
       rw [hj4] at h
       refine zaC (zat (zyR 1 rfl ?_))
       obtain ⟨hg6,h⟩:=zbn h
       refine zaW rfl (zaX (r:=k7+1) (IntWalk.i64_in _ hg6)) (zyR 1 rfl (zaQ (zag ?_)))
       subst hag3
       exact za8 (n3,k7+1) h (Nat.lt_succ_self _) rfl (za5 rfl) (zad [0,1] kr rfl)
     refine zyR 14 rfl ?_
     refine zyR 3 rfl (zyN (zaN rfl (zyG (zyR 1 rfl (zaW rfl zaT (zyR 1 rfl ?_))))))
     refine zyS (s:=95) rfl h (fun h => ?_) (fun h => ?_)
     ·
      refine zyR 8 rfl (zyN (za9 rfl (zas (zag ?_))))
      exact zai (i3+1) h rfl (za5 rfl) (zad [0,1] kr rfl)
     refine zyR 1 rfl (zaW rfl zaT (zyR 2 rfl ?_))
     refine zyS (s:=99) rfl h (fun h => ?_) (fun h => ?_)
     ·
      refine zyR 4 rfl (zyN (za9 rfl (zas (zag ?_))))
      exact zai (i3+1) h rfl (za5 rfl) (zad [0,1] kr rfl)
     refine zyR 1 rfl (zaW rfl zaT (zyR 2 rfl (zyN ?_)))
     refine zyB rfl h (fun h => ?_) (fun h => ?_)
     ·
      refine zas (zag ?_)
      exact zai (i3+1) h rfl (za5 rfl) (zad [0,1] kr rfl)
     refine zaC ?_
     refine zbq (β:=Nat×Int) (fun b=>zaF (fun _=>none) (zcs r1 j2 q1) b.1 b.2=some r) (fun b=>[]) (fun b=>[(0,.string s1),(3,v2),(4,v5),(5,zI i3),(6,zI b.2),(7,zI q1.Kind),(74,undef),(75,undef),(76,undef),(77,undef),(80,undef),(81,undef),(82,undef),(83,undef),(84,undef),(85,undef),(86,undef),(87,undef),(88,undef),(96,zI q1.Kind),(97,.bool ((q1.Kind:Int)==4)),(100,zI q1.Kind),(101,.bool ((q1.Kind:Int)==9))]) (fun b=>[zv9 v2 r1,zv2 v5 out4]) (fun b=>b.1) (zbT,i3+1) h rfl (za5 rfl) (zad [0,1] kr rfl) ?_
     rintro ⟨n4,k10⟩ h
     cases n4 with
     | zero=>exact zdM h
     | succ n4 =>
      obtain ⟨ag4,hag4⟩:∃ ag,ag=zaF (fun _=>none) (zcs r1 j2 q1) n4:=⟨_,rfl⟩
      have h:zcs r1 j2 q1 ag4 k10=some r:=by rw [hag4]; exact h
      unfold zcs at h
      obtain ⟨j5,hj5,h⟩:=zbF h
      refine za1 (β:=Int×Bool×Bool×Bool×Bool×Bool) 0 rfl (fun b=>j5 b.1 b.2.1 b.2.2.1 b.2.2.2.1 b.2.2.2.2.1 b.2.2.2.2.2=some r) (fun b=>[]) (fun b=>[(0,.string s1),(3,v2),(4,v5),(5,zI i3),(6,zI k10),(7,zI q1.Kind),(27,v2),(28,zI k10),(29,.pointer (some ⟨zcN v2,(k10:Int).toNat*5,none⟩)),(30,.pointer (some ⟨zcN v2,((k10:Int).toNat)*5+2,none⟩)),(31,zI b.1),(32,.bool b.2.1),(33,.bool b.2.2.1),(39,.bool b.2.2.2.1),(40,.bool b.2.2.2.2.1),(59,.bool b.2.2.2.2.2),(74,undef),(75,undef),(76,undef),(77,undef),(80,undef),(81,undef),(82,undef),(83,undef),(84,undef),(85,undef),(86,undef),(87,undef),(88,undef),(96,zI q1.Kind),(97,.bool ((q1.Kind:Int)==4)),(100,zI q1.Kind),(101,.bool ((q1.Kind:Int)==9))]) (fun b=>[zv9 v2 r1,zv2 v5 out4]) (fun cut => ?_) ?_
      ·
       refine cut (zyG (zyR 2 rfl (zbl (k:=0) rfl dc rfl rfl Tryz.underlying143 (zaW rfl zbC (zyR 1 rfl ?_)))))
       refine zyS (s:=26) rfl h (fun h => ?_) (fun h => ?_)
       ·
        refine zyR 2 rfl ?_
        obtain ⟨q8,hq11,h⟩:=zbw h
        refine zar (k:=0) hq11 Tryz.underlying143 zeK rfl dc rfl rfl rfl rfl (zab zdR rfl dc rfl (show _=((k10:Int).toNat)*5+2 from rfl) (zaH (i:=(k10:Int).toNat) (j:=2) (k:=0) (q:=q8) zbr zaV rfl dc rfl rfl (zaG hq11) rfl dc rfl (zaW rfl zaT (zyR 1 rfl ?_))))
        refine zyS (s:=33) rfl h (fun h => ?_) (fun h => ?_)
        ·
         refine zyR 14 rfl ?_
         refine zyR 13 rfl (zaQ ?_)
         refine zaI (za9 rfl (zas ?_))
         exact zai (q8.Kind,(q8.Kind:Int)==2,true,true,true,true) h rfl (za5 rfl) (zad [0,1] kr rfl)
        refine zyR 2 rfl (zar (k:=0) hq11 Tryz.underlying143 zeK rfl dc rfl rfl rfl rfl (zab zfF rfl dc rfl (show _=((k10:Int).toNat)*5+3 from rfl) (zaH (i:=(k10:Int).toNat) (j:=3) (k:=0) (q:=q8) zl4 zaV rfl dc rfl rfl (zaG hq11) rfl dc rfl (zyR 2 rfl ?_))))
        refine zyS (s:=40) rfl h (fun h => ?_) (fun h => ?_)
        ·
         refine zyR 14 rfl ?_
         refine zyR 6 rfl (zyN (za9 rfl (zas ?_)))
         exact zai (q8.Kind,(q8.Kind:Int)==2,false,q8.Joiner,true,true) h rfl (za5 rfl) (zad [0,1] kr rfl)
        refine zyR 1 rfl (zaW rfl zaT (zyR 1 rfl ?_))
        refine zyS (s:=43) rfl h (fun h => ?_) (fun h => ?_)
        ·
         refine zyR 2 rfl (zar (k:=0) hq11 Tryz.underlying143 zeK rfl dc rfl rfl rfl rfl (zab zdR rfl dc rfl (show _=((k10:Int).toNat)*5+2 from rfl) (zaH (i:=(k10:Int).toNat) (j:=2) (k:=0) (q:=q8) zbr zaV rfl dc rfl rfl (zaG hq11) rfl dc rfl (zaW rfl zaT (zyR 2 rfl ?_)))))
         refine zyS (s:=51) rfl h (fun h => ?_) (fun h => ?_)
         ·
          refine zyR 2 rfl ?_
          obtain ⟨hg7,h⟩:=zbn h
          refine zaW rfl (zbG (r:=k10 - 1) (IntWalk.i64_in _ hg7)) ?_
          obtain ⟨q9,hq12,h⟩:=zbw h
          refine zar (k:=0) hq12 Tryz.underlying143 zeK rfl dc rfl rfl rfl rfl (zab zfF rfl dc rfl (show _=((k10 - 1:Int).toNat)*5+3 from rfl) (zaH (i:=(k10 - 1:Int).toNat) (j:=3) (k:=0) (q:=q9) zl4 zaV rfl dc rfl rfl (zaG hq12) rfl dc rfl (zyR 3 rfl (zyN ?_))))
          refine zyB rfl h (fun h => ?_) (fun h => ?_)
          ·
           refine zas ?_
           exact zai (q8.Kind,(q8.Kind:Int)==2,false,q8.Joiner,false,q9.Joiner) h rfl (za5 rfl) (zad [0,1] kr rfl)
          refine za6 (zak (zak (zav (zag ?_))))
          exact zai k10 h rfl (za5 rfl) (zad [0,1] kr rfl)
         refine zyR 9 rfl (zyN (zaN rfl (za6 (zak ?_))))
         refine zak (zav (zag ?_))
         exact zai k10 h rfl (za5 rfl) (zad [0,1] kr rfl)
        refine zyR 14 rfl ?_
        refine zyR 3 rfl (zyN (zaN rfl (za6 (zak (zak (zav (zag ?_)))))))
        exact zai k10 h rfl (za5 rfl) (zad [0,1] kr rfl)
       refine zyR 14 rfl ?_
       refine zyR 14 rfl ?_
       refine zyR 6 rfl (zyN (zaN rfl (za6 (zak (zak (zav (zag ?_)))))))
       exact zai k10 h rfl (za5 rfl) (zad [0,1] kr rfl)
      rintro ⟨x13,x14,x15,x16,x17,x18⟩ h
      rw [hj5] at h
      refine zaC (zat (zyR 1 rfl ?_))
      obtain ⟨hg8,h⟩:=zbn h
      refine zaW rfl (zaX (r:=k10+1) (IntWalk.i64_in _ hg8)) (zyR 1 rfl (zaQ (zag ?_)))
      subst hag4
      exact za8 (n4,k10+1) h (Nat.lt_succ_self _) rfl (za5 rfl) (zad [0,1] kr rfl)
    rintro k1 h
    rw [hj2] at h
    obtain ⟨j6,hj6,h⟩:=zbF h
    refine za1 (β:=Int×Int×Int×Int×Nat) 1 rfl (fun b=>j6 b.1 b.2.1 b.2.2.1 b.2.2.2.1=some r) (fun b=>[]) (fun b=>[(0,.string s1),(3,v2),(4,v5),(5,zI b.1),(8,zP b.2.2.2.2)]) (fun b=>[zv9 v2 r1,zv2 v5 out4,cells b.2.2.2.2 [zI b.2.1,zI b.2.2.1,zI b.2.2.2.1] 40]) (fun cut => ?_) ?_
    ·
     refine zaJ ?_
     obtain ⟨q10,hq13,h⟩:=zbw h
     obtain ⟨hg9,h⟩:=zbn h
     obtain ⟨q11,hq14,h⟩:=zbw h
     refine zi4 (β:=Nat) 16 15 _ [(0,103,v2),(1,104,zI i3),(2,105,.pointer (some ⟨zcN v2,(i3:Int).toNat*5,none⟩)),(3,106,.pointer (some ⟨zcN v2,((i3:Int).toNat)*5,none⟩)),(4,107,.pointer (some ⟨zcN v2,((i3:Int).toNat)*5,none⟩)),(5,108,zI q10.Span_From),(6,109,v2),(7,110,zI k1),(8,111,zI (k1 - 1)),(9,112,.pointer (some ⟨zcN v2,(k1 - 1:Int).toNat*5,none⟩)),(10,113,.pointer (some ⟨zcN v2,((k1 - 1:Int).toNat)*5,none⟩)),(11,114,.pointer (some ⟨zcN v2,((k1 - 1:Int).toNat)*5+1,none⟩)),(12,115,zI q11.Span_To),(13,116,.agg #[zI q10.Span_From,zI q11.Span_To]),(14,117,.agg #[zI q10.Span_From,zI q11.Span_To,zI 0])] (fun b2=>[(8,zP b2)]) (fun b2=>[zv9 v2 r1,zv2 v5 out4,cells b2 [zI 0,zI 0,zI 0] 40]) mixed kr kr rfl dc dc (by rfl) kr kr (zyE 2 0 rfl (zaj ?_ (zaj ?_ (zaj ?_ (zaj ?_ (zyE 2 6 rfl (zaj ?_ (zaj ?_ (zaj ?_ (zaj ?_ (zaj ?_ (zaj ?_ (zaj ?_ (zcT DrawPreX.nil)))))))))))))) (fun b2=>(zyE 2 0 rfl (zaj ?_ (zaj ?_ (zaj ?_ (zaj ?_ (zyE 2 6 rfl (zaj ?_ (zaj ?_ (zaj ?_ (zaj ?_ (zaj ?_ (zaj ?_ (zaj ?_ (zcT DrawPreX.nil))))))))))))))) ?_ ?_
     · exact fun D n d c u i=>zar (k:=0) hq13 Tryz.underlying143 zeK rfl dc (zaa (m:=0) u rfl (d 0 dc)) (zaa (m:=1) u rfl (d 1 dc)) rfl rfl (zaf 2 u i rfl)
     · exact fun D n d c u i=>zab zhL rfl dc (zaa (m:=2) u rfl (d 2 dc)) (show _=((i3:Int).toNat)*5 from rfl) (zaf 3 u i rfl)
     · exact fun D n d c u i=>zab zdc rfl dc (zaa (m:=3) u rfl (d 3 dc)) (show _=((i3:Int).toNat)*5 from rfl) (zaf 4 u i rfl)
     · exact fun D n d c u i=>zaH (i:=(i3:Int).toNat) (j:=0) (k:=0) (q:=q10) zbr zaV rfl dc (zaa (m:=4) u rfl (d 4 dc)) rfl (zaG hq13) rfl dc rfl (zaf 5 u i rfl)
     · exact fun D n d c u i=>zb9 rfl dc (zaa (m:=7) u rfl (d 7 dc)) rfl (zbG (r:=k1 - 1) (IntWalk.i64_in _ hg9)) (zaf 8 u i rfl)
     · exact fun D n d c u i=>zar (k:=0) hq14 Tryz.underlying143 zeK rfl dc (zaa (m:=6) u rfl (d 6 dc)) (zaa (m:=8) u rfl (d 8 dc)) rfl rfl (zaf 9 u i rfl)
     · exact fun D n d c u i=>zab zhL rfl dc (zaa (m:=9) u rfl (d 9 dc)) (show _=((k1 - 1:Int).toNat)*5 from rfl) (zaf 10 u i rfl)
     · exact fun D n d c u i=>zab zdY rfl dc (zaa (m:=10) u rfl (d 10 dc)) (show _=((k1 - 1:Int).toNat)*5+1 from rfl) (zaf 11 u i rfl)
     · exact fun D n d c u i=>zaH (i:=(k1 - 1:Int).toNat) (j:=1) (k:=0) (q:=q11) zbr zaV rfl dc (zaa (m:=11) u rfl (d 11 dc)) rfl (zaG hq14) rfl dc rfl (zaf 12 u i rfl)
     · exact fun D n d c u i=>za7 (v:=.agg #[zI q10.Span_From,zI q11.Span_To]) (ps:=[(0,.tmp 108),(1,.tmp 115)]) rfl dc (evP.cons (zaa (m:=5) u rfl (d 5 dc)) (evP.cons (zaa (m:=12) u rfl (d 12 dc)) evP.nil)) (fun _=>by kernel_rfl) (zaf 13 u i rfl)
     · exact fun D n d c u i=>za7 (v:=.agg #[zI q10.Span_From,zI q11.Span_To,zI 0]) (ps:=[(0,.tmp 116)]) rfl dc (evP.cons (zaa (m:=13) u rfl (d 13 dc)) evP.nil) (fun _=>by kernel_rfl) (zaf 14 u i rfl)
     · exact fun D n d c u i=>zar (k:=0) hq13 Tryz.underlying143 zeK rfl dc (zaa (m:=0) u rfl (d 0 dc)) (zaa (m:=1) u rfl (d 1 dc)) rfl rfl (zaf 2 u i rfl)
     · exact fun D n d c u i=>zab zhL rfl dc (zaa (m:=2) u rfl (d 2 dc)) (show _=((i3:Int).toNat)*5 from rfl) (zaf 3 u i rfl)
     · exact fun D n d c u i=>zab zdc rfl dc (zaa (m:=3) u rfl (d 3 dc)) (show _=((i3:Int).toNat)*5 from rfl) (zaf 4 u i rfl)
     · exact fun D n d c u i=>zaH (i:=(i3:Int).toNat) (j:=0) (k:=0) (q:=q10) zbr zaV rfl dc (zaa (m:=4) u rfl (d 4 dc)) rfl (zaG hq13) rfl dc rfl (zaf 5 u i rfl)
     · exact fun D n d c u i=>zb9 rfl dc (zaa (m:=7) u rfl (d 7 dc)) rfl (zbG (r:=k1 - 1) (IntWalk.i64_in _ hg9)) (zaf 8 u i rfl)
     · exact fun D n d c u i=>zar (k:=0) hq14 Tryz.underlying143 zeK rfl dc (zaa (m:=6) u rfl (d 6 dc)) (zaa (m:=8) u rfl (d 8 dc)) rfl rfl (zaf 9 u i rfl)
     · exact fun D n d c u i=>zab zhL rfl dc (zaa (m:=9) u rfl (d 9 dc)) (show _=((k1 - 1:Int).toNat)*5 from rfl) (zaf 10 u i rfl)
     · exact fun D n d c u i=>zab zdY rfl dc (zaa (m:=10) u rfl (d 10 dc)) (show _=((k1 - 1:Int).toNat)*5+1 from rfl) (zaf 11 u i rfl)
     · exact fun D n d c u i=>zaH (i:=(k1 - 1:Int).toNat) (j:=1) (k:=0) (q:=q11) zbr zaV rfl dc (zaa (m:=11) u rfl (d 11 dc)) rfl (zaG hq14) rfl dc rfl (zaf 12 u i rfl)
     · exact fun D n d c u i=>za7 (v:=.agg #[zI q10.Span_From,zI q11.Span_To]) (ps:=[(0,.tmp 108),(1,.tmp 115)]) rfl dc (evP.cons (zaa (m:=5) u rfl (d 5 dc)) (evP.cons (zaa (m:=12) u rfl (d 12 dc)) evP.nil)) (fun _=>by kernel_rfl) (zaf 13 u i rfl)
     · exact fun D n d c u i=>za7 (v:=.agg #[zI q10.Span_From,zI q11.Span_To,zI 0]) (ps:=[(0,.tmp 116)]) rfl dc (evP.cons (zaa (m:=13) u rfl (d 13 dc)) evP.nil) (fun _=>by kernel_rfl) (zaf 14 u i rfl)
     ·
      intro D hn hd hcl
      refine zbc zsA rfl dc (fun b2 => ?_)
      exact fun a w ha hw=>⟨b2,znm (by rfl) _ _ _ ha,hw⟩
     intro b2
     refine za0 (k:=2) (vs:=[zI q10.Span_From,zI q11.Span_To,zI 0]) (l':=[zI q10.Span_From,zI q11.Span_To,zI 0]) zmB rfl rfl rfl rfl rfl (show _≤_ by simp) rfl rfl (zyN (cut (zaC ?_)))
     refine zbq (β:=Nat×Int×Int) (fun b=>zaF (fun _ _=>none) (zcr r1 k1 j6 q10 q11) b.1 b.2.1 b.2.2=some r) (fun b=>[]) (fun b=>[(0,.string s1),(3,v2),(4,v5),(5,zI b.2.1),(6,zI k1),(8,zP b2)]) (fun b=>[zv9 v2 r1,zv2 v5 out4,cells b2 [zI q10.Span_From,zI q11.Span_To,zI b.2.2] 40]) (fun b=>b.1) (zbT,i3,0) h rfl (za5 rfl) (zad [0,1,2] kr rfl) ?_
     rintro ⟨n5,i7,c8⟩ h
     cases n5 with
     | zero=>exact zdM h
     | succ n5 =>
      obtain ⟨ag5,hag5⟩:∃ ag,ag=zaF (fun _ _=>none) (zcr r1 k1 j6 q10 q11) n5:=⟨_,rfl⟩
      have h:zcr r1 k1 j6 q10 q11 ag5 i7 c8=some r:=by rw [hag5]; exact h
      unfold zcr at h
      refine zaJ (zyG (zyR 2 rfl (zaW rfl zbC (zyN ?_))))
      refine zyB rfl h (fun h => ?_) (fun h => ?_)
      ·
       refine zas (zaI (zaC (zaJ ?_)))
       obtain ⟨q12,hq15,h⟩:=zbw h
       refine zbK 7 [(0,121,.pointer (some ⟨b2,2,none⟩)),(1,122,zI c8),(2,123,v2),(3,124,zI i7),(4,125,.pointer (some ⟨zcN v2,(i7:Int).toNat*5,none⟩)),(5,126,.pointer (some ⟨zcN v2,((i7:Int).toNat)*5+4,none⟩)),(6,127,zI q12.Columns)] mixed kr kr dc (by rfl) kr kr (zae ?_ (zae ?_ (zyP 2 2 rfl (zae ?_ (zae ?_ (zae ?_ DrawPre.nil)))))) ?_
       · exact fun D n d c u i=>zab zgU rfl dc (za4 (by rfl) rfl) (show _=2 from rfl) (zaf 0 u i rfl)
       · exact fun D n d c u i=>zam (k:=2) zbr rfl dc (zaa (m:=0) u rfl (d 0 dc)) rfl rfl (zaf 1 u i rfl)
       · exact fun D n d c u i=>zar (k:=0) hq15 Tryz.underlying143 zeK rfl dc (zaa (m:=2) u rfl (d 2 dc)) (zaa (m:=3) u rfl (d 3 dc)) rfl rfl (zaf 4 u i rfl)
       · exact fun D n d c u i=>zab zfj rfl dc (zaa (m:=4) u rfl (d 4 dc)) (show _=((i7:Int).toNat)*5+4 from rfl) (zaf 5 u i rfl)
       · exact fun D n d c u i=>zaH (i:=(i7:Int).toNat) (j:=4) (k:=0) (q:=q12) zbr zaV rfl dc (zaa (m:=5) u rfl (d 5 dc)) rfl (zaG hq15) rfl dc rfl (zaf 6 u i rfl)
       refine zjB rfl dc rfl rfl (zab zgU rfl dc rfl (show _=2 from rfl) ?_)
       refine zaM (k:=2) (l':=[zI q10.Span_From,zI q11.Span_To,zI (max c8 q12.Columns)]) zeA rfl rfl rfl rfl rfl (fun _ _=>rfl) rfl ?_
       refine zyN (zat (zyR 1 rfl ?_))
       obtain ⟨hg10,h⟩:=zbn h
       refine zaW rfl (zaX (r:=i7+1) (IntWalk.i64_in _ hg10)) (zyR 1 rfl (zaQ (zag ?_)))
       subst hag5
       exact za8 (n5,i7+1,max c8 q12.Columns) h (Nat.lt_succ_self _) rfl (za5 rfl) (zad [0,1,2] kr rfl)
      refine za6 (zak (zak (zav ?_)))
      exact zai (i7,q10.Span_From,q11.Span_To,c8,b2) h rfl (za5 rfl) (zad [0,1,2] kr rfl)
    rintro ⟨i4,c3,c4,c5,b1⟩ h
    rw [hj6] at h
    refine zat (zyR 1 rfl (zbb (k:=2) (cs:=[zI c3,zI c4,zI c5]) zjU rfl dc rfl rfl rfl rfl ?_))
    refine zaR (cs:=[zI c3,zI c4,zI c5]) (te:=40) (ps:=[(0,.tmp 133)]) rfl dc rfl (fun _=>by kernel_rfl) (fun b3 => ?_)
    obtain ⟨hg11,h⟩:=zbn h
    refine za3 (k:=1) (k2:=3) (ys:=[(⟨c3,c4,c5⟩:Gapi_Cell)]) Tryz.underlying94 zwG zcM zgI rfl dc rfl rfl rfl rfl rfl rfl hg11 (fun v6 => ?_)
    refine zyR 1 rfl (zaQ (zag ?_))
    subst hag1
    exact za8 (n1,out4++[(⟨c3,c4,c5⟩:Gapi_Cell)],i4,v6) h (Nat.lt_succ_self _) rfl (za5 rfl) (zad [0,1] kr rfl)
   refine za6 (zak (zak (zav ?_)))
   exact zai (out4,v5) h rfl (za5 rfl) (zad [1] kr rfl)
 rintro ⟨out1,v1⟩ h
 rw [hj1] at h
 refine zyG (zyR 2 rfl (zyN (zaE ?_)))
 cases h
 exact zaS (rs:=[.tmp 2]) v1 (.inl rfl) Tryz.results40 (.cons (.tmp rfl) .nil) rfl (zad [0] kr rfl)
end Go.Proofs.YtbempdelckaccaaGreatDoor

namespace Go.Proofs.YtbempdelckaccaaGreatDoor
open Go.RowKit Go.Lib
set_option linter.unusedVariables false
set_option linter.unusedSimpArgs false
def zfq (l1:Gapi_Layout):Option Bool :=
zaw (decide ((8:Int)≤l1.Width)) (
zaw (decide ((l1.Width:Int)≤256)) (
zaw (decide ((4:Int)≤l1.Height)) (
zaw (decide ((l1.Height:Int)≤200)) (
zaw (decide ((0:Int)≤l1.Turn)) (
zaw (decide ((l1.Turn:Int)≤7)) (
zaw (decide ((0:Int)≤l1.Every)) (
some (decide ((l1.Every:Int)≤512))
) (
some false
)
) (
some false
)
) (
some false
)
) (
some false
)
) (
some false
)
) (
some false
)
) (
some false
)
theorem znJ {l1:Gapi_Layout} {r:Bool} (h:zfq l1=some r):FnP Tryz.prog 31 [.agg (zr0 l1).toArray] (.bool r):=by
 unfold zfq at h
 refine FnP.intro Tryz.func31 rfl Tryz.ntmps31 (by simp) ?_
 intro w0 K
 refine zyG ?_
 refine zdQ rfl dc rfl (fun b1 => ?_)
 refine zyR 1 rfl (zyH (zab zhw rfl dc rfl (show _=0 from rfl) (zam (k:=0) zbr rfl dc rfl rfl rfl (zaW rfl zeq (zyR 1 rfl ?_)))))
 refine zyS (s:=6) rfl h (fun h => ?_) (fun h => ?_)
 ·
  refine zab zhw rfl dc rfl (show _=0 from rfl) (zam (k:=0) zbr rfl dc rfl rfl rfl (zaW rfl zdO (zyR 2 rfl ?_)))
  refine zyS (s:=11) rfl h (fun h => ?_) (fun h => ?_)
  ·
   refine zab zk7 rfl dc rfl (show _=1 from rfl) (zam (k:=0) zbr rfl dc rfl rfl rfl (zaW rfl zeq (zyR 2 rfl ?_)))
   refine zyS (s:=16) rfl h (fun h => ?_) (fun h => ?_)
   ·
    refine zab zk7 rfl dc rfl (show _=1 from rfl) (zam (k:=0) zbr rfl dc rfl rfl rfl (zaW rfl zdO (zyR 2 rfl ?_)))
    refine zyS (s:=21) rfl h (fun h => ?_) (fun h => ?_)
    ·
     refine zab zjo rfl dc rfl (show _=2 from rfl) (zam (k:=0) zbr rfl dc rfl rfl rfl (zaW rfl zeq (zyR 2 rfl ?_)))
     refine zyS (s:=26) rfl h (fun h => ?_) (fun h => ?_)
     ·
      refine zab zjo rfl dc rfl (show _=2 from rfl) (zam (k:=0) zbr rfl dc rfl rfl rfl (zaW rfl zdO (zyR 2 rfl ?_)))
      refine zyS (s:=31) rfl h (fun h => ?_) (fun h => ?_)
      ·
       refine zab zjn rfl dc rfl (show _=3 from rfl) (zam (k:=0) zbr rfl dc rfl rfl rfl (zaW rfl zeq (zyR 2 rfl ?_)))
       refine zyS (s:=36) rfl h (fun h => ?_) (fun h => ?_)
       ·
        refine zab zjn rfl dc rfl (show _=3 from rfl) (zam (k:=0) zbr rfl dc rfl rfl rfl (zaW rfl zdO (zyR 2 rfl (zyN (zaE ?_)))))
        cases h
        exact zaS (rs:=[.tmp 2]) () (.inl rfl) Tryz.results31 (.cons (.tmp rfl) .nil) rfl Splits.nil
       refine zyR 5 rfl (zyN (zaE ?_))
       cases h
       exact zaS (rs:=[.tmp 2]) () (.inl rfl) Tryz.results31 (.cons (.tmp rfl) .nil) rfl Splits.nil
      refine zyR 10 rfl (zyN (zaE ?_))
      cases h
      exact zaS (rs:=[.tmp 2]) () (.inl rfl) Tryz.results31 (.cons (.tmp rfl) .nil) rfl Splits.nil
     refine zyR 14 rfl ?_
     refine zyR 1 rfl (zyN (zaE ?_))
     cases h
     exact zaS (rs:=[.tmp 2]) () (.inl rfl) Tryz.results31 (.cons (.tmp rfl) .nil) rfl Splits.nil
    refine zyR 14 rfl ?_
    refine zyR 6 rfl (zyN (zaE ?_))
    cases h
    exact zaS (rs:=[.tmp 2]) () (.inl rfl) Tryz.results31 (.cons (.tmp rfl) .nil) rfl Splits.nil
   refine zyR 14 rfl ?_
   refine zyR 11 rfl (zyN (zaE ?_))
   cases h
   exact zaS (rs:=[.tmp 2]) () (.inl rfl) Tryz.results31 (.cons (.tmp rfl) .nil) rfl Splits.nil
  refine zyR 14 rfl ?_
  refine zyR 14 rfl ?_
  refine zyR 2 rfl (zyN (zaE ?_))
  cases h
  exact zaS (rs:=[.tmp 2]) () (.inl rfl) Tryz.results31 (.cons (.tmp rfl) .nil) rfl Splits.nil
 refine zyR 14 rfl ?_
 refine zyR 14 rfl ?_
 refine zyR 7 rfl (zyN (zaE ?_))
 cases h
 exact zaS (rs:=[.tmp 2]) () (.inl rfl) Tryz.results31 (.cons (.tmp rfl) .nil) rfl Splits.nil
def zfd (s1:ByteArray) (c1:Gapi_Cell):Option Bool :=
grd (I64 (c1.Span_To - c1.Span_From)) <|
zaw (((c1.Span_To - c1.Span_From):Int)==1) (
zal (zin s1 c1.Span_From) fun (c2:Int) =>
some ((c2:Int)==32)
) (
some false
)
theorem zlH {s1:ByteArray} {c1:Gapi_Cell} {r:Bool} (h:zfd s1 c1=some r):FnP Tryz.prog 73 [.string s1,.agg (zr1 c1).toArray] (.bool r):=by
 unfold zfd at h
 refine FnP.intro Tryz.func73 rfl Tryz.ntmps73 (by simp) ?_
 intro w0 K
 refine zyG ?_
 refine zdQ rfl dc rfl (fun b1 => ?_)
 refine zyR 1 rfl (zyH (zab zfP rfl dc rfl (show _=0 from rfl) (zab zdY rfl dc rfl (show _=1 from rfl) (zam (k:=0) zbr rfl dc rfl rfl rfl (zab zfP rfl dc rfl (show _=0 from rfl) (zab zdc rfl dc rfl (show _=0 from rfl) (zam (k:=0) zbr rfl dc rfl rfl rfl ?_)))))))
 obtain ⟨hg1,h⟩:=zbn h
 refine zaW rfl (zbG (r:=c1.Span_To - c1.Span_From) (IntWalk.i64_in _ hg1)) (zaW rfl zaT (zyR 1 rfl ?_))
 refine zyS (s:=13) rfl h (fun h => ?_) (fun h => ?_)
 ·
  refine zyR 1 rfl (zab zfP rfl dc rfl (show _=0 from rfl) (zab zdc rfl dc rfl (show _=0 from rfl) (zam (k:=0) zbr rfl dc rfl rfl rfl ?_)))
  obtain ⟨c2,hq1,h⟩:=zbw h
  refine zcG rfl dc rfl rfl (zbh Tryz.underlying9 hq1) (zaW rfl zaT (zyR 2 rfl (zyN (zaE ?_))))
  cases h
  exact zaS (rs:=[.tmp 4]) () (.inl rfl) Tryz.results73 (.cons (.tmp rfl) .nil) rfl Splits.nil
 refine zyR 8 rfl (zyN (zaE ?_))
 cases h
 exact zaS (rs:=[.tmp 4]) () (.inl rfl) Tryz.results73 (.cons (.tmp rfl) .nil) rfl Splits.nil
def zch (s1:ByteArray) (l1:List Gapi_Cell) (j1:Int→Option Int) (ag1:Int→Option Int) (n4:Int):Option Int :=
zaw (decide ((0:Int)<n4)) (
grd (I64 (n4 - 1)) <|
zal (zcb l1 (n4 - 1)) fun (q1:Gapi_Cell) =>
zal (zfd s1 q1) fun (r1:Bool) =>
zaw (r1) (
grd (I64 (n4 - 1)) <|
ag1 (n4 - 1)
) (
j1 n4
)
) (
j1 n4
)
def zcg (l1:List Gapi_Cell) (n1:Int) (j2:Int→Option Int) (ag2:Int→Int→Option Int) (sum4:Int) (i3:Int):Option Int :=
zaw (decide ((i3:Int)<n1)) (
zal (zcb l1 i3) fun (q2:Gapi_Cell) =>
grd (I64 (sum4+q2.Columns)) <|
grd (I64 (i3+1)) <|
ag2 (sum4+q2.Columns) (i3+1)
) (
j2 sum4
)
def zdT (s1:ByteArray) (l1:List Gapi_Cell):Option Int :=
zbi (fun (j1:Int→Option Int) =>
zaF (fun _=>none) (zch s1 l1 j1) zbT (l1.length:Int)
) (fun (n1:Int) =>
zbi (fun (j2:Int→Option Int) =>
zaF (fun _ _=>none) (zcg l1 n1 j2) zbT 0 0
) (fun (sum1:Int) =>
some sum1
)
)
theorem zjW {s1:ByteArray} {vvl1 vl1:Value} {Ll1:List Gapi_Cell} {kl1:Nat} {l1:List Gapi_Cell} (hwl1:Vw vvl1 Ll1 3 kl1 vl1 l1) {r:Int} (h:zdT s1 l1=some r):Fn Tryz.prog 39 [.string s1,vl1] [zv2 vvl1 Ll1] (fun _b:Unit=>zI r) (fun _b=>[zv2 vvl1 Ll1]):=by
 unfold zdT at h
 refine Fn.intro Tryz.func39 rfl Tryz.ntmps39 (by simp) ?_
 intro w0 K
 obtain ⟨j1,hj1,h⟩:=zbF h
 refine za1 (β:=Int) 2 rfl (fun b=>j1 b=some r) (fun b=>[]) (fun b=>[(1,vl1),(5,zI b)]) (fun b=>[zv2 vvl1 Ll1]) (fun cut => ?_) ?_
 ·
  refine zyG (zyR 1 rfl (zyH (zyR 1 rfl (zgr hwl1 rfl dc rfl Tryz.underlying94 (zyR 1 rfl (zyN (cut (zaC ?_))))))))
  refine zbq (β:=Nat×Int) (fun b=>zaF (fun _=>none) (zch s1 l1 j1) b.1 b.2=some r) (fun b=>[]) (fun b=>[(0,.string s1),(1,vl1),(5,zI b.2)]) (fun b=>[zv2 vvl1 Ll1]) (fun b=>b.1) (zbT,(l1.length:Int)) h rfl (za5 rfl) (zad [0] kr rfl) ?_
  rintro ⟨n5,n4⟩ h
  cases n5 with
  | zero=>exact zdM h
  | succ n5 =>
   obtain ⟨ag1,hag1⟩:∃ ag,ag=zaF (fun _=>none) (zch s1 l1 j1) n5:=⟨_,rfl⟩
   have h:zch s1 l1 j1 ag1 n4=some r:=by rw [hag1]; exact h
   unfold zch at h
   refine zaJ (zyG (zyR 1 rfl (zaW rfl zcK (zyR 1 rfl ?_))))
   refine zyS (s:=12) rfl h (fun h => ?_) (fun h => ?_)
   ·
    refine zyR 3 rfl ?_
    obtain ⟨hg1,h⟩:=zbn h
    refine zaW rfl (zbG (r:=n4 - 1) (IntWalk.i64_in _ hg1)) ?_
    obtain ⟨q1,hq1,h⟩:=zbw h
    refine zbL hwl1 hq1 Tryz.underlying94 zmB rfl dc rfl rfl rfl (zdP (i:=kl1+(n4 - 1:Int).toNat) (j:=0) (k:=0) (q:=q1) (cs:=(zr1 q1)) zjU zcM rfl dc rfl rfl (Vw.get hwl1 hq1) rfl rfl rfl ?_)
    obtain ⟨r1,hq2,h⟩:=zbw h
    refine zbe (v:=.bool r1) (vs:=[.string s1,.agg (zr1 q1).toArray]) rfl dc rfl rfl rfl zxE (zlH (c1:=q1) hq2) (zyR 1 rfl (zyN ?_))
    refine zyB rfl h (fun h => ?_) (fun h => ?_)
    ·
     refine zas (zaI (zaC (zat (zyR 1 rfl ?_))))
     obtain ⟨hg2,h⟩:=zbn h
     refine zaW rfl (zbG (r:=n4 - 1) (IntWalk.i64_in _ hg2)) (zyR 1 rfl (zaQ (zag ?_)))
     subst hag1
     exact za8 (n5,n4 - 1) h (Nat.lt_succ_self _) rfl (za5 rfl) (zad [0] kr rfl)
    refine za6 (zak (zak (zav ?_)))
    exact zai n4 h rfl (za5 rfl) (zad [0] kr rfl)
   refine zyR 8 rfl (zyN (zaN rfl (za6 (zak (zak ?_)))))
   refine zav ?_
   exact zai n4 h rfl (za5 rfl) (zad [0] kr rfl)
 rintro n1 h
 rw [hj1] at h
 obtain ⟨j2,hj2,h⟩:=zbF h
 refine za1 (β:=Int) 1 rfl (fun b=>j2 b=some r) (fun b=>[]) (fun b=>[(6,zI b)]) (fun b=>[zv2 vvl1 Ll1]) (fun cut => ?_) ?_
 ·
  refine zyG (zyR 1 rfl (zyN (cut (zyG (zyR 1 rfl (zyN (zaC ?_)))))))
  refine zbq (β:=Nat×Int×Int) (fun b=>zaF (fun _ _=>none) (zcg l1 n1 j2) b.1 b.2.1 b.2.2=some r) (fun b=>[]) (fun b=>[(1,vl1),(5,zI n1),(6,zI b.2.1),(7,zI b.2.2)]) (fun b=>[zv2 vvl1 Ll1]) (fun b=>b.1) (zbT,0,0) h rfl (za5 rfl) (zad [0] kr rfl) ?_
  rintro ⟨n6,sum4,i3⟩ h
  cases n6 with
  | zero=>exact zdM h
  | succ n6 =>
   obtain ⟨ag2,hag2⟩:∃ ag,ag=zaF (fun _ _=>none) (zcg l1 n1 j2) n6:=⟨_,rfl⟩
   have h:zcg l1 n1 j2 ag2 sum4 i3=some r:=by rw [hag2]; exact h
   unfold zcg at h
   refine zaJ (zyG (zyR 2 rfl (zaW rfl zbC (zyN ?_))))
   refine zyB rfl h (fun h => ?_) (fun h => ?_)
   ·
    refine zas (zaI (zaJ (zaC (zat (zyR 3 rfl ?_)))))
    obtain ⟨q2,hq3,h⟩:=zbw h
    refine zbL hwl1 hq3 Tryz.underlying94 zmB rfl dc rfl rfl rfl (zab zgU rfl dc rfl (show _=(kl1+(i3:Int).toNat)*3+2 from rfl) (zaH (i:=kl1+(i3:Int).toNat) (j:=2) (k:=0) (q:=q2) zbr zcM rfl dc rfl rfl (Vw.get hwl1 hq3) rfl dc rfl ?_))
    obtain ⟨hg3,h⟩:=zbn h
    refine zaW rfl (zaX (r:=sum4+q2.Columns) (IntWalk.i64_in _ hg3)) (zyR 1 rfl (zaQ (zag (zaI (zat (zyR 1 rfl ?_))))))
    obtain ⟨hg4,h⟩:=zbn h
    refine zaW rfl (zaX (r:=i3+1) (IntWalk.i64_in _ hg4)) (zyR 1 rfl (zaQ ?_))
    subst hag2
    exact za8 (n6,sum4+q2.Columns,i3+1) h (Nat.lt_succ_self _) rfl (za5 rfl) (zad [0] kr rfl)
   refine za6 (zak (zak (zav ?_)))
   exact zai sum4 h rfl (za5 rfl) (zad [0] kr rfl)
 rintro sum1 h
 rw [hj2] at h
 refine zyG (zyR 2 rfl (zyN (zaE ?_)))
 cases h
 exact zaS (rs:=[.tmp 4]) () (.inl rfl) Tryz.results39 (.cons (.tmp rfl) .nil) rfl (zad [0] kr rfl)
end Go.Proofs.YtbempdelckaccaaGreatDoor

namespace Go.Proofs.YtbempdelckaccaaGreatDoor
open Go.RowKit Go.Lib
set_option linter.unusedVariables false
set_option linter.unusedSimpArgs false
def zgi  : Option Bool :=
zal (zib (⟨#[111,110,101,32,116,119,111,32,116,104,114,101,101]⟩:ByteArray) 0 (⟨8,4,2,0⟩:Gapi_Layout)) fun (r1:((List ByteArray)×Int×Int)) =>
zaw (((r1.1.length:Int):Int)==2) (
zal (zcb r1.1 0) fun (q1:ByteArray) =>
zaw (decide (q1=(⟨#[111,110,101,32,116,119,111,32]⟩:ByteArray))) (
zaw ((r1.2.1:Int)==1) (
some ((r1.2.2:Int)==0)
) (
some false
)
) (
some false
)
) (
some false
)
theorem zmY  {r:Bool} (h:zgi=some r):FnP Tryz.prog 8 [] (.bool r):=by
 unfold zgi at h
 refine FnP.intro Tryz.func8 rfl Tryz.ntmps8 (by simp) ?_
 intro w0 K
 refine zyG (zyR 1 rfl (zyH ?_))
 refine za7 (v:=.agg #[zI 8,zI 4,zI 2,zI 0]) (ps:=[(0,.const (zI 8)),(1,.const (zI 4)),(2,.const (zI 2))]) rfl dc rfl (fun _=>by kernel_rfl) ?_
 obtain ⟨r1,hq1,h⟩:=zbw h
 refine zdu (vs:=[.string (⟨#[111,110,101,32,116,119,111,32,116,104,114,101,101]⟩:ByteArray),zI 0,.agg #[zI 8,zI 4,zI 2,zI 0]]) rfl dc rfl rfl rfl zx4 (znP (l1:=(⟨8,4,2,0⟩:Gapi_Layout)) hq1) Splits.nil ?_
 rintro v1
 refine zyR 1 rfl (zaY rfl dc rfl rfl (zaY rfl dc rfl rfl (zaY rfl dc rfl rfl (zyR 3 rfl (zyH (zyR 1 rfl (zbl (k:=0) rfl dc rfl rfl Tryz.underlying70 (zaW rfl zaT ?_))))))))
 refine zyR 1 rfl ?_
 refine zyS (s:=13) rfl h (fun h => ?_) (fun h => ?_)
 ·
  refine zyR 1 rfl ?_
  obtain ⟨q1,hq2,h⟩:=zbw h
  refine zar (k:=0) hq2 Tryz.underlying70 zwX rfl dc rfl rfl rfl rfl (zaH (i:=(0:Int).toNat) (j:=0) (k:=0) (q:=q1) zou zkh rfl dc rfl rfl (zaG hq2) rfl dc rfl (zaW rfl zgZ (zyR 2 rfl ?_)))
  refine zyS (s:=19) rfl h (fun h => ?_) (fun h => ?_)
  ·
   refine zyR 1 rfl (zaW rfl zaT (zyR 2 rfl ?_))
   refine zyS (s:=23) rfl h (fun h => ?_) (fun h => ?_)
   ·
    refine zyR 1 rfl (zaW rfl zaT (zyR 2 rfl (zyN (zaE ?_))))
    cases h
    exact zaS (rs:=[.tmp 0]) () (.inl rfl) Tryz.results8 (.cons (.tmp rfl) .nil) rfl Splits.nil
   refine zyR 4 rfl (zyN (zaE ?_))
   cases h
   exact zaS (rs:=[.tmp 0]) () (.inl rfl) Tryz.results8 (.cons (.tmp rfl) .nil) rfl Splits.nil
  refine zyR 8 rfl (zyN (zaE ?_))
  cases h
  exact zaS (rs:=[.tmp 0]) () (.inl rfl) Tryz.results8 (.cons (.tmp rfl) .nil) rfl Splits.nil
 refine zyR 14 rfl ?_
 refine zyN (zaE ?_)
 cases h
 exact zaS (rs:=[.tmp 0]) () (.inl rfl) Tryz.results8 (.cons (.tmp rfl) .nil) rfl Splits.nil
end Go.Proofs.YtbempdelckaccaaGreatDoor

namespace Go.Proofs.YtbempdelckaccaaGreatDoor
open Go.RowKit Go.Lib
set_option linter.unusedVariables false
set_option linter.unusedSimpArgs false
def zj9 (l:Gapi_Layout):Bool:=decide ((8:Int)≤l.Width)&&(decide ((l.Width:Int)≤256)&&(decide ((4:Int)≤l.Height)&&(decide ((l.Height:Int)≤200)&&(decide ((0:Int)≤l.Turn)&&(decide ((l.Turn:Int)≤7)&&(decide ((0:Int)≤l.Every)&&decide ((l.Every:Int)≤512)))))))
theorem zi1 (c d:Bool) (r:Option Bool) (h:r=some d):zaw c r (some false)=some (c&&d):=by
 cases c
 ·rfl
 ·exact h
theorem zxs (l:Gapi_Layout):zfZ l=some (zj9 l):=by
 unfold zfZ zj9
 exact zi1 _ _ _ (zi1 _ _ _ (zi1 _ _ _ (zi1 _ _ _ (zi1 _ _ _ (zi1 _ _ _ (zi1 _ _ _ rfl))))))
theorem ztH (l:Gapi_Layout):zfq l=some (zj9 l):=by
 unfold zfq zj9
 exact zi1 _ _ _ (zi1 _ _ _ (zi1 _ _ _ (zi1 _ _ _ (zi1 _ _ _ (zi1 _ _ _ (zi1 _ _ _ rfl))))))
theorem zmX {l:Gapi_Layout} (h:zj9 l=true):(8≤l.Width∧l.Width≤256)∧0≤l.Turn∧l.Turn≤7:=by
 unfold zj9 at h
 simp only [Bool.and_eq_true,decide_eq_true_eq] at h
 omega
abbrev zrB (i:Int) (l:Gapi_Layout):Int:=max 1 (l.Width - i)
abbrev zro (l:Gapi_Layout):Int:=l.Width - l.Turn
theorem zqK {i:Int} {l:Gapi_Layout} (hm:zj9 l=true) (hi:0≤i∧i≤1024):I64 (l.Width - i)∧(0≤zrB i l∧zrB i l≤1000000)∧(0≤zro l∧zro l≤1000000):=by
 have:=zmX hm
 refine ⟨⟨by omega,by omega⟩,?_,?_⟩
 ·show 0≤max 1 (l.Width - i)∧max 1 (l.Width - i)≤1000000
  omega
 ·show 0≤l.Width - l.Turn∧l.Width - l.Turn≤1000000
  omega
abbrev zyI (s:ByteArray) (i:Int) (l:Gapi_Layout):List ByteArray:=zhi s 0 (zlR s (zrB i l) (zro l))
theorem zwe:zgi=some true:=by decide +kernel
end Go.Proofs.YtbempdelckaccaaGreatDoor

namespace Go.Proofs.YtbempdelckaccaaGreatDoor
open Go.RowKit Go.Lib
set_option linter.unusedVariables false
set_option linter.unusedSimpArgs false
def p2 (p:Pc):Gref02_Piece:=⟨p.i,p.w,p.r⟩
def p2z (p:Pc):Gref02_Piece:=⟨p.i,0,p.r⟩
theorem zpo (l:List UInt8) (P:List Pc) (x:Pc) (B:List Pc) (h:pcs l=P++x::B):(B=[]→x.i+x.w=l.length)∧∀ y B',B=y::B'→y.i=x.i+x.w:=by
 obtain ⟨h1,h2,h3,h4⟩:=ziA l P x B h
 constructor
 ·intro e
  rw [e] at h4
  by_cases hl:l.drop (x.i+x.w)=[]
  ·have:=congrArg List.length hl
   rw [List.length_drop] at this
   simp at this; omega
  ·rw [zcw _ _ hl] at h4; cases h4
 ·intro y B' e
  rw [e] at h4
  by_cases hl:l.drop (x.i+x.w)=[]
  ·rw [hl,zc6] at h4; cases h4
  ·rw [zcw _ _ hl] at h4
   have:=(List.cons.inj h4).1
   rw [this]
theorem zpi {α:Type} (A:List α) (x y:α):(A++[x]).set (((A++[x]).length:Int) - 1:Int).toNat y=A++[y]:=by
 rw [show (((A++[x]).length:Int) - 1:Int).toNat=A.length by rw [List.length_append]; simp,List.set_append_right _ _ (Nat.le_refl _),Nat.sub_self]; rfl
theorem zpx {α:Type} (A:List α) (x:α):zcb (A++[x]) (((A++[x]).length:Int) - 1)=some x :=
 zew (n:=A.length) (by rw [List.length_append]; simp) (by simp)
theorem zvW (s:ByteArray) (hs:s.size≤2147483647) (j:List Gref02_Piece→Option (List Gref02_Piece)) (hj:∀ Q q,pcs s.data.toList=Q++[q]→j (Q.map p2++[p2z q])=some ((pcs s.data.toList).map p2)) :
  ∀ (ts Q:List Pc) (q:Pc) (m:Nat),pcs s.data.toList=Q++q::ts→ts.length<m→zaF (fun _ _=>none) (zbD s j) m (Q.map p2++[p2z q]) (Q.length+1)=some ((pcs s.data.toList).map p2)
 | [],Q,q,m,h,hm=>by
  obtain ⟨m,rfl⟩:∃ k,m=k+1:=⟨m - 1,by simp at hm; omega⟩
  rw [zcJ]
  generalize zaF (fun _ _=>none) (zbD s j) m=ag
  unfold zbD
  exact zaz (decide_eq_false (by rw [h]; simp)) (hj Q q h)
 | t::ts,Q,q,m,h,hm=>by
  obtain ⟨m,rfl⟩:∃ k,m=k+1:=⟨m - 1,by simp at hm; omega⟩
  have ih:=zvW s hs j hj ts (Q++[q]) t m (by rw [h]; simp) (by simp at hm; omega)
  rw [zcJ]
  generalize zaF (fun _ _=>none) (zbD s j) m=ag at ih ⊢
  have hn:=(zpo _ _ _ _ h).2 t ts rfl
  have hq:=zga s.data.toList q (by rw [h]; simp)
  have ht:=zga s.data.toList t (by rw [h]; simp)
  have hc:=zgC s.data.toList (Q++[q]).length (Q++[q]) t ts (Nat.le_refl _) (by rw [h]; simp)
  have hsz:=zej s
  have hx:(pcs s.data.toList)[Q.length+1]?=some t:=by rw [h]; simp
  unfold zbD
  refine zaB (decide_eq_true ((List.getElem?_eq_some_iff.1 hx).1)) (zaO hx (zby (zaB (decide_eq_true (by rw [List.length_append]; simp)) ?_)))
  have hl:(((Q.map p2++[p2z q]).length:Nat):Int)=(Q.length:Int)+1:=by simp
  rw [List.length_append] at hc
  simp only [List.length_cons,List.length_nil] at hc
  refine zbm ⟨by omega,by omega⟩ (zbm ⟨by omega,by omega⟩ (zaO (zpx _ _) (zbm ⟨?_,?_⟩ ?_)))
  ·show -9223372036854775808≤(t.i:Int) - (q.i:Int); omega
  ·show (t.i:Int) - (q.i:Int)≤9223372036854775807; omega
  ·rw [zpi]
   have e:(⟨(p2z q).At,(t.i:Int) - (p2z q).At,(p2z q).Rune⟩:Gref02_Piece)=p2 q:=by
    show (⟨(q.i:Int),(t.i:Int) - (q.i:Int),(q.r:Int)⟩:Gref02_Piece)=⟨q.i,q.w,q.r⟩
    rw [hn,show ((q.i+q.w:Nat):Int) - (q.i:Int)=(q.w:Int) by omega]
   rw [e]
   have hm2:Q.map p2++[p2 q]=(Q++[q]).map p2:=by simp
   rw [hm2]
   refine zbm (by rw [List.length_map,List.length_append]; show Q.length+1+1≤_; omega) ?_
   rw [show (Q++[q]).length=Q.length+1 by simp] at ih
   exact ih
def r2J (s:ByteArray):List Gref02_Piece→Option (List Gref02_Piece):=fun (l1:List Gref02_Piece)=>zbi (fun (j3:(List Gref02_Piece)→Option (List Gref02_Piece))=>zaw (decide ((0:Int)<(l1.length:Int))) (grd (I64 ((l1.length:Int) - 1))<|grd (I64 ((l1.length:Int) - 1))<|zal (zcb l1 ((l1.length:Int) - 1)) fun (q2:Gref02_Piece) =>
   grd (I64 ((s.size:Int) - q2.At))<|j3 (l1.set ((l1.length:Int) - 1:Int).toNat (⟨q2.At,(s.size:Int) - q2.At,q2.Rune⟩:Gref02_Piece))) (j3 l1)) (fun (l6:List Gref02_Piece)=>some l6)
theorem zyJ (s:ByteArray) (hs:s.size≤2147483647):zeP s=some ((pcs s.data.toList).map p2):=by
 unfold zeP
 refine zby ?_
 change zaF (fun _ _=>none) (zbD s (r2J s)) zbT ([]:List Gref02_Piece) 0=_
 have hsz:=zej s
 have hj:∀ Q q,pcs s.data.toList=Q++[q]→r2J s (Q.map p2++[p2z q])=some ((pcs s.data.toList).map p2):=by
  intro Q q h
  have hn:=(zpo _ _ _ _ h).1 rfl
  have hq:=zga s.data.toList q (by rw [h]; simp)
  have hc:=zgC s.data.toList Q.length Q q [] (Nat.le_refl _) h
  have hl:(((Q.map p2++[p2z q]).length:Nat):Int)=(Q.length:Int)+1:=by simp
  refine zby (zaB (decide_eq_true (by omega)) (zbm ⟨by omega,by omega⟩ (zbm ⟨by omega,by omega⟩ (zaO (zpx _ _) (zbm ⟨?_,?_⟩ ?_)))))
  ·show -9223372036854775808≤(s.size:Int) - (q.i:Int); omega
  ·show (s.size:Int) - (q.i:Int)≤9223372036854775807; omega
  ·rw [zpi]
   have e:(⟨(p2z q).At,(s.size:Int) - (p2z q).At,(p2z q).Rune⟩:Gref02_Piece)=p2 q:=by
    show (⟨(q.i:Int),(s.size:Int) - (q.i:Int),(q.r:Int)⟩:Gref02_Piece)=⟨q.i,q.w,q.r⟩
    rw [← hsz,← hn,show ((q.i+q.w:Nat):Int) - (q.i:Int)=(q.w:Int) by omega]
   rw [e,h]; simp
 cases hP:pcs s.data.toList with
 | nil =>
  obtain ⟨F,hF,_⟩:=zoP 1 (by decide)
  rw [hF,zcJ]
  generalize zaF (fun _ _=>none) (zbD s _) F=ag
  unfold zbD
  exact zaz (decide_eq_false (by rw [hP]; simp)) (zby (zaz rfl rfl))
 | cons q ts =>
  rw [← hP]
  have hg:=fun m hm=>zvW s hs _ hj ts [] q m hP hm
  have hlen:ts.length≤2147483647:=by
   have:=zgC s.data.toList _ _ _ _ (Nat.le_refl _) (show pcs s.data.toList=([]:List Pc)++q::ts from hP)
   rcases List.eq_nil_or_concat ts with rfl | ⟨D,z,rfl⟩
   ·simp
   ·rw [List.concat_eq_append] at hP ⊢
    have h1:=zgC s.data.toList _ (q::D) z [] (Nat.le_refl _) (by rw [hP]; simp)
    have h2:=zga s.data.toList z (by rw [hP]; simp)
    simp at h1 ⊢; omega
  obtain ⟨F,hF,hF2⟩:=zoP 1 (by decide)
  rw [hF,zcJ]
  have hg:=hg F (by omega)
  generalize zaF (fun _ _=>none) (zbD s _) F=ag at hg ⊢
  unfold zbD
  refine zaB (decide_eq_true (by rw [hP]; simp)) (zaO (a:=q) (by rw [hP]; rfl) (zby (zaz rfl (zbm (by decide) ?_))))
  exact hg
def PW:List (Int×Int):=[(4352,4447),(11904,12350),(12353,19903),(19968,42191),(44032,55203),(63744,64255),(65072,65135),(65280,65376),(65504,65510),(127744,128591),(129280,129535),(131072,262141)]
def inW (r:Int) (p:Int×Int):Bool:=decide (p.1≤r)&&decide (r≤p.2)
def srt:Int→List (Int×Int)→Prop
 | _,[]=>True
 | a,p::ps=>a<p.1∧p.1≤p.2∧srt p.2 ps
theorem zqU (r:Int):∀ (ps:List (Int×Int)) (a:Int),srt a ps→r≤a→ps.any (inW r)=false
 | [],a,_,_=>rfl
 | p::ps,a,⟨h1,h2,h3⟩,h=>by
  rw [List.any_cons,zqU r ps p.2 h3 (by omega),Bool.or_false]
  unfold inW
  rw [decide_eq_false (by omega)]; rfl
theorem znr (r:Int):∀ (ps:List (Int×Int)) (a:Int),srt a ps→zlB r false (ps.flatMap fun p=>[p.1,p.2])=ps.any (inW r)
 | [],a,_=>rfl
 | p::ps,a,⟨h1,h2,h3⟩=>by
  show zlB r false (p.1::p.2::ps.flatMap fun p=>[p.1,p.2])=_
  rw [List.any_cons]
  unfold zlB
  by_cases e1:r<p.1
  ·rw [if_pos e1,zqU r ps p.2 h3 (by omega)]
   unfold inW; rw [decide_eq_false (by omega)]; rfl
  ·rw [if_neg e1]
   unfold zlB
   by_cases e2:r≤p.2
   ·rw [if_pos e2]; unfold inW; rw [decide_eq_true (by omega),decide_eq_true e2]; rfl
   ·rw [if_neg e2,znr r ps p.2 h3]; unfold inW; rw [decide_eq_false e2,Bool.and_false,Bool.false_or]
theorem zqL:zqM=PW.flatMap fun p=>[p.1,p.2]:=by decide +kernel
theorem zqJ (r:Int):zmx r=PW.any (inW r):=by
 unfold zmx
 rw [zqL]
 exact znr r PW 0 (by unfold PW; simp [srt])
theorem zuj (r:Int):zeu r=some (zmx r):=by
 unfold zeu
 refine zby ?_
 have key:∀ (d k n:Nat),k+d=12→d<n→zaF (fun _=>none) (zcS r (some false)) n (k:Int)=some ((PW.drop k).any (inW r)):=by
  intro d
  induction d with
  | zero =>
   intro k n hk hn
   obtain ⟨n,rfl⟩:∃ q,n=q+1:=⟨n - 1,by omega⟩
   rw [zcJ]
   generalize zaF (fun _=>none) (zcS r (some false)) n=ag
   unfold zcS
   refine zaz (decide_eq_false (by omega)) ?_
   rw [show k=PW.length by show k=12; omega,List.drop_length]; rfl
  | succ d ih =>
   intro k n hk hn
   obtain ⟨n,rfl⟩:∃ q,n=q+1:=⟨n - 1,by omega⟩
   have ih':=ih (k+1) n (by omega) (by omega)
   rw [zcJ]
   rw [show ((k+1:Nat):Int)=(k:Int)+1 by omega] at ih'
   generalize zaF (fun _=>none) (zcS r (some false)) n=ag at ih' ⊢
   have hkl:k<PW.length:=by show k<12; omega
   have hx:PW[k]?=some PW[k]:=List.getElem?_eq_getElem hkl
   have hd:=List.drop_eq_getElem_cons hkl
   generalize PW[k]=p at hx hd
   have hA:zcb ([4352,11904,12353,19968,44032,63744,65072,65280,65504,127744,129280,131072]:List Int) (k:Int)=some p.1:=by
    refine zc4 (xs:=PW.map Prod.fst) ?_
    rw [List.getElem?_map,hx]; rfl
   have hB:zcb ([4447,12350,19903,42191,55203,64255,65135,65376,65510,128591,129535,262141]:List Int) (k:Int)=some p.2:=by
    refine zc4 (xs:=PW.map Prod.snd) ?_
    rw [List.getElem?_map,hx]; rfl
   unfold zcS
   rw [hd,List.any_cons]
   refine zaB (decide_eq_true (by omega)) (zby (zaO hA ?_))
   by_cases e1:p.1≤r
   ·refine zaB (decide_eq_true e1) (zaO hB ?_)
    by_cases e2:r≤p.2
    ·refine zaB (decide_eq_true e2) ?_
     unfold inW; rw [decide_eq_true e1,decide_eq_true e2]; rfl
    ·refine zaz (decide_eq_false e2) (zbm ⟨by omega,by omega⟩ (ih'.trans ?_))
     show _=some ((decide (p.1≤r)&&decide (r≤p.2))||_)
     rw [decide_eq_false e2,Bool.and_false,Bool.false_or]
   ·refine zaz (decide_eq_false e1) (zbm ⟨by omega,by omega⟩ (ih'.trans ?_))
    show _=some ((decide (p.1≤r)&&decide (r≤p.2))||_)
    rw [decide_eq_false e1,Bool.false_and,Bool.false_or]
 have:=key 12 0 zbT rfl (zcm (by decide))
 rw [zqJ]
 exact this
end Go.Proofs.YtbempdelckaccaaGreatDoor

namespace Go.Proofs.YtbempdelckaccaaGreatDoor
open Go.RowKit Go.Lib
set_option linter.unusedVariables false
set_option linter.unusedSimpArgs false
theorem zs6 (r:Int):0≤kind r∧kind r≤10:=by
 unfold kind zs7
 repeat' split
 all_goals omega
abbrev jnP (p:Pc):Bool:=!p.broken&&decide ((p.r:Int)=8205)
def p5 (p:Pc):Gref05_Piece:=⟨p.i,(p.i:Int)+(p.w:Int),kdP (pcG p),jnP p,zgM (pcG p)⟩
theorem zuC {p:Pc} (h:p.broken=true):kdP (pcG p)=11:=by unfold kdP zdi pcG; rw [if_pos h]
theorem zuB {p:Pc} (h:p.broken=false):kdP (pcG p)=kind (p.r:Int):=by show (if p.broken=true then (11:Int) else kind (p.r:Int))=_; rw [h]; exact if_neg Bool.false_ne_true
theorem zpN (p:Pc):p.broken=true↔(p.r:Int)=65533∧(p.w:Int)=1:=by
 unfold Pc.broken
 simp only [Bool.and_eq_true,beq_iff_eq]
 omega
theorem zur {α:Type} (r1:List Gref02_Piece) (i3:Int) (p:Pc) (hg:zcb r1 i3=some (p2 p)) (h32:I32 (p.r:Int)) (hb:p.broken=false) (J:Gref02_Piece→Gref02_Piece→Int→Option α) :
  (zal (zcb r1 i3) fun (q3:Gref02_Piece)=>grd (I32 q3.Rune)<|zal (zcb r1 i3) fun (q4:Gref02_Piece)=>zaw ((q4.Rune:Int)==8205) (J q3 q4 0) (zaw (((kind q3.Rune):Int)==2) (J q3 q4 0) (zaw (((kind q3.Rune):Int)==4) (J q3 q4 0) (zaw (((kind q3.Rune):Int)==9) (J q3 q4 0)
   (zal (zcb r1 i3) fun (q5:Gref02_Piece)=>zal (zeu q5.Rune) fun (r2:Bool)=>zaw (r2) (J q3 q4 2) (J q3 q4 1))))))=J (p2 p) (p2 p) (zgM (pcG p)):=by
 refine zaO hg (zbm h32 (zaO hg ?_))
 have hr:(p2 p).Rune=(p.r:Int):=rfl
 have hk:=zuB hb
 have hkr:=zs6 (p.r:Int)
 have hrg:(pcG p).Rune=(p.r:Int):=rfl
 rw [hr]
 unfold zgM
 rw [hk,if_neg (by omega),hrg]
 by_cases h0:(p.r:Int)=8205
 ·refine zaB (zgg h0) ?_
  rw [if_pos (.inr (.inr (by rw [h0]; decide)))]
 refine zaz (zgy h0) ?_
 by_cases h2:kind (p.r:Int)=2
 ·rw [if_pos (.inl h2)]; exact zaB (zgg h2) rfl
 refine zaz (zgy h2) ?_
 by_cases h4:kind (p.r:Int)=4
 ·rw [if_pos (.inr (.inl h4))]; exact zaB (zgg h4) rfl
 refine zaz (zgy h4) ?_
 by_cases h9:kind (p.r:Int)=9
 ·rw [if_pos (.inr (.inr h9))]; exact zaB (zgg h9) rfl
 rw [if_neg (by omega)]
 refine zaz (zgy h9) (zaO hg (zaO (zuj _) ?_))
 rw [hr]
 cases zmx (p.r:Int) <;> rfl
theorem zvV (X:List Pc) (hX:∀ p∈X,I32 (p.r:Int)∧p.i≤2147483647∧p.w≤2147483647) (hl:X.length≤2147483646) (j:List Gref05_Piece→Option (List Gref05_Piece)):∀ (ts pre:List Pc) (m:Nat),X=pre++ts→ts.length<m →
  zaF (fun _ _=>none) (zcq j (X.map p2)) m (pre.map p5) (pre.length:Int)=j (X.map p5)
 | [],pre,m,h,hm=>by
  obtain ⟨m,rfl⟩:∃ q,m=q+1:=⟨m - 1,by simp at hm; omega⟩
  rw [List.append_nil] at h; subst h
  rw [zcJ]
  generalize zaF (fun _ _=>none) (zcq j (X.map p2)) m=ag
  unfold zcq
  exact zaz (decide_eq_false (by simp)) rfl
 | p::ts,pre,m,h,hm=>by
  obtain ⟨m,rfl⟩:∃ q,m=q+1:=⟨m - 1,by simp at hm; omega⟩
  have ih:=zvV X hX hl j ts (pre++[p]) m (by rw [h]; simp) (by simp at hm; omega)
  rw [zcJ]
  generalize zaF (fun _ _=>none) (zcq j (X.map p2)) m=ag at ih ⊢
  have hx:(X.map p2)[pre.length]?=some (p2 p):=by rw [List.getElem?_map,h]; simp
  have hg:=zdG hx
  obtain ⟨o1,o2,o3⟩:=hX p (by rw [h]; simp)
  have hpl:pre.length<X.length:=by rw [h]; simp
  have hJ:∀ c,c=zgM (pcG p)→∀ k,k=kdP (pcG p)→∀ b,b=jnP p→(grd ((pre.map p5).length+1≤2147483648)<|grd (I64 ((pre.length:Int)+1))<|ag (pre.map p5++[(⟨(p2 p).At,(p2 p).At+(p2 p).Width,k,b,c⟩:Gref05_Piece)]) ((pre.length:Int)+1))=j (X.map p5):=by
   rintro c rfl k rfl b rfl
   refine zbm (by rw [List.length_map]; omega) (zbm ⟨by omega,by omega⟩ ?_)
   rw [← ih]
   have e1:(pre++[p]).map p5=pre.map p5++[p5 p]:=by simp
   rw [e1,show (((pre++[p]).length:Nat):Int)=(pre.length:Int)+1 by simp]; rfl
  unfold zcq
  refine zaB (zqc hx) (zby (zaO hg (zbm ⟨?_,?_⟩ (zaO hg ?_))))
  ·show -9223372036854775808≤(p.i:Int)+(p.w:Int); omega
  ·show (p.i:Int)+(p.w:Int)≤9223372036854775807; omega
  have nb:=fun (hb:p.broken=false)=>(zur (X.map p2) (pre.length:Int) p hg o1 hb (fun q3 q4 (c:Int)=>(grd ((pre.map p5).length+1≤2147483648)<|grd (I64 ((pre.length:Int)+1))<|ag (pre.map p5++[(⟨(p2 p).At,(p2 p).At+(p2 p).Width,kind q3.Rune,(q4.Rune:Int)==8205,c⟩:Gref05_Piece)]) ((pre.length:Int)+1)))).trans (hJ _ rfl _ (zuB hb).symm _ (by
   show ((p.r:Int)==8205)=(!p.broken&&decide ((p.r:Int)=8205))
   rw [hb]; rfl))
  cases hb:p.broken with
  | true =>
   obtain ⟨e1,e2⟩:=(zpN p).1 hb
   have hj1:=hJ 1 (by unfold zgM; rw [if_pos (zuC hb)]) 11 (zuC hb).symm false (by show false=(!p.broken&&_); rw [hb]; rfl)
   refine zaB ?_ (zaB ?_ ?_)
   ·exact zgg e1
   ·exact zgg e2
   ·exact hj1
  | false =>
   have hn:¬ ((p.r:Int)=65533∧(p.w:Int)=1):=fun e=>by rw [(zpN p).2 e] at hb; cases hb
   by_cases e1:(p.r:Int)=65533
   ·refine zaB ?_ (zaz ?_ (nb hb))
    ·exact zgg e1
    ·exact zgy (fun e=>hn ⟨e1,e⟩)
   ·refine zaz ?_ (nb hb)
    exact zgy e1
theorem zkJ (s:ByteArray) (hs:s.size≤2147483646):(∀ p∈pcs s.data.toList,I32 (p.r:Int)∧p.i≤2147483647∧p.w≤2147483647)∧(pcs s.data.toList).length≤s.size:=by
 have hsz:=zej s
 constructor
 ·intro p hp
  obtain ⟨h1,h2,h3⟩:=zga s.data.toList p hp
  have:=h3.valid
  exact ⟨⟨by omega,by omega⟩,by omega,by omega⟩
 ·rcases List.eq_nil_or_concat (pcs s.data.toList) with h | ⟨D,z,h⟩
  ·rw [h]; simp
  ·rw [List.concat_eq_append] at h
   have h1:=zgC s.data.toList _ D z [] (Nat.le_refl _) h
   have h2:=zga s.data.toList z (by rw [h]; simp)
   rw [h,List.length_append]; simp; omega
theorem zxo (s:ByteArray) (hs:s.size≤2147483646):zeM s=some ((pcs s.data.toList).map p5):=by
 obtain ⟨h1,h2⟩:=zkJ s hs
 unfold zeM
 refine zby (zaO (zyJ s (by omega)) ?_)
 exact zvV (pcs s.data.toList) h1 (by omega) (fun out1=>some out1) (pcs s.data.toList) [] zbT rfl (zcm (by omega))
theorem zl9 (s:ByteArray) {p:Pc} (hp:p∈pcs s.data.toList) (n:Nat) (hn:n<128):∃ c:Int,zin s (p.i:Int)=some c∧(c=(n:Int)↔p.r=n):=by
 obtain ⟨h1,h2,h3⟩:=zga s.data.toList p hp
 have hsz:=zej s
 have hb:=zuE (s:=s) (a:=p.i) (i:=0) (by omega)
 rw [show (p.i:Int)+((0:Nat):Int)=(p.i:Int) by omega] at hb
 refine ⟨_,hb,?_⟩
 have hen:encodeRune ((n:Nat):Int)=[UInt8.ofNat n]:=by
  have:∀ n:Fin 128,encodeRune ((n.val:Nat):Int)=[UInt8.ofNat n.val]:=by decide +kernel
  exact this ⟨n,hn⟩
 cases hl:s.data.toList.drop p.i with
 | nil=>have:=congrArg List.length hl; rw [List.length_drop] at this; simp at this; omega
 | cons b l =>
  have hby:byI (b::l) 0=(b.toNat:Int):=rfl
  rw [hby]
  rw [hl] at h3
  constructor
  ·intro e
   have hbn:b=UInt8.ofNat n:=by
    have:b.toNat=n:=by omega
    rw [← this]; simp
   have hd:=znf n (by omega) l
   rw [hen] at hd
   have:[UInt8.ofNat n]++l=b::l:=by rw [hbn]; rfl
   rw [this,h3.eq] at hd
   exact (Prod.mk.inj hd).1
  ·intro e
   have hnb:¬ (p.r=65533∧p.w=1):=by omega
   have hby:=h3.bytes hnb
   rw [e,hen] at hby
   have hw:1≤p.w:=h3.pos
   obtain ⟨w,hw'⟩:∃ w,p.w=w+1:=⟨p.w - 1,by omega⟩
   rw [hw',List.take_succ_cons] at hby
   have:=(List.cons.inj hby).1
   rw [← this]
   have:(UInt8.ofNat n).toNat=n:=by simp; omega
   omega
end Go.Proofs.YtbempdelckaccaaGreatDoor

namespace Go.Proofs.YtbempdelckaccaaGreatDoor
open Go.RowKit Go.Lib
set_option linter.unusedVariables false
set_option linter.unusedSimpArgs false
def tkN (h:Int):Pc→List Pc→Nat
 | _,[]=>0
 | l,t::ts=>if zhV h (l.r:Int) (pcG t)=true then tkN h t ts+1 else 0
def zsv (e:Int):List Pc→Int
 | []=>e
 | t::ts=>zsv ((t.i:Int)+(t.w:Int)) ts
def zqx (c:Int):List Pc→Int
 | []=>c
 | t::ts=>zqx (max c (zgM (pcG t))) ts
def zjc (h:Int):Prop:=h=11∨h=4∨h=9
instance (h:Int):Decidable (zjc h):=by unfold zjc; infer_instance
def nTk (x:Pc) (ts:List Pc):Nat :=
 if (x.r:Int)=13 then (match ts with | y::_=>if (y.r:Int)=10 then 1 else 0 | []=>0) else if zjc (kdP (pcG x)) then 0 else tkN (kdP (pcG x)) x ts
theorem zpa (h:Int) (l t:Pc) (ts:List Pc):tkN h l (t::ts)=if zhV h (l.r:Int) (pcG t)=true then tkN h t ts+1 else 0:=rfl
theorem ztz (h:Int):∀ (ts:List Pc) (l:Pc),tkN h l ts≤ts.length
 | [],_=>Nat.le_refl _
 | t::ts,l=>by
  unfold tkN
  have:=ztz h ts t
  split
  ·rw [List.length_cons]; omega
  ·exact Nat.zero_le _
theorem zwc (x:Pc) (ts:List Pc):nTk x ts≤ts.length:=by
 unfold nTk
 split
 ·cases ts with
  | nil=>exact Nat.le_refl _
  | cons y ts =>
   simp only
   split
   ·rw [List.length_cons]; omega
   ·exact Nat.zero_le _
 split
 ·exact Nat.zero_le _
 ·exact ztz _ _ _
theorem zlX {h:Int} (hs:zjc h) (l:Int) (x:Gapi_Piece):zkr h l x=false:=by
 unfold zkr
 rcases hs with rfl | rfl | rfl <;> rfl
theorem zsF {h:Int} (hs:¬ zjc h) (l:Int) (x:Gapi_Piece):zkr h l x=zhV h l x:=by
 unfold zkr
 unfold zjc at hs
 rw [zuy (by omega:h≠11),zuy (by omega:h≠4),zuy (by omega:h≠9)]; rfl
theorem zw0 {p:Pc} (h:(p.r:Int)=13∨(p.r:Int)=10):kdP (pcG p)=4:=by
 have hb:p.broken=false:=by
  cases hb:p.broken with
  | false=>rfl
  | true=>have:=(zpN p).1 hb; omega
 rw [zuB hb]
 rcases h with h | h <;> rw [h] <;> decide
theorem zwg {h l:Int} {p:Pc} (hj:zhV h l (pcG p)=true):(p.r:Int)≠13:=by
 intro e
 have hk:=zw0 (p:=p) (.inl e)
 unfold zhV at hj
 rw [hk] at hj
 have hr:(pcG p).Rune=(p.r:Int):=rfl
 rw [hr,e] at hj
 simp at hj
theorem zsa {h:Int} (hs:¬ zjc h):∀ (ts:List Pc) (c:Gapi_Cell) (l:Pc),(l.r:Int)≠13 →
  zgf c h (l.r:Int) (ts.map pcG)=⟨c.Span_From,zsv c.Span_To (ts.take (tkN h l ts)),zqx c.Columns (ts.take (tkN h l ts))⟩::zgq ((ts.drop (tkN h l ts)).map pcG)
 | [],c,l,_=>rfl
 | t::ts,c,l,hl=>by
  have hr:(pcG t).Rune=(t.r:Int):=rfl
  rw [List.map_cons,zfv,if_neg (fun e=>hl e.1),zsF hs]
  unfold tkN
  by_cases hj:zhV h (l.r:Int) (pcG t)=true
  ·rw [if_pos hj,if_pos hj,hr,zsa hs ts _ t (zwg hj)]
   rfl
  ·rw [if_neg hj,if_neg hj]; rfl
theorem zsb {h:Int} (hs:zjc h) (ts:List Pc) (c:Gapi_Cell) (l:Int) (hl:l≠13):zgf c h l (ts.map pcG)=c::zgq (ts.map pcG):=by
 cases ts with
 | nil=>rfl
 | cons t ts =>
  rw [List.map_cons,zfv,if_neg (fun e=>hl e.1),zlX hs,if_neg (by decide)]; rfl
theorem zsc (x:Pc) (ts:List Pc):zgq ((x::ts).map pcG) =
  ⟨x.i,zsv ((x.i:Int)+(x.w:Int)) (ts.take (nTk x ts)),zqx (zgM (pcG x)) (ts.take (nTk x ts))⟩::zgq ((ts.drop (nTk x ts)).map pcG):=by
 show zgf ⟨x.i,(x.i:Int)+(x.w:Int),zgM (pcG x)⟩ (kdP (pcG x)) (x.r:Int) (ts.map pcG)=_
 unfold nTk
 by_cases h13:(x.r:Int)=13
 ·rw [if_pos h13]
  have hk:=zw0 (p:=x) (.inl h13)
  have hst:zjc (kdP (pcG x)):=by rw [hk]; exact .inr (.inl rfl)
  have hc0:∀ p:Pc,((p.r:Int)=13∨(p.r:Int)=10)→zgM (pcG p)=0:=by
   intro p hp
   unfold zgM
   rw [zw0 hp]; rfl
  cases ts with
  | nil=>rfl
  | cons y ts =>
   simp only
   have hr:(pcG y).Rune=(y.r:Int):=rfl
   rw [List.map_cons,zfv,hr]
   by_cases h10:(y.r:Int)=10
   ·rw [if_pos ⟨h13,h10⟩,if_pos h10,zsb hst ts _ _ (by omega)]
    have e1:=hc0 x (.inl h13)
    have e2:=hc0 y (.inr h10)
    show (⟨(x.i:Int),(y.i:Int)+(y.w:Int),zgM (pcG x)⟩:Gapi_Cell)::_=⟨(x.i:Int),(y.i:Int)+(y.w:Int),max (zgM (pcG x)) (zgM (pcG y))⟩::_
    rw [e1,e2]; rfl
   ·rw [if_neg (fun e=>h10 e.2),if_neg h10,zlX hst,if_neg (by decide)]; rfl
 ·rw [if_neg h13]
  by_cases hs:zjc (kdP (pcG x))
  ·rw [if_pos hs,zsb hs ts _ _ h13]; rfl
  ·rw [if_neg hs,zsa hs ts _ x h13]
theorem zsR (h:Int) (l t:Pc):zhV h (l.r:Int) (pcG t)=(decide (kdP (pcG t)=2)||(jnP t||(decide (h=10)&&(decide (kdP (pcG t)=10)&&jnP l)))):=by
 have hr:(pcG t).Rune=(t.r:Int):=rfl
 have hbr:(pcG t).Broken=t.broken:=rfl
 unfold zhV
 rw [hr,hbr]
 cases hb:t.broken with
 | true =>
  rw [zuC hb]
  simp [jnP,hb]
 | false =>
  have hjn:jnP t=decide ((t.r:Int)=8205):=by unfold jnP; rw [hb]; rfl
  have hjl:jnP l=decide ((l.r:Int)=8205):=by
   unfold jnP
   cases hlb:l.broken with
   | false=>rfl
   | true =>
    have:=(zpN l).1 hlb
    rw [decide_eq_false (by omega)]; rfl
  rw [hjn,hjl]
  simp only [Bool.false_eq_true,if_false]
  by_cases h2:kdP (pcG t)=2
  ·rw [if_pos h2,decide_eq_true h2]; rfl
  rw [if_neg h2,decide_eq_false h2,Bool.false_or]
  by_cases hj:(t.r:Int)=8205
  ·rw [if_pos hj,decide_eq_true hj]; rfl
  rw [if_neg hj,decide_eq_false hj,Bool.false_or]
  by_cases hh:h=10
  ·rw [if_pos hh,decide_eq_true hh,Bool.true_and]
   by_cases h10:kdP (pcG t)=10
   ·rw [if_pos h10,decide_eq_true h10,Bool.true_and]
   ·rw [if_neg h10,decide_eq_false h10]; rfl
  ·rw [if_neg hh,decide_eq_false hh]; rfl
theorem zru (X:List Pc) (hX:X.length≤2147483646) (j2:Int→Option (List Gapi_Cell)) (q1:Gref05_Piece):∀ (ts pre:List Pc) (l:Pc) (m:Nat),X=pre++l::ts→ts.length<m →
  zaF (fun _=>none) (zcs (X.map p5) j2 q1) m ((pre.length:Int)+1)=j2 ((pre.length:Int)+1+(tkN q1.Kind l ts:Int))
 | [],pre,l,m,h,hm=>by
  obtain ⟨m,rfl⟩:∃ q,m=q+1:=⟨m - 1,by simp at hm; omega⟩
  rw [zcJ]
  generalize zaF (fun _=>none) (zcs (X.map p5) j2 q1) m=ag
  unfold zcs
  refine zby (zaz (decide_eq_false (by rw [List.length_map,h]; simp)) ?_)
  show j2 _=j2 ((pre.length:Int)+1+0)
  rw [Int.add_zero]
 | t::ts,pre,l,m,h,hm=>by
  obtain ⟨m,rfl⟩:∃ q,m=q+1:=⟨m - 1,by simp at hm; omega⟩
  have ih:=zru X hX j2 q1 ts (pre++[l]) t m (by rw [h]; simp) (by simp at hm; omega)
  rw [zcJ]
  generalize zaF (fun _=>none) (zcs (X.map p5) j2 q1) m=ag at ih ⊢
  have hx:(X.map p5)[pre.length+1]?=some (p5 t):=by rw [List.getElem?_map,h]; simp
  have hg:=zdG hx
  have hlt:=zqc hx
  rw [show ((pre.length+1:Nat):Int)=(pre.length:Int)+1 by omega] at hg hlt
  have hy:zcb (X.map p5) ((pre.length:Int)+1 - 1)=some (p5 l):=zew (n:=pre.length) (by omega) (by rw [List.getElem?_map,h]; simp)
  have hxl:X.length=pre.length+(ts.length+2):=by rw [h]; simp
  have e0:(((pre++[l]).length:Nat):Int)+1=(pre.length:Int)+1+1:=by simp
  rw [e0] at ih
  have go:zhV q1.Kind (l.r:Int) (pcG t)=true→(grd (I64 ((pre.length:Int)+1+1))<|ag ((pre.length:Int)+1+1))=j2 ((pre.length:Int)+1+(tkN q1.Kind l (t::ts):Int)):=by
   intro hj
   refine zbm ⟨by omega,by omega⟩ (ih.trans ?_)
   rw [zpa,if_pos hj]
   congr 1
   push_cast; omega
  have no:zhV q1.Kind (l.r:Int) (pcG t)=false→j2 ((pre.length:Int)+1)=j2 ((pre.length:Int)+1+(tkN q1.Kind l (t::ts):Int)):=by
   intro hj
   rw [zpa,if_neg (by rw [hj]; decide)]
   show j2 _=j2 ((pre.length:Int)+1+0)
   rw [Int.add_zero]
  rw [zsR] at go no
  unfold zcs
  refine zby (zaB hlt (zaO hg ?_))
  have hK:(p5 t).Kind=kdP (pcG t):=rfl
  have hJ:(p5 t).Joiner=jnP t:=rfl
  have hJl:(p5 l).Joiner=jnP l:=rfl
  rw [hK,hJ]
  by_cases h2:kdP (pcG t)=2
  ·rw [decide_eq_true h2] at go
   exact zaB (zgg h2) (go rfl)
  rw [decide_eq_false h2,Bool.false_or] at go no
  refine zaz (zgy h2) ?_
  cases hj:jnP t with
  | true =>
   rw [hj] at go
   exact zaB rfl (go rfl)
  | false =>
   rw [hj,Bool.false_or] at go no
   refine zaz rfl ?_
   by_cases hh:q1.Kind=10
   ·rw [decide_eq_true hh,Bool.true_and] at go no
    refine zaB (zgg hh) ?_
    by_cases h10:kdP (pcG t)=10
    ·rw [decide_eq_true h10,Bool.true_and] at go no
     refine zaB (zgg h10) (zbm ⟨by omega,by omega⟩ (zaO hy ?_))
     rw [hJl]
     cases hl:jnP l with
     | true=>rw [hl] at go; exact zaB rfl (go rfl)
     | false=>rw [hl] at no; exact zaz rfl (no rfl)
    ·rw [decide_eq_false h10] at no
     exact zaz (zgy h10) (no rfl)
   ·rw [decide_eq_false hh] at no
    exact zaz (zgy hh) (no rfl)
theorem ztJ (X:List Pc) (hX:X.length≤2147483646) (k:Int) (j6:Int→Int→Int→Int→Option (List Gapi_Cell)) (q10 q11:Gref05_Piece) (rest:List Pc):∀ (seg pre:List Pc) (m:Nat) (c:Int),X=pre++(seg++rest)→k=(pre.length:Int)+(seg.length:Int)→seg.length<m →
  zaF (fun _ _=>none) (zcr (X.map p5) k j6 q10 q11) m (pre.length:Int) c=j6 k q10.Span_From q11.Span_To (zqx c seg)
 | [],pre,m,c,h,hk,hm=>by
  obtain ⟨m,rfl⟩:∃ q,m=q+1:=⟨m - 1,by simp at hm; omega⟩
  rw [zcJ]
  generalize zaF (fun _ _=>none) (zcr (X.map p5) k j6 q10 q11) m=ag
  unfold zcr
  have:k=(pre.length:Int):=by rw [hk]; simp
  refine zaz (decide_eq_false (by omega)) ?_
  rw [← this]; rfl
 | t::seg,pre,m,c,h,hk,hm=>by
  obtain ⟨m,rfl⟩:∃ q,m=q+1:=⟨m - 1,by simp at hm; omega⟩
  rw [List.length_cons] at hk hm
  have ih:=ztJ X hX k j6 q10 q11 rest seg (pre++[t]) m (max c (zgM (pcG t))) (by rw [h]; simp) (by rw [hk,List.length_append]; simp; omega) (by omega)
  rw [zcJ]
  generalize zaF (fun _ _=>none) (zcr (X.map p5) k j6 q10 q11) m=ag at ih ⊢
  have hx:(X.map p5)[pre.length]?=some (p5 t):=by rw [List.getElem?_map,h]; simp
  have hxl:X.length=pre.length+(seg.length+1+rest.length):=by rw [h]; simp; omega
  rw [show (((pre++[t]).length:Nat):Int)=(pre.length:Int)+1 by simp] at ih
  unfold zcr
  exact zaB (decide_eq_true (by omega)) (zaO (zdG hx) (zbm ⟨by omega,by omega⟩ ih))
theorem zpj:∀ (seg pre:List Pc) (x:Pc),∃ z,(pre++x::seg)[pre.length+seg.length]?=some z∧(z.i:Int)+(z.w:Int)=zsv ((x.i:Int)+(x.w:Int)) seg
 | [],pre,x=>⟨x,by simp,rfl⟩
 | t::seg,pre,x=>by
  obtain ⟨z,h1,h2⟩:=zpj seg (pre++[x]) t
  refine ⟨z,?_,h2⟩
  rw [← h1]
  congr 1
  ·simp
  ·simp; omega
theorem zyK (x:Pc) (seg:List Pc):zqx 0 (x::seg)=zqx (zgM (pcG x)) seg:=by
 have:=zoU (pcG x)
 show zqx (max 0 (zgM (pcG x))) seg=_
 rw [show max 0 (zgM (pcG x))=zgM (pcG x) by omega]
theorem zxn (s:ByteArray) (hs:s.size≤2147483646) (j:List Gapi_Cell→Option (List Gapi_Cell)):∀ (d:Nat) (ts pre:List Pc) (m:Nat) (out:List Gapi_Cell),ts.length≤d→pcs s.data.toList=pre++ts→d<m→out.length≤pre.length →
  zaF (fun _ _=>none) (zct s j ((pcs s.data.toList).map p5)) m out (pre.length:Int)=j (out++zgq (ts.map pcG)):=by
 obtain ⟨hX,hXl⟩:=zkJ s hs
 have end_:∀ (pre:List Pc) (m:Nat) (out:List Gapi_Cell),pcs s.data.toList=pre→0<m→zaF (fun _ _=>none) (zct s j ((pcs s.data.toList).map p5)) m out (pre.length:Int)=j (out++zgq (([]:List Pc).map pcG)):=by
  intro pre m out h hm
  obtain ⟨m,rfl⟩:∃ q,m=q+1:=⟨m - 1,by omega⟩
  rw [zcJ]
  generalize zaF (fun _ _=>none) (zct s j ((pcs s.data.toList).map p5)) m=ag
  unfold zct
  refine zaz (decide_eq_false (by rw [List.length_map,h]; omega)) ?_
  show j out=j (out++[])
  rw [List.append_nil]
 intro d
 induction d with
 | zero =>
  intro ts pre m out hd h hm ho
  have:ts=[]:=List.length_eq_zero_iff.1 (by omega)
  subst this
  exact end_ pre m out (by simpa using h) (by omega)
 | succ d ih =>
  intro ts pre m out hd h hm ho
  cases ts with
  | nil=>exact end_ pre m out (by simpa using h) (by omega)
  | cons x ts =>
   obtain ⟨m,rfl⟩:∃ q,m=q+1:=⟨m - 1,by omega⟩
   rw [List.length_cons] at hd
   have hn:=zwc x ts
   have hone:=zsc x ts
   have ih':=ih (ts.drop (nTk x ts)) (pre++x::ts.take (nTk x ts)) m (out++[⟨x.i,zsv ((x.i:Int)+(x.w:Int)) (ts.take (nTk x ts)),zqx (zgM (pcG x)) (ts.take (nTk x ts))⟩]) (by rw [List.length_drop]; omega) (by rw [h]; simp) (by omega) (by simp; omega)
   rw [show (((pre++x::ts.take (nTk x ts)).length:Nat):Int)=(pre.length:Int)+1+(nTk x ts:Int) by rw [List.length_append,List.length_cons,List.length_take,Nat.min_eq_left hn]; omega,List.append_assoc] at ih'
   rw [hone]
   rw [zcJ]
   generalize zaF (fun _ _=>none) (zct s j ((pcs s.data.toList).map p5)) m=ag at ih' ⊢
   have hxl:(pcs s.data.toList).length=pre.length+(ts.length+1):=by rw [h]; simp
   have hx:((pcs s.data.toList).map p5)[pre.length]?=some (p5 x):=by rw [List.getElem?_map,h]; simp
   have hg:=zdG hx
   have hrest:∀ k:Int,k=(pre.length:Int)+1+(nTk x ts:Int)→(zbi (fun (j6:Int→Int→Int→Int→Option (List Gapi_Cell))=>zal (zcb ((pcs s.data.toList).map p5) (pre.length:Int)) fun (q10:Gref05_Piece)=>grd (I64 (k - 1))<|zal (zcb ((pcs s.data.toList).map p5) (k - 1)) fun (q11:Gref05_Piece) =>
     zaF (fun _ _=>none) (zcr ((pcs s.data.toList).map p5) k j6 q10 q11) zbT (pre.length:Int) 0) (fun (i4:Int) (c3:Int) (c4:Int) (c5:Int)=>grd (out.length+1≤2147483648)<|ag (out++[(⟨c3,c4,c5⟩:Gapi_Cell)]) i4)) =
     j (out++⟨x.i,zsv ((x.i:Int)+(x.w:Int)) (ts.take (nTk x ts)),zqx (zgM (pcG x)) (ts.take (nTk x ts))⟩::zgq ((ts.drop (nTk x ts)).map pcG)):=by
    rintro k rfl
    obtain ⟨z,hz1,hz2⟩:=zpj (ts.take (nTk x ts)) pre x
    have hz:((pcs s.data.toList).map p5)[pre.length+nTk x ts]?=some (p5 z):=by
     rw [List.getElem?_map]
     rw [List.length_take,Nat.min_eq_left hn] at hz1
     have:(pcs s.data.toList)[pre.length+nTk x ts]?=some z:=by
      rw [h,← hz1,show pre++x::ts=(pre++x::ts.take (nTk x ts))++ts.drop (nTk x ts) by simp]
      exact List.getElem?_append_left (by rw [List.length_append,List.length_cons,List.length_take,Nat.min_eq_left hn]; omega)
     rw [this]; rfl
    refine zby (zaO hg (zbm ⟨by omega,by omega⟩ (zaO (zew (n:=pre.length+nTk x ts) (by push_cast; omega) hz) ?_)))
    refine (ztJ (pcs s.data.toList) (by omega) _ _ (p5 x) (p5 z) (ts.drop (nTk x ts)) (x::ts.take (nTk x ts)) pre zbT 0 (by rw [h]; simp) (by rw [List.length_cons,List.length_take,Nat.min_eq_left hn]; push_cast; omega) (by rw [List.length_cons,List.length_take,Nat.min_eq_left hn]; exact zcm (by omega))).trans ?_
    rw [zyK]
    refine zbm (by omega) ?_
    have e1:(p5 x).Span_From=(x.i:Int):=rfl
    have e2:(p5 z).Span_To=zsv ((x.i:Int)+(x.w:Int)) (ts.take (nTk x ts)):=hz2
    rw [e1,e2]
    exact ih'
   obtain ⟨b,hb1,hb2⟩:=zl9 s (p:=x) (by rw [h]; simp) 13 (by decide)
   have hK:(p5 x).Kind=kdP (pcG x):=rfl
   have hbx:zin s (p5 x).Span_From=some b:=hb1
   have hno:(x.r:Int)≠13→∀ J:Int→Option (List Gapi_Cell),(∀ k:Int,k=(pre.length:Int)+1+(nTk x ts:Int)→J k=j (out++⟨x.i,zsv ((x.i:Int)+(x.w:Int)) (ts.take (nTk x ts)),zqx (zgM (pcG x)) (ts.take (nTk x ts))⟩::zgq ((ts.drop (nTk x ts)).map pcG))) →
     zaw (((p5 x).Kind:Int)==11) (J ((pre.length:Int)+1)) (zaw (((p5 x).Kind:Int)==4) (J ((pre.length:Int)+1)) (zaw (((p5 x).Kind:Int)==9) (J ((pre.length:Int)+1)) (zaF (fun _=>none) (zcs ((pcs s.data.toList).map p5) J (p5 x)) zbT ((pre.length:Int)+1)))) =
     j (out++⟨x.i,zsv ((x.i:Int)+(x.w:Int)) (ts.take (nTk x ts)),zqx (zgM (pcG x)) (ts.take (nTk x ts))⟩::zgq ((ts.drop (nTk x ts)).map pcG)):=by
    intro h13 J hJ
    have hstop:zjc (kdP (pcG x))→J ((pre.length:Int)+1)=j (out++⟨x.i,zsv ((x.i:Int)+(x.w:Int)) (ts.take (nTk x ts)),zqx (zgM (pcG x)) (ts.take (nTk x ts))⟩::zgq ((ts.drop (nTk x ts)).map pcG)):=fun hs=>hJ _ (by
     have:nTk x ts=0:=by unfold nTk; rw [if_neg h13,if_pos hs]
     rw [this]; simp)
    rw [hK]
    by_cases k11:kdP (pcG x)=11
    ·exact zaB (zgg k11) (hstop (.inl k11))
    refine zaz (zgy k11) ?_
    by_cases k4:kdP (pcG x)=4
    ·exact zaB (zgg k4) (hstop (.inr (.inl k4)))
    refine zaz (zgy k4) ?_
    by_cases k9:kdP (pcG x)=9
    ·exact zaB (zgg k9) (hstop (.inr (.inr k9)))
    refine zaz (zgy k9) ?_
    have hns:¬ zjc (kdP (pcG x)):=by unfold zjc; omega
    rw [zru (pcs s.data.toList) (by omega) J (p5 x) ts pre x zbT h (zcm (by omega))]
    refine hJ _ ?_
    unfold nTk
    rw [if_neg h13,if_neg hns]; rfl
   have hI:I64 ((pre.length:Int)+1):=⟨by omega,by omega⟩
   unfold zct
   refine zaB (zqc hx) (zby (zbm hI (zaO hg (zaO hg (zaO hbx ?_)))))
   by_cases h13:(x.r:Int)=13
   ·refine zaB (zgg (hb2.2 (by omega))) ?_
    have hk4:(p5 x).Kind=4:=zw0 (.inl h13)
    cases ts with
    | nil =>
     have hn0:nTk x []=0:=by unfold nTk; rw [if_pos h13]
     refine zaz (decide_eq_false (by rw [List.length_map,hxl]; simp)) (zaz (by rw [hk4]; rfl) (zaB (by rw [hk4]; rfl) ?_))
     exact hrest _ (by rw [hn0]; simp)
    | cons y ts =>
     have hy:((pcs s.data.toList).map p5)[pre.length+1]?=some (p5 y):=by rw [List.getElem?_map,h]; simp
     have hgy:=zdG hy
     have hly:=zqc hy
     rw [show ((pre.length+1:Nat):Int)=(pre.length:Int)+1 by omega] at hgy hly
     obtain ⟨b',hc1,hc2⟩:=zl9 s (p:=y) (by rw [h]; simp) 10 (by decide)
     refine zaB hly (zaO hgy (zaO hc1 ?_))
     by_cases h10:(y.r:Int)=10
     ·have hn1:nTk x (y::ts)=1:=by unfold nTk; rw [if_pos h13]; simp only; rw [if_pos h10]
      rw [List.length_cons] at hxl
      refine zaB (zgg (hc2.2 (by omega))) (zbm ⟨by omega,by omega⟩ ?_)
      exact hrest _ (by rw [hn1]; simp)
     ·have hn0:nTk x (y::ts)=0:=by unfold nTk; rw [if_pos h13]; simp only; rw [if_neg h10]
      refine zaz (zgy (fun e=>h10 (by have:=hc2.1 e; omega))) (zaz (by rw [hk4]; rfl) (zaB (by rw [hk4]; rfl) ?_))
      exact hrest _ (by rw [hn0]; simp)
   ·refine zaz (zgy (fun e=>h13 (by have:=hb2.1 e; omega))) ?_
    exact hno h13 _ hrest
theorem zsU (s:ByteArray) (hs:s.size≤2147483646):zff s=some (zax s):=by
 obtain ⟨h1,h2⟩:=zkJ s hs
 unfold zff
 refine zby (zaO (zxo s hs) ?_)
 exact zxn s hs (fun out1=>some out1) _ (pcs s.data.toList) [] zbT [] (Nat.le_refl _) rfl (zcm (by omega)) (Nat.le_refl _)
end Go.Proofs.YtbempdelckaccaaGreatDoor

namespace Go.Proofs.YtbempdelckaccaaGreatDoor
open Go.RowKit Go.Lib
set_option linter.unusedVariables false
set_option linter.unusedSimpArgs false
def okC (s:ByteArray) (c:zeX):Prop:=0≤c.Span_From∧c.Span_From<c.Span_To∧c.Span_To≤(s.size:Int)∧0≤c.Columns∧c.Columns≤2
theorem ziZ (s:ByteArray):∀ c∈zax s,okC s c:=(zeG s).mem
theorem zsO (s:ByteArray) (hs:s.size≤100000) (c:zeX) (hc:okC s c):zfd s c=some (spB s c):=by
 obtain ⟨h1,h2,h3,h4,h5⟩:=hc
 unfold zfd spB
 refine zbm ⟨by omega,by omega⟩ ?_
 by_cases h:c.Span_To=c.Span_From+1
 ·rw [if_pos h]
  obtain ⟨m,hm⟩:∃ m:Nat,c.Span_From=m:=⟨c.Span_From.toNat,by omega⟩
  have hg:=zm1 hm (show m<s.size by omega)
  refine zaB (zgg (by omega)) (zaO hg ?_)
  rw [hg]
  show some _=some _
  congr 1
 ·rw [if_neg h]; exact zaz (zgy (by omega)) rfl
theorem znu {α:Type} {l:List α} {k:Nat} (h:k<l.length):l.take (k+1)=l.take k++[l[k]]:=zjb (List.getElem?_eq_getElem h)
theorem zvU (s:ByteArray) (hs:s.size≤100000) (l:List zeX) (hl:∀ c∈l,okC s c) (hn:l.length≤100000) (j:Int→Option Int):∀ (n m:Nat),n≤l.length→n<m→zaF (fun _=>none) (zch s l j) m (n:Int)=j (eN (spB s) (l.take n):Int)
 | 0,m,h,hm=>by
  obtain ⟨m,rfl⟩:∃ q,m=q+1:=⟨m - 1,by omega⟩
  rw [zcJ]
  generalize zaF (fun _=>none) (zch s l j) m=ag
  unfold zch
  exact zaz rfl rfl
 | n+1,m,h,hm=>by
  obtain ⟨m,rfl⟩:∃ q,m=q+1:=⟨m - 1,by omega⟩
  have ih:=zvU s hs l hl hn j n m (by omega) (by omega)
  rw [zcJ]
  generalize zaF (fun _=>none) (zch s l j) m=ag at ih ⊢
  have hx:l[n]?=some l[n]:=List.getElem?_eq_getElem (by omega)
  unfold zch
  rw [znu (by omega),zld]
  refine zaB (decide_eq_true (by omega)) (zbm ⟨by omega,by omega⟩ (zaO (zew (n:=n) (by omega) hx) (zaO (zsO s hs _ (hl _ (List.mem_of_getElem? hx))) ?_)))
  cases hsp:spB s l[n] with
  | true =>
   refine zaB rfl (zbm ⟨by omega,by omega⟩ ?_)
   rw [if_pos rfl,show ((n+1:Nat):Int) - 1=(n:Int) by omega]
   exact ih
  | false =>
   refine zaz rfl ?_
   rw [if_neg (by decide),List.length_take,Nat.min_eq_left (by omega)]
theorem zvT (l:List zeX) (hl:∀ c∈l,0≤c.Columns∧c.Columns≤2) (n:Nat) (hn:n≤l.length) (hn2:l.length≤100000) (j:Int→Option Int):∀ (d k m:Nat),k+d=n→d<m→zaF (fun _ _=>none) (zcg l (n:Int) j) m (zcY (l.take k)) (k:Int)=j (zcY (l.take n))
 | 0,k,m,h,hm=>by
  obtain ⟨m,rfl⟩:∃ q,m=q+1:=⟨m - 1,by omega⟩
  rw [zcJ]
  generalize zaF (fun _ _=>none) (zcg l (n:Int) j) m=ag
  unfold zcg
  refine zaz (decide_eq_false (by omega)) ?_
  rw [show k=n by omega]
 | d+1,k,m,h,hm=>by
  obtain ⟨m,rfl⟩:∃ q,m=q+1:=⟨m - 1,by omega⟩
  have ih:=zvT l hl n hn hn2 j d (k+1) m (by omega) (by omega)
  rw [zcJ]
  generalize zaF (fun _ _=>none) (zcg l (n:Int) j) m=ag at ih ⊢
  have hx:l[k]?=some l[k]:=List.getElem?_eq_getElem (by omega)
  rw [znu (by omega),zgK,zhP,show ((k+1:Nat):Int)=(k:Int)+1 by omega] at ih
  have h1:=zft (l:=l.take k) fun c hc=>hl c (List.mem_of_mem_take hc)
  have h2:=hl _ (List.mem_of_getElem? hx)
  have h3:(l.take k).length≤100000:=by rw [List.length_take]; omega
  unfold zcg
  exact zaB (decide_eq_true (by omega)) (zaO (zdG hx) (zbm ⟨by omega,by omega⟩ (zbm ⟨by omega,by omega⟩ ih)))
theorem zp3 (s:ByteArray) (hs:s.size≤100000) (l:List zeX) (hl:∀ c∈l,okC s c) (hn:l.length≤100000):zdT s l=some (zcY (l.take (eN (spB s) l))):=by
 unfold zdT
 refine zby ((zvU s hs l hl hn _ l.length zbT (Nat.le_refl _) (zcm (by omega))).trans (zby ?_))
 rw [List.take_length]
 exact zvT l (fun c hc=>(hl c hc).2.2.2) (eN (spB s) l) (zql _ _) hn _ (eN (spB s) l) 0 zbT (by omega) (zcm (by have:=zql (spB s) l; omega))
section
variable {s:ByteArray} (hs:s.size≤100000)
include hs
end
end Go.Proofs.YtbempdelckaccaaGreatDoor

namespace Go.Proofs.YtbempdelckaccaaGreatDoor
open Go.RowKit Go.Lib
set_option linter.unusedVariables false
set_option linter.unusedSimpArgs false
section
variable {R:Nat→Nat→Bool} {K:Nat→Nat→Int} {n:Nat}
end
section
variable {s:ByteArray} {a b:Int} (hs:s.size≤100000) (ha:0≤a∧a≤1000000) (hb:0≤b∧b≤1000000)
include hs ha hb
end
end Go.Proofs.YtbempdelckaccaaGreatDoor

namespace Go.Proofs.YtbempdelckaccaaGreatDoor
open Go.RowKit Go.Lib
set_option linter.unusedVariables false
set_option linter.unusedSimpArgs false
section
variable {R:Nat→Nat→Bool} {K:Nat→Nat→Int} {n:Nat} (hK:∀ f t,0≤K f t∧K f t≤2000000000000) (h1:∀ f,f<n→R f (f+1)=true)
include hK h1
theorem zno:∀ (k t:Nat),n≤t+k→t≤n→0≤(Bf R K n k t).rows
 | 0,t,_,_=>Int.le_refl _
 | k+1,t,h,ht=>by
  rw [zg4]
  split
  ·rename_i he
   have hl:=(zm3 (R:=R) (K:=K) (n:=n) (T:=Bf R K n k) (f:=t) (fun t y h=>(zii hK (zot hK k) h).2) (n - t) (t+1) bm).2
   have hf:=zno k (t+1) (by omega)
   by_cases hn:t+1<n
   ·have hc:zgN R K n (Bf R K n k) t (t+1)=some ⟨K t (t+1)+(Bf R K n k (t+1)).cost,(Bf R K n k (t+1)).rows+1,((t+1:Nat):Int)⟩:=by
     unfold zgN
     have:=hf (by omega)
     rw [if_pos (h1 t (by omega)),if_pos hn,if_neg (by omega)]
    exact (hl (t+1) _ (Nat.le_refl _) (by omega) hc).1
   ·have hc:zgN R K n (Bf R K n k) t (t+1)=some ⟨0,1,((t+1:Nat):Int)⟩:=by
     unfold zgN
     rw [if_pos (h1 t (by omega)),if_neg hn]
    exact (hl (t+1) _ (Nat.le_refl _) (by omega) hc).1
  ·exact zno k t (by omega) ht
theorem zvb (t:Nat) (ht:t≤n):0≤(BB R K n t).rows:=zno hK h1 n t (by omega) ht
theorem zss {f:Nat} (hf:f<n):∃ t:Nat,(BB R K n f).to_=(t:Int)∧f<t∧t≤n∧R f t=true:=by
 obtain ⟨t,h2,h3,h4,h5,_⟩:=zwS (R:=R) (K:=K) hK hf (zvb hK h1 f (by omega))
 exact ⟨t,h2,h3,h4,h5⟩
end
def zqk (T:Nat→Bst) (n:Nat):Nat→Nat→List Nat
 | 0,_=>[]
 | m+1,f=>if f<n then (T f).to_.toNat::zqk T n m (T f).to_.toNat else []
def zqv (R:Nat→Nat→Bool) (n:Nat):Nat→List Nat→Prop
 | f,[]=>f=n
 | f,t::ts=>f<t∧t≤n∧R f t=true∧zqv R n t ts
theorem zhN {R:Nat→Nat→Bool} {K:Nat→Nat→Int} {n:Nat} (hK:∀ f t,0≤K f t∧K f t≤2000000000000) (h1:∀ f,f<n→R f (f+1)=true):∀ (m f:Nat),f≤n→n≤f+m→zqv R n f (zqk (BB R K n) n m f)
 | 0,f,hf,hm=>show f=n by omega
 | m+1,f,hf,hm=>by
  unfold zqk
  split
  ·rename_i h
   obtain ⟨t,h2,h3,h4,h5⟩:=zss hK h1 h
   rw [h2,Int.toNat_natCast]
   exact ⟨h3,h4,h5,zhN hK h1 m t h4 (by omega)⟩
  ·show f=n; omega
end Go.Proofs.YtbempdelckaccaaGreatDoor

namespace Go.Proofs.YtbempdelckaccaaGreatDoor
open Go.RowKit Go.Lib
set_option linter.unusedVariables false
set_option linter.unusedSimpArgs false
theorem zvC (R:Nat→Nat→Bool) (K:Nat→Nat→Int) (n:Nat):zf7 (Bf R K n 0) n=List.replicate (n+1) b0:=by
 apply List.ext_getElem?
 intro j
 by_cases hj:j≤n
 ·rw [zeQ _ _ j hj,List.getElem?_replicate,if_pos (by omega)]; rfl
 ·rw [List.getElem?_eq_none (by rw [zgP]; omega),List.getElem?_eq_none (by rw [List.length_replicate]; omega)]
section
variable {s:ByteArray} {a b:Int} (hs:s.size≤100000) (ha:0≤a∧a≤1000000) (hb:0≤b∧b≤1000000)
include hs ha hb
end
theorem zrX (s:ByteArray):zbU s 0 (s.size:Int)=s:=by
 apply ByteArray.ext; apply Array.toList_inj.1
 have:=zgJ s 0 s.size
 rw [show ((0:Nat):Int)=0 from rfl,Int.zero_add,List.drop_zero] at this
 rw [this,List.take_of_length_le (by simp)]
theorem zrW (s:ByteArray) (a b c:Int) (h:0≤a∧a≤b∧b≤c):zbU s a b++zbU s b c=zbU s a c:=by
 obtain ⟨p,rfl⟩:∃ p:Nat,a=p:=⟨a.toNat,by omega⟩
 obtain ⟨m,rfl⟩:∃ m:Nat,b=(p:Int)+m:=⟨(b - p).toNat,by omega⟩
 obtain ⟨n,rfl⟩:∃ n:Nat,c=((p+m:Nat):Int)+n:=⟨(c - p - m).toNat,by omega⟩
 apply ByteArray.ext; apply Array.toList_inj.1
 have h1:=zgJ s p m
 have h2:=zgJ s (p+m) n
 have h3:=zgJ s p (m+n)
 rw [show (p:Int)+((m+n:Nat):Int)=((p+m:Nat):Int)+(n:Int) by omega] at h3
 rw [show ((p+m:Nat):Int)=(p:Int)+(m:Int) by omega] at h2 h3 ⊢
 rw [ByteArray.data_append,Array.toList_append,h1,h2,h3,List.take_add,List.drop_drop]
theorem ztg (s:ByteArray) (a:Int) (h:0≤a):zbU s a a=⟨#[]⟩:=by
 obtain ⟨p,rfl⟩:∃ p:Nat,a=p:=⟨a.toNat,by omega⟩
 apply ByteArray.ext; apply Array.toList_inj.1
 have:=zgJ s p 0
 rw [show (p:Int)+((0:Nat):Int)=(p:Int) by omega] at this
 rw [this]; rfl
theorem zof (s:ByteArray):∀ (ts:List Nat) (f:Nat),zvk (zax s).length f ts→f≤(zax s).length→ztW (zhi s f ts)=zbU s (stN s f) (stN s (ts.getLastD f))
 | [],f,_,hf=>by
  have:=zqT s hf
  show (⟨#[]⟩:ByteArray)=zbU s (stN s f) (stN s f)
  rw [ztg s _ this.1]
 | t::ts,f,⟨h1,h2,h3⟩,hf=>by
  have ih:=zof s ts t h3 h2
  have hl:=zl1 s (t - f) f (by omega)
  rw [show f+(t - f)=t by omega] at hl
  have hr:=zqT s hf
  have hmono:∀ (ts:List Nat) (t:Nat),zvk (zax s).length t ts→t≤(zax s).length→stN s t≤stN s (ts.getLastD t):=by
   intro ts
   induction ts with
   | nil=>intro t _ _; exact Int.le_refl _
   | cons u us ih =>
    intro t ⟨g1,g2,g3⟩ _
    have:=ih u g3 g2
    have hl:=zl1 s (u - t) t (by omega)
    rw [show t+(u - t)=u by omega] at hl
    rw [List.getLastD_cons]; omega
  have:=hmono ts t h3 h2
  show zbU s (stN s f) (stN s t)++ztW (zhi s t ts)=_
  rw [ih,List.getLastD_cons,zrW s _ _ _ ⟨hr.1,by omega,this⟩]
section
variable {s:ByteArray} {a b:Int} (hs:s.size≤100000) (ha:0≤a∧a≤1000000) (hb:0≤b∧b≤1000000)
include hs ha hb
theorem zn4:∀ (m f:Nat),zqj s a b f→f≤(zax s).length→(zax s).length≤f+m→(zn5 s a b m f).getLastD f=(zax s).length
 | 0,f,_,hf,hm=>by show f=_; omega
 | m+1,f,hfe,hf,hm=>by
  unfold zn5
  split
  ·rename_i h
   obtain ⟨t,h1,h2,h3,h4,h5,_⟩:=zoQ hs ha hb hfe h
   rw [h1,Int.toNat_natCast,List.getLastD_cons]
   exact zn4 m t h5 h3 (by omega)
  ·show f=_; omega
theorem zpM:ztW (zhi s 0 (zlR s a b))=s:=by
 rw [zof s _ 0 (ziX hs ha hb _ 0 (zrK hs ha hb) (Nat.zero_le _)) (Nat.zero_le _),zn4 hs ha hb _ 0 (zrK hs ha hb) (Nat.zero_le _) (by omega),zvJ,zvI,zrX]
end
end Go.Proofs.YtbempdelckaccaaGreatDoor

namespace Go.Proofs.YtbempdelckaccaaGreatDoor
open Go.RowKit Go.Lib
set_option linter.unusedVariables false
set_option linter.unusedSimpArgs false
end Go.Proofs.YtbempdelckaccaaGreatDoor

namespace Go.Proofs.YtbempdelckaccaaGreatDoor
open Go.RowKit Go.Lib Go.Shelf
set_option linter.unusedVariables false
set_option linter.unusedSimpArgs false
theorem zuN (r:Nat) (hv:r<55296∨(57343<r∧r≤1114111)) (h:128≤r):2≤(encodeRune (r:Int)).length∧(encodeRune (r:Int)).length≤4∧∀ x∈encodeRune (r:Int),128≤x.toNat:=by
 unfold encodeRune
 rcases zju r hv with ⟨h1,_⟩ | ⟨h1,h2,e⟩ | ⟨h1,h2,e⟩ | ⟨h1,h2,e⟩
 ·omega
 all_goals
  rw [e]
  refine ⟨by simp,by simp,fun x hx => ?_⟩
  simp only [List.map_cons,List.map_nil,List.mem_cons,List.not_mem_nil,or_false] at hx
 ·rcases hx with rfl | rfl <;> rw [zer _ (by omega) (by omega)] <;> omega
 ·rcases hx with rfl | rfl | rfl <;> rw [zer _ (by omega) (by omega)] <;> omega
 ·rcases hx with rfl | rfl | rfl | rfl <;> rw [zer _ (by omega) (by omega)] <;> omega
theorem zuM (r:Nat) (h:r<128):encodeRune (r:Int)=[r.toUInt8]:=by
 unfold encodeRune; rw [encodeRuneZ_one (by omega) (by omega)]; simp
def isE (b:UInt8):Bool:=b==13||b==10
end Go.Proofs.YtbempdelckaccaaGreatDoor

namespace Go.Proofs.YtbempdelckaccaaGreatDoor
open Go.RowKit Go.Lib
set_option linter.unusedVariables false
set_option linter.unusedSimpArgs false
def zdf (s1:ByteArray) (j1:(List Gapi_Place)→(List Gplace_ended)→Int→Int→Int→Int→Int→Int→Int→Option ((Option Gplace_Map)×Int)) (ag1:(List Gapi_Place)→(List Gplace_ended)→Int→Int→Int→Int→Int→Int→Int→Nat→Option ((Option Gplace_Map)×Int)) (m10:List Gapi_Place) (m11:List Gplace_ended) (p16:Int) (p17:Int) (p18:Int) (p19:Int) (p20:Int) (line7:Int) (line8:Int) (m12:Nat):Option ((Option Gplace_Map)×Int) :=
zaw (decide (m12<(pcs s1.data.toList).length)) (
zal ((pcs s1.data.toList)[m12]?) fun (p21:Pc) =>
zbi (fun (j2:Int→Option ((Option Gplace_Map)×Int)) =>
grd (m10.length+1≤2147483648) <|
grd (I64 (p17+1)) <|
grd (I64 (p18+1)) <|
grd (I64 (p20+1)) <|
zaw (decide ((65536:Int)≤(p21.r:Int))) (
grd (I64 ((p18+1)+1)) <|
j2 ((p18+1)+1)
) (
j2 (p18+1)
)
) (fun (p22:Int) =>
zbi (fun (j3:Int→Option ((Option Gplace_Map)×Int)) =>
zaw (((p21.r:Int):Int)==13) (
grd (I64 ((p21.i:Int)+1)) <|
zaw (decide ((((p21.i:Int)+1):Int)<(s1.size:Int))) (
grd (I64 ((p21.i:Int)+1)) <|
zal (zin s1 ((p21.i:Int)+1)) fun (c1:Int) =>
zaw ((c1:Int)==10) (
ag1 (m10++[(⟨(p21.i:Int),p17,p18,p19,p20⟩:Gapi_Place)]) m11 (p21.i:Int) (p17+1) p22 p19 (p20+1) line7 line8 (m12+1)
) (
zaw (((p21.r:Int):Int)==10) (
zaw (decide ((0:Int)<(p21.i:Int))) (
grd (I64 ((p21.i:Int) - 1)) <|
zal (zin s1 ((p21.i:Int) - 1)) fun (c2:Int) =>
zaw ((c2:Int)==13) (
j3 2
) (
zaw (((p21.r:Int):Int) != 13) (
zaw (((p21.r:Int):Int) != 10) (
ag1 (m10++[(⟨(p21.i:Int),p17,p18,p19,p20⟩:Gapi_Place)]) m11 (p21.i:Int) (p17+1) p22 p19 (p20+1) line7 line8 (m12+1)
) (
j3 1
)
) (
j3 1
)
)
) (
zaw (((p21.r:Int):Int) != 13) (
zaw (((p21.r:Int):Int) != 10) (
ag1 (m10++[(⟨(p21.i:Int),p17,p18,p19,p20⟩:Gapi_Place)]) m11 (p21.i:Int) (p17+1) p22 p19 (p20+1) line7 line8 (m12+1)
) (
j3 1
)
) (
j3 1
)
)
) (
zaw (((p21.r:Int):Int) != 13) (
zaw (((p21.r:Int):Int) != 10) (
ag1 (m10++[(⟨(p21.i:Int),p17,p18,p19,p20⟩:Gapi_Place)]) m11 (p21.i:Int) (p17+1) p22 p19 (p20+1) line7 line8 (m12+1)
) (
j3 1
)
) (
j3 1
)
)
)
) (
zaw (((p21.r:Int):Int)==10) (
zaw (decide ((0:Int)<(p21.i:Int))) (
grd (I64 ((p21.i:Int) - 1)) <|
zal (zin s1 ((p21.i:Int) - 1)) fun (c3:Int) =>
zaw ((c3:Int)==13) (
j3 2
) (
zaw (((p21.r:Int):Int) != 13) (
zaw (((p21.r:Int):Int) != 10) (
ag1 (m10++[(⟨(p21.i:Int),p17,p18,p19,p20⟩:Gapi_Place)]) m11 (p21.i:Int) (p17+1) p22 p19 (p20+1) line7 line8 (m12+1)
) (
j3 1
)
) (
j3 1
)
)
) (
zaw (((p21.r:Int):Int) != 13) (
zaw (((p21.r:Int):Int) != 10) (
ag1 (m10++[(⟨(p21.i:Int),p17,p18,p19,p20⟩:Gapi_Place)]) m11 (p21.i:Int) (p17+1) p22 p19 (p20+1) line7 line8 (m12+1)
) (
j3 1
)
) (
j3 1
)
)
) (
zaw (((p21.r:Int):Int) != 13) (
zaw (((p21.r:Int):Int) != 10) (
ag1 (m10++[(⟨(p21.i:Int),p17,p18,p19,p20⟩:Gapi_Place)]) m11 (p21.i:Int) (p17+1) p22 p19 (p20+1) line7 line8 (m12+1)
) (
j3 1
)
) (
j3 1
)
)
)
) (
zaw (((p21.r:Int):Int)==10) (
zaw (decide ((0:Int)<(p21.i:Int))) (
grd (I64 ((p21.i:Int) - 1)) <|
zal (zin s1 ((p21.i:Int) - 1)) fun (c4:Int) =>
zaw ((c4:Int)==13) (
j3 2
) (
zaw (((p21.r:Int):Int) != 13) (
zaw (((p21.r:Int):Int) != 10) (
ag1 (m10++[(⟨(p21.i:Int),p17,p18,p19,p20⟩:Gapi_Place)]) m11 (p21.i:Int) (p17+1) p22 p19 (p20+1) line7 line8 (m12+1)
) (
j3 1
)
) (
j3 1
)
)
) (
zaw (((p21.r:Int):Int) != 13) (
zaw (((p21.r:Int):Int) != 10) (
ag1 (m10++[(⟨(p21.i:Int),p17,p18,p19,p20⟩:Gapi_Place)]) m11 (p21.i:Int) (p17+1) p22 p19 (p20+1) line7 line8 (m12+1)
) (
j3 1
)
) (
j3 1
)
)
) (
zaw (((p21.r:Int):Int) != 13) (
zaw (((p21.r:Int):Int) != 10) (
ag1 (m10++[(⟨(p21.i:Int),p17,p18,p19,p20⟩:Gapi_Place)]) m11 (p21.i:Int) (p17+1) p22 p19 (p20+1) line7 line8 (m12+1)
) (
j3 1
)
) (
j3 1
)
)
)
) (fun (width1:Int) =>
grd (I64 ((p21.i:Int)+1)) <|
grd (I64 (((p21.i:Int)+1) - width1)) <|
grd (m11.length+1≤2147483648) <|
grd (I64 ((p21.i:Int)+1)) <|
grd (I64 (p19+1)) <|
ag1 (m10++[(⟨(p21.i:Int),p17,p18,p19,p20⟩:Gapi_Place)]) (m11++[(⟨line7,((p21.i:Int)+1) - width1,width1,line8⟩:Gplace_ended)]) (p21.i:Int) (p17+1) p22 (p19+1) 0 ((p21.i:Int)+1) ((m10++[(⟨(p21.i:Int),p17,p18,p19,p20⟩:Gapi_Place)]).length:Int) (m12+1)
)
)
) (
j1 m10 m11 p16 p17 p18 p19 p20 line7 line8
)
def zeZ (s1:ByteArray):Option ((Option Gplace_Map)×Int) :=
zaw (decide ((65536:Int)<(s1.size:Int))) (
some (none,3)
) (
zbi (fun (j1:(List Gapi_Place)→(List Gplace_ended)→Int→Int→Int→Int→Int→Int→Int→Option ((Option Gplace_Map)×Int)) =>
zaF (fun _ _ _ _ _ _ _ _ _ _=>none) (zdf s1 j1) zbT ([]:List Gapi_Place) ([]:List Gplace_ended) 0 0 0 0 0 0 0 0
) (fun (m1:List Gapi_Place) (m2:List Gplace_ended) (p1:Int) (p2:Int) (p3:Int) (p4:Int) (p5:Int) (line1:Int) (line2:Int) =>
grd (m1.length+1≤2147483648) <|
grd (m2.length+1≤2147483648) <|
some ((some (⟨s1,m1++[(⟨(s1.size:Int),p2,p3,p4,p5⟩:Gapi_Place)],m2++[(⟨line1,(s1.size:Int),0,line2⟩:Gplace_ended)]⟩:Gplace_Map)),0)
)
)
theorem znO {s1:ByteArray} {r:((Option Gplace_Map)×Int)} (h:zeZ s1=some r):Fn Tryz.prog 45 [.string s1] [] (fun v0:Value=>.tuple #[v0,zI r.2]) (fun v0=>[zmV zex zev 153 v0 r.1]):=by
 unfold zeZ at h
 refine Fn.intro Tryz.func45 rfl Tryz.ntmps45 (by simp) ?_
 intro w0 K
 refine zyG (zyR 2 rfl (zyN ?_))
 refine zkk (β:=Unit) (l:=0) (fun _=>False) (fun _=>[]) (fun _=>[]) rfl ?_ ?_
 ·
  refine zaJ (zyG (zyR 1 rfl (zbS rfl dc rfl Tryz.underlying9 (zaW rfl zcK (zyN ?_)))))
  refine zyB rfl h (fun h => ?_) (fun h => ?_)
  ·
   refine zyG (zyR 2 rfl (zyN (zaE (zaq (zd1 (by simp) (zd0 zex zev 153 ?_))))))
   cases h
   exact zaS (rs:=[.tmp 2,.tmp 3]) (.pointer none) (.inl rfl) Tryz.results45 (.cons (.tmp rfl) (.cons (.tmp rfl) .nil)) rfl (zad [0] kr rfl)
  refine zas (zaI ?_)
  obtain ⟨j1,hj1,h⟩:=zbF h
  refine za1 (β:=(List Gapi_Place)×(List Gplace_ended)×Int×Int×Int×Int×Int×Int×Int×Nat×Hd×Hd×Nat×Nat) 4 rfl (fun b=>j1 b.1 b.2.1 b.2.2.1 b.2.2.2.1 b.2.2.2.2.1 b.2.2.2.2.2.1 b.2.2.2.2.2.2.1 b.2.2.2.2.2.2.2.1 b.2.2.2.2.2.2.2.2.1=some r) (fun b=>[]) (fun b=>[(0,.string s1),(4,zP b.2.2.2.2.2.2.2.2.2.1),(5,zP b.2.2.2.2.2.2.2.2.2.2.2.2.1),(6,zP b.2.2.2.2.2.2.2.2.2.2.2.2.2)]) (fun b=>[cells b.2.2.2.2.2.2.2.2.2.1 [.string s1,b.2.2.2.2.2.2.2.2.2.2.1.v,b.2.2.2.2.2.2.2.2.2.2.2.1.v] 153,zv4 b.2.2.2.2.2.2.2.2.2.2.1.v b.1,zv3 b.2.2.2.2.2.2.2.2.2.2.2.1.v b.2.1,cells b.2.2.2.2.2.2.2.2.2.2.2.2.1 [zI b.2.2.1,zI b.2.2.2.1,zI b.2.2.2.2.1,zI b.2.2.2.2.2.1,zI b.2.2.2.2.2.2.1] 155,cells b.2.2.2.2.2.2.2.2.2.2.2.2.2 [zI b.2.2.2.2.2.2.2.1,zI 0,zI 0,zI b.2.2.2.2.2.2.2.2.1] 157]) (fun cut => ?_) ?_
  ·
   refine zyG (zyR 1 rfl ?_)
   refine za7 (v:=.agg #[.string s1,.slice none 0 0,.slice none 0 0]) (ps:=[(0,.tmp 13)]) rfl dc rfl (fun _=>by kernel_rfl) ?_
   refine zdQ rfl dc rfl (fun b4 => ?_)
   refine zyR 1 rfl (zyH ?_)
   refine za7 (v:=.agg #[zI 0,zI 0,zI 0,zI 0,zI 0]) (ps:=[]) rfl dc rfl (fun _=>by kernel_rfl) ?_
   refine zbc zvr rfl dc (fun b5 => ?_)
   refine za0 (k:=1) (vs:=[zI 0,zI 0,zI 0,zI 0,zI 0]) (l':=[zI 0,zI 0,zI 0,zI 0,zI 0]) zvF rfl rfl rfl rfl rfl (show _≤_ by simp) rfl rfl (zyH ?_)
   refine za7 (v:=.agg #[zI 0,zI 0,zI 0,zI 0]) (ps:=[]) rfl dc rfl (fun _=>by kernel_rfl) ?_
   refine zbc zvq rfl dc (fun b6 => ?_)
   refine za0 (k:=2) (vs:=[zI 0,zI 0,zI 0,zI 0]) (l':=[zI 0,zI 0,zI 0,zI 0]) zl0 rfl rfl rfl rfl rfl (show _≤_ by simp) rfl rfl (zyN (zaJ (zkl (zaI (cut (zyG (zyR 1 rfl ?_)))))))
   refine zfz Tryz.underlying9 rfl dc rfl (fun b7 => ?_)
   refine zyN (zaC (zc1 (enc:=zem) (e:=155) (size:=5) ?_))
   refine zc1 (enc:=zdy) (e:=157) (size:=4) ?_
   refine zbq (β:=Nat×(List Gapi_Place)×(List Gplace_ended)×Int×Int×Int×Int×Int×Int×Int×Nat×Hd×Hd) (fun b=>zaF (fun _ _ _ _ _ _ _ _ _ _=>none) (zdf s1 j1) b.1 b.2.1 b.2.2.1 b.2.2.2.1 b.2.2.2.2.1 b.2.2.2.2.2.1 b.2.2.2.2.2.2.1 b.2.2.2.2.2.2.2.1 b.2.2.2.2.2.2.2.2.1 b.2.2.2.2.2.2.2.2.2.1 b.2.2.2.2.2.2.2.2.2.2.1=some r) (fun b=>[]) (fun b=>[(0,.string s1),(4,zP b4),(5,zP b5),(6,zP b6),(19,zP b7)]) (fun b=>[cells b4 [.string s1,b.2.2.2.2.2.2.2.2.2.2.2.1.v,b.2.2.2.2.2.2.2.2.2.2.2.2.v] 153,zv4 b.2.2.2.2.2.2.2.2.2.2.2.1.v b.2.1,zv3 b.2.2.2.2.2.2.2.2.2.2.2.2.v b.2.2.1,cells b5 [zI b.2.2.2.1,zI b.2.2.2.2.1,zI b.2.2.2.2.2.1,zI b.2.2.2.2.2.2.1,zI b.2.2.2.2.2.2.2.1] 155,cells b6 [zI b.2.2.2.2.2.2.2.2.1,zI 0,zI 0,zI b.2.2.2.2.2.2.2.2.2.1] 157,obj b7 (.stringIter s1 (zfS s1 b.2.2.2.2.2.2.2.2.2.2.1))]) (fun b=>b.1) (zbT,([]:List Gapi_Place),([]:List Gplace_ended),0,0,0,0,0,0,0,0,Hd.nil,Hd.nil) (by exact h) rfl (za5 rfl) (zad [0,4,5,1,2,3] kr rfl) ?_
   rintro ⟨n1,m10,m11,p16,p17,p18,p19,p20,line7,line8,m12,hd8,hd9⟩ h
   cases n1 with
   | zero=>exact zdM h
   | succ n1 =>
    obtain ⟨ag1,hag1⟩:∃ ag,ag=zaF (fun _ _ _ _ _ _ _ _ _ _=>none) (zdf s1 j1) n1:=⟨_,rfl⟩
    have h:zdf s1 j1 ag1 m10 m11 p16 p17 p18 p19 p20 line7 line8 m12=some r:=by rw [hag1]; exact h
    unfold zdf at h
    refine zyG ?_
    refine zfB (b:=decide (m12<(pcs s1.data.toList).length)) (fun hb2 => ?_) (fun hb2 => ?_)
    ·
     have h:=zhY hb2 h
     obtain ⟨p21,hq1,h⟩:=zbw h
     refine zf2 (k:=5) (m:=m12) (p:=p21) rfl dc rfl rfl hq1 (zaY rfl dc rfl rfl (zyN (zaJ (za9 rfl (zas (zaI (zaC ?_)))))))
     obtain ⟨j2,hj2,h⟩:=zbF h
     refine za1 (β:=Int×Hd) 6 rfl (fun b=>j2 b.1=some r) (fun b=>[]) (fun b=>[(0,.string s1),(4,zP b4),(5,zP b5),(6,zP b6),(7,zI (p21.i:Int)),(8,.int .i32 (p21.r:Int)),(19,zP b7)]) (fun b=>[cells b4 [.string s1,b.2.v,hd9.v] 153,zv4 b.2.v (m10++[(⟨(p21.i:Int),p17,p18,p19,p20⟩:Gapi_Place)]),zv3 hd9.v m11,cells b5 [zI (p21.i:Int),zI (p17+1),zI b.1,zI p19,zI (p20+1)] 155,cells b6 [zI line7,zI 0,zI 0,zI line8] 157,obj b7 (.stringIter s1 (zfS s1 (m12+1)))]) (fun cut => ?_) ?_
     ·
      refine zyG (zaY rfl dc rfl rfl (zaY rfl dc rfl rfl (zyR 2 rfl (zyH (zyR 1 rfl (zab zpD rfl dc rfl (show _=0 from rfl) ?_))))))
      refine zaM (k:=3) (l':=[zI (p21.i:Int),zI p17,zI p18,zI p19,zI p20]) zeA rfl rfl rfl rfl rfl (fun _ _=>rfl) rfl ?_
      refine zyN (zaJ ?_)
      obtain ⟨hg1,h⟩:=zbn h
      refine zgs 1 ?_
      refine let vals1:(Nat×Hd)→List (Nat×Nat×Value):=fun b=>[(0,26,zP b4),(1,27,zP b4),(2,28,zP b4),(3,29,.pointer (some ⟨b4,1,none⟩)),(4,30,hd8.v),(5,31,.agg #[zI (p21.i:Int),zI p17,zI p18,zI p19,zI p20]),(6,32,.slice (some ⟨b.1,0,none⟩) 1 1),(7,33,b.2.v)]; let LL1:(Nat→Prop)→(Nat×Hd)→List Asn:=fun D b=>[cells b4 [.string s1,hd8.v,hd9.v] 153,eD D (zv4 hd8.v m10) [(7,zv4 b.2.v (m10++[(⟨(p21.i:Int),p17,p18,p19,p20⟩:Gapi_Place)]))],zv3 hd9.v m11,cells b5 [zI (p21.i:Int),zI p17,zI p18,zI p19,zI p20] 155,cells b6 [zI line7,zI 0,zI 0,zI line8] 157,obj b7 (.stringIter s1 (zfS s1 (m12+1))),eD D emp [(6,cells b.1 [zI (p21.i:Int),zI p17,zI p18,zI p19,zI p20] 155)]]; ?_
      have zhq:zyQ [6,7] LL1:=fun i h D b=>zac rfl (zac (zly rfl h) (zac rfl (zac rfl (zac rfl (zac rfl (zac (zly rfl h) rfl))))))
      refine zd6 (β:=Nat×Hd) 8 ((0:Nat),Hd.nil) vals1 LL1 mixed kr kr dc (fun _=>rfl) (zac rfl (zac zb4 (zfH (zac zb4 rfl)))) (znp zhq (fun _=>rfl) (fun _=>rfl) 2 0 (fun _=>rfl) rfl (zyq zhq rfl (fun _=>rfl) (fun _=>rfl) ?_ (zyq zhq rfl (fun _=>rfl) (fun _=>rfl) ?_ (zi5 zhq rfl (fun _=>rfl) (fun _=>rfl) ?_ (zi5 zhq rfl (fun _=>rfl) (fun _=>rfl) ?_ (zau ?_ (zau ?_ DrawG.nil))))))) ?_
      · exact fun D ⟨b8,hd11⟩ n d c u i=>zay rfl dc (zaa (m:=1) u rfl (d 1 dc)) (zaf 2 u i rfl)
      · exact fun D ⟨b8,hd11⟩ n d c u i=>zab ziO rfl dc (zaa (m:=2) u rfl (d 2 dc)) (show _=1 from rfl) (zaf 3 u i rfl)
      · exact fun D ⟨b8,hd11⟩ n d c u i=>⟨_,(zac rfl (zac (zah (fun hD=>n (c 7 _ rfl hD 4 dc)) zao) (zow rfl))),zam (k:=0) zq5 rfl dc (zaa (m:=3) u rfl (d 3 dc)) rfl rfl (zaf 4 u i rfl)⟩
      · exact fun D ⟨b8,hd11⟩ n d c u i=>⟨_,(zac rfl (zac (zah (fun hD=>n (c 6 _ rfl (c 7 _ rfl hD 6 dc) 5 dc)) zao) (zfH (zac (zah (fun hD=>n (c 6 _ rfl hD 5 dc)) zao) rfl)))),zbb (k:=3) (cs:=[zI (p21.i:Int),zI p17,zI p18,zI p19,zI p20]) ztG rfl dc (za4 (by rfl) rfl) rfl rfl rfl (zaf 5 u i rfl)⟩
      ·
       intro D b hn hd hcl
       obtain ⟨zb0,hd11⟩:=b
       refine zaK (zac rfl (zac (zah (fun hD=>hn (hcl 7 _ rfl hD 6 dc)) zao) (zfH (zac (zah hn zao) rfl)))) ?_
       refine zaR (cs:=[zI (p21.i:Int),zI p17,zI p18,zI p19,zI p20]) (te:=155) (ps:=[(0,.tmp 31)]) rfl dc (evP.cons (zaa (m:=5) rfl rfl (hd 5 dc)) evP.nil) (fun _=>by kernel_rfl) (fun b8 => ?_)
       refine zc5 6 rfl rfl ?_
       exact zaU (b:=(zb0,hd11)) (b8,hd11) 6 (by rfl) (by rfl) rfl (zt2 (zap (fun hD=>absurd hD hn) (zap (fun _=>rfl) rfl))) (zac rfl (zac ((zan (by rfl)).trans (zah (fun hD=>hn (hcl 7 _ rfl hD 6 dc)) zao)) (zfH (zac (zaL (Or.inr rfl) rfl) rfl))))
      ·
       intro D b hn hd hcl
       obtain ⟨b8,zb1⟩:=b
       refine zaK (zac rfl (zac (zah hn zao) (zfH (zac (zaL (hd 6 dc) rfl) rfl)))) ?_
       refine za3 (k:=1) (k2:=6) (ys:=[(⟨(p21.i:Int),p17,p18,p19,p20⟩:Gapi_Place)]) Tryz.underlying150 ztU zgn zgm rfl dc (zaa (m:=4) rfl rfl (hd 4 dc)) (zaa (m:=6) rfl rfl (hd 6 dc)) rfl rfl rfl rfl hg1 (fun v1 => ?_)
       refine zbu (k:=1) rfl (fun hd11 he1 => ?_)
       subst he1
       exact zaU (b:=(b8,zb1)) (b8,hd11) 7 (by rfl) (by rfl) rfl (zjS (zap (fun hD=>absurd hD hn) rfl)) (zac rfl (zac (zaL (Or.inr rfl) rfl) (zfH (zac ((zan (by rfl)).trans (zaL (hd 6 dc) rfl)) rfl))))
      intro D b hall
      obtain ⟨b8,hd11⟩:=b
      refine zaK (zac rfl (zac (zaL (hall 7 dc) rfl) (zfH (zac (zaL (hall 6 dc) rfl) rfl)))) (zay rfl dc rfl (zab ziO rfl dc rfl (show _=1 from rfl) ?_))
      refine zaM (k:=0) (l':=[.string s1,hd11.v,hd9.v]) ztC rfl rfl rfl rfl rfl (fun _ _=>rfl) rfl ?_
      refine zyH (zab zpC rfl dc rfl (show _=1 from rfl) (zam (k:=3) zbr rfl dc rfl rfl rfl ?_))
      obtain ⟨hg2,h⟩:=zbn h
      refine zaW rfl (zaX (r:=p17+1) (IntWalk.i64_in _ hg2)) (zab zpC rfl dc rfl (show _=1 from rfl) ?_)
      refine zaM (k:=3) (l':=[zI (p21.i:Int),zI (p17+1),zI p18,zI p19,zI p20]) zeA rfl rfl rfl rfl rfl (fun _ _=>rfl) rfl ?_
      refine zyH (zab zke rfl dc rfl (show _=2 from rfl) (zam (k:=3) zbr rfl dc rfl rfl rfl ?_))
      obtain ⟨hg3,h⟩:=zbn h
      refine zaW rfl (zaX (r:=p18+1) (IntWalk.i64_in _ hg3)) (zab zke rfl dc rfl (show _=2 from rfl) ?_)
      refine zaM (k:=3) (l':=[zI (p21.i:Int),zI (p17+1),zI (p18+1),zI p19,zI p20]) zeA rfl rfl rfl rfl rfl (fun _ _=>rfl) rfl ?_
      refine zyH (zab zm7 rfl dc rfl (show _=4 from rfl) (zam (k:=3) zbr rfl dc rfl rfl rfl ?_))
      obtain ⟨hg4,h⟩:=zbn h
      refine zaW rfl (zaX (r:=p20+1) (IntWalk.i64_in _ hg4)) (zab zm7 rfl dc rfl (show _=4 from rfl) ?_)
      refine zaM (k:=3) (l':=[zI (p21.i:Int),zI (p17+1),zI (p18+1),zI p19,zI (p20+1)]) zeA rfl rfl rfl rfl rfl (fun _ _=>rfl) rfl ?_
      refine zyN (cut (zyG (zyR 1 rfl (zaW rfl zeq (zyN ?_)))))
      refine zyB rfl h (fun h => ?_) (fun h => ?_)
      ·
       refine zat (zab zke rfl dc rfl (show _=2 from rfl) (zam (k:=3) zbr rfl dc rfl rfl rfl ?_))
       obtain ⟨hg5,h⟩:=zbn h
       refine zaW rfl (zaX (r:=(p18+1)+1) (IntWalk.i64_in _ hg5)) (zab zke rfl dc rfl (show _=2 from rfl) ?_)
       refine zaM (k:=3) (l':=[zI (p21.i:Int),zI (p17+1),zI ((p18+1)+1),zI p19,zI (p20+1)]) zeA rfl rfl rfl rfl rfl (fun _ _=>rfl) rfl ?_
       refine zaQ ?_
       exact zai ((p18+1)+1,hd11) h rfl (za5 rfl) (zad [0,1,2,3,4,5] kr rfl)
      refine zas ?_
      exact zai (p18+1,hd11) h rfl (za5 rfl) (zad [0,1,2,3,4,5] kr rfl)
     rintro ⟨p22,hd10⟩ h
     rw [hj2] at h
     obtain ⟨j3,hj3,h⟩:=zbF h
     refine za1 (β:=Int) 1 rfl (fun b=>j3 b=some r) (fun b=>[]) (fun b=>[(0,.string s1),(4,zP b4),(5,zP b5),(6,zP b6),(7,zI (p21.i:Int)),(9,zI b),(19,zP b7)]) (fun b=>[cells b4 [.string s1,hd10.v,hd9.v] 153,zv4 hd10.v (m10++[(⟨(p21.i:Int),p17,p18,p19,p20⟩:Gapi_Place)]),zv3 hd9.v m11,cells b5 [zI (p21.i:Int),zI (p17+1),zI p22,zI p19,zI (p20+1)] 155,cells b6 [zI line7,zI 0,zI 0,zI line8] 157,obj b7 (.stringIter s1 (zfS s1 (m12+1)))]) (fun cut => ?_) ?_
     ·
      refine zyG (zyR 1 rfl (zyN (cut (zaC (zyG (zyR 1 rfl (zaW rfl zaT (zyR 1 rfl ?_))))))))
      refine zyS (s:=57) rfl h (fun h => ?_) (fun h => ?_)
      ·
       refine zyR 1 rfl ?_
       obtain ⟨hg6,h⟩:=zbn h
       refine zaW rfl (zaX (r:=(p21.i:Int)+1) (IntWalk.i64_in _ hg6)) (zyR 1 rfl (zbS rfl dc rfl Tryz.underlying9 (zaW rfl zbC (zyR 2 rfl ?_))))
       refine zyS (s:=64) rfl h (fun h => ?_) (fun h => ?_)
       ·
        refine zyR 2 rfl ?_
        obtain ⟨hg7,h⟩:=zbn h
        refine zaW rfl (zaX (r:=(p21.i:Int)+1) (IntWalk.i64_in _ hg7)) ?_
        obtain ⟨c1,hq2,h⟩:=zbw h
        refine zcG rfl dc rfl rfl (zbh Tryz.underlying9 hq2) (zaW rfl zaT (zyR 2 rfl (zyN ?_)))
        refine zyB rfl h (fun h => ?_) (fun h => ?_)
        ·
         refine za6 (zcp dc (zak (zav ?_)))
         subst hag1
         exact za8 (n1,m10++[(⟨(p21.i:Int),p17,p18,p19,p20⟩:Gapi_Place)],m11,(p21.i:Int),p17+1,p22,p19,p20+1,line7,line8,m12+1,hd10,hd9) h (Nat.lt_succ_self _) rfl (za5 rfl) (zad [0,1,2,3,4,5] kr rfl)
        refine zyG (zyR 1 rfl (zaW rfl zaT (zyR 1 rfl ?_)))
        refine zyS (s:=74) rfl h (fun h => ?_) (fun h => ?_)
        ·
         refine zyR 1 rfl (zaW rfl zcK (zyR 2 rfl ?_))
         refine zyS (s:=78) rfl h (fun h => ?_) (fun h => ?_)
         ·
          refine zyR 2 rfl ?_
          obtain ⟨hg8,h⟩:=zbn h
          refine zaW rfl (zbG (r:=(p21.i:Int) - 1) (IntWalk.i64_in _ hg8)) ?_
          obtain ⟨c2,hq3,h⟩:=zbw h
          refine zcG rfl dc rfl rfl (zbh Tryz.underlying9 hq3) (zaW rfl zaT (zyR 2 rfl (zyN ?_)))
          refine zyB rfl h (fun h => ?_) (fun h => ?_)
          ·
           refine zat (zyR 1 rfl (zaQ (zag ?_)))
           exact zai 2 h rfl (za5 rfl) (zad [0,1,2,3,4,5] kr rfl)
          refine zyG (zyR 1 rfl (zaW rfl zcc (zyR 1 rfl ?_)))
          refine zyS (s:=88) rfl h (fun h => ?_) (fun h => ?_)
          ·
           refine zyR 1 rfl (zaW rfl zcc (zyR 2 rfl (zyN ?_)))
           refine zyB rfl h (fun h => ?_) (fun h => ?_)
           ·
            refine za6 (zcp dc (zak (zav ?_)))
            subst hag1
            exact za8 (n1,m10++[(⟨(p21.i:Int),p17,p18,p19,p20⟩:Gapi_Place)],m11,(p21.i:Int),p17+1,p22,p19,p20+1,line7,line8,m12+1,hd10,hd9) h (Nat.lt_succ_self _) rfl (za5 rfl) (zad [0,1,2,3,4,5] kr rfl)
           refine zas (zag ?_)
           exact zai 1 h rfl (za5 rfl) (zad [0,1,2,3,4,5] kr rfl)
          refine zyR 4 rfl (zyN (zaN rfl (zas (zag ?_))))
          exact zai 1 h rfl (za5 rfl) (zad [0,1,2,3,4,5] kr rfl)
         refine zyR 7 rfl (zyN (zaN rfl (zyG (zyR 1 rfl (zaW rfl zcc ?_)))))
         refine zyR 1 rfl ?_
         refine zyS (s:=88) rfl h (fun h => ?_) (fun h => ?_)
         ·
          refine zyR 1 rfl (zaW rfl zcc (zyR 2 rfl (zyN ?_)))
          refine zyB rfl h (fun h => ?_) (fun h => ?_)
          ·
           refine za6 (zcp dc (zak (zav ?_)))
           subst hag1
           exact za8 (n1,m10++[(⟨(p21.i:Int),p17,p18,p19,p20⟩:Gapi_Place)],m11,(p21.i:Int),p17+1,p22,p19,p20+1,line7,line8,m12+1,hd10,hd9) h (Nat.lt_succ_self _) rfl (za5 rfl) (zad [0,1,2,3,4,5] kr rfl)
          refine zas (zag ?_)
          exact zai 1 h rfl (za5 rfl) (zad [0,1,2,3,4,5] kr rfl)
         refine zyR 4 rfl (zyN (zaN rfl (zas (zag ?_))))
         exact zai 1 h rfl (za5 rfl) (zad [0,1,2,3,4,5] kr rfl)
        refine zyR 11 rfl (zyN (zaN rfl ?_))
        refine zyG (zyR 1 rfl (zaW rfl zcc (zyR 1 rfl ?_)))
        refine zyS (s:=88) rfl h (fun h => ?_) (fun h => ?_)
        ·
         refine zyR 1 rfl (zaW rfl zcc (zyR 2 rfl (zyN ?_)))
         refine zyB rfl h (fun h => ?_) (fun h => ?_)
         ·
          refine za6 (zcp dc (zak (zav ?_)))
          subst hag1
          exact za8 (n1,m10++[(⟨(p21.i:Int),p17,p18,p19,p20⟩:Gapi_Place)],m11,(p21.i:Int),p17+1,p22,p19,p20+1,line7,line8,m12+1,hd10,hd9) h (Nat.lt_succ_self _) rfl (za5 rfl) (zad [0,1,2,3,4,5] kr rfl)
         refine zas (zag ?_)
         exact zai 1 h rfl (za5 rfl) (zad [0,1,2,3,4,5] kr rfl)
        refine zyR 4 rfl (zyN (zaN rfl (zas (zag ?_))))
        exact zai 1 h rfl (za5 rfl) (zad [0,1,2,3,4,5] kr rfl)
       refine zyR 7 rfl (zyN (zaN rfl (zyG (zyR 1 rfl (zaW rfl zaT ?_)))))
       refine zyR 1 rfl ?_
       refine zyS (s:=74) rfl h (fun h => ?_) (fun h => ?_)
       ·
        refine zyR 1 rfl (zaW rfl zcK (zyR 2 rfl ?_))
        refine zyS (s:=78) rfl h (fun h => ?_) (fun h => ?_)
        ·
         refine zyR 2 rfl ?_
         obtain ⟨hg9,h⟩:=zbn h
         refine zaW rfl (zbG (r:=(p21.i:Int) - 1) (IntWalk.i64_in _ hg9)) ?_
         obtain ⟨c3,hq4,h⟩:=zbw h
         refine zcG rfl dc rfl rfl (zbh Tryz.underlying9 hq4) (zaW rfl zaT (zyR 2 rfl (zyN ?_)))
         refine zyB rfl h (fun h => ?_) (fun h => ?_)
         ·
          refine zat (zyR 1 rfl (zaQ (zag ?_)))
          exact zai 2 h rfl (za5 rfl) (zad [0,1,2,3,4,5] kr rfl)
         refine zyG (zyR 1 rfl (zaW rfl zcc (zyR 1 rfl ?_)))
         refine zyS (s:=88) rfl h (fun h => ?_) (fun h => ?_)
         ·
          refine zyR 1 rfl (zaW rfl zcc (zyR 2 rfl (zyN ?_)))
          refine zyB rfl h (fun h => ?_) (fun h => ?_)
          ·
           refine za6 (zcp dc (zak (zav ?_)))
           subst hag1
           exact za8 (n1,m10++[(⟨(p21.i:Int),p17,p18,p19,p20⟩:Gapi_Place)],m11,(p21.i:Int),p17+1,p22,p19,p20+1,line7,line8,m12+1,hd10,hd9) h (Nat.lt_succ_self _) rfl (za5 rfl) (zad [0,1,2,3,4,5] kr rfl)
          refine zas (zag ?_)
          exact zai 1 h rfl (za5 rfl) (zad [0,1,2,3,4,5] kr rfl)
         refine zyR 4 rfl (zyN (zaN rfl (zas (zag ?_))))
         exact zai 1 h rfl (za5 rfl) (zad [0,1,2,3,4,5] kr rfl)
        refine zyR 7 rfl (zyN (zaN rfl (zyG (zyR 1 rfl (zaW rfl zcc ?_)))))
        refine zyR 1 rfl ?_
        refine zyS (s:=88) rfl h (fun h => ?_) (fun h => ?_)
        ·
         refine zyR 1 rfl (zaW rfl zcc (zyR 2 rfl (zyN ?_)))
         refine zyB rfl h (fun h => ?_) (fun h => ?_)
         ·
          refine za6 (zcp dc (zak (zav ?_)))
          subst hag1
          exact za8 (n1,m10++[(⟨(p21.i:Int),p17,p18,p19,p20⟩:Gapi_Place)],m11,(p21.i:Int),p17+1,p22,p19,p20+1,line7,line8,m12+1,hd10,hd9) h (Nat.lt_succ_self _) rfl (za5 rfl) (zad [0,1,2,3,4,5] kr rfl)
         refine zas (zag ?_)
         exact zai 1 h rfl (za5 rfl) (zad [0,1,2,3,4,5] kr rfl)
        refine zyR 4 rfl (zyN (zaN rfl (zas (zag ?_))))
        exact zai 1 h rfl (za5 rfl) (zad [0,1,2,3,4,5] kr rfl)
       refine zyR 11 rfl (zyN (zaN rfl ?_))
       refine zyG (zyR 1 rfl (zaW rfl zcc (zyR 1 rfl ?_)))
       refine zyS (s:=88) rfl h (fun h => ?_) (fun h => ?_)
       ·
        refine zyR 1 rfl (zaW rfl zcc (zyR 2 rfl (zyN ?_)))
        refine zyB rfl h (fun h => ?_) (fun h => ?_)
        ·
         refine za6 (zcp dc (zak (zav ?_)))
         subst hag1
         exact za8 (n1,m10++[(⟨(p21.i:Int),p17,p18,p19,p20⟩:Gapi_Place)],m11,(p21.i:Int),p17+1,p22,p19,p20+1,line7,line8,m12+1,hd10,hd9) h (Nat.lt_succ_self _) rfl (za5 rfl) (zad [0,1,2,3,4,5] kr rfl)
        refine zas (zag ?_)
        exact zai 1 h rfl (za5 rfl) (zad [0,1,2,3,4,5] kr rfl)
       refine zyR 4 rfl (zyN (zaN rfl (zas (zag ?_))))
       exact zai 1 h rfl (za5 rfl) (zad [0,1,2,3,4,5] kr rfl)
      refine zyR 14 rfl ?_
      refine zyN (zaN rfl (zyG (zyR 1 rfl (zaW rfl zaT (zyR 1 rfl ?_)))))
      refine zyS (s:=74) rfl h (fun h => ?_) (fun h => ?_)
      ·
       refine zyR 1 rfl (zaW rfl zcK (zyR 2 rfl ?_))
       refine zyS (s:=78) rfl h (fun h => ?_) (fun h => ?_)
       ·
        refine zyR 2 rfl ?_
        obtain ⟨hg10,h⟩:=zbn h
        refine zaW rfl (zbG (r:=(p21.i:Int) - 1) (IntWalk.i64_in _ hg10)) ?_
        obtain ⟨c4,hq5,h⟩:=zbw h
        refine zcG rfl dc rfl rfl (zbh Tryz.underlying9 hq5) (zaW rfl zaT (zyR 2 rfl (zyN ?_)))
        refine zyB rfl h (fun h => ?_) (fun h => ?_)
        ·
         refine zat (zyR 1 rfl (zaQ (zag ?_)))
         exact zai 2 h rfl (za5 rfl) (zad [0,1,2,3,4,5] kr rfl)
        refine zyG (zyR 1 rfl (zaW rfl zcc (zyR 1 rfl ?_)))
        refine zyS (s:=88) rfl h (fun h => ?_) (fun h => ?_)
        ·
         refine zyR 1 rfl (zaW rfl zcc (zyR 2 rfl (zyN ?_)))
         refine zyB rfl h (fun h => ?_) (fun h => ?_)
         ·
          refine za6 (zcp dc (zak (zav ?_)))
          subst hag1
          exact za8 (n1,m10++[(⟨(p21.i:Int),p17,p18,p19,p20⟩:Gapi_Place)],m11,(p21.i:Int),p17+1,p22,p19,p20+1,line7,line8,m12+1,hd10,hd9) h (Nat.lt_succ_self _) rfl (za5 rfl) (zad [0,1,2,3,4,5] kr rfl)
         refine zas (zag ?_)
         exact zai 1 h rfl (za5 rfl) (zad [0,1,2,3,4,5] kr rfl)
        refine zyR 4 rfl (zyN (zaN rfl (zas (zag ?_))))
        exact zai 1 h rfl (za5 rfl) (zad [0,1,2,3,4,5] kr rfl)
       refine zyR 7 rfl (zyN (zaN rfl (zyG (zyR 1 rfl (zaW rfl zcc ?_)))))
       refine zyR 1 rfl ?_
       refine zyS (s:=88) rfl h (fun h => ?_) (fun h => ?_)
       ·
        refine zyR 1 rfl (zaW rfl zcc (zyR 2 rfl (zyN ?_)))
        refine zyB rfl h (fun h => ?_) (fun h => ?_)
        ·
         refine za6 (zcp dc (zak (zav ?_)))
         subst hag1
         exact za8 (n1,m10++[(⟨(p21.i:Int),p17,p18,p19,p20⟩:Gapi_Place)],m11,(p21.i:Int),p17+1,p22,p19,p20+1,line7,line8,m12+1,hd10,hd9) h (Nat.lt_succ_self _) rfl (za5 rfl) (zad [0,1,2,3,4,5] kr rfl)
        refine zas (zag ?_)
        exact zai 1 h rfl (za5 rfl) (zad [0,1,2,3,4,5] kr rfl)
       refine zyR 4 rfl (zyN (zaN rfl (zas (zag ?_))))
       exact zai 1 h rfl (za5 rfl) (zad [0,1,2,3,4,5] kr rfl)
      refine zyR 11 rfl (zyN (zaN rfl ?_))
      refine zyG (zyR 1 rfl (zaW rfl zcc (zyR 1 rfl ?_)))
      refine zyS (s:=88) rfl h (fun h => ?_) (fun h => ?_)
      ·
       refine zyR 1 rfl (zaW rfl zcc (zyR 2 rfl (zyN ?_)))
       refine zyB rfl h (fun h => ?_) (fun h => ?_)
       ·
        refine za6 (zcp dc (zak (zav ?_)))
        subst hag1
        exact za8 (n1,m10++[(⟨(p21.i:Int),p17,p18,p19,p20⟩:Gapi_Place)],m11,(p21.i:Int),p17+1,p22,p19,p20+1,line7,line8,m12+1,hd10,hd9) h (Nat.lt_succ_self _) rfl (za5 rfl) (zad [0,1,2,3,4,5] kr rfl)
       refine zas (zag ?_)
       exact zai 1 h rfl (za5 rfl) (zad [0,1,2,3,4,5] kr rfl)
      refine zyR 4 rfl (zyN (zaN rfl (zas (zag ?_))))
      exact zai 1 h rfl (za5 rfl) (zad [0,1,2,3,4,5] kr rfl)
     rintro width1 h
     rw [hj3] at h
     refine zyG (zyR 1 rfl ?_)
     obtain ⟨hg11,h⟩:=zbn h
     refine zaW rfl (zaX (r:=(p21.i:Int)+1) (IntWalk.i64_in _ hg11)) (zyR 1 rfl ?_)
     obtain ⟨hg12,h⟩:=zbn h
     refine zaW rfl (zbG (r:=((p21.i:Int)+1) - width1) (IntWalk.i64_in _ hg12)) (zab zkd rfl dc rfl (show _=0 from rfl) (zab zdY rfl dc rfl (show _=1 from rfl) ?_))
     refine zaM (k:=4) (l':=[zI line7,zI (((p21.i:Int)+1) - width1),zI 0,zI line8]) zeA rfl rfl rfl rfl rfl (fun _ _=>rfl) rfl ?_
     refine zyH (zyR 1 rfl (zab zm6 rfl dc rfl (show _=2 from rfl) ?_))
     refine zaM (k:=4) (l':=[zI line7,zI (((p21.i:Int)+1) - width1),zI width1,zI line8]) zeA rfl rfl rfl rfl rfl (fun _ _=>rfl) rfl ?_
     refine zyN (zaJ ?_)
     obtain ⟨hg13,h⟩:=zbn h
     refine zgs 1 ?_
     refine let vals2:(Nat×Hd)→List (Nat×Nat×Value):=fun b=>[(0,100,zP b4),(1,101,zP b4),(2,102,zP b4),(3,103,.pointer (some ⟨b4,2,none⟩)),(4,104,hd9.v),(5,105,.agg #[zI line7,zI (((p21.i:Int)+1) - width1),zI width1,zI line8]),(6,106,.slice (some ⟨b.1,0,none⟩) 1 1),(7,107,b.2.v)]; let LL2:(Nat→Prop)→(Nat×Hd)→List Asn:=fun D b=>[cells b4 [.string s1,hd10.v,hd9.v] 153,zv4 hd10.v (m10++[(⟨(p21.i:Int),p17,p18,p19,p20⟩:Gapi_Place)]),eD D (zv3 hd9.v m11) [(7,zv3 b.2.v (m11++[(⟨line7,((p21.i:Int)+1) - width1,width1,line8⟩:Gplace_ended)]))],cells b5 [zI (p21.i:Int),zI (p17+1),zI p22,zI p19,zI (p20+1)] 155,cells b6 [zI line7,zI (((p21.i:Int)+1) - width1),zI width1,zI line8] 157,obj b7 (.stringIter s1 (zfS s1 (m12+1))),eD D emp [(6,cells b.1 [zI line7,zI (((p21.i:Int)+1) - width1),zI width1,zI line8] 157)]]; ?_
     refine zd6 (β:=Nat×Hd) 8 ((0:Nat),Hd.nil) vals2 LL2 mixed kr kr dc (fun _=>rfl) (zeo (zac zb4 (zcA (zac zb4 rfl)))) (zau ?_ (zau ?_ (zau ?_ (zau ?_ (zau ?_ (zau ?_ (zau ?_ (zau ?_ DrawG.nil)))))))) ?_
     ·
      intro D b hn hd hcl
      obtain ⟨b9,hd12⟩:=b
      refine zaK (zwV rfl) (zfA rfl dc (za4 (by rfl) rfl) ?_)
      exact zaU (b:=(b9,hd12)) (b9,hd12) 0 (by rfl) (by rfl) rfl (zi6 rfl) (zeo (zac (zan (by rfl)) (zcA (zac (zan (by rfl)) rfl))))
     ·
      intro D b hn hd hcl
      obtain ⟨b9,hd12⟩:=b
      refine zaK (zeo (zac (zah (fun hD=>hn (hcl 2 _ rfl (hcl 3 _ rfl (hcl 4 _ rfl (hcl 7 _ rfl hD 4 dc) 3 dc) 2 dc) 1 dc)) zao) (zfH rfl))) ?_
      refine zfA rfl dc (za4 (by rfl) rfl) ?_
      exact zaU (b:=(b9,hd12)) (b9,hd12) 1 (by rfl) (by rfl) rfl (zi6 rfl) (zeo (zac ((zan (by rfl)).trans (zah (fun hD=>hn (hcl 2 _ rfl (hcl 3 _ rfl (hcl 4 _ rfl (hcl 7 _ rfl hD 4 dc) 3 dc) 2 dc) 1 dc)) zao)) (zcA (zac (zan (by rfl)) rfl))))
     ·
      intro D b hn hd hcl
      obtain ⟨b9,hd12⟩:=b
      refine zaK (zeo (zac (zah (fun hD=>hn (hcl 3 _ rfl (hcl 4 _ rfl (hcl 7 _ rfl hD 4 dc) 3 dc) 2 dc)) zao) (zfH rfl))) ?_
      refine zay rfl dc (zaa (m:=1) rfl rfl (hd 1 dc)) ?_
      exact zaU (b:=(b9,hd12)) (b9,hd12) 2 (by rfl) (by rfl) rfl (zi6 rfl) (zeo (zac ((zan (by rfl)).trans (zah (fun hD=>hn (hcl 3 _ rfl (hcl 4 _ rfl (hcl 7 _ rfl hD 4 dc) 3 dc) 2 dc)) zao)) (zcA (zac (zan (by rfl)) rfl))))
     ·
      intro D b hn hd hcl
      obtain ⟨b9,hd12⟩:=b
      refine zaK (zeo (zac (zah (fun hD=>hn (hcl 4 _ rfl (hcl 7 _ rfl hD 4 dc) 3 dc)) zao) (zfH rfl))) ?_
      refine zab zfE rfl dc (zaa (m:=2) rfl rfl (hd 2 dc)) (show _=2 from rfl) ?_
      exact zaU (b:=(b9,hd12)) (b9,hd12) 3 (by rfl) (by rfl) rfl (zi6 rfl) (zeo (zac ((zan (by rfl)).trans (zah (fun hD=>hn (hcl 4 _ rfl (hcl 7 _ rfl hD 4 dc) 3 dc)) zao)) (zcA (zac (zan (by rfl)) rfl))))
     ·
      intro D b hn hd hcl
      obtain ⟨b9,hd12⟩:=b
      refine zaK (zeo (zac (zah (fun hD=>hn (hcl 7 _ rfl hD 4 dc)) zao) (zfH rfl))) ?_
      refine zam (k:=0) zjI rfl dc (zaa (m:=3) rfl rfl (hd 3 dc)) rfl rfl ?_
      exact zaU (b:=(b9,hd12)) (b9,hd12) 4 (by rfl) (by rfl) rfl (zi6 rfl) (zeo (zac ((zan (by rfl)).trans (zah (fun hD=>hn (hcl 7 _ rfl hD 4 dc)) zao)) (zcA (zac (zan (by rfl)) rfl))))
     ·
      intro D b hn hd hcl
      obtain ⟨b9,hd12⟩:=b
      refine zaK (zeo (zac (zah (fun hD=>hn (hcl 6 _ rfl (hcl 7 _ rfl hD 6 dc) 5 dc)) zao) (zcA (zac (zah (fun hD=>hn (hcl 6 _ rfl hD 5 dc)) zao) rfl)))) ?_
      refine zbb (k:=4) (cs:=[zI line7,zI (((p21.i:Int)+1) - width1),zI width1,zI line8]) ztF rfl dc (za4 (by rfl) rfl) rfl rfl rfl ?_
      exact zaU (b:=(b9,hd12)) (b9,hd12) 5 (by rfl) (by rfl) rfl (zi6 rfl) (zeo (zac ((zan (by rfl)).trans (zah (fun hD=>hn (hcl 6 _ rfl (hcl 7 _ rfl hD 6 dc) 5 dc)) zao)) (zcA (zac ((zan (by rfl)).trans (zah (fun hD=>hn (hcl 6 _ rfl hD 5 dc)) zao)) rfl))))
     ·
      intro D b hn hd hcl
      obtain ⟨zb0,hd12⟩:=b
      refine zaK (zeo (zac (zah (fun hD=>hn (hcl 7 _ rfl hD 6 dc)) zao) (zcA (zac (zah hn zao) rfl)))) ?_
      refine zaR (cs:=[zI line7,zI (((p21.i:Int)+1) - width1),zI width1,zI line8]) (te:=157) (ps:=[(0,.tmp 105)]) rfl dc (evP.cons (zaa (m:=5) rfl rfl (hd 5 dc)) evP.nil) (fun _=>by kernel_rfl) (fun b9 => ?_)
      refine zc5 6 rfl rfl ?_
      exact zaU (b:=(zb0,hd12)) (b9,hd12) 6 (by rfl) (by rfl) rfl (zt2 (zap (fun hD=>absurd hD hn) (zap (fun _=>rfl) rfl))) (zeo (zac ((zan (by rfl)).trans (zah (fun hD=>hn (hcl 7 _ rfl hD 6 dc)) zao)) (zcA (zac (zaL (Or.inr rfl) rfl) rfl))))
     ·
      intro D b hn hd hcl
      obtain ⟨b9,zb1⟩:=b
      refine zaK (zeo (zac (zah hn zao) (zcA (zac (zaL (hd 6 dc) rfl) rfl)))) ?_
      refine za3 (k:=2) (k2:=6) (ys:=[(⟨line7,((p21.i:Int)+1) - width1,width1,line8⟩:Gplace_ended)]) Tryz.underlying151 ztT zcI zfR rfl dc (zaa (m:=4) rfl rfl (hd 4 dc)) (zaa (m:=6) rfl rfl (hd 6 dc)) rfl rfl rfl rfl hg13 (fun v2 => ?_)
      refine zbu (k:=2) rfl (fun hd12 he2 => ?_)
      subst he2
      exact zaU (b:=(b9,zb1)) (b9,hd12) 7 (by rfl) (by rfl) rfl (zjS (zap (fun hD=>absurd hD hn) rfl)) (zeo (zac (zaL (Or.inr rfl) rfl) (zcA (zac ((zan (by rfl)).trans (zaL (hd 6 dc) rfl)) rfl))))
     intro D b hall
     obtain ⟨b9,hd12⟩:=b
     refine zaK (zeo (zac (zaL (hall 7 dc) rfl) (zcA (zac (zaL (hall 6 dc) rfl) rfl)))) (zay rfl dc rfl (zab zfE rfl dc rfl (show _=2 from rfl) ?_))
     refine zaM (k:=0) (l':=[.string s1,hd10.v,hd12.v]) ztB rfl rfl rfl rfl rfl (fun _ _=>rfl) rfl ?_
     refine zyH (zyR 1 rfl ?_)
     obtain ⟨hg14,h⟩:=zbn h
     refine zaW rfl (zaX (r:=(p21.i:Int)+1) (IntWalk.i64_in _ hg14)) ?_
     refine za7 (v:=.agg #[zI ((p21.i:Int)+1),zI 0]) (ps:=[(0,.tmp 111)]) rfl dc rfl (fun _=>by kernel_rfl) ?_
     refine zyR 1 rfl (zay rfl dc rfl (zab ziO rfl dc rfl (show _=1 from rfl) (zam (k:=0) zq5 rfl dc rfl rfl rfl (zbl (k:=1) rfl dc rfl rfl Tryz.underlying150 ?_))))
     refine za7 (v:=.agg #[zI ((p21.i:Int)+1),zI 0,zI 0,zI ((m10++[(⟨(p21.i:Int),p17,p18,p19,p20⟩:Gapi_Place)]).length:Int)]) (ps:=[(0,.tmp 112),(2,.tmp 117)]) rfl dc rfl (fun _=>by kernel_rfl) ?_
     refine za0 (k:=4) (vs:=[zI ((p21.i:Int)+1),zI 0,zI 0,zI ((m10++[(⟨(p21.i:Int),p17,p18,p19,p20⟩:Gapi_Place)]).length:Int)]) (l':=[zI ((p21.i:Int)+1),zI 0,zI 0,zI ((m10++[(⟨(p21.i:Int),p17,p18,p19,p20⟩:Gapi_Place)]).length:Int)]) zl0 rfl rfl rfl rfl rfl (show _≤_ by simp) rfl rfl ?_
     refine zyH (zab zpB rfl dc rfl (show _=3 from rfl) (zam (k:=3) zbr rfl dc rfl rfl rfl ?_))
     obtain ⟨hg15,h⟩:=zbn h
     refine zaW rfl (zaX (r:=p19+1) (IntWalk.i64_in _ hg15)) (zab zpB rfl dc rfl (show _=3 from rfl) ?_)
     refine zaM (k:=3) (l':=[zI (p21.i:Int),zI (p17+1),zI p22,zI (p19+1),zI (p20+1)]) zeA rfl rfl rfl rfl rfl (fun _ _=>rfl) rfl ?_
     refine zyN (zat (zab zm7 rfl dc rfl (show _=4 from rfl) ?_))
     refine zaM (k:=3) (l':=[zI (p21.i:Int),zI (p17+1),zI p22,zI (p19+1),zI 0]) zeA rfl rfl rfl rfl rfl (fun _ _=>rfl) rfl ?_
     refine zaQ (zag ?_)
     subst hag1
     exact za8 (n1,m10++[(⟨(p21.i:Int),p17,p18,p19,p20⟩:Gapi_Place)],m11++[(⟨line7,((p21.i:Int)+1) - width1,width1,line8⟩:Gplace_ended)],(p21.i:Int),p17+1,p22,p19+1,0,(p21.i:Int)+1,((m10++[(⟨(p21.i:Int),p17,p18,p19,p20⟩:Gapi_Place)]).length:Int),m12+1,hd10,hd12) h (Nat.lt_succ_self _) rfl (za5 rfl) (zad [0,1,2,3,4,5] kr rfl)
    have h:=zhZ hb2 h
    refine zf3 (k:=5) (m:=m12) rfl dc rfl rfl (Nat.le_of_not_lt (of_decide_eq_false hb2)) (zaY rfl dc rfl rfl (zyN (zaJ (zaN rfl (za6 (zak (zak (zav ?_))))))))
    exact zai (m10,m11,p16,p17,p18,p19,p20,line7,line8,b4,hd8,hd9,b5,b6) h rfl (za5 rfl) (zad [0,1,2,3,4] kr rfl)
  rintro ⟨m1,m2,p1,p2,p3,p4,p5,line1,line2,b1,hd1,hd2,b2,b3⟩ h
  rw [hj1] at h
  refine zyG (zyR 1 rfl (zbS rfl dc rfl Tryz.underlying9 (zab zpD rfl dc rfl (show _=0 from rfl) ?_)))
  refine zaM (k:=3) (l':=[zI (s1.size:Int),zI p2,zI p3,zI p4,zI p5]) zeA rfl rfl rfl rfl rfl (fun _ _=>rfl) rfl ?_
  refine zyN (zaJ ?_)
  obtain ⟨hg16,h⟩:=zbn h
  refine zgs 1 ?_
  refine let vals3:(Nat×Hd)→List (Nat×Nat×Value):=fun b=>[(0,127,zP b1),(1,128,zP b1),(2,129,zP b1),(3,130,.pointer (some ⟨b1,1,none⟩)),(4,131,hd1.v),(5,132,.agg #[zI (s1.size:Int),zI p2,zI p3,zI p4,zI p5]),(6,133,.slice (some ⟨b.1,0,none⟩) 1 1),(7,134,b.2.v)]; let LL3:(Nat→Prop)→(Nat×Hd)→List Asn:=fun D b=>[cells b1 [.string s1,hd1.v,hd2.v] 153,eD D (zv4 hd1.v m1) [(7,zv4 b.2.v (m1++[(⟨(s1.size:Int),p2,p3,p4,p5⟩:Gapi_Place)]))],zv3 hd2.v m2,cells b2 [zI (s1.size:Int),zI p2,zI p3,zI p4,zI p5] 155,cells b3 [zI line1,zI 0,zI 0,zI line2] 157,eD D emp [(6,cells b.1 [zI (s1.size:Int),zI p2,zI p3,zI p4,zI p5] 155)]]; ?_
  refine zd6 (β:=Nat×Hd) 8 ((0:Nat),Hd.nil) vals3 LL3 mixed kr kr dc (fun _=>rfl) (zac rfl (zac zb4 (zcA (zac zb4 rfl)))) (zau ?_ (zau ?_ (zau ?_ (zau ?_ (zau ?_ (zau ?_ (zau ?_ (zau ?_ DrawG.nil)))))))) ?_
  ·
   intro D b hn hd hcl
   obtain ⟨b10,hd13⟩:=b
   refine zaK (zt0 rfl) (zfA rfl dc (za4 (by rfl) rfl) ?_)
   exact zaU (b:=(b10,hd13)) (b10,hd13) 0 (by rfl) (by rfl) rfl (zi6 rfl) (zac rfl (zac (zan (by rfl)) (zcA (zac (zan (by rfl)) rfl))))
  ·
   intro D b hn hd hcl
   obtain ⟨b10,hd13⟩:=b
   refine zaK (zac rfl (zac (zah (fun hD=>hn (hcl 2 _ rfl (hcl 3 _ rfl (hcl 4 _ rfl (hcl 7 _ rfl hD 4 dc) 3 dc) 2 dc) 1 dc)) zao) (zfH rfl))) ?_
   refine zfA rfl dc (za4 (by rfl) rfl) ?_
   exact zaU (b:=(b10,hd13)) (b10,hd13) 1 (by rfl) (by rfl) rfl (zi6 rfl) (zac rfl (zac ((zan (by rfl)).trans (zah (fun hD=>hn (hcl 2 _ rfl (hcl 3 _ rfl (hcl 4 _ rfl (hcl 7 _ rfl hD 4 dc) 3 dc) 2 dc) 1 dc)) zao)) (zcA (zac (zan (by rfl)) rfl))))
  ·
   intro D b hn hd hcl
   obtain ⟨b10,hd13⟩:=b
   refine zaK (zac rfl (zac (zah (fun hD=>hn (hcl 3 _ rfl (hcl 4 _ rfl (hcl 7 _ rfl hD 4 dc) 3 dc) 2 dc)) zao) (zfH rfl))) ?_
   refine zay rfl dc (zaa (m:=1) rfl rfl (hd 1 dc)) ?_
   exact zaU (b:=(b10,hd13)) (b10,hd13) 2 (by rfl) (by rfl) rfl (zi6 rfl) (zac rfl (zac ((zan (by rfl)).trans (zah (fun hD=>hn (hcl 3 _ rfl (hcl 4 _ rfl (hcl 7 _ rfl hD 4 dc) 3 dc) 2 dc)) zao)) (zcA (zac (zan (by rfl)) rfl))))
  ·
   intro D b hn hd hcl
   obtain ⟨b10,hd13⟩:=b
   refine zaK (zac rfl (zac (zah (fun hD=>hn (hcl 4 _ rfl (hcl 7 _ rfl hD 4 dc) 3 dc)) zao) (zfH rfl))) ?_
   refine zab ziO rfl dc (zaa (m:=2) rfl rfl (hd 2 dc)) (show _=1 from rfl) ?_
   exact zaU (b:=(b10,hd13)) (b10,hd13) 3 (by rfl) (by rfl) rfl (zi6 rfl) (zac rfl (zac ((zan (by rfl)).trans (zah (fun hD=>hn (hcl 4 _ rfl (hcl 7 _ rfl hD 4 dc) 3 dc)) zao)) (zcA (zac (zan (by rfl)) rfl))))
  ·
   intro D b hn hd hcl
   obtain ⟨b10,hd13⟩:=b
   refine zaK (zac rfl (zac (zah (fun hD=>hn (hcl 7 _ rfl hD 4 dc)) zao) (zfH rfl))) ?_
   refine zam (k:=0) zq5 rfl dc (zaa (m:=3) rfl rfl (hd 3 dc)) rfl rfl ?_
   exact zaU (b:=(b10,hd13)) (b10,hd13) 4 (by rfl) (by rfl) rfl (zi6 rfl) (zac rfl (zac ((zan (by rfl)).trans (zah (fun hD=>hn (hcl 7 _ rfl hD 4 dc)) zao)) (zcA (zac (zan (by rfl)) rfl))))
  ·
   intro D b hn hd hcl
   obtain ⟨b10,hd13⟩:=b
   refine zaK (zac rfl (zac (zah (fun hD=>hn (hcl 6 _ rfl (hcl 7 _ rfl hD 6 dc) 5 dc)) zao) (zcA (zac (zah (fun hD=>hn (hcl 6 _ rfl hD 5 dc)) zao) rfl)))) ?_
   refine zbb (k:=3) (cs:=[zI (s1.size:Int),zI p2,zI p3,zI p4,zI p5]) ztG rfl dc (za4 (by rfl) rfl) rfl rfl rfl ?_
   exact zaU (b:=(b10,hd13)) (b10,hd13) 5 (by rfl) (by rfl) rfl (zi6 rfl) (zac rfl (zac ((zan (by rfl)).trans (zah (fun hD=>hn (hcl 6 _ rfl (hcl 7 _ rfl hD 6 dc) 5 dc)) zao)) (zcA (zac ((zan (by rfl)).trans (zah (fun hD=>hn (hcl 6 _ rfl hD 5 dc)) zao)) rfl))))
  ·
   intro D b hn hd hcl
   obtain ⟨zb0,hd13⟩:=b
   refine zaK (zac rfl (zac (zah (fun hD=>hn (hcl 7 _ rfl hD 6 dc)) zao) (zcA (zac (zah hn zao) rfl)))) ?_
   refine zaR (cs:=[zI (s1.size:Int),zI p2,zI p3,zI p4,zI p5]) (te:=155) (ps:=[(0,.tmp 132)]) rfl dc (evP.cons (zaa (m:=5) rfl rfl (hd 5 dc)) evP.nil) (fun _=>by kernel_rfl) (fun b10 => ?_)
   refine zc5 5 rfl rfl ?_
   exact zaU (b:=(zb0,hd13)) (b10,hd13) 6 (by rfl) (by rfl) rfl (zt2 (zap (fun hD=>absurd hD hn) (zap (fun _=>rfl) rfl))) (zac rfl (zac ((zan (by rfl)).trans (zah (fun hD=>hn (hcl 7 _ rfl hD 6 dc)) zao)) (zcA (zac (zaL (Or.inr rfl) rfl) rfl))))
  ·
   intro D b hn hd hcl
   obtain ⟨b10,zb1⟩:=b
   refine zaK (zac rfl (zac (zah hn zao) (zcA (zac (zaL (hd 6 dc) rfl) rfl)))) ?_
   refine za3 (k:=1) (k2:=5) (ys:=[(⟨(s1.size:Int),p2,p3,p4,p5⟩:Gapi_Place)]) Tryz.underlying150 ztU zgn zgm rfl dc (zaa (m:=4) rfl rfl (hd 4 dc)) (zaa (m:=6) rfl rfl (hd 6 dc)) rfl rfl rfl rfl hg16 (fun v3 => ?_)
   refine zbu (k:=1) rfl (fun hd13 he3 => ?_)
   subst he3
   exact zaU (b:=(b10,zb1)) (b10,hd13) 7 (by rfl) (by rfl) rfl (zjS (zap (fun hD=>absurd hD hn) rfl)) (zac rfl (zac (zaL (Or.inr rfl) rfl) (zcA (zac ((zan (by rfl)).trans (zaL (hd 6 dc) rfl)) rfl))))
  intro D b hall
  obtain ⟨b10,hd13⟩:=b
  refine zaK (zac rfl (zac (zaL (hall 7 dc) rfl) (zcA (zac (zaL (hall 6 dc) rfl) rfl)))) (zay rfl dc rfl (zab ziO rfl dc rfl (show _=1 from rfl) ?_))
  refine zaM (k:=0) (l':=[.string s1,hd13.v,hd2.v]) ztC rfl rfl rfl rfl rfl (fun _ _=>rfl) rfl ?_
  refine zyH (zyR 1 rfl (zbS rfl dc rfl Tryz.underlying9 (zab zkd rfl dc rfl (show _=0 from rfl) (zab zdY rfl dc rfl (show _=1 from rfl) ?_))))
  refine zaM (k:=4) (l':=[zI line1,zI (s1.size:Int),zI 0,zI line2]) zeA rfl rfl rfl rfl rfl (fun _ _=>rfl) rfl ?_
  refine zyN (zaJ ?_)
  obtain ⟨hg17,h⟩:=zbn h
  refine zgs 1 ?_
  refine let vals4:(Nat×Hd)→List (Nat×Nat×Value):=fun b=>[(0,141,zP b1),(1,142,zP b1),(2,143,zP b1),(3,144,.pointer (some ⟨b1,2,none⟩)),(4,145,hd2.v),(5,146,.agg #[zI line1,zI (s1.size:Int),zI 0,zI line2]),(6,147,.slice (some ⟨b.1,0,none⟩) 1 1),(7,148,b.2.v)]; let LL4:(Nat→Prop)→(Nat×Hd)→List Asn:=fun D b=>[cells b1 [.string s1,hd13.v,hd2.v] 153,zv4 hd13.v (m1++[(⟨(s1.size:Int),p2,p3,p4,p5⟩:Gapi_Place)]),eD D (zv3 hd2.v m2) [(7,zv3 b.2.v (m2++[(⟨line1,(s1.size:Int),0,line2⟩:Gplace_ended)]))],cells b2 [zI (s1.size:Int),zI p2,zI p3,zI p4,zI p5] 155,cells b3 [zI line1,zI (s1.size:Int),zI 0,zI line2] 157,cells b10 [zI (s1.size:Int),zI p2,zI p3,zI p4,zI p5] 155,eD D emp [(6,cells b.1 [zI line1,zI (s1.size:Int),zI 0,zI line2] 157)]]; ?_
  refine zd6 (β:=Nat×Hd) 8 ((0:Nat),Hd.nil) vals4 LL4 mixed kr kr dc (fun _=>rfl) (zeo (zac zb4 (zcA (zac zb4 rfl)))) (zau ?_ (zau ?_ (zau ?_ (zau ?_ (zau ?_ (zau ?_ (zau ?_ (zau ?_ DrawG.nil)))))))) ?_
  ·
   intro D b hn hd hcl
   obtain ⟨b11,hd14⟩:=b
   refine zaK (zwV rfl) (zfA rfl dc (za4 (by rfl) rfl) ?_)
   exact zaU (b:=(b11,hd14)) (b11,hd14) 0 (by rfl) (by rfl) rfl (zi6 rfl) (zeo (zac (zan (by rfl)) (zcA (zac (zan (by rfl)) rfl))))
  ·
   intro D b hn hd hcl
   obtain ⟨b11,hd14⟩:=b
   refine zaK (zeo (zac (zah (fun hD=>hn (hcl 2 _ rfl (hcl 3 _ rfl (hcl 4 _ rfl (hcl 7 _ rfl hD 4 dc) 3 dc) 2 dc) 1 dc)) zao) (zfH rfl))) ?_
   refine zfA rfl dc (za4 (by rfl) rfl) ?_
   exact zaU (b:=(b11,hd14)) (b11,hd14) 1 (by rfl) (by rfl) rfl (zi6 rfl) (zeo (zac ((zan (by rfl)).trans (zah (fun hD=>hn (hcl 2 _ rfl (hcl 3 _ rfl (hcl 4 _ rfl (hcl 7 _ rfl hD 4 dc) 3 dc) 2 dc) 1 dc)) zao)) (zcA (zac (zan (by rfl)) rfl))))
  ·
   intro D b hn hd hcl
   obtain ⟨b11,hd14⟩:=b
   refine zaK (zeo (zac (zah (fun hD=>hn (hcl 3 _ rfl (hcl 4 _ rfl (hcl 7 _ rfl hD 4 dc) 3 dc) 2 dc)) zao) (zfH rfl))) ?_
   refine zay rfl dc (zaa (m:=1) rfl rfl (hd 1 dc)) ?_
   exact zaU (b:=(b11,hd14)) (b11,hd14) 2 (by rfl) (by rfl) rfl (zi6 rfl) (zeo (zac ((zan (by rfl)).trans (zah (fun hD=>hn (hcl 3 _ rfl (hcl 4 _ rfl (hcl 7 _ rfl hD 4 dc) 3 dc) 2 dc)) zao)) (zcA (zac (zan (by rfl)) rfl))))
  ·
   intro D b hn hd hcl
   obtain ⟨b11,hd14⟩:=b
   refine zaK (zeo (zac (zah (fun hD=>hn (hcl 4 _ rfl (hcl 7 _ rfl hD 4 dc) 3 dc)) zao) (zfH rfl))) ?_
   refine zab zfE rfl dc (zaa (m:=2) rfl rfl (hd 2 dc)) (show _=2 from rfl) ?_
   exact zaU (b:=(b11,hd14)) (b11,hd14) 3 (by rfl) (by rfl) rfl (zi6 rfl) (zeo (zac ((zan (by rfl)).trans (zah (fun hD=>hn (hcl 4 _ rfl (hcl 7 _ rfl hD 4 dc) 3 dc)) zao)) (zcA (zac (zan (by rfl)) rfl))))
  ·
   intro D b hn hd hcl
   obtain ⟨b11,hd14⟩:=b
   refine zaK (zeo (zac (zah (fun hD=>hn (hcl 7 _ rfl hD 4 dc)) zao) (zfH rfl))) ?_
   refine zam (k:=0) zjI rfl dc (zaa (m:=3) rfl rfl (hd 3 dc)) rfl rfl ?_
   exact zaU (b:=(b11,hd14)) (b11,hd14) 4 (by rfl) (by rfl) rfl (zi6 rfl) (zeo (zac ((zan (by rfl)).trans (zah (fun hD=>hn (hcl 7 _ rfl hD 4 dc)) zao)) (zcA (zac (zan (by rfl)) rfl))))
  ·
   intro D b hn hd hcl
   obtain ⟨b11,hd14⟩:=b
   refine zaK (zeo (zac (zah (fun hD=>hn (hcl 6 _ rfl (hcl 7 _ rfl hD 6 dc) 5 dc)) zao) (zcA (zac (zah (fun hD=>hn (hcl 6 _ rfl hD 5 dc)) zao) rfl)))) ?_
   refine zbb (k:=4) (cs:=[zI line1,zI (s1.size:Int),zI 0,zI line2]) ztF rfl dc (za4 (by rfl) rfl) rfl rfl rfl ?_
   exact zaU (b:=(b11,hd14)) (b11,hd14) 5 (by rfl) (by rfl) rfl (zi6 rfl) (zeo (zac ((zan (by rfl)).trans (zah (fun hD=>hn (hcl 6 _ rfl (hcl 7 _ rfl hD 6 dc) 5 dc)) zao)) (zcA (zac ((zan (by rfl)).trans (zah (fun hD=>hn (hcl 6 _ rfl hD 5 dc)) zao)) rfl))))
  ·
   intro D b hn hd hcl
   obtain ⟨zb0,hd14⟩:=b
   refine zaK (zeo (zac (zah (fun hD=>hn (hcl 7 _ rfl hD 6 dc)) zao) (zcA (zac (zah hn zao) rfl)))) ?_
   refine zaR (cs:=[zI line1,zI (s1.size:Int),zI 0,zI line2]) (te:=157) (ps:=[(0,.tmp 146)]) rfl dc (evP.cons (zaa (m:=5) rfl rfl (hd 5 dc)) evP.nil) (fun _=>by kernel_rfl) (fun b11 => ?_)
   refine zc5 6 rfl rfl ?_
   exact zaU (b:=(zb0,hd14)) (b11,hd14) 6 (by rfl) (by rfl) rfl (zt2 (zap (fun hD=>absurd hD hn) (zap (fun _=>rfl) rfl))) (zeo (zac ((zan (by rfl)).trans (zah (fun hD=>hn (hcl 7 _ rfl hD 6 dc)) zao)) (zcA (zac (zaL (Or.inr rfl) rfl) rfl))))
  ·
   intro D b hn hd hcl
   obtain ⟨b11,zb1⟩:=b
   refine zaK (zeo (zac (zah hn zao) (zcA (zac (zaL (hd 6 dc) rfl) rfl)))) ?_
   refine za3 (k:=2) (k2:=6) (ys:=[(⟨line1,(s1.size:Int),0,line2⟩:Gplace_ended)]) Tryz.underlying151 ztT zcI zfR rfl dc (zaa (m:=4) rfl rfl (hd 4 dc)) (zaa (m:=6) rfl rfl (hd 6 dc)) rfl rfl rfl rfl hg17 (fun v4 => ?_)
   refine zbu (k:=2) rfl (fun hd14 he4 => ?_)
   subst he4
   exact zaU (b:=(b11,zb1)) (b11,hd14) 7 (by rfl) (by rfl) rfl (zjS (zap (fun hD=>absurd hD hn) rfl)) (zeo (zac (zaL (Or.inr rfl) rfl) (zcA (zac ((zan (by rfl)).trans (zaL (hd 6 dc) rfl)) rfl))))
  intro D b hall
  obtain ⟨b11,hd14⟩:=b
  refine zaK (zeo (zac (zaL (hall 7 dc) rfl) (zcA (zac (zaL (hall 6 dc) rfl) rfl)))) (zay rfl dc rfl (zab zfE rfl dc rfl (show _=2 from rfl) ?_))
  refine zaM (k:=0) (l':=[.string s1,hd13.v,hd14.v]) ztB rfl rfl rfl rfl rfl (fun _ _=>rfl) rfl ?_
  refine zyH (zyR 3 rfl (zyN (zaE (zd1 (by simp) ?_))))
  refine zoZ (As:=[cells b1 [.string s1,hd13.v,hd14.v] 153,zv4 hd13.v (m1++[(⟨(s1.size:Int),p2,p3,p4,p5⟩:Gapi_Place)]),zv3 hd14.v (m2++[(⟨line1,(s1.size:Int),0,line2⟩:Gplace_ended)])]) (zad [0,1,2] kr rfl) (zjE (enc:=zex) (nest:=zev) (t:=153) (x:=(⟨s1,m1++[(⟨(s1.size:Int),p2,p3,p4,p5⟩:Gapi_Place)],m2++[(⟨line1,(s1.size:Int),0,line2⟩:Gplace_ended)]⟩:Gplace_Map)) (b:=b1) (hd:=(hd13,hd14))) (fun _ _ => ?_)
  cases h
  exact zaS (rs:=[.tmp 2,.tmp 3]) (zP b1) (.inl rfl) Tryz.results45 (.cons (.tmp rfl) (.cons (.tmp rfl) .nil)) rfl (zad [7] kr rfl)
 exact fun b hb=>hb.elim
def zfr (m1:Gplace_Map):Option Int :=
some (m1.lines.length:Int)
theorem ziz {bm1:Nat} {m1:Gplace_Map} {m1_h0 m1_h1:Hd} {r:Int} (h:zfr m1=some r):FnR Tryz.prog 46 [zP bm1] [cells bm1 [.string m1.text,m1_h0.v,m1_h1.v] 153,zv4 m1_h0.v m1.places,zv3 m1_h1.v m1.lines] [] (fun _:Unit=>(zI r)) (fun _=>[]):=by
 unfold zfr at h
 refine FnR.intro Tryz.func46 rfl Tryz.ntmps46 (by simp) ?_
 intro w0 K hrd
 refine zyG (zyR 1 rfl (zyN (zaJ (zyG (zyR 1 rfl (zaW rfl (zdj Tryz.underlying99) (zyN (zaN rfl (zas ?_)))))))))
 refine zaI (zyG (zyR 1 rfl (zay rfl dc rfl (zab zfE rfl dc rfl (show _=2 from rfl) (zbk (i:=0) hrd rfl zjI rfl dc rfl rfl (zgr (hrd.vw (i:=2) rfl) rfl dc rfl Tryz.underlying151 (zyR 1 rfl (zyN (zaE ?_)))))))))
 cases h
 exact zaS (rs:=[.tmp 2]) () (.inl rfl) Tryz.results46 (.cons (.tmp rfl) .nil) rfl Splits.nil
def zeb (m1:Gplace_Map) (line1:Int):Option (Gapi_Span×Int×Int) :=
zaw (decide ((line1:Int)<0)) (
some ((⟨0,0⟩:Gapi_Span),0,5)
) (
zaw (decide (((m1.lines.length:Int):Int)≤line1)) (
some ((⟨0,0⟩:Gapi_Span),0,5)
) (
zal (zcb m1.lines line1) fun (q1:Gplace_ended) =>
some ((⟨q1.span_From,q1.span_To⟩:Gapi_Span),q1.end_,0)
)
)
theorem zjg {bm1:Nat} {m1:Gplace_Map} {m1_h0 m1_h1:Hd} {line1:Int} {r:(Gapi_Span×Int×Int)} (h:zeb m1 line1=some r):FnR Tryz.prog 47 [zP bm1,zI line1] [cells bm1 [.string m1.text,m1_h0.v,m1_h1.v] 153,zv4 m1_h0.v m1.places,zv3 m1_h1.v m1.lines] [] (fun _:Unit=>(.tuple #[.agg (zr5 r.1).toArray,zI r.2.1,zI r.2.2])) (fun _=>[]):=by
 unfold zeb at h
 refine FnR.intro Tryz.func47 rfl Tryz.ntmps47 (by simp) ?_
 intro w0 K hrd
 refine zyG ?_
 refine zbc zqC rfl dc (fun b1 => ?_)
 refine zyR 2 rfl (zyN (zaJ (zyG (zyR 1 rfl (zaW rfl (zdj Tryz.underlying99) (zyN (zaN rfl (zas (zaI ?_)))))))))
 refine zaJ (zyG (zyR 1 rfl (zaW rfl zbC (zyR 1 rfl ?_))))
 refine zyS (s:=12) rfl h (fun h => ?_) (fun h => ?_)
 ·
  refine zyR 8 rfl (zyN (za9 rfl (zyG ?_)))
  refine za7 (v:=.agg #[zI 0,zI 0]) (ps:=[]) rfl dc rfl (fun _=>by kernel_rfl) ?_
  refine za0 (k:=0) (vs:=[zI 0,zI 0]) (l':=[zI 0,zI 0]) zkt rfl rfl rfl rfl rfl (show _≤_ by simp) rfl rfl ?_
  refine zyR 2 rfl (zyN (zaE (zaq ?_)))
  cases h
  exact zaS (rs:=[.cell 4 38,.tmp 5,.tmp 6]) () (.inl rfl) Tryz.results47 (.cons (.cells znB (k:=0) rfl rfl rfl) (.cons (.tmp rfl) (.cons (.tmp rfl) .nil))) rfl Splits.nil
 refine zyR 2 rfl (zay rfl dc rfl (zab zfE rfl dc rfl (show _=2 from rfl) (zbk (i:=0) hrd rfl zjI rfl dc rfl rfl (zgr (hrd.vw (i:=2) rfl) rfl dc rfl Tryz.underlying151 (zaW rfl zeq (zyR 1 rfl (zyN ?_)))))))
 refine zyB rfl h (fun h => ?_) (fun h => ?_)
 ·
  refine zyG ?_
  refine za7 (v:=.agg #[zI 0,zI 0]) (ps:=[]) rfl dc rfl (fun _=>by kernel_rfl) ?_
  refine za0 (k:=0) (vs:=[zI 0,zI 0]) (l':=[zI 0,zI 0]) zkt rfl rfl rfl rfl rfl (show _≤_ by simp) rfl rfl ?_
  refine zyR 2 rfl (zyN (zaE (zaq ?_)))
  cases h
  exact zaS (rs:=[.cell 4 38,.tmp 5,.tmp 6]) () (.inl rfl) Tryz.results47 (.cons (.cells znB (k:=0) rfl rfl rfl) (.cons (.tmp rfl) (.cons (.tmp rfl) .nil))) rfl Splits.nil
 refine zas (zaI (zaJ ?_))
 obtain ⟨q1,hq1,h⟩:=zbw h
 refine zi4 (β:=Unit) 17 16 _ [(0,22,zP bm1),(1,23,zP bm1),(2,24,.pointer (some ⟨bm1,2,none⟩)),(3,25,m1_h1.v),(4,26,zI line1),(5,27,.pointer (some ⟨zcN m1_h1.v,(0+(line1:Int).toNat)*4,none⟩)),(6,28,.pointer (some ⟨zcN m1_h1.v,(0+(line1:Int).toNat)*4,none⟩)),(7,29,.agg #[zI q1.span_From,zI q1.span_To]),(8,30,zP bm1),(9,31,zP bm1),(10,32,.pointer (some ⟨bm1,2,none⟩)),(11,33,m1_h1.v),(12,34,zI line1),(13,35,.pointer (some ⟨zcN m1_h1.v,(0+(line1:Int).toNat)*4,none⟩)),(14,36,.pointer (some ⟨zcN m1_h1.v,(0+(line1:Int).toNat)*4+2,none⟩)),(15,37,zI q1.end_)] (fun _b=>[]) (fun _b=>[cells b1 [zI q1.span_From,zI q1.span_To] 38]) mixed kr kr rfl dc dc (by rfl) kr kr (zyE 1 0 rfl (zaj ?_ (zaj ?_ (zaj ?_ (zyE 1 4 rfl (zaj ?_ (zaj ?_ (zaj ?_ (zyE 1 8 rfl (zaj ?_ (zaj ?_ (zaj ?_ (zyE 1 12 rfl (zaj ?_ (zaj ?_ (zaj ?_ (zcT DrawPreX.nil))))))))))))))))) (fun _b=>(zyE 1 0 rfl (zaj ?_ (zaj ?_ (zaj ?_ (zyE 1 4 rfl (zaj ?_ (zaj ?_ (zaj ?_ (zyE 1 8 rfl (zaj ?_ (zaj ?_ (zaj ?_ (zyE 1 12 rfl (zaj ?_ (zaj ?_ (zaj ?_ (zcT DrawPreX.nil)))))))))))))))))) ?_ ?_
 · exact fun D n d c u i=>zay rfl dc (zaa (m:=0) u rfl (d 0 dc)) (zaf 1 u i rfl)
 · exact fun D n d c u i=>zab zfE rfl dc (zaa (m:=1) u rfl (d 1 dc)) (show _=2 from rfl) (zaf 2 u i rfl)
 · exact fun D n d c u i=>zbk (i:=0) hrd rfl zjI rfl dc (zaa (m:=2) u rfl (d 2 dc)) rfl (zaf 3 u i rfl)
 · exact fun D n d c u i=>zbL (hrd.vw (i:=2) rfl) hq1 Tryz.underlying151 zl0 rfl dc (zaa (m:=3) u rfl (d 3 dc)) (zaa (m:=4) u rfl (d 4 dc)) rfl (zaf 5 u i rfl)
 · exact fun D n d c u i=>zab zkd rfl dc (zaa (m:=5) u rfl (d 5 dc)) (show _=(0+(line1:Int).toNat)*4 from rfl) (zaf 6 u i rfl)
 · exact fun D n d c u i=>zeI (m:=0+(line1:Int).toNat) (j:=0) (i:=2) (q:=q1) (cs:=[zI q1.span_From,zI q1.span_To]) hrd rfl znB zcI rfl dc (zaa (m:=6) u rfl (d 6 dc)) (Vw.get (hrd.vw (i:=2) rfl) hq1) rfl rfl rfl (zaf 7 u i rfl)
 · exact fun D n d c u i=>zay rfl dc (zaa (m:=8) u rfl (d 8 dc)) (zaf 9 u i rfl)
 · exact fun D n d c u i=>zab zfE rfl dc (zaa (m:=9) u rfl (d 9 dc)) (show _=2 from rfl) (zaf 10 u i rfl)
 · exact fun D n d c u i=>zbk (i:=0) hrd rfl zjI rfl dc (zaa (m:=10) u rfl (d 10 dc)) rfl (zaf 11 u i rfl)
 · exact fun D n d c u i=>zbL (hrd.vw (i:=2) rfl) hq1 Tryz.underlying151 zl0 rfl dc (zaa (m:=11) u rfl (d 11 dc)) (zaa (m:=12) u rfl (d 12 dc)) rfl (zaf 13 u i rfl)
 · exact fun D n d c u i=>zab zm6 rfl dc (zaa (m:=13) u rfl (d 13 dc)) (show _=(0+(line1:Int).toNat)*4+2 from rfl) (zaf 14 u i rfl)
 · exact fun D n d c u i=>zcy (n:=0+(line1:Int).toNat) (j:=2) (i:=2) (q:=q1) hrd rfl zbr zcI rfl dc (zaa (m:=14) u rfl (d 14 dc)) (Vw.get (hrd.vw (i:=2) rfl) hq1) rfl dc rfl (zaf 15 u i rfl)
 · exact fun D n d c u i=>zay rfl dc (zaa (m:=0) u rfl (d 0 dc)) (zaf 1 u i rfl)
 · exact fun D n d c u i=>zab zfE rfl dc (zaa (m:=1) u rfl (d 1 dc)) (show _=2 from rfl) (zaf 2 u i rfl)
 · exact fun D n d c u i=>zbk (i:=0) hrd rfl zjI rfl dc (zaa (m:=2) u rfl (d 2 dc)) rfl (zaf 3 u i rfl)
 · exact fun D n d c u i=>zbL (hrd.vw (i:=2) rfl) hq1 Tryz.underlying151 zl0 rfl dc (zaa (m:=3) u rfl (d 3 dc)) (zaa (m:=4) u rfl (d 4 dc)) rfl (zaf 5 u i rfl)
 · exact fun D n d c u i=>zab zkd rfl dc (zaa (m:=5) u rfl (d 5 dc)) (show _=(0+(line1:Int).toNat)*4 from rfl) (zaf 6 u i rfl)
 · exact fun D n d c u i=>zeI (m:=0+(line1:Int).toNat) (j:=0) (i:=2) (q:=q1) (cs:=[zI q1.span_From,zI q1.span_To]) hrd rfl znB zcI rfl dc (zaa (m:=6) u rfl (d 6 dc)) (Vw.get (hrd.vw (i:=2) rfl) hq1) rfl rfl rfl (zaf 7 u i rfl)
 · exact fun D n d c u i=>zay rfl dc (zaa (m:=8) u rfl (d 8 dc)) (zaf 9 u i rfl)
 · exact fun D n d c u i=>zab zfE rfl dc (zaa (m:=9) u rfl (d 9 dc)) (show _=2 from rfl) (zaf 10 u i rfl)
 · exact fun D n d c u i=>zbk (i:=0) hrd rfl zjI rfl dc (zaa (m:=10) u rfl (d 10 dc)) rfl (zaf 11 u i rfl)
 · exact fun D n d c u i=>zbL (hrd.vw (i:=2) rfl) hq1 Tryz.underlying151 zl0 rfl dc (zaa (m:=11) u rfl (d 11 dc)) (zaa (m:=12) u rfl (d 12 dc)) rfl (zaf 13 u i rfl)
 · exact fun D n d c u i=>zab zm6 rfl dc (zaa (m:=13) u rfl (d 13 dc)) (show _=(0+(line1:Int).toNat)*4+2 from rfl) (zaf 14 u i rfl)
 · exact fun D n d c u i=>zcy (n:=0+(line1:Int).toNat) (j:=2) (i:=2) (q:=q1) hrd rfl zbr zcI rfl dc (zaa (m:=14) u rfl (d 14 dc)) (Vw.get (hrd.vw (i:=2) rfl) hq1) rfl dc rfl (zaf 15 u i rfl)
 ·
  intro D hn hd hcl
  refine za0 (k:=0) (vs:=[zI q1.span_From,zI q1.span_To]) (l':=[zI q1.span_From,zI q1.span_To]) zkt rfl (za4 (by rfl) rfl) (zaa (m:=7) kr rfl (hd 7 dc)) rfl rfl (show _≤_ by simp) rfl rfl ?_
  exact fun a w ha hw=>⟨(),ha,hw⟩
 intro _b
 refine zyR 2 rfl (zyN (zaE ?_))
 cases h
 exact zaS (rs:=[.cell 4 38,.tmp 5,.tmp 6]) () (.inl rfl) Tryz.results47 (.cons (.cells znB (k:=0) rfl rfl rfl) (.cons (.tmp rfl) (.cons (.tmp rfl) .nil))) rfl Splits.nil
end Go.Proofs.YtbempdelckaccaaGreatDoor

namespace Go.Proofs.YtbempdelckaccaaGreatDoor
open Go.RowKit Go.Lib
set_option linter.unusedVariables false
set_option linter.unusedSimpArgs false
def zdJ (s1:ByteArray) (j1:Option Bool) (ag1:Int→Option Bool) (i3:Int):Option Bool :=
zaw (decide ((i3:Int)<(s1.size:Int))) (
zbi (fun (j2:Option Bool) =>
zal (zin s1 i3) fun (c1:Int) =>
zaw ((c1:Int) != 32) (
zaw ((c1:Int) != 9) (
some false
) (
j2
)
) (
j2
)
) (
grd (I64 (i3+1)) <|
ag1 (i3+1)
)
) (
j1
)
def zeC (s1:ByteArray):Option Bool :=
zbi (fun (j1:Option Bool) =>
zaF (fun _=>none) (zdJ s1 j1) zbT 0
) (
some true
)
theorem zlJ {s1:ByteArray} {r:Bool} (h:zeC s1=some r):FnP Tryz.prog 99 [.string s1] (.bool r):=by
 unfold zeC at h
 refine FnP.intro Tryz.func99 rfl Tryz.ntmps99 (by simp) ?_
 intro w0 K
 obtain ⟨j1,hj1,h⟩:=zbF h
 refine za1 (β:=Unit) 1 rfl (fun b=>j1=some r) (fun b=>[]) (fun b=>[]) (fun b=>[]) (fun cut => ?_) ?_
 ·
  refine zyG (zyR 1 rfl (zyN (cut (zyG (zyR 1 rfl (zyN (zaC ?_)))))))
  refine zbq (β:=Nat×Int) (fun b=>zaF (fun _=>none) (zdJ s1 j1) b.1 b.2=some r) (fun b=>[]) (fun b=>[(0,.string s1),(3,zI b.2)]) (fun b=>[]) (fun b=>b.1) (zbT,0) h rfl (za5 rfl) Splits.nil ?_
  rintro ⟨n1,i3⟩ h
  cases n1 with
  | zero=>exact zdM h
  | succ n1 =>
   obtain ⟨ag1,hag1⟩:∃ ag,ag=zaF (fun _=>none) (zdJ s1 j1) n1:=⟨_,rfl⟩
   have h:zdJ s1 j1 ag1 i3=some r:=by rw [hag1]; exact h
   unfold zdJ at h
   refine zaJ (zyG (zyR 2 rfl (zbS rfl dc rfl Tryz.underlying9 (zaW rfl zbC (zyN ?_)))))
   refine zyB rfl h (fun h => ?_) (fun h => ?_)
   ·
    refine zas (zaI ?_)
    obtain ⟨j2,hj2,h⟩:=zbF h
    refine za1 (β:=Unit) 0 rfl (fun b=>j2=some r) (fun b=>[]) (fun b=>[(0,.string s1),(3,zI i3)]) (fun b=>[]) (fun cut => ?_) ?_
    ·
     refine cut (zaC (zyG (zyR 2 rfl ?_)))
     obtain ⟨c1,hq1,h⟩:=zbw h
     refine zcG rfl dc rfl rfl (zbh Tryz.underlying9 hq1) (zaW rfl zcc (zyR 1 rfl ?_))
     refine zyS (s:=14) rfl h (fun h => ?_) (fun h => ?_)
     ·
      refine zyR 2 rfl (zcG rfl dc rfl rfl (zbh Tryz.underlying9 hq1) (zaW rfl zcc (zyR 1 rfl (zyN ?_))))
      refine zyB rfl h (fun h => ?_) (fun h => ?_)
      ·
       refine zyG (zyR 1 rfl (zyN (zaE (zaA (zaq (zaq (zaA (zaq ?_))))))))
       cases h
       exact zaS (rs:=[.tmp 2]) () (.inl rfl) Tryz.results99 (.cons (.tmp rfl) .nil) rfl Splits.nil
      refine zas (zag ?_)
      exact zai () h rfl (za5 rfl) Splits.nil
     refine zyR 5 rfl (zyN (zaN rfl (zas (zag ?_))))
     exact zai () h rfl (za5 rfl) Splits.nil
    rintro _ h
    rw [hj2] at h
    refine zat (zyR 1 rfl ?_)
    obtain ⟨hg1,h⟩:=zbn h
    refine zaW rfl (zaX (r:=i3+1) (IntWalk.i64_in _ hg1)) (zyR 1 rfl (zaQ ?_))
    subst hag1
    exact za8 (n1,i3+1) h (Nat.lt_succ_self _) rfl (za5 rfl) Splits.nil
   refine za6 (zak (zak (zav ?_)))
   exact zai () h rfl (znl) Splits.nil
 rintro _ h
 rw [hj1] at h
 refine zyG (zyR 1 rfl (zyN (zaE ?_)))
 cases h
 exact zaS (rs:=[.tmp 2]) () (.inl rfl) Tryz.results99 (.cons (.tmp rfl) .nil) rfl Splits.nil
def zeL (s1:ByteArray):Option Bool :=
zaw (decide (s1=(⟨#[35]⟩:ByteArray))) (
some true
) (
zaw (decide ((1:Int)<(s1.size:Int))) (
zal (zin s1 0) fun (c1:Int) =>
zaw ((c1:Int)==35) (
zal (zin s1 1) fun (c2:Int) =>
some ((c2:Int)==32)
) (
some false
)
) (
some false
)
)
theorem zkG {s1:ByteArray} {r:Bool} (h:zeL s1=some r):FnP Tryz.prog 100 [.string s1] (.bool r):=by
 unfold zeL at h
 refine FnP.intro Tryz.func100 rfl Tryz.ntmps100 (by simp) ?_
 intro w0 K
 refine zyG (zyR 1 rfl (zyH (zyR 1 rfl (zaW rfl zgZ (zyR 1 rfl ?_)))))
 refine zyS (s:=5) rfl h (fun h => ?_) (fun h => ?_)
 ·
  refine zyR 14 rfl ?_
  refine zyR 1 rfl (zyN (zaE ?_))
  cases h
  exact zaS (rs:=[.tmp 2]) () (.inl rfl) Tryz.results100 (.cons (.tmp rfl) .nil) rfl Splits.nil
 refine zyR 1 rfl (zbS rfl dc rfl Tryz.underlying9 (zaW rfl zcK (zyR 1 rfl ?_)))
 refine zyS (s:=9) rfl h (fun h => ?_) (fun h => ?_)
 ·
  refine zyR 1 rfl ?_
  obtain ⟨c1,hq1,h⟩:=zbw h
  refine zcG rfl dc rfl rfl (zbh Tryz.underlying9 hq1) (zaW rfl zaT (zyR 2 rfl ?_))
  refine zyS (s:=14) rfl h (fun h => ?_) (fun h => ?_)
  ·
   refine zyR 1 rfl ?_
   obtain ⟨c2,hq2,h⟩:=zbw h
   refine zcG rfl dc rfl rfl (zbh Tryz.underlying9 hq2) (zaW rfl zaT (zyR 3 rfl (zyN (zaE ?_))))
   cases h
   exact zaS (rs:=[.tmp 2]) () (.inl rfl) Tryz.results100 (.cons (.tmp rfl) .nil) rfl Splits.nil
  refine zyR 6 rfl (zyN (zaE ?_))
  cases h
  exact zaS (rs:=[.tmp 2]) () (.inl rfl) Tryz.results100 (.cons (.tmp rfl) .nil) rfl Splits.nil
 refine zyR 11 rfl (zyN (zaE ?_))
 cases h
 exact zaS (rs:=[.tmp 2]) () (.inl rfl) Tryz.results100 (.cons (.tmp rfl) .nil) rfl Splits.nil
def zcU (s1:ByteArray) (j1:Int→Option Int) (ag1:Int→Option Int) (n4:Int):Option Int :=
zaw (decide ((n4:Int)<(s1.size:Int))) (
zal (zin s1 n4) fun (c1:Int) =>
zaw ((c1:Int)==32) (
grd (I64 (n4+1)) <|
ag1 (n4+1)
) (
j1 n4
)
) (
j1 n4
)
def zb5 (s1:ByteArray):Option Int :=
zbi (fun (j1:Int→Option Int) =>
zaF (fun _=>none) (zcU s1 j1) zbT 0
) (fun (n1:Int) =>
some n1
)
theorem zdU {s1:ByteArray} {r:Int} (h:zb5 s1=some r):FnP Tryz.prog 101 [.string s1] (zI r):=by
 unfold zb5 at h
 refine FnP.intro Tryz.func101 rfl Tryz.ntmps101 (by simp) ?_
 intro w0 K
 obtain ⟨j1,hj1,h⟩:=zbF h
 refine za1 (β:=Int) 2 rfl (fun b=>j1 b=some r) (fun b=>[]) (fun b=>[(3,zI b)]) (fun b=>[]) (fun cut => ?_) ?_
 ·
  refine zyG (zyR 1 rfl (zyH (zyR 1 rfl (zyN (cut (zaC ?_))))))
  refine zbq (β:=Nat×Int) (fun b=>zaF (fun _=>none) (zcU s1 j1) b.1 b.2=some r) (fun b=>[]) (fun b=>[(0,.string s1),(3,zI b.2)]) (fun b=>[]) (fun b=>b.1) (zbT,0) h rfl (za5 rfl) Splits.nil ?_
  rintro ⟨n5,n4⟩ h
  cases n5 with
  | zero=>exact zdM h
  | succ n5 =>
   obtain ⟨ag1,hag1⟩:∃ ag,ag=zaF (fun _=>none) (zcU s1 j1) n5:=⟨_,rfl⟩
   have h:zcU s1 j1 ag1 n4=some r:=by rw [hag1]; exact h
   unfold zcU at h
   refine zaJ (zyG (zyR 2 rfl (zbS rfl dc rfl Tryz.underlying9 (zaW rfl zbC (zyR 1 rfl ?_)))))
   refine zyS (s:=8) rfl h (fun h => ?_) (fun h => ?_)
   ·
    refine zyR 2 rfl ?_
    obtain ⟨c1,hq1,h⟩:=zbw h
    refine zcG rfl dc rfl rfl (zbh Tryz.underlying9 hq1) (zaW rfl zaT (zyR 1 rfl (zyN ?_)))
    refine zyB rfl h (fun h => ?_) (fun h => ?_)
    ·
     refine zas (zaI (zaC (zat (zyR 1 rfl ?_))))
     obtain ⟨hg1,h⟩:=zbn h
     refine zaW rfl (zaX (r:=n4+1) (IntWalk.i64_in _ hg1)) (zyR 1 rfl (zaQ (zag ?_)))
     subst hag1
     exact za8 (n5,n4+1) h (Nat.lt_succ_self _) rfl (za5 rfl) Splits.nil
    refine za6 (zak (zak (zav ?_)))
    exact zai n4 h rfl (za5 rfl) Splits.nil
   refine zyR 5 rfl (zyN (zaN rfl (za6 (zak (zak (zav ?_))))))
   exact zai n4 h rfl (za5 rfl) Splits.nil
 rintro n1 h
 rw [hj1] at h
 refine zyG (zyR 2 rfl (zyN (zaE ?_)))
 cases h
 exact zaS (rs:=[.tmp 2]) () (.inl rfl) Tryz.results101 (.cons (.tmp rfl) .nil) rfl Splits.nil
def zdB (s1:ByteArray) (j1:(List Gapi_Span)→Option (List Gapi_Span)) (ag1:(List Gapi_Span)→Int→Option (List Gapi_Span)) (l4:List Gapi_Span) (i3:Int):Option (List Gapi_Span) :=
zaw (decide ((i3:Int)<(s1.size:Int))) (
zbi (fun (j2:(List Gapi_Span)→Int→Option (List Gapi_Span)) =>
zal (zin s1 i3) fun (c1:Int) =>
zaw ((c1:Int)==13) (
grd (I64 (i3+1)) <|
zaw (decide (((i3+1):Int)<(s1.size:Int))) (
grd (I64 (i3+1)) <|
zal (zin s1 (i3+1)) fun (c2:Int) =>
zaw ((c2:Int)==10) (
grd (I64 (i3+2)) <|
grd (l4.length+1≤2147483648) <|
grd (I64 (i3+1)) <|
j2 (l4++[(⟨i3,i3+2⟩:Gapi_Span)]) (i3+1)
) (
zal (zin s1 i3) fun (c3:Int) =>
zaw ((c3:Int)==13) (
grd (I64 (i3+1)) <|
grd (l4.length+1≤2147483648) <|
j2 (l4++[(⟨i3,i3+1⟩:Gapi_Span)]) i3
) (
zaw ((c3:Int)==10) (
grd (I64 (i3+1)) <|
grd (l4.length+1≤2147483648) <|
j2 (l4++[(⟨i3,i3+1⟩:Gapi_Span)]) i3
) (
j2 l4 i3
)
)
)
) (
zal (zin s1 i3) fun (c4:Int) =>
zaw ((c4:Int)==13) (
grd (I64 (i3+1)) <|
grd (l4.length+1≤2147483648) <|
j2 (l4++[(⟨i3,i3+1⟩:Gapi_Span)]) i3
) (
zaw ((c4:Int)==10) (
grd (I64 (i3+1)) <|
grd (l4.length+1≤2147483648) <|
j2 (l4++[(⟨i3,i3+1⟩:Gapi_Span)]) i3
) (
j2 l4 i3
)
)
)
) (
zal (zin s1 i3) fun (c5:Int) =>
zaw ((c5:Int)==13) (
grd (I64 (i3+1)) <|
grd (l4.length+1≤2147483648) <|
j2 (l4++[(⟨i3,i3+1⟩:Gapi_Span)]) i3
) (
zaw ((c5:Int)==10) (
grd (I64 (i3+1)) <|
grd (l4.length+1≤2147483648) <|
j2 (l4++[(⟨i3,i3+1⟩:Gapi_Span)]) i3
) (
j2 l4 i3
)
)
)
) (fun (l5:List Gapi_Span) (i4:Int) =>
grd (I64 (i4+1)) <|
ag1 l5 (i4+1)
)
) (
j1 l4
)
def ze7 (s1:ByteArray):Option (List Gapi_Span) :=
zbi (fun (j1:(List Gapi_Span)→Option (List Gapi_Span)) =>
zaF (fun _ _=>none) (zdB s1 j1) zbT ([]:List Gapi_Span) 0
) (fun (l1:List Gapi_Span) =>
some l1
)
theorem ziy {s1:ByteArray} {r:(List Gapi_Span)} (h:ze7 s1=some r):Fn Tryz.prog 126 [.string s1] [] (fun v0:Value=>v0) (fun v0=>[zv5 v0 r]):=by
 unfold ze7 at h
 refine Fn.intro Tryz.func126 rfl Tryz.ntmps126 (by simp) ?_
 intro w0 K
 obtain ⟨j1,hj1,h⟩:=zbF h
 refine za1 (β:=(List Gapi_Span)×Value) 2 rfl (fun b=>j1 b.1=some r) (fun b=>[]) (fun b=>[(3,b.2)]) (fun b=>[zv5 b.2 b.1]) (fun cut => ?_) ?_
 ·
  refine zyG (zyR 1 rfl (zyH (zyR 1 rfl (zyN (cut (zyG (zyR 1 rfl ?_)))))))
  refine zyN (zaC (zc1 (enc:=zdI) (e:=38) (size:=2) ?_))
  refine zbq (β:=Nat×(List Gapi_Span)×Int×Value) (fun b=>zaF (fun _ _=>none) (zdB s1 j1) b.1 b.2.1 b.2.2.1=some r) (fun b=>[]) (fun b=>[(0,.string s1),(3,b.2.2.2),(4,zI b.2.2.1)]) (fun b=>[zv5 b.2.2.2 b.2.1]) (fun b=>b.1) (zbT,([]:List Gapi_Span),0,(.slice none 0 0)) h rfl (za5 rfl) (zad [0] kr rfl) ?_
  rintro ⟨n1,l4,i3,v4⟩ h
  cases n1 with
  | zero=>exact zdM h
  | succ n1 =>
   obtain ⟨ag1,hag1⟩:∃ ag,ag=zaF (fun _ _=>none) (zdB s1 j1) n1:=⟨_,rfl⟩
   have h:zdB s1 j1 ag1 l4 i3=some r:=by rw [hag1]; exact h
   unfold zdB at h
   refine zaJ (zyG (zyR 2 rfl (zbS rfl dc rfl Tryz.underlying9 (zaW rfl zbC (zyN ?_)))))
   refine zyB rfl h (fun h => ?_) (fun h => ?_)
   ·
    refine zas (zaI ?_)
    obtain ⟨j2,hj2,h⟩:=zbF h
    refine za1 (β:=(List Gapi_Span)×Int×Value) 0 rfl (fun b=>j2 b.1 b.2.1=some r) (fun b=>[]) (fun b=>[(0,.string s1),(3,b.2.2),(4,zI b.2.1)]) (fun b=>[zv5 b.2.2 b.1]) (fun cut => ?_) ?_
    ·
     refine cut (zaC (zaC (zyG (zyR 2 rfl ?_))))
     obtain ⟨c1,hq1,h⟩:=zbw h
     refine zcG rfl dc rfl rfl (zbh Tryz.underlying9 hq1) (zaW rfl zaT (zyR 1 rfl ?_))
     refine zyS (s:=16) rfl h (fun h => ?_) (fun h => ?_)
     ·
      refine zyR 1 rfl ?_
      obtain ⟨hg1,h⟩:=zbn h
      refine zaW rfl (zaX (r:=i3+1) (IntWalk.i64_in _ hg1)) (zyR 1 rfl (zbS rfl dc rfl Tryz.underlying9 (zaW rfl zbC (zyR 2 rfl ?_))))
      refine zyS (s:=23) rfl h (fun h => ?_) (fun h => ?_)
      ·
       refine zyR 2 rfl ?_
       obtain ⟨hg2,h⟩:=zbn h
       refine zaW rfl (zaX (r:=i3+1) (IntWalk.i64_in _ hg2)) ?_
       obtain ⟨c2,hq2,h⟩:=zbw h
       refine zcG rfl dc rfl rfl (zbh Tryz.underlying9 hq2) (zaW rfl zaT (zyR 2 rfl (zyN ?_)))
       refine zyB rfl h (fun h => ?_) (fun h => ?_)
       ·
        refine zyG (zyR 3 rfl ?_)
        obtain ⟨hg3,h⟩:=zbn h
        refine zaW rfl (zaX (r:=i3+2) (IntWalk.i64_in _ hg3)) ?_
        refine za7 (v:=.agg #[zI i3,zI (i3+2)]) (ps:=[(0,.tmp 31),(1,.tmp 33)]) rfl dc rfl (fun _=>by kernel_rfl) ?_
        refine zaR (cs:=[zI i3,zI (i3+2)]) (te:=38) (ps:=[(0,.tmp 34)]) rfl dc rfl (fun _=>by kernel_rfl) (fun b1 => ?_)
        obtain ⟨hg4,h⟩:=zbn h
        refine za3 (k:=0) (k2:=1) (ys:=[(⟨i3,i3+2⟩:Gapi_Span)]) Tryz.underlying102 zna zbp zcl rfl dc rfl rfl rfl rfl rfl rfl hg4 (fun v6 => ?_)
        refine zyR 1 rfl (zyN (zat (zyR 1 rfl ?_)))
        obtain ⟨hg5,h⟩:=zbn h
        refine zaW rfl (zaX (r:=i3+1) (IntWalk.i64_in _ hg5)) (zyR 1 rfl (zaQ (zag (zag ?_))))
        exact zai (l4++[(⟨i3,i3+2⟩:Gapi_Span)],i3+1,v6) h rfl (za5 rfl) (zad [0] kr rfl)
       refine zyG (zyR 2 rfl ?_)
       obtain ⟨c3,hq3,h⟩:=zbw h
       refine zcG rfl dc rfl rfl (zbh Tryz.underlying9 hq3) (zaW rfl zaT (zyR 1 rfl ?_))
       refine zyS (s:=44) rfl h (fun h => ?_) (fun h => ?_)
       ·
        refine zyR 6 rfl (zyN (za9 rfl (zat (zyR 3 rfl ?_))))
        obtain ⟨hg6,h⟩:=zbn h
        refine zaW rfl (zaX (r:=i3+1) (IntWalk.i64_in _ hg6)) ?_
        refine za7 (v:=.agg #[zI i3,zI (i3+1)]) (ps:=[(0,.tmp 51),(1,.tmp 53)]) rfl dc rfl (fun _=>by kernel_rfl) ?_
        refine zaR (cs:=[zI i3,zI (i3+1)]) (te:=38) (ps:=[(0,.tmp 54)]) rfl dc rfl (fun _=>by kernel_rfl) (fun b2 => ?_)
        obtain ⟨hg7,h⟩:=zbn h
        refine za3 (k:=0) (k2:=1) (ys:=[(⟨i3,i3+1⟩:Gapi_Span)]) Tryz.underlying102 zna zbp zcl rfl dc rfl rfl rfl rfl rfl rfl hg7 (fun v7 => ?_)
        refine zyR 1 rfl (zaQ (zag (zag ?_)))
        exact zai (l4++[(⟨i3,i3+1⟩:Gapi_Span)],i3,v7) h rfl (za5 rfl) (zad [0] kr rfl)
       refine zyR 2 rfl (zcG rfl dc rfl rfl (zbh Tryz.underlying9 hq3) (zaW rfl zaT (zyR 2 rfl (zyN ?_))))
       refine zyB rfl h (fun h => ?_) (fun h => ?_)
       ·
        refine zat (zyR 3 rfl ?_)
        obtain ⟨hg8,h⟩:=zbn h
        refine zaW rfl (zaX (r:=i3+1) (IntWalk.i64_in _ hg8)) ?_
        refine za7 (v:=.agg #[zI i3,zI (i3+1)]) (ps:=[(0,.tmp 51),(1,.tmp 53)]) rfl dc rfl (fun _=>by kernel_rfl) ?_
        refine zaR (cs:=[zI i3,zI (i3+1)]) (te:=38) (ps:=[(0,.tmp 54)]) rfl dc rfl (fun _=>by kernel_rfl) (fun b3 => ?_)
        obtain ⟨hg9,h⟩:=zbn h
        refine za3 (k:=0) (k2:=1) (ys:=[(⟨i3,i3+1⟩:Gapi_Span)]) Tryz.underlying102 zna zbp zcl rfl dc rfl rfl rfl rfl rfl rfl hg9 (fun v8 => ?_)
        refine zyR 1 rfl (zaQ (zag (zag ?_)))
        exact zai (l4++[(⟨i3,i3+1⟩:Gapi_Span)],i3,v8) h rfl (za5 rfl) (zad [0] kr rfl)
       refine zas (zag (zag ?_))
       exact zai (l4,i3,v4) h rfl (za5 rfl) (zad [0] kr rfl)
      refine zyR 7 rfl (zyN (zaN rfl (zyG (zyR 2 rfl ?_))))
      obtain ⟨c4,hq4,h⟩:=zbw h
      refine zcG rfl dc rfl rfl (zbh Tryz.underlying9 hq4) (zaW rfl zaT (zyR 1 rfl ?_))
      refine zyS (s:=44) rfl h (fun h => ?_) (fun h => ?_)
      ·
       refine zyR 6 rfl (zyN (za9 rfl (zat (zyR 3 rfl ?_))))
       obtain ⟨hg10,h⟩:=zbn h
       refine zaW rfl (zaX (r:=i3+1) (IntWalk.i64_in _ hg10)) ?_
       refine za7 (v:=.agg #[zI i3,zI (i3+1)]) (ps:=[(0,.tmp 51),(1,.tmp 53)]) rfl dc rfl (fun _=>by kernel_rfl) ?_
       refine zaR (cs:=[zI i3,zI (i3+1)]) (te:=38) (ps:=[(0,.tmp 54)]) rfl dc rfl (fun _=>by kernel_rfl) (fun b4 => ?_)
       obtain ⟨hg11,h⟩:=zbn h
       refine za3 (k:=0) (k2:=1) (ys:=[(⟨i3,i3+1⟩:Gapi_Span)]) Tryz.underlying102 zna zbp zcl rfl dc rfl rfl rfl rfl rfl rfl hg11 (fun v9 => ?_)
       refine zyR 1 rfl (zaQ (zag (zag ?_)))
       exact zai (l4++[(⟨i3,i3+1⟩:Gapi_Span)],i3,v9) h rfl (za5 rfl) (zad [0] kr rfl)
      refine zyR 2 rfl (zcG rfl dc rfl rfl (zbh Tryz.underlying9 hq4) (zaW rfl zaT (zyR 2 rfl (zyN ?_))))
      refine zyB rfl h (fun h => ?_) (fun h => ?_)
      ·
       refine zat (zyR 3 rfl ?_)
       obtain ⟨hg12,h⟩:=zbn h
       refine zaW rfl (zaX (r:=i3+1) (IntWalk.i64_in _ hg12)) ?_
       refine za7 (v:=.agg #[zI i3,zI (i3+1)]) (ps:=[(0,.tmp 51),(1,.tmp 53)]) rfl dc rfl (fun _=>by kernel_rfl) ?_
       refine zaR (cs:=[zI i3,zI (i3+1)]) (te:=38) (ps:=[(0,.tmp 54)]) rfl dc rfl (fun _=>by kernel_rfl) (fun b5 => ?_)
       obtain ⟨hg13,h⟩:=zbn h
       refine za3 (k:=0) (k2:=1) (ys:=[(⟨i3,i3+1⟩:Gapi_Span)]) Tryz.underlying102 zna zbp zcl rfl dc rfl rfl rfl rfl rfl rfl hg13 (fun v10 => ?_)
       refine zyR 1 rfl (zaQ (zag (zag ?_)))
       exact zai (l4++[(⟨i3,i3+1⟩:Gapi_Span)],i3,v10) h rfl (za5 rfl) (zad [0] kr rfl)
      refine zas (zag (zag ?_))
      exact zai (l4,i3,v4) h rfl (za5 rfl) (zad [0] kr rfl)
     refine zyR 14 rfl ?_
     refine zyN (zaN rfl (zyG (zyR 2 rfl ?_)))
     obtain ⟨c5,hq5,h⟩:=zbw h
     refine zcG rfl dc rfl rfl (zbh Tryz.underlying9 hq5) (zaW rfl zaT (zyR 1 rfl ?_))
     refine zyS (s:=44) rfl h (fun h => ?_) (fun h => ?_)
     ·
      refine zyR 6 rfl (zyN (za9 rfl (zat (zyR 3 rfl ?_))))
      obtain ⟨hg14,h⟩:=zbn h
      refine zaW rfl (zaX (r:=i3+1) (IntWalk.i64_in _ hg14)) ?_
      refine za7 (v:=.agg #[zI i3,zI (i3+1)]) (ps:=[(0,.tmp 51),(1,.tmp 53)]) rfl dc rfl (fun _=>by kernel_rfl) ?_
      refine zaR (cs:=[zI i3,zI (i3+1)]) (te:=38) (ps:=[(0,.tmp 54)]) rfl dc rfl (fun _=>by kernel_rfl) (fun b6 => ?_)
      obtain ⟨hg15,h⟩:=zbn h
      refine za3 (k:=0) (k2:=1) (ys:=[(⟨i3,i3+1⟩:Gapi_Span)]) Tryz.underlying102 zna zbp zcl rfl dc rfl rfl rfl rfl rfl rfl hg15 (fun v11 => ?_)
      refine zyR 1 rfl (zaQ (zag (zag ?_)))
      exact zai (l4++[(⟨i3,i3+1⟩:Gapi_Span)],i3,v11) h rfl (za5 rfl) (zad [0] kr rfl)
     refine zyR 2 rfl (zcG rfl dc rfl rfl (zbh Tryz.underlying9 hq5) (zaW rfl zaT (zyR 2 rfl (zyN ?_))))
     refine zyB rfl h (fun h => ?_) (fun h => ?_)
     ·
      refine zat (zyR 3 rfl ?_)
      obtain ⟨hg16,h⟩:=zbn h
      refine zaW rfl (zaX (r:=i3+1) (IntWalk.i64_in _ hg16)) ?_
      refine za7 (v:=.agg #[zI i3,zI (i3+1)]) (ps:=[(0,.tmp 51),(1,.tmp 53)]) rfl dc rfl (fun _=>by kernel_rfl) ?_
      refine zaR (cs:=[zI i3,zI (i3+1)]) (te:=38) (ps:=[(0,.tmp 54)]) rfl dc rfl (fun _=>by kernel_rfl) (fun b7 => ?_)
      obtain ⟨hg17,h⟩:=zbn h
      refine za3 (k:=0) (k2:=1) (ys:=[(⟨i3,i3+1⟩:Gapi_Span)]) Tryz.underlying102 zna zbp zcl rfl dc rfl rfl rfl rfl rfl rfl hg17 (fun v12 => ?_)
      refine zyR 1 rfl (zaQ (zag (zag ?_)))
      exact zai (l4++[(⟨i3,i3+1⟩:Gapi_Span)],i3,v12) h rfl (za5 rfl) (zad [0] kr rfl)
     refine zas (zag (zag ?_))
     exact zai (l4,i3,v4) h rfl (za5 rfl) (zad [0] kr rfl)
    rintro ⟨l5,i4,v5⟩ h
    rw [hj2] at h
    refine zat (zyR 1 rfl ?_)
    obtain ⟨hg18,h⟩:=zbn h
    refine zaW rfl (zaX (r:=i4+1) (IntWalk.i64_in _ hg18)) (zyR 1 rfl (zaQ ?_))
    subst hag1
    exact za8 (n1,l5,i4+1,v5) h (Nat.lt_succ_self _) rfl (za5 rfl) (zad [0] kr rfl)
   refine za6 (zak (zak (zav ?_)))
   exact zai (l4,v4) h rfl (za5 rfl) (zad [0] kr rfl)
 rintro ⟨l1,v1⟩ h
 rw [hj1] at h
 refine zyG (zyR 2 rfl (zyN (zaE ?_)))
 cases h
 exact zaS (rs:=[.tmp 2]) v1 (.inl rfl) Tryz.results126 (.cons (.tmp rfl) .nil) rfl (zad [0] kr rfl)
def zcR (s1:ByteArray) (j1:(List Gapi_Span)→Option (List Gapi_Span)) (r1:(List Gapi_Span)) (r2:(List Gapi_Span)) (ag1:(List Gapi_Span)→Int→Int→Option (List Gapi_Span)) (l4:List Gapi_Span) (from3:Int) (i3:Int):Option (List Gapi_Span) :=
zaw (decide ((i3:Int)<((r1.length:Int)+1))) (
zbi (fun (j2:Int→Int→Option (List Gapi_Span)) =>
zaw (decide ((i3:Int)<(r2.length:Int))) (
zal (zcb r2 i3) fun (q1:Gapi_Span) =>
zal (zcb r2 i3) fun (q2:Gapi_Span) =>
j2 q2.To q1.From
) (
j2 from3 (s1.size:Int)
)
) (fun (from4:Int) (x1:Int) =>
grd (l4.length+1≤2147483648) <|
grd (I64 (i3+1)) <|
ag1 (l4++[(⟨from3,x1⟩:Gapi_Span)]) from4 (i3+1)
)
) (
j1 l4
)
def zfe (s1:ByteArray):Option (List Gapi_Span) :=
zbi (fun (j1:(List Gapi_Span)→Option (List Gapi_Span)) =>
zal (ze7 s1) fun (r1:(List Gapi_Span)) =>
grd (I64 ((r1.length:Int)+1)) <|
zal (ze7 s1) fun (r2:(List Gapi_Span)) =>
zaF (fun _ _ _=>none) (zcR s1 j1 r1 r2) zbT ([]:List Gapi_Span) 0 0
) (fun (l1:List Gapi_Span) =>
some l1
)
theorem zlI {s1:ByteArray} {r:(List Gapi_Span)} (h:zfe s1=some r):Fn Tryz.prog 98 [.string s1] [] (fun v0:Value=>v0) (fun v0=>[zv5 v0 r]):=by
 unfold zfe at h
 refine Fn.intro Tryz.func98 rfl Tryz.ntmps98 (by simp) ?_
 intro w0 K
 obtain ⟨j1,hj1,h⟩:=zbF h
 refine za1 (β:=(List Gapi_Span)×Value) 5 rfl (fun b=>j1 b.1=some r) (fun b=>[]) (fun b=>[(4,b.2)]) (fun b=>[zv5 b.2 b.1]) (fun cut => ?_) ?_
 ·
  refine zyG (zyR 1 rfl (zyH (zyR 1 rfl ?_)))
  obtain ⟨r1,hq1,h⟩:=zbw h
  refine zdu (vs:=[.string s1]) rfl dc rfl rfl rfl ztO (ziy hq1) Splits.nil ?_
  rintro v2
  refine zbl (k:=0) rfl dc rfl rfl Tryz.underlying102 ?_
  obtain ⟨hg1,h⟩:=zbn h
  refine zaW rfl (zaX (r:=(r1.length:Int)+1) (IntWalk.i64_in _ hg1)) (zyR 1 rfl (zyH (zyR 1 rfl (zyH (zyR 1 rfl ?_)))))
  obtain ⟨r2,hq2,h⟩:=zbw h
  refine zdu (vs:=[.string s1]) rfl dc rfl rfl rfl ztO (ziy hq2) Splits.nil ?_
  rintro v3
  refine zyR 1 rfl (zyH (zyR 1 rfl (zyN (cut (zyG (zyR 1 rfl (zyN ?_)))))))
  refine zaC (zc1 (enc:=zdI) (e:=38) (size:=2) ?_)
  refine zbq (β:=Nat×(List Gapi_Span)×Int×Int×Value) (fun b=>zaF (fun _ _ _=>none) (zcR s1 j1 r1 r2) b.1 b.2.1 b.2.2.1 b.2.2.2.1=some r) (fun b=>[]) (fun b=>[(0,.string s1),(3,zI ((r1.length:Int)+1)),(4,b.2.2.2.2),(5,v3),(6,zI b.2.2.1),(7,zI b.2.2.2.1)]) (fun b=>[zv5 b.2.2.2.2 b.2.1,zv5 v3 r2]) (fun b=>b.1) (zbT,([]:List Gapi_Span),0,0,(.slice none 0 0)) h rfl (za5 rfl) (zad [2,1] kr rfl) ?_
  rintro ⟨n1,l4,from3,i3,v6⟩ h
  cases n1 with
  | zero=>exact zdM h
  | succ n1 =>
   obtain ⟨ag1,hag1⟩:∃ ag,ag=zaF (fun _ _ _=>none) (zcR s1 j1 r1 r2) n1:=⟨_,rfl⟩
   have h:zcR s1 j1 r1 r2 ag1 l4 from3 i3=some r:=by rw [hag1]; exact h
   unfold zcR at h
   refine zaJ (zyG (zyR 2 rfl (zaW rfl zbC (zyN ?_))))
   refine zyB rfl h (fun h => ?_) (fun h => ?_)
   ·
    refine zas (zaI (zaJ (zaC ?_)))
    obtain ⟨j2,hj2,h⟩:=zbF h
    refine za1 (β:=Int×Int×Nat) 1 rfl (fun b=>j2 b.1 b.2.1=some r) (fun b=>[]) (fun b=>[(0,.string s1),(3,zI ((r1.length:Int)+1)),(4,v6),(5,v3),(6,zI b.1),(7,zI i3),(8,zP b.2.2)]) (fun b=>[zv5 v6 l4,zv5 v3 r2,cells b.2.2 [zI from3,zI b.2.1] 38]) (fun cut => ?_) ?_
    ·
     refine zyG (zyR 2 rfl (zbS rfl dc rfl Tryz.underlying9 ?_))
     refine za7 (v:=.agg #[zI from3,zI (s1.size:Int)]) (ps:=[(0,.tmp 20),(1,.tmp 22)]) rfl dc rfl (fun _=>by kernel_rfl) ?_
     refine zbc zqC rfl dc (fun b2 => ?_)
     refine za0 (k:=2) (vs:=[zI from3,zI (s1.size:Int)]) (l':=[zI from3,zI (s1.size:Int)]) zkt rfl rfl rfl rfl rfl (show _≤_ by simp) rfl rfl ?_
     refine zyN (cut (zyG (zyR 2 rfl (zbl (k:=1) rfl dc rfl rfl Tryz.underlying102 (zaW rfl zbC (zyN ?_))))))
     refine zyB rfl h (fun h => ?_) (fun h => ?_)
     ·
      refine zyG (zyR 2 rfl ?_)
      obtain ⟨q1,hq3,h⟩:=zbw h
      refine zar (k:=1) hq3 Tryz.underlying102 zkt rfl dc rfl rfl rfl rfl (zab zdc rfl dc rfl (show _=((i3:Int).toNat)*2 from rfl) (zaH (i:=(i3:Int).toNat) (j:=0) (k:=1) (q:=q1) zbr zbp rfl dc rfl rfl (zaG hq3) rfl dc rfl (zab zdY rfl dc rfl (show _=1 from rfl) ?_)))
      refine zaM (k:=2) (l':=[zI from3,zI q1.From]) zeA rfl rfl rfl rfl rfl (fun _ _=>rfl) rfl ?_
      refine zyN (zat (zyR 2 rfl ?_))
      obtain ⟨q2,hq4,h⟩:=zbw h
      refine zar (k:=1) hq4 Tryz.underlying102 zkt rfl dc rfl rfl rfl rfl (zab zdY rfl dc rfl (show _=((i3:Int).toNat)*2+1 from rfl) (zaH (i:=(i3:Int).toNat) (j:=1) (k:=1) (q:=q2) zbr zbp rfl dc rfl rfl (zaG hq4) rfl dc rfl (zyR 1 rfl (zaQ ?_))))
      exact zai (q2.To,q1.From,b2) h rfl (za5 rfl) (zad [0,1,2] kr rfl)
     refine zas ?_
     exact zai (from3,(s1.size:Int),b2) h rfl (za5 rfl) (zad [0,1,2] kr rfl)
    rintro ⟨from4,x1,b1⟩ h
    rw [hj2] at h
    refine zat (zyR 1 rfl (zbb (k:=2) (cs:=[zI from3,zI x1]) znB rfl dc rfl rfl rfl rfl ?_))
    refine zaR (cs:=[zI from3,zI x1]) (te:=38) (ps:=[(0,.tmp 40)]) rfl dc rfl (fun _=>by kernel_rfl) (fun b3 => ?_)
    obtain ⟨hg2,h⟩:=zbn h
    refine za3 (k:=0) (k2:=3) (ys:=[(⟨from3,x1⟩:Gapi_Span)]) Tryz.underlying102 zna zbp zcl rfl dc rfl rfl rfl rfl rfl rfl hg2 (fun v7 => ?_)
    refine zyR 1 rfl (zaQ (zag (zaI (zat (zyR 1 rfl ?_)))))
    obtain ⟨hg3,h⟩:=zbn h
    refine zaW rfl (zaX (r:=i3+1) (IntWalk.i64_in _ hg3)) (zyR 1 rfl (zaQ ?_))
    subst hag1
    exact za8 (n1,l4++[(⟨from3,x1⟩:Gapi_Span)],from4,i3+1,v7) h (Nat.lt_succ_self _) rfl (za5 rfl) (zad [0,1] kr rfl)
   refine za6 (zak (zak (zav ?_)))
   exact zai (l4,v6) h rfl (za5 rfl) (zad [0] kr rfl)
 rintro ⟨l1,v1⟩ h
 rw [hj1] at h
 refine zyG (zyR 2 rfl (zyN (zaE ?_)))
 cases h
 exact zaS (rs:=[.tmp 2]) v1 (.inl rfl) Tryz.results98 (.cons (.tmp rfl) .nil) rfl (zad [0] kr rfl)
end Go.Proofs.YtbempdelckaccaaGreatDoor

namespace Go.Proofs.YtbempdelckaccaaGreatDoor
open Go.RowKit Go.Lib
set_option linter.unusedVariables false
set_option linter.unusedSimpArgs false
theorem zml (s:ByteArray):s.data.toList.length=s.size:=by rw [Array.length_toList]; rfl
theorem zfO {s:ByteArray} {i:Nat} {b:UInt8} {t:List UInt8} (h:s.data.toList.drop i=b::t):zin s (i:Int)=some (b.toNat:Int)∧i<s.size:=by
 have hl:i<s.data.toList.length:=by
  rcases Nat.lt_or_ge i s.data.toList.length with h1 | h1
  ·exact h1
  ·rw [List.drop_eq_nil_of_le h1] at h; cases h
 have hs:i<s.size:=by rw [← zml]; exact hl
 refine ⟨?_,hs⟩
 rw [zm1 rfl hs]
 rw [List.drop_eq_getElem_cons hl] at h
 have h2:=(List.cons.inj h).1
 rw [Array.getElem_toList] at h2
 rw [← h2]; rfl
theorem zfk {s:ByteArray} {i:Nat} (h:s.data.toList.drop i=[]) (hi:i≤s.size):i=s.size:=by
 rw [List.drop_eq_nil_iff,zml] at h; omega
theorem zfL {l:List UInt8} {i:Nat} {b:UInt8} {t:List UInt8} (h:l.drop i=b::t):l.drop (i+1)=t:=by
 rw [← List.drop_drop,h]; rfl
theorem n13 (b:UInt8):((b.toNat:Int)==13)=decide (b=13):=by
 by_cases h:b=13
 ·subst h; rfl
 ·rw [decide_eq_false h]; exact beq_eq_false_iff_ne.2 (fun e=>h (UInt8.toNat.inj (by show b.toNat=13; omega)))
theorem n10 (b:UInt8):((b.toNat:Int)==10)=decide (b=10):=by
 by_cases h:b=10
 ·subst h; rfl
 ·rw [decide_eq_false h]; exact beq_eq_false_iff_ne.2 (fun e=>h (UInt8.toNat.inj (by show b.toNat=10; omega)))
theorem n32 (b:UInt8):((b.toNat:Int)==32)=decide (b=32):=by
 by_cases h:b=32
 ·subst h; rfl
 ·rw [decide_eq_false h]; exact beq_eq_false_iff_ne.2 (fun e=>h (UInt8.toNat.inj (by show b.toNat=32; omega)))
theorem n9 (b:UInt8):((b.toNat:Int)==9)=decide (b=9):=by
 by_cases h:b=9
 ·subst h; rfl
 ·rw [decide_eq_false h]; exact beq_eq_false_iff_ne.2 (fun e=>h (UInt8.toNat.inj (by show b.toNat=9; omega)))
theorem n35 (b:UInt8):((b.toNat:Int)==35)=decide (b=35):=by
 by_cases h:b=35
 ·subst h; rfl
 ·rw [decide_eq_false h]; exact beq_eq_false_iff_ne.2 (fun e=>h (UInt8.toNat.inj (by show b.toNat=35; omega)))
def spP:Bool→Nat→Nat→List UInt8→List (Nat×Nat)
 | _,f,a,[]=>[(f,a)]
 | p,f,a,b::t =>
  if b=13 then (if t.head?=some 10 then spP true f (a+1) t else (f,a)::spP true (a+1) (a+1) t)
  else if b=10 then (f,if p then a - 1 else a)::spP false (a+1) (a+1) t
  else spP false f (a+1) t
def zcL (l:List UInt8):List (Nat×Nat):=spP false 0 0 l
def mkS (x:Nat×Nat):Gapi_Span:=⟨x.1,x.2⟩
def enP:Bool→Nat→List UInt8→List (Nat×Nat)
 | _,_,[]=>[]
 | p,a,b::t =>
  if b=13 then (if t.head?=some 10 then enP true (a+1) t else (a,a+1)::enP true (a+1) t)
  else if b=10 then ((if p then a - 1 else a),a+1)::enP false (a+1) t
  else enP false (a+1) t
def liE (n:Nat):Nat→List (Nat×Nat)→List (Nat×Nat)
 | f,[]=>[(f,n)]
 | f,(x,y)::es=>(f,x)::liE n y es
theorem zkQ:∀ (l:List UInt8) (p:Bool) (f a:Nat),liE (a+l.length) f (enP p a l)=spP p f a l
 | [],p,f,a=>rfl
 | b::t,p,f,a=>by
  have e:a+(b::t).length=a+1+t.length:=by rw [List.length_cons]; omega
  rw [e]
  unfold enP spP
  split
  ·split
   ·exact zkQ t _ _ _
   ·show (f,a)::liE _ _ _=_
    rw [zkQ t]
  ·split
   ·show (f,_)::liE _ _ _=_
    rw [zkQ t]
   ·exact zkQ t _ _ _
theorem zuQ {t:List UInt8} (h:t.head?≠some 10) (a:Nat):enP true a t=enP false a t:=by
 cases t with
 | nil=>rfl
 | cons b t =>
  have hb:b≠10:=fun e=>h (by rw [e]; rfl)
  unfold enP
  rw [if_neg hb,if_neg hb]
theorem zlc:∀ (l:List UInt8) (p:Bool) (a:Nat),(enP p a l).length≤l.length
 | [],p,a=>Nat.le_refl _
 | b::t,p,a=>by
  unfold enP
  rw [List.length_cons]
  split
  ·split
   ·have:=zlc t true (a+1); omega
   ·rw [List.length_cons]; have:=zlc t true (a+1); omega
  ·split
   ·rw [List.length_cons]; have:=zlc t false (a+1); omega
   ·have:=zlc t false (a+1); omega
theorem zrM (s:ByteArray) (J:List Gapi_Span→Option (List Gapi_Span)) (hs:s.size≤1073741824):∀ (n i:Nat) (acc:List Gapi_Span),i≤s.size→s.size - i<n→acc.length≤i →
  zaF (fun _ _=>none) (zdB s J) n acc (i:Int)=J (acc++(enP false i (s.data.toList.drop i)).map mkS):=by
 intro n
 induction n with
 | zero=>intro i acc h1 h2; omega
 | succ n ih =>
  intro i acc hi hn ha
  rw [zdx]
  obtain ⟨ag,hag⟩:∃ ag,ag=zaF (fun _ _=>none) (zdB s J) n:=⟨_,rfl⟩
  have ihn:∀ (i:Nat) (acc:List Gapi_Span),i≤s.size→s.size - i<n→acc.length≤i→ag acc (i:Int)=J (acc++(enP false i (s.data.toList.drop i)).map mkS):=by rw [hag]; exact ih
  rw [← hag]
  clear ih hag
  unfold zdB
  cases hd:s.data.toList.drop i with
  | nil =>
   have:=zfk hd hi
   refine zaz (decide_eq_false (by omega)) ?_
   show J acc=J (acc++[])
   rw [List.append_nil]
  | cons b t =>
   obtain ⟨hb,hlt⟩:=zfO hd
   have hd1:=zfL hd
   refine zaB (decide_eq_true (by omega)) (zby (zaO hb ?_))
   have hcast:(i:Int)+1=((i+1:Nat):Int):=by omega
   have goOn:∀ (acc2:List Gapi_Span),acc2.length≤i+1→(grd (I64 ((i:Int)+1))<|ag acc2 ((i:Int)+1))=J (acc2++(enP false (i+1) t).map mkS):=fun acc2 h2=>by
    refine zbm ⟨by omega,by omega⟩ ?_
    rw [hcast,ihn (i+1) acc2 (by omega) (by omega) h2,hd1]
   by_cases h13:b=13
   ·refine zaB (by rw [n13]; exact decide_eq_true h13) (zbm ⟨by omega,by omega⟩ ?_)
    have one:(grd (I64 ((i:Int)+1))<|grd (acc.length+1≤2147483648)<|(grd (I64 ((i:Int)+1))<|ag (acc++[(⟨i,(i:Int)+1⟩:Gapi_Span)]) ((i:Int)+1)))=J (acc++((i,i+1)::enP false (i+1) t).map mkS):=by
     refine zbm ⟨by omega,by omega⟩ (zbm (by omega) ?_)
     rw [goOn _ (by simp; omega),List.map_cons,List.append_assoc]
     rfl
    cases t with
    | nil =>
     have hsz:i+1=s.size:=zfk hd1 (by omega)
     refine zaz (decide_eq_false (by omega)) (zaO hb (zaB (by rw [n13]; exact decide_eq_true h13) ?_))
     refine one.trans ?_
     unfold enP; rw [if_pos h13,if_neg (by simp)]; rfl
    | cons c u =>
     obtain ⟨hc,hlt2⟩:=zfO hd1
     refine zaB (decide_eq_true (by omega)) (zbm ⟨by omega,by omega⟩ (zaO (by rw [hcast]; exact hc) ?_))
     by_cases h10:c=10
     ·refine zaB (by rw [n10]; exact decide_eq_true h10) (zbm ⟨by omega,by omega⟩ (zbm (by omega) (zbm ⟨by omega,by omega⟩ ?_)))
      refine zbm ⟨by omega,by omega⟩ ?_
      have hd2:=zfL hd1
      show ag _ ((i:Int)+1+1)=_
      rw [show (i:Int)+1+1=((i+2:Nat):Int) by omega,ihn (i+2) _ (by omega) (by omega) (by simp; omega),hd2,List.append_assoc]
      have e2:enP false i (b::c::u)=(i,i+2)::enP false (i+2) u:=by
       rw [enP,if_pos h13,if_pos (by rw [h10]; rfl),enP,if_neg (by rw [h10]; decide),if_pos h10,if_pos rfl]
       rfl
      rw [e2]
      rfl
     ·refine zaz (by rw [n10]; exact decide_eq_false h10) (zaO hb (zaB (by rw [n13]; exact decide_eq_true h13) ?_))
      refine one.trans ?_
      rw [show enP false i (b::c::u)=(i,i+1)::enP true (i+1) (c::u) by rw [enP,if_pos h13,if_neg (by simp [h10])],zuQ (by simp [h10])]
   ·refine zaz (by rw [n13]; exact decide_eq_false h13) (zaO hb (zaz (by rw [n13]; exact decide_eq_false h13) ?_))
    by_cases h10:b=10
    ·refine zaB (by rw [n10]; exact decide_eq_true h10) (zbm ⟨by omega,by omega⟩ (zbm (by omega) ?_))
     refine (goOn _ (by simp; omega)).trans ?_
     rw [List.append_assoc]
     rw [enP,if_neg h13,if_pos h10]; rfl
    ·refine zaz (by rw [n10]; exact decide_eq_false h10) ?_
     refine (goOn _ (by omega)).trans ?_
     rw [enP,if_neg h13,if_neg h10]
theorem ztN (s:ByteArray) (hs:s.size≤1073741824):ze7 s=some ((enP false 0 s.data.toList).map mkS):=by
 unfold ze7
 refine zby ?_
 have:=zrM s (fun l=>some l) hs zbT 0 [] (Nat.zero_le _) (by unfold zbT; omega) (Nat.le_refl _)
 rw [List.drop_zero,List.nil_append] at this
 exact this
theorem zqd (s:ByteArray) (J:List Gapi_Span→Option (List Gapi_Span)) (E:List (Nat×Nat)) (hE:E.length≤1073741824):∀ (n i f:Nat) (acc:List Gapi_Span),i≤E.length→E.length+1 - i<n→acc.length=i →
  zaF (fun _ _ _=>none) (zcR s J (E.map mkS) (E.map mkS)) n acc (f:Int) (i:Int)=J (acc++(liE s.size f (E.drop i)).map mkS):=by
 intro n
 induction n with
 | zero=>intro i f acc h1 h2; omega
 | succ n ih =>
  intro i f acc hi hn ha
  rw [zdx]
  obtain ⟨ag,hag⟩:∃ ag,ag=zaF (fun _ _ _=>none) (zcR s J (E.map mkS) (E.map mkS)) n:=⟨_,rfl⟩
  rw [← hag]
  unfold zcR
  refine zaB (decide_eq_true (by rw [List.length_map]; omega)) (zby ?_)
  cases hd:E.drop i with
  | nil =>
   have hl:E.length≤i:=List.drop_eq_nil_iff.1 hd
   obtain rfl:i=E.length:=by omega
   refine zaz (decide_eq_false (by rw [List.length_map]; omega)) (zbm (by omega) (zbm ⟨by omega,by omega⟩ ?_))
   obtain ⟨n,rfl⟩:∃ m,n=m+1:=⟨n - 1,by omega⟩
   rw [hag,zdx]
   unfold zcR
   refine zaz (decide_eq_false (by rw [List.length_map]; omega)) rfl
  | cons x es =>
   have hl:i<E.length:=by
    rcases Nat.lt_or_ge i E.length with h | h
    ·exact h
    ·rw [List.drop_eq_nil_of_le h] at hd; cases hd
   have hx:E[i]?=some x:=by
    rw [List.drop_eq_getElem_cons hl] at hd
    rw [List.getElem?_eq_getElem hl,(List.cons.inj hd).1]
   have hg:zcb (E.map mkS) (i:Int)=some (mkS x):=zc4 (by rw [List.getElem?_map,hx]; rfl)
   refine zaB (decide_eq_true (by rw [List.length_map]; omega)) (zaO hg (zaO hg (zbm (by omega) (zbm ⟨by omega,by omega⟩ ?_))))
   have hd1:E.drop (i+1)=es:=by rw [← List.drop_drop,hd]; rfl
   have:=ih (i+1) x.2 (acc++[(⟨f,x.1⟩:Gapi_Span)]) (by omega) (by omega) (by simp; omega)
   rw [hd1,List.append_assoc,← hag] at this
   exact this
theorem zp1 (s:ByteArray) (hs:s.size≤65536):zfe s=some ((zcL s.data.toList).map mkS):=by
 unfold zfe
 have hl:=zlc s.data.toList false 0
 rw [zml] at hl
 refine zby (zaO (ztN s (by omega)) (zbm ⟨by omega,by rw [List.length_map]; omega⟩ (zaO (ztN s (by omega)) ?_)))
 have:=zqd s (fun l=>some l) (enP false 0 s.data.toList) (by omega) zbT 0 0 [] (Nat.zero_le _) (by unfold zbT; omega) rfl
 rw [List.drop_zero,List.nil_append] at this
 refine this.trans ?_
 unfold zcL
 rw [← zkQ,zml,Nat.zero_add]
end Go.Proofs.YtbempdelckaccaaGreatDoor

namespace Go.Proofs.YtbempdelckaccaaGreatDoor
open Go.RowKit Go.Lib
set_option linter.unusedVariables false
set_option linter.unusedSimpArgs false
theorem zoj {b:UInt8} {t:List UInt8} (hb:128≤b.toNat):128≤(decodeL (b::t)).1∧∀ x∈(b::t).take (decodeL (b::t)).2,128≤x.toNat:=by
 have hd:=ztf (b::t) (by simp)
 generalize (decodeL (b::t)).1=r at hd ⊢
 generalize (decodeL (b::t)).2=w at hd ⊢
 obtain ⟨w,rfl⟩:∃ v,w=v+1:=⟨w - 1,by have:=hd.pos; omega⟩
 by_cases hbr:r=65533∧w+1=1
 ·obtain ⟨rfl,hw⟩:=hbr
  obtain rfl:w=0:=by omega
  refine ⟨by omega,fun x hx => ?_⟩
  simp at hx; subst hx; omega
 ·have he:=hd.bytes hbr
  have hr:128≤r:=by
   rcases Nat.lt_or_ge r 128 with h1 | h1
   ·rw [zuM r h1,List.take_succ_cons] at he
    have h2:r.toUInt8=b:=(List.cons.inj he).1
    have h3:b.toNat=r:=by rw [← h2]; simp; omega
    omega
   ·exact h1
  refine ⟨hr,?_⟩
  rw [← he]
  exact (zuN r hd.valid hr).2.2
def spE (e:Gplace_ended):Gapi_Span:=⟨e.span_From,e.span_To⟩
def pv (l:List UInt8) (i:Nat):Bool:=decide (0<i)&&l.getD (i - 1) 0==13
theorem zrz {l:List UInt8} {i:Nat} {b:UInt8} {t:List UInt8} (h:l.drop i=b::t):l.getD i 0=b:=by
 have h2:(l.drop i)[0]?=some b:=by rw [h]; rfl
 rw [List.getElem?_drop] at h2
 rw [List.getD_eq_getElem?_getD,show i=i+0 from rfl,h2]; rfl
theorem zre {l:List UInt8} {i:Nat} {b:UInt8} {t:List UInt8} (h:l.drop i=b::t):pv l (i+1)=(b==13):=by
 unfold pv
 rw [Nat.add_sub_cancel,zrz h,decide_eq_true (by omega),Bool.true_and]
theorem zus {l:List UInt8} {i w:Nat} (hw:1≤w) (hle:w≤(l.drop i).length) (h:∀ x∈(l.drop i).take w,128≤x.toNat):pv l (i+w)=false:=by
 unfold pv
 obtain ⟨w,rfl⟩:∃ v,w=v+1:=⟨w - 1,by omega⟩
 have hlt:w<(l.drop i).length:=by omega
 have h1:(l.drop i)[w]?=some ((l.drop i)[w]):=List.getElem?_eq_getElem hlt
 have h2:(l.drop i)[w]∈(l.drop i).take (w+1):=by
  refine List.mem_of_getElem? (i:=w) ?_
  rw [List.getElem?_take,if_pos (by omega)]; exact h1
 have h3:=h _ h2
 rw [List.getElem?_drop] at h1
 rw [show i+(w+1) - 1=i+w by omega,List.getD_eq_getElem?_getD,h1,Option.getD_some]
 have:((l.drop i)[w]==13)=false:=beq_eq_false_iff_ne.2 (fun e=>by rw [e] at h3; exact absurd h3 (by decide))
 rw [this,Bool.and_false]
theorem zqW:∀ (x t:List UInt8) (p:Bool) (f i:Nat),(∀ b∈x,128≤b.toNat)→x≠[]→spP p f i (x++t)=spP false f (i+x.length) t
 | [],t,p,f,i,h,hx=>absurd rfl hx
 | b::x,t,p,f,i,h,hx=>by
  have hb:=h b (by simp)
  have h13:b≠13:=fun e=>by rw [e] at hb; exact absurd hb (by decide)
  have h10:b≠10:=fun e=>by rw [e] at hb; exact absurd hb (by decide)
  rw [List.cons_append,spP,if_neg h13,if_neg h10]
  by_cases hx2:x=[]
  ·subst hx2; rfl
  ·rw [zqW x t false f (i+1) (fun y hy=>h y (by simp [hy])) hx2,List.length_cons]
   rw [show i+1+x.length=i+(x.length+1) by omega]
section
variable {s:ByteArray} {j1:(List Gapi_Place)→(List Gplace_ended)→Int→Int→Int→Int→Int→Int→Int→Option ((Option Gplace_Map)×Int)} {ag:(List Gapi_Place)→(List Gplace_ended)→Int→Int→Int→Int→Int→Int→Int→Nat→Option ((Option Gplace_Map)×Int)}
 {M:List Gapi_Place} {E:List Gplace_ended} {p16 p17 p18 p19 p20 f7 f8:Int} {m:Nat} {p:Pc}
def u22 (p:Pc) (p18:Int):Int:=if 65536≤p.r then p18+1+1 else p18+1
theorem zxr {X:Option ((Option Gplace_Map)×Int)} {A B C D:Prop} [Decidable A] [Decidable B] [Decidable C] [Decidable D] (hA:A) (hB:B) (hC:C) (hD:D) (h18:I64 (p18+1+1)) {K:Int→Option ((Option Gplace_Map)×Int)} (h:K (u22 p p18)=X) :
  zbi (fun (j2:Int→Option ((Option Gplace_Map)×Int))=>grd A<|grd B<|grd C<|grd D<|zaw (decide ((65536:Int)≤(p.r:Int))) (grd (I64 ((p18+1)+1))<|j2 ((p18+1)+1)) (j2 (p18+1))) K=X:=by
 refine zby (zbm hA (zbm hB (zbm hC (zbm hD ?_))))
 unfold u22 at h
 by_cases h1:65536≤p.r
 ·rw [if_pos h1] at h; exact zaB (decide_eq_true (by omega)) (zbm h18 h)
 ·rw [if_neg h1] at h; exact zaz (decide_eq_false (by omega)) h
theorem zsZ {X:Option ((Option Gplace_Map)×Int)} (hp:(pcs s.data.toList)[m]?=some p) (hm:M.length+1≤2147483648) (h17:I64 (p17+1)) (h18:I64 (p18+1+1)) (h18':I64 (p18+1)) (h20:I64 (p20+1))
  (hi:p.i<s.size) (hs:s.size≤65536) (hE:E.length+1≤2147483648) (h19:I64 (p19+1))
  (hX:(p.r≠13∧p.r≠10∨p.r=13∧∃ c u,s.data.toList.drop (p.i+1)=c::u∧c=10)∧ag (M++[(⟨p.i,p17,p18,p19,p20⟩:Gapi_Place)]) E p.i (p17+1) (u22 p p18) p19 (p20+1) f7 f8 (m+1)=X ∨
   ∃ w:Nat,w≤p.i+1∧(p.r=13∧s.data.toList[p.i+1]?≠some 10∧w=1∨p.r=10∧w=(if pv s.data.toList p.i then 2 else 1)) ∧
    ag (M++[(⟨p.i,p17,p18,p19,p20⟩:Gapi_Place)]) (E++[(⟨f7,((p.i+1 - w:Nat):Int),w,f8⟩:Gplace_ended)]) p.i (p17+1) (u22 p p18) (p19+1) 0 ((p.i+1:Nat):Int) ((M.length+1:Nat):Int) (m+1)=X) :
  zdf s j1 ag M E p16 p17 p18 p19 p20 f7 f8 m=X:=by
 have hl:=(List.getElem?_eq_some_iff.1 hp).1
 unfold zdf
 refine zaB (decide_eq_true hl) (zaO hp (zxr hm h17 h18' h20 h18 ?_))
 refine zby ?_
 have e13:((p.r:Int)==13)=decide (p.r=13):=by
  by_cases h:p.r=13
  ·rw [h]; rfl
  ·rw [decide_eq_false h]; exact beq_eq_false_iff_ne.2 (by omega)
 have e10:((p.r:Int)==10)=decide (p.r=10):=by
  by_cases h:p.r=10
  ·rw [h]; rfl
  ·rw [decide_eq_false h]; exact beq_eq_false_iff_ne.2 (by omega)
 have n13':((p.r:Int) != 13)=!decide (p.r=13):=by unfold bne; rw [e13]
 have n10':((p.r:Int) != 10)=!decide (p.r=10):=by unfold bne; rw [e10]
 have hsucc:(p.i:Int)+1=((p.i+1:Nat):Int):=by omega
 have fin:∀ w:Nat,w≤p.i+1→ag (M++[(⟨p.i,p17,p18,p19,p20⟩:Gapi_Place)]) (E++[(⟨f7,((p.i+1 - w:Nat):Int),w,f8⟩:Gplace_ended)]) p.i (p17+1) (u22 p p18) (p19+1) 0 ((p.i+1:Nat):Int) ((M.length+1:Nat):Int) (m+1)=X →
   (grd (I64 ((p.i:Int)+1))<|grd (I64 (((p.i:Int)+1) - (w:Int)))<|grd (E.length+1≤2147483648)<|grd (I64 ((p.i:Int)+1))<|grd (I64 (p19+1)) <|
    ag (M++[(⟨(p.i:Int),p17,p18,p19,p20⟩:Gapi_Place)]) (E++[(⟨f7,((p.i:Int)+1) - (w:Int),(w:Int),f8⟩:Gplace_ended)]) (p.i:Int) (p17+1) (u22 p p18) (p19+1) 0 ((p.i:Int)+1) ((M++[(⟨(p.i:Int),p17,p18,p19,p20⟩:Gapi_Place)]).length:Int) (m+1))=X:=fun w hw h=>by
  refine zbm ⟨by omega,by omega⟩ (zbm ⟨by omega,by omega⟩ (zbm hE (zbm ⟨by omega,by omega⟩ (zbm h19 ?_))))
  rw [← h]
  rw [show ((p.i:Int)+1) - (w:Int)=((p.i+1 - w:Nat):Int) by omega,show (p.i:Int)+1=((p.i+1:Nat):Int) by omega,List.length_append]
  rfl
 by_cases h13:p.r=13
 ·refine zaB (by rw [e13]; exact decide_eq_true h13) (zbm ⟨by omega,by omega⟩ ?_)
  have no10:p.r≠10:=by omega
  rcases hX with ⟨hc,hX⟩ | ⟨w,hw,hc,hX⟩
  ·rcases hc with ⟨h,_⟩ | ⟨_,c,u,hd,hc⟩
   ·exact absurd h13 h
   ·obtain ⟨hg,hlt⟩:=zfO hd
    refine zaB (decide_eq_true (by omega)) (zbm ⟨by omega,by omega⟩ (zaO (by rw [hsucc]; exact hg) (zaB (by rw [n10]; exact decide_eq_true hc) hX)))
  ·have hw1:w=1∧s.data.toList[p.i+1]?≠some 10:=by
    rcases hc with ⟨_,h,rfl⟩ | ⟨h,_⟩
    ·exact ⟨rfl,h⟩
    ·exact absurd h no10
   obtain ⟨rfl,hne⟩:=hw1
   have tail:(zaw (((p.r:Int):Int) != 13) (zaw (((p.r:Int):Int) != 10) (ag (M++[(⟨(p.i:Int),p17,p18,p19,p20⟩:Gapi_Place)]) E (p.i:Int) (p17+1) (u22 p p18) p19 (p20+1) f7 f8 (m+1)) ((grd (I64 ((p.i:Int)+1))<|grd (I64 (((p.i:Int)+1) - (1:Int)))<|grd (E.length+1≤2147483648)<|grd (I64 ((p.i:Int)+1))<|grd (I64 (p19+1)) <|
    ag (M++[(⟨(p.i:Int),p17,p18,p19,p20⟩:Gapi_Place)]) (E++[(⟨f7,((p.i:Int)+1) - (1:Int),(1:Int),f8⟩:Gplace_ended)]) (p.i:Int) (p17+1) (u22 p p18) (p19+1) 0 ((p.i:Int)+1) ((M++[(⟨(p.i:Int),p17,p18,p19,p20⟩:Gapi_Place)]).length:Int) (m+1)))) ((grd (I64 ((p.i:Int)+1))<|grd (I64 (((p.i:Int)+1) - (1:Int)))<|grd (E.length+1≤2147483648)<|grd (I64 ((p.i:Int)+1))<|grd (I64 (p19+1)) <|
    ag (M++[(⟨(p.i:Int),p17,p18,p19,p20⟩:Gapi_Place)]) (E++[(⟨f7,((p.i:Int)+1) - (1:Int),(1:Int),f8⟩:Gplace_ended)]) (p.i:Int) (p17+1) (u22 p p18) (p19+1) 0 ((p.i:Int)+1) ((M++[(⟨(p.i:Int),p17,p18,p19,p20⟩:Gapi_Place)]).length:Int) (m+1))))=X :=
    zaz (by rw [n13',decide_eq_true h13]; rfl) (fin 1 hw hX)
   cases hd:s.data.toList.drop (p.i+1) with
   | nil =>
    have hsz:=zfk hd (by omega)
    refine zaz (decide_eq_false (by omega)) (zaz (by rw [e10]; exact decide_eq_false no10) tail)
   | cons c u =>
    obtain ⟨hg,hlt⟩:=zfO hd
    have hc10:c≠10:=fun e=>hne (by
     have:(s.data.toList.drop (p.i+1))[0]?=some c:=by rw [hd]; rfl
     rw [List.getElem?_drop] at this; rw [← e]; exact this)
    refine zaB (decide_eq_true (by omega)) (zbm ⟨by omega,by omega⟩ (zaO (by rw [hsucc]; exact hg) (zaz (by rw [n10]; exact decide_eq_false hc10) (zaz (by rw [e10]; exact decide_eq_false no10) tail))))
 ·refine zaz (by rw [e13]; exact decide_eq_false h13) ?_
  by_cases h10:p.r=10
  ·refine zaB (by rw [e10]; exact decide_eq_true h10) ?_
   rcases hX with ⟨hc,hX⟩ | ⟨w,hw,hc,hX⟩
   ·rcases hc with ⟨_,h⟩ | ⟨h,_⟩
    ·exact absurd h10 h
    ·exact absurd h h13
   ·have hw1:w=(if pv s.data.toList p.i then 2 else 1):=by
     rcases hc with ⟨h,_⟩ | ⟨_,h⟩
     ·exact absurd h h13
     ·exact h
    have t13:((p.r:Int) != 13)=true:=by rw [n13',decide_eq_false h13]; rfl
    have t10:((p.r:Int) != 10)=false:=by rw [n10',decide_eq_true h10]; rfl
    by_cases h0:0<p.i
    ·refine zaB (decide_eq_true (by omega)) (zbm ⟨by omega,by omega⟩ ?_)
     obtain ⟨c,u,hd⟩:∃ c u,s.data.toList.drop (p.i - 1)=c::u:=by
      cases hd:s.data.toList.drop (p.i - 1) with
      | nil=>have:=zfk hd (by omega); omega
      | cons c u=>exact ⟨c,u,rfl⟩
     obtain ⟨hg,_⟩:=zfO hd
     have hpv:pv s.data.toList p.i=(c==13):=by
      have:=zre hd
      rwa [show p.i - 1+1=p.i by omega] at this
     refine zaO (by rw [show (p.i:Int) - 1=((p.i - 1:Nat):Int) by omega]; exact hg) ?_
     by_cases hc13:c=13
     ·have:w=2:=by rw [hw1,hpv,hc13]; rfl
      subst this
      exact zaB (by rw [n13]; exact decide_eq_true hc13) (fin 2 hw hX)
     ·have:w=1:=by rw [hw1,hpv,beq_eq_false_iff_ne.2 hc13]; rfl
      subst this
      exact zaz (by rw [n13]; exact decide_eq_false hc13) (zaB t13 (zaz t10 (fin 1 hw hX)))
    ·have:w=1:=by rw [hw1]; unfold pv; rw [decide_eq_false h0]; rfl
     subst this
     exact zaz (decide_eq_false (by omega)) (zaB t13 (zaz t10 (fin 1 hw hX)))
  ·refine zaz (by rw [e10]; exact decide_eq_false h10) ?_
   rcases hX with ⟨hc,hX⟩ | ⟨w,hw,hc,hX⟩
   ·exact zaB (by rw [n13',decide_eq_false h13]; rfl) (zaB (by rw [n10',decide_eq_false h10]; rfl) hX)
   ·rcases hc with ⟨h,_⟩ | ⟨h,_⟩
    ·exact absurd h h13
    ·exact absurd h h10
end
theorem zs0 (s:ByteArray) (J:(List Gapi_Place)→(List Gplace_ended)→Int→Int→Int→Int→Int→Int→Int→Option ((Option Gplace_Map)×Int)) (hs:s.size≤65536) :
  ∀ (n m i:Nat) (M:List Gapi_Place) (E:List Gplace_ended) (p16 p17 p18 p19 p20 f8:Int) (f:Nat),(pcs s.data.toList).drop m=zdw i (s.data.toList.drop i)→i≤s.size→s.size - i<n→M.length≤i→E.length≤i →
   0≤p17→p17≤i→0≤p18→p18≤2*i→0≤p19→p19≤i→0≤p20→p20≤i →
   ∃ M' E' q1 q2 q3 q4 q5 g8,∃ g:Nat,zaF (fun _ _ _ _ _ _ _ _ _ _=>none) (zdf s J) n M E p16 p17 p18 p19 p20 (f:Int) f8 m=J M' E' q1 q2 q3 q4 q5 (g:Int) g8∧M'.length≤s.size∧E'.length≤s.size ∧
    E'.map spE++[mkS (g,s.size)]=E.map spE++(spP (pv s.data.toList i) f i (s.data.toList.drop i)).map mkS:=by
 intro n
 induction n with
 | zero=>intro m i M E p16 p17 p18 p19 p20 f8 f h1 h2 h3; omega
 | succ n ih =>
  intro m i M E p16 p17 p18 p19 p20 f8 f hd hi hn hM hE a1 a2 a3 a4 a5 a6 a7 a8
  rw [zdx]
  obtain ⟨ag,hag⟩:∃ ag,ag=zaF (fun _ _ _ _ _ _ _ _ _ _=>none) (zdf s J) n:=⟨_,rfl⟩
  rw [← hag] at ih ⊢
  cases hl:s.data.toList.drop i with
  | nil =>
   have hsz:=zfk hl hi
   rw [hl,zc6] at hd
   have hge:=List.drop_eq_nil_iff.1 hd
   refine ⟨M,E,p16,p17,p18,p19,p20,f8,f,?_,by omega,by omega,?_⟩
   ·unfold zdf
    exact zaz (decide_eq_false (by omega)) rfl
   ·subst hsz; rfl
  | cons b t =>
   have hlt:=(zfO hl).2
   rw [hl,zcw i (b::t) (by simp)] at hd
   have hlm:m<(pcs s.data.toList).length:=by
    rcases Nat.lt_or_ge m (pcs s.data.toList).length with h | h
    ·exact h
    ·rw [List.drop_eq_nil_of_le h] at hd; cases hd
   have hq:(pcs s.data.toList)[m]?=some ⟨i,(decodeL (b::t)).2,(decodeL (b::t)).1⟩:=by
    rw [List.drop_eq_getElem_cons hlm] at hd
    rw [List.getElem?_eq_getElem hlm,(List.cons.inj hd).1]
   have hw1:=zgY (b::t)
   have hwl:=zmh (b::t) (by simp)
   have hd2:(pcs s.data.toList).drop (m+1)=zdw (i+(decodeL (b::t)).2) (s.data.toList.drop (i+(decodeL (b::t)).2)):=by
    rw [← List.drop_drop,hd,← List.drop_drop,hl]; rfl
   have hisz:i+(decodeL (b::t)).2≤s.size:=by
    have:(s.data.toList.drop i).length=(b::t).length:=by rw [hl]
    rw [List.length_drop,zml] at this; omega
   have hup:∀ (q:Pc),0≤u22 q p18∧u22 q p18≤p18+2:=fun q=>by unfold u22; split <;> omega
   obtain ⟨hu1,hu2⟩:=hup ⟨i,(decodeL (b::t)).2,(decodeL (b::t)).1⟩
   have hst:=@zsZ s J ag M E p16 p17 p18 p19 p20 (f:Int) f8 m ⟨i,(decodeL (b::t)).2,(decodeL (b::t)).1⟩
   by_cases hb:128≤b.toNat
   ·obtain ⟨hr,hall⟩:=zoj (t:=t) hb
    obtain ⟨M',E',q1,q2,q3,q4,q5,g8,g,h1,h2,h3,h4⟩:=ih (m+1) (i+(decodeL (b::t)).2) (M++[(⟨i,p17,p18,p19,p20⟩:Gapi_Place)]) E i (p17+1) (u22 ⟨i,(decodeL (b::t)).2,(decodeL (b::t)).1⟩ p18) p19 (p20+1) f8 f hd2 hisz (by omega) (by simp; omega) (by omega) (by omega) (by omega) hu1 (by omega) a5 (by omega) (by omega) (by omega)
    refine ⟨M',E',q1,q2,q3,q4,q5,g8,g,hst hq (by omega) ⟨by omega,by omega⟩ ⟨by omega,by omega⟩ ⟨by omega,by omega⟩ ⟨by omega,by omega⟩ hlt hs (by omega) ⟨by omega,by omega⟩ (.inl ⟨.inl ⟨by show (decodeL (b::t)).1≠13; omega,by show (decodeL (b::t)).1≠10; omega⟩,h1⟩),h2,h3,?_⟩
    rw [h4,zus hw1 (by rw [hl]; exact hwl) (by rw [hl]; exact hall)]
    congr 2
    have hsplit:b::t=(b::t).take (decodeL (b::t)).2++(b::t).drop (decodeL (b::t)).2:=(List.take_append_drop _ _).symm
    have hlen:((b::t).take (decodeL (b::t)).2).length=(decodeL (b::t)).2:=by rw [List.length_take]; omega
    conv=>rhs; rw [hsplit]
    rw [zqW _ _ _ _ _ hall (by intro e; rw [e] at hlen; simp at hlen; omega),hlen,← List.drop_drop,hl]
   ·have hdec:=decodeL_ascii b t (by omega)
    rw [hdec] at hst hq hd2 hisz
    dsimp only at hst hq hd2 hisz
    obtain ⟨hu3,hu4⟩:=hup ⟨i,1,b.toNat⟩
    clear hu1 hu2
    have hd1:=zfL hl
    have hpn:=zre hl
    by_cases h13:b=13
    ·by_cases ht:t.head?=some 10
     ·obtain ⟨c,u,rfl⟩:∃ c u,t=c::u:=by cases t with | nil=>cases ht | cons c u=>exact ⟨c,u,rfl⟩
      have hc:c=10:=Option.some.inj ht
      obtain ⟨M',E',q1,q2,q3,q4,q5,g8,g,h1,h2,h3,h4⟩:=ih (m+1) (i+1) (M++[(⟨i,p17,p18,p19,p20⟩:Gapi_Place)]) E i (p17+1) (u22 ⟨i,1,b.toNat⟩ p18) p19 (p20+1) f8 f hd2 hisz (by omega) (by simp; omega) (by omega) (by omega) (by omega) hu3 (by omega) a5 (by omega) (by omega) (by omega)
      refine ⟨M',E',q1,q2,q3,q4,q5,g8,g,hst hq (by omega) ⟨by omega,by omega⟩ ⟨by omega,by omega⟩ ⟨by omega,by omega⟩ ⟨by omega,by omega⟩ hlt hs (by omega) ⟨by omega,by omega⟩ (.inl ⟨.inr ⟨by rw [h13]; rfl,c,u,hd1,hc⟩,h1⟩),h2,h3,?_⟩
      rw [h4,hpn,hd1]
      congr 2
      conv=>rhs; rw [spP,if_pos h13,if_pos ht]
      rw [h13]; rfl
     ·obtain ⟨M',E',q1,q2,q3,q4,q5,g8,g,h1,h2,h3,h4⟩:=ih (m+1) (i+1) (M++[(⟨i,p17,p18,p19,p20⟩:Gapi_Place)]) (E++[(⟨f,((i+1 - 1:Nat):Int),(1:Nat),f8⟩:Gplace_ended)]) i (p17+1) (u22 ⟨i,1,b.toNat⟩ p18) (p19+1) 0 ((M.length+1:Nat):Int) (i+1) hd2 hisz (by omega) (by simp; omega) (by simp; omega) (by omega) (by omega) hu3 (by omega) (by omega) (by omega) (by omega) (by omega)
      refine ⟨M',E',q1,q2,q3,q4,q5,g8,g,hst hq (by omega) ⟨by omega,by omega⟩ ⟨by omega,by omega⟩ ⟨by omega,by omega⟩ ⟨by omega,by omega⟩ hlt hs (by omega) ⟨by omega,by omega⟩ (.inr ⟨1,by show 1≤i+1; omega,.inl ⟨by rw [h13]; rfl,?_,rfl⟩,h1⟩),h2,h3,?_⟩
      ·show s.data.toList[i+1]?≠some 10
       rw [← hd1,List.head?_eq_getElem?,List.getElem?_drop] at ht
       exact ht
      ·rw [h4,hpn,hd1,List.map_append,List.append_assoc]
       congr 1
       conv=>rhs; rw [spP,if_pos h13,if_neg ht]
       rw [h13]
       show spE _::List.map mkS (spP true (i+1) (i+1) t)=mkS (f,i)::_
       rfl
    ·by_cases h10:b=10
     ·have hw2:(if pv s.data.toList i then 2 else 1)≤i+1:=by
       split
       ·rename_i h; unfold pv at h; rw [Bool.and_eq_true,decide_eq_true_iff] at h; omega
       ·omega
      obtain ⟨M',E',q1,q2,q3,q4,q5,g8,g,h1,h2,h3,h4⟩:=ih (m+1) (i+1) (M++[(⟨i,p17,p18,p19,p20⟩:Gapi_Place)]) (E++[(⟨f,((i+1 - (if pv s.data.toList i then 2 else 1):Nat):Int),((if pv s.data.toList i then 2 else 1:Nat):Int),f8⟩:Gplace_ended)]) i (p17+1) (u22 ⟨i,1,b.toNat⟩ p18) (p19+1) 0 ((M.length+1:Nat):Int) (i+1) hd2 hisz (by omega) (by simp; omega) (by simp; omega) (by omega) (by omega) hu3 (by omega) (by omega) (by omega) (by omega) (by omega)
      refine ⟨M',E',q1,q2,q3,q4,q5,g8,g,hst hq (by omega) ⟨by omega,by omega⟩ ⟨by omega,by omega⟩ ⟨by omega,by omega⟩ ⟨by omega,by omega⟩ hlt hs (by omega) ⟨by omega,by omega⟩ (.inr ⟨_,hw2,.inr ⟨by rw [h10]; rfl,rfl⟩,h1⟩),h2,h3,?_⟩
      rw [h4,hpn,hd1,List.map_append,List.append_assoc]
      congr 1
      conv=>rhs; rw [spP,if_neg h13,if_pos h10]
      show spE _::List.map mkS (spP (b==13) (i+1) (i+1) t)=mkS (f,_)::_
      rw [beq_eq_false_iff_ne.2 h13]
      congr 1
      unfold spE mkS
      congr 1
      cases pv s.data.toList i <;> rfl
     ·obtain ⟨M',E',q1,q2,q3,q4,q5,g8,g,h1,h2,h3,h4⟩:=ih (m+1) (i+1) (M++[(⟨i,p17,p18,p19,p20⟩:Gapi_Place)]) E i (p17+1) (u22 ⟨i,1,b.toNat⟩ p18) p19 (p20+1) f8 f hd2 hisz (by omega) (by simp; omega) (by omega) (by omega) (by omega) hu3 (by omega) a5 (by omega) (by omega) (by omega)
      refine ⟨M',E',q1,q2,q3,q4,q5,g8,g,hst hq (by omega) ⟨by omega,by omega⟩ ⟨by omega,by omega⟩ ⟨by omega,by omega⟩ ⟨by omega,by omega⟩ hlt hs (by omega) ⟨by omega,by omega⟩ (.inl ⟨.inl ⟨fun e=>h13 (UInt8.toNat.inj e),fun e=>h10 (UInt8.toNat.inj e)⟩,h1⟩),h2,h3,?_⟩
      rw [h4,hpn,hd1,beq_eq_false_iff_ne.2 h13]
      congr 2
      conv=>rhs; rw [spP,if_neg h13,if_neg h10]
theorem zxq (s:ByteArray) (hs:s.size≤65536):∃ m:Gplace_Map,zeZ s=some (some m,0)∧m.text=s∧m.lines.map spE=(zcL s.data.toList).map mkS:=by
 obtain ⟨M',E',q1,q2,q3,q4,q5,g8,g,h1,h2,h3,h4⟩:=zs0 s (fun (m1:List Gapi_Place) (m2:List Gplace_ended) (p1:Int) (p2:Int) (p3:Int) (p4:Int) (p5:Int) (line1:Int) (line2:Int) =>
  grd (m1.length+1≤2147483648)<|grd (m2.length+1≤2147483648)<|some ((some (⟨s,m1++[(⟨(s.size:Int),p2,p3,p4,p5⟩:Gapi_Place)],m2++[(⟨line1,(s.size:Int),0,line2⟩:Gplace_ended)]⟩:Gplace_Map)),0)) hs zbT 0 0 [] [] 0 0 0 0 0 0 0
  (by rw [List.drop_zero,List.drop_zero]; rfl) (Nat.zero_le _) (by unfold zbT; omega) (Nat.le_refl _) (Nat.le_refl _) (by omega) (by omega) (by omega) (by omega) (by omega) (by omega) (by omega) (by omega)
 refine ⟨⟨s,M'++[(⟨(s.size:Int),q2,q3,q4,q5⟩:Gapi_Place)],E'++[(⟨(g:Int),(s.size:Int),0,g8⟩:Gplace_ended)]⟩,?_,rfl,?_⟩
 ·unfold zeZ
  refine zaz (decide_eq_false (by omega)) (zby (h1.trans ?_))
  exact zbm (by omega) (zbm (by omega) rfl)
 ·show List.map spE (E'++[_])=_
  rw [List.map_append]
  exact h4
theorem zs3 (s:ByteArray) (hs:65536<s.size):zeZ s=some (none,3):=by
 unfold zeZ
 exact zaB (decide_eq_true (by omega)) rfl
end Go.Proofs.YtbempdelckaccaaGreatDoor

namespace Go.Proofs.YtbempdelckaccaaGreatDoor
open Go.RowKit Go.Lib
set_option linter.unusedVariables false
set_option linter.unusedSimpArgs false
def zbv (s1:ByteArray) (prefix1:ByteArray):Option Bool :=
zaw (decide (((prefix1.size:Int):Int)≤(s1.size:Int))) (
grd (0≤(0:Int)∧(0:Int)≤(prefix1.size:Int)∧((prefix1.size:Int):Int)≤(s1.size:Int)) <|
some (decide (zbU s1 0 (prefix1.size:Int)=prefix1))
) (
some false
)
theorem zdH {s1:ByteArray} {prefix1:ByteArray} {r:Bool} (h:zbv s1 prefix1=some r):FnP Tryz.prog 80 [.string s1,.string prefix1] (.bool r):=by
 unfold zbv at h
 refine FnP.intro Tryz.func80 rfl Tryz.ntmps80 (by simp) ?_
 intro w0 K
 refine zyG (zyR 1 rfl (zyH (zyR 1 rfl (zbS rfl dc rfl Tryz.underlying9 (zyR 1 rfl (zbS rfl dc rfl Tryz.underlying9 (zaW rfl zeq (zyR 1 rfl ?_))))))))
 refine zyS (s:=10) rfl h (fun h => ?_) (fun h => ?_)
 ·
  refine zyR 2 rfl (zbS rfl dc rfl Tryz.underlying9 ?_)
  obtain ⟨hg1,h⟩:=zbn h
  refine zeH rfl dc rfl rfl rfl (zci (i:=0) (j:=(prefix1.size:Int)) Tryz.underlying9 (.inl ⟨rfl,rfl⟩) (.inr rfl) hg1) (zyR 1 rfl (zaW rfl zgZ (zyR 2 rfl (zyN (zaE ?_)))))
  cases h
  exact zaS (rs:=[.tmp 4]) () (.inl rfl) Tryz.results80 (.cons (.tmp rfl) .nil) rfl Splits.nil
 refine zyR 8 rfl (zyN (zaE ?_))
 cases h
 exact zaS (rs:=[.tmp 4]) () (.inl rfl) Tryz.results80 (.cons (.tmp rfl) .nil) rfl Splits.nil
def zdn (s1:ByteArray) (prefix1:ByteArray):Option Bool :=
zal (zbv s1 prefix1) fun (r1:Bool) =>
some r1
theorem zhR {s1:ByteArray} {prefix1:ByteArray} {r:Bool} (h:zdn s1 prefix1=some r):FnP Tryz.prog 53 [.string s1,.string prefix1] (.bool r):=by
 unfold zdn at h
 refine FnP.intro Tryz.func53 rfl Tryz.ntmps53 (by simp) ?_
 intro w0 K
 refine zyG (zyR 1 rfl (zyH (zyR 2 rfl ?_)))
 obtain ⟨r1,hq1,h⟩:=zbw h
 refine zbe (v:=.bool r1) (vs:=[.string s1,.string prefix1]) rfl dc rfl rfl rfl zwk (zdH hq1) (zyR 1 rfl (zyN (zaE ?_)))
 cases h
 exact zaS (rs:=[.tmp 4]) () (.inl rfl) Tryz.results53 (.cons (.tmp rfl) .nil) rfl Splits.nil
def zca (s1:ByteArray) (prefix1:ByteArray):Option ByteArray :=
zal (zbv s1 prefix1) fun (r1:Bool) =>
zaw (r1) (
grd (0≤((prefix1.size:Int):Int)∧((prefix1.size:Int):Int)≤(s1.size:Int)∧((s1.size:Int):Int)≤(s1.size:Int)) <|
some (zbU s1 (prefix1.size:Int) (s1.size:Int))
) (
some s1
)
theorem zfa {s1:ByteArray} {prefix1:ByteArray} {r:ByteArray} (h:zca s1 prefix1=some r):FnP Tryz.prog 79 [.string s1,.string prefix1] (.string r):=by
 unfold zca at h
 refine FnP.intro Tryz.func79 rfl Tryz.ntmps79 (by simp) ?_
 intro w0 K
 refine zyG (zyR 1 rfl (zyN (zaJ (zyG (zyR 2 rfl ?_)))))
 obtain ⟨r1,hq1,h⟩:=zbw h
 refine zbe (v:=.bool r1) (vs:=[.string s1,.string prefix1]) rfl dc rfl rfl rfl zwk (zdH hq1) (zyN ?_)
 refine zyB rfl h (fun h => ?_) (fun h => ?_)
 ·
  refine zyG (zyR 2 rfl (zbS rfl dc rfl Tryz.underlying9 ?_))
  obtain ⟨hg1,h⟩:=zbn h
  refine zeH rfl dc rfl rfl rfl (zci (i:=(prefix1.size:Int)) (j:=(s1.size:Int)) Tryz.underlying9 (.inr rfl) (.inl ⟨rfl,rfl⟩) hg1) (zyR 1 rfl (zyN (zaE (zaq ?_))))
  cases h
  exact zaS (rs:=[.tmp 4]) () (.inl rfl) Tryz.results79 (.cons (.tmp rfl) .nil) rfl Splits.nil
 refine zas (zaI (zyG (zyR 2 rfl (zyN (zaE ?_)))))
 cases h
 exact zaS (rs:=[.tmp 4]) () (.inl rfl) Tryz.results79 (.cons (.tmp rfl) .nil) rfl Splits.nil
def zc9 (s1:ByteArray) (prefix1:ByteArray):Option ByteArray :=
zal (zca s1 prefix1) fun (r1:ByteArray) =>
some r1
theorem zhk {s1:ByteArray} {prefix1:ByteArray} {r:ByteArray} (h:zc9 s1 prefix1=some r):FnP Tryz.prog 50 [.string s1,.string prefix1] (.string r):=by
 unfold zc9 at h
 refine FnP.intro Tryz.func50 rfl Tryz.ntmps50 (by simp) ?_
 intro w0 K
 refine zyG (zyR 1 rfl (zyH (zyR 2 rfl ?_)))
 obtain ⟨r1,hq1,h⟩:=zbw h
 refine zbe (v:=.string r1) (vs:=[.string s1,.string prefix1]) rfl dc rfl rfl rfl zxB (zfa hq1) (zyR 1 rfl (zyN (zaE ?_)))
 cases h
 exact zaS (rs:=[.tmp 4]) () (.inl rfl) Tryz.results50 (.cons (.tmp rfl) .nil) rfl Splits.nil
end Go.Proofs.YtbempdelckaccaaGreatDoor

namespace Go.Proofs.YtbempdelckaccaaGreatDoor
open Go.RowKit Go.Lib
set_option linter.unusedVariables false
set_option linter.unusedSimpArgs false
def ze8 (s1:ByteArray):Option Bool :=
grd (s1.size≤9223372036854775807) <|
some (decide (zo9 s1=(⟨#[]⟩:ByteArray)))
theorem zmU {s1:ByteArray} {r:Bool} (h:ze8 s1=some r):FnP Tryz.prog 48 [.string s1] (.bool r):=by
 unfold ze8 at h
 refine FnP.intro Tryz.func48 rfl Tryz.ntmps48 (by simp) ?_
 intro w0 K
 refine zyG (zyR 1 rfl (zyH (zyR 1 rfl ?_)))
 obtain ⟨hg1,h⟩:=zbn h
 refine zbe (v:=.string (zo9 s1)) (vs:=[.string s1,.string (⟨#[32,9]⟩:ByteArray)]) rfl dc rfl rfl rfl zxC (zvz s1 hg1) (zaW rfl zgZ (zyR 1 rfl (zyN (zaE ?_))))
 cases h
 exact zaS (rs:=[.tmp 2]) () (.inl rfl) Tryz.results48 (.cons (.tmp rfl) .nil) rfl Splits.nil
def zeD (s1:ByteArray):Option Bool :=
zaw (decide (s1=(⟨#[35]⟩:ByteArray))) (
some true
) (
zal (zdn s1 (⟨#[35,32]⟩:ByteArray)) fun (r1:Bool) =>
some r1
)
theorem zlM {s1:ByteArray} {r:Bool} (h:zeD s1=some r):FnP Tryz.prog 49 [.string s1] (.bool r):=by
 unfold zeD at h
 refine FnP.intro Tryz.func49 rfl Tryz.ntmps49 (by simp) ?_
 intro w0 K
 refine zyG (zyR 1 rfl (zyH (zyR 1 rfl (zaW rfl zgZ (zyR 1 rfl ?_)))))
 refine zyS (s:=5) rfl h (fun h => ?_) (fun h => ?_)
 ·
  refine zyR 4 rfl (zyN (zaE ?_))
  cases h
  exact zaS (rs:=[.tmp 2]) () (.inl rfl) Tryz.results49 (.cons (.tmp rfl) .nil) rfl Splits.nil
 refine zyR 1 rfl ?_
 obtain ⟨r1,hq1,h⟩:=zbw h
 refine zbe (v:=.bool r1) (vs:=[.string s1,.string (⟨#[35,32]⟩:ByteArray)]) rfl dc rfl rfl rfl zxP (zhR hq1) (zyR 2 rfl (zyN (zaE ?_)))
 cases h
 exact zaS (rs:=[.tmp 2]) () (.inl rfl) Tryz.results49 (.cons (.tmp rfl) .nil) rfl Splits.nil
def zdd (s1:ByteArray) (j1:Int→Option Int) (ag1:Int→Nat→Option Int) (n4:Int) (m3:Nat):Option Int :=
zaw (decide (m3<(pcs s1.data.toList).length)) (
zal ((pcs s1.data.toList)[m3]?) fun (p1:Pc) =>
zaw (((p1.r:Int):Int) != 32) (
j1 n4
) (
grd (I64 (n4+1)) <|
ag1 (n4+1) (m3+1)
)
) (
j1 n4
)
def zd3 (s1:ByteArray):Option Int :=
zbi (fun (j1:Int→Option Int) =>
zaF (fun _ _=>none) (zdd s1 j1) zbT 0 0
) (fun (n1:Int) =>
some n1
)
theorem zlN {s1:ByteArray} {r:Int} (h:zd3 s1=some r):FnP Tryz.prog 51 [.string s1] (zI r):=by
 unfold zd3 at h
 refine FnP.intro Tryz.func51 rfl Tryz.ntmps51 (by simp) ?_
 intro w0 K
 obtain ⟨j1,hj1,h⟩:=zbF h
 refine za1 (β:=Int) 2 rfl (fun b=>j1 b=some r) (fun b=>[]) (fun b=>[(3,zI b)]) (fun b=>[]) (fun cut => ?_) ?_
 ·
  refine zyG (zyR 1 rfl (zyH (zyR 1 rfl (zyN (cut (zyG (zyR 1 rfl ?_)))))))
  refine zfz Tryz.underlying9 rfl dc rfl (fun b1 => ?_)
  refine zyN (zaC ?_)
  refine zbq (β:=Nat×Int×Nat) (fun b=>zaF (fun _ _=>none) (zdd s1 j1) b.1 b.2.1 b.2.2=some r) (fun b=>[]) (fun b=>[(3,zI b.2.1),(7,zP b1)]) (fun b=>[obj b1 (.stringIter s1 (zfS s1 b.2.2))]) (fun b=>b.1) (zbT,0,0) (by exact h) rfl (za5 rfl) (zad [0] kr rfl) ?_
  rintro ⟨n5,n4,m3⟩ h
  cases n5 with
  | zero=>exact zdM h
  | succ n5 =>
   obtain ⟨ag1,hag1⟩:∃ ag,ag=zaF (fun _ _=>none) (zdd s1 j1) n5:=⟨_,rfl⟩
   have h:zdd s1 j1 ag1 n4 m3=some r:=by rw [hag1]; exact h
   unfold zdd at h
   refine zyG ?_
   refine zfB (b:=decide (m3<(pcs s1.data.toList).length)) (fun hb1 => ?_) (fun hb1 => ?_)
   ·
    have h:=zhY hb1 h
    obtain ⟨p1,hq1,h⟩:=zbw h
    refine zf2 (k:=0) (m:=m3) (p:=p1) rfl dc rfl rfl hq1 (zaY rfl dc rfl rfl (zyN (zaJ (za9 rfl (zas (zaI (zaC (zyG (zaY rfl dc rfl rfl (zyR 1 rfl (zaQ ?_)))))))))))
    refine zaI (zaJ (zyG (zyR 1 rfl (zaW rfl zcc (zyN ?_)))))
    refine zyB rfl h (fun h => ?_) (fun h => ?_)
    ·
     refine za6 (zak (zcp dc (zak (zav ?_))))
     exact zai n4 h rfl (za5 rfl) Splits.nil
    refine zas (zaI (zat (zyR 1 rfl ?_)))
    obtain ⟨hg1,h⟩:=zbn h
    refine zaW rfl (zaX (r:=n4+1) (IntWalk.i64_in _ hg1)) (zyR 1 rfl (zaQ (zag ?_)))
    subst hag1
    exact za8 (n5,n4+1,m3+1) h (Nat.lt_succ_self _) rfl (za5 rfl) (zad [0] kr rfl)
   have h:=zhZ hb1 h
   refine zf3 (k:=0) (m:=m3) rfl dc rfl rfl (Nat.le_of_not_lt (of_decide_eq_false hb1)) (zaY rfl dc rfl rfl (zyN (zaJ (zaN rfl (za6 (zak (zak (zav ?_))))))))
   exact zai n4 h rfl (za5 rfl) Splits.nil
 rintro n1 h
 rw [hj1] at h
 refine zyG (zyR 2 rfl (zyN (zaE ?_)))
 cases h
 exact zaS (rs:=[.tmp 2]) () (.inl rfl) Tryz.results51 (.cons (.tmp rfl) .nil) rfl Splits.nil
def zde (text1:ByteArray) (j1:ByteArray→(List Gapi_Verse)→(List Gapi_Span)→Option ((Option Gpoem_Poem)×Gapi_Spot)) (p4:Gplace_Map) (r2:Int) (ag1:ByteArray→(List Gapi_Verse)→(List Gapi_Span)→Bool→Bool→Int→Option ((Option Gpoem_Poem)×Gapi_Spot)) (p14:ByteArray) (p15:List Gapi_Verse) (p16:List Gapi_Span) (first3:Bool) (row3:Bool) (x3:Int):Option ((Option Gpoem_Poem)×Gapi_Spot) :=
zaw (decide ((x3:Int)<r2)) (
zbi (fun (j2:ByteArray→(List Gapi_Verse)→(List Gapi_Span)→Bool→Bool→Option ((Option Gpoem_Poem)×Gapi_Spot)) =>
zbi (fun (j3:Int→Int→ByteArray→Option ((Option Gpoem_Poem)×Gapi_Spot)) =>
zal (zeb p4 x3) fun (r3:(Gapi_Span×Int×Int)) =>
grd (0≤(r3.1.From:Int)∧(r3.1.From:Int)≤r3.1.To∧(r3.1.To:Int)≤(text1.size:Int)) <|
zal (ze8 (zbU text1 r3.1.From r3.1.To)) fun (r4:Bool) =>
zaw (r4) (
j2 p14 p15 p16 first3 false
) (
zaw (decide ((1024:Int)<((zbU text1 r3.1.From r3.1.To).size:Int))) (
grd (I64 (r3.1.From+1024)) <|
some (none,(⟨3,r3.1.From+1024⟩:Gapi_Spot))
) (
zaw (first3) (
zal (zeD (zbU text1 r3.1.From r3.1.To)) fun (r5:Bool) =>
zaw (r5) (
grd (0≤(1:Int)∧(1:Int)≤((zbU text1 r3.1.From r3.1.To).size:Int)∧(((zbU text1 r3.1.From r3.1.To).size:Int):Int)≤((zbU text1 r3.1.From r3.1.To).size:Int)) <|
zal (zc9 (zbU (zbU text1 r3.1.From r3.1.To) 1 ((zbU text1 r3.1.From r3.1.To).size:Int)) (⟨#[32]⟩:ByteArray)) fun (r6:ByteArray) =>
j2 r6 p15 p16 false row3
) (
zaw (((p15.length:Int):Int)==512) (
some (none,(⟨3,r3.1.From⟩:Gapi_Spot))
) (
j3 r3.1.From r3.1.To (zbU text1 r3.1.From r3.1.To)
)
)
) (
zaw (((p15.length:Int):Int)==512) (
some (none,(⟨3,r3.1.From⟩:Gapi_Spot))
) (
j3 r3.1.From r3.1.To (zbU text1 r3.1.From r3.1.To)
)
)
)
)
) (fun (span1:Int) (span2:Int) (line1:ByteArray) =>
zbi (fun (j4:(List Gapi_Span)→Option ((Option Gpoem_Poem)×Gapi_Spot)) =>
zaw (!row3) (
grd (p16.length+1≤2147483648) <|
j4 (p16++[(⟨(p15.length:Int),(p15.length:Int)⟩:Gapi_Span)])
) (
j4 p16
)
) (fun (p20:List Gapi_Span) =>
grd (I64 ((p20.length:Int) - 1)) <|
zal (zcb p20 ((p20.length:Int) - 1)) fun (q1:Gapi_Span) =>
zal (zd3 line1) fun (r7:Int) =>
grd (0≤(r7:Int)∧(r7:Int)≤(line1.size:Int)∧((line1.size:Int):Int)≤(line1.size:Int)) <|
grd (I64 ((p20.length:Int) - 1)) <|
grd (I64 ((p15.length:Int) - q1.From)) <|
grd (I64 (span1+r7)) <|
grd (p15.length+1≤2147483648) <|
grd (I64 ((p15.length:Int)+1)) <|
j2 p14 (p15++[(⟨zbU line1 r7 (line1.size:Int),r7,(p20.length:Int) - 1,(p15.length:Int) - q1.From,span1+r7,span2⟩:Gapi_Verse)]) (p20.set ((p20.length:Int) - 1:Int).toNat (⟨q1.From,(p15.length:Int)+1⟩:Gapi_Span)) false true
)
)
) (fun (p17:ByteArray) (p18:List Gapi_Verse) (p19:List Gapi_Span) (first4:Bool) (row4:Bool) =>
grd (I64 (x3+1)) <|
ag1 p17 p18 p19 first4 row4 (x3+1)
)
) (
j1 p14 p15 p16
)
def zeY (text1:ByteArray):Option ((Option Gpoem_Poem)×Gapi_Spot) :=
zal (zeZ text1) fun (r1:((Option Gplace_Map)×Int)) =>
zaw ((r1.2:Int) != 0) (
some (none,(⟨r1.2,65536⟩:Gapi_Spot))
) (
zbi (fun (j1:ByteArray→(List Gapi_Verse)→(List Gapi_Span)→Option ((Option Gpoem_Poem)×Gapi_Spot)) =>
zal (r1.1) fun (p4:Gplace_Map) =>
zal (zfr p4) fun (r2:Int) =>
zaF (fun _ _ _ _ _ _=>none) (zde text1 j1 p4 r2) zbT ByteArray.empty ([]:List Gapi_Verse) ([]:List Gapi_Span) true false 0
) (fun (p1:ByteArray) (p2:List Gapi_Verse) (p3:List Gapi_Span) =>
some ((some (⟨p1,p2,p3,text1⟩:Gpoem_Poem)),(⟨0,0⟩:Gapi_Spot))
)
)
theorem znM {text1:ByteArray} {r:((Option Gpoem_Poem)×Gapi_Spot)} (h:zeY text1=some r):Fn Tryz.prog 22 [.string text1] [] (fun v0:Value=>.tuple #[v0,.agg (zr6 r.2).toArray]) (fun v0=>[zmV zcW zcV 106 v0 r.1]):=by
 unfold zeY at h
 refine Fn.intro Tryz.func22 rfl Tryz.ntmps22 (by simp) ?_
 intro w0 K
 refine zyG (zyR 1 rfl ?_)
 refine zbc zsz rfl dc (fun b1 => ?_)
 refine zyN ?_
 refine zkk (β:=Unit) (l:=0) (fun _=>False) (fun _=>[]) (fun _=>[]) rfl ?_ ?_
 ·
  refine zyG (zyR 1 rfl ?_)
  obtain ⟨r1,hq1,h⟩:=zbw h
  refine zdu (vs:=[.string text1]) rfl dc rfl rfl rfl zxW (znO hq1) Splits.nil ?_
  rintro v1
  refine zdA (L':=[cells b1 [zI 0,zI 0] 60,zmV zex zev 153 v1 r1.1]) (zad [0,1] kr rfl) (zyR 1 rfl (zaY rfl dc rfl rfl (zaY rfl dc rfl rfl (zyR 2 rfl (zyN (zaJ (zyG (zyR 1 rfl (zaW rfl zcc (zaQ ?_))))))))))
  refine zaI ?_
  refine zyB rfl h (fun h => ?_) (fun h => ?_)
  ·
   refine zyG (zyR 1 rfl ?_)
   refine za7 (v:=.agg #[zI r1.2,zI 65536]) (ps:=[(0,.tmp 24),(1,.const (zI 65536))]) rfl dc rfl (fun _=>by kernel_rfl) ?_
   refine zyR 1 rfl (za0 (k:=0) (vs:=[zI r1.2,zI 65536]) (l':=[zI r1.2,zI 65536]) zks rfl rfl rfl rfl rfl (show _≤_ by simp) rfl rfl (zyN (zaE (zaq (zd1 (by simp) (zd0 zcW zcV 106 ?_))))))
   cases h
   exact zaS (rs:=[.tmp 2,.cell 3 60]) (.pointer none) (.inl rfl) Tryz.results22 (.cons (.tmp rfl) (.cons (.cells zmK (k:=0) rfl rfl rfl) .nil)) rfl (zad [2] kr rfl)
  refine zas (zaI ?_)
  obtain ⟨j1,hj1,h⟩:=zbF h
  refine za1 (β:=ByteArray×(List Gapi_Verse)×(List Gapi_Span)×Nat×Hd×Hd) 3 rfl (fun b=>j1 b.1 b.2.1 b.2.2.1=some r) (fun b=>[]) (fun b=>[(3,zP b1),(6,zP b.2.2.2.1)]) (fun b=>[cells b1 [zI 0,zI 0] 60,cells b.2.2.2.1 [.string b.1,b.2.2.2.2.1.v,b.2.2.2.2.2.v,.string text1] 106,zv6 b.2.2.2.2.1.v b.2.1,zv5 b.2.2.2.2.2.v b.2.2.1]) (fun cut => ?_) ?_
  ·
   refine zyG (zyR 1 rfl ?_)
   refine za7 (v:=.agg #[.string ByteArray.empty,.slice none 0 0,.slice none 0 0,.string text1]) (ps:=[(1,.tmp 26)]) rfl dc rfl (fun _=>by kernel_rfl) ?_
   refine zdQ rfl dc rfl (fun b3 => ?_)
   refine zyR 1 rfl (zyH (zyR 2 rfl (zyN (zaJ (zkl (zaI (cut (zaJ ?_))))))))
   refine zat (zyR 1 rfl ?_)
   obtain ⟨p4,hq2,h⟩:=zbw h
   refine zsn (As:=[zmV zex zev 153 v1 r1.1]) (zad [1] kr rfl) (zhG hq2) ?_
   rintro ⟨b4,hd3,hd4⟩ hv1
   have hkp:=h
   subst hv1
   have h:=hkp
   obtain ⟨r2,hq3,h⟩:=zbw h
   refine zcH (v:=zI r2) (vs:=[zP b4]) (Rd.nil:Rd _ _ []) rfl dc rfl rfl rfl zxV (ziz (bm1:=b4) (m1:=p4) (m1_h0:=hd3) (m1_h1:=hd4) hq3) (.own (zad [3] (by kernel_rfl) rfl) (fun _ _ h=>sepL.one1.1 h) (.own (zad [4] (by kernel_rfl) rfl) (fun _ _ h=>sepL.one1.1 h) (.own (zad [5] (by kernel_rfl) rfl) (fun _ _ h=>sepL.one1.1 h) .nil))) ?_
   refine zyR 1 rfl (zyN (zaC (zc1 (enc:=zbA) (e:=76) (size:=6) ?_)))
   refine zc1 (enc:=zdI) (e:=38) (size:=2) ?_
   refine zbq (β:=Nat×ByteArray×(List Gapi_Verse)×(List Gapi_Span)×Bool×Bool×Int×Hd×Hd) (fun b=>zaF (fun _ _ _ _ _ _=>none) (zde text1 j1 p4 r2) b.1 b.2.1 b.2.2.1 b.2.2.2.1 b.2.2.2.2.1 b.2.2.2.2.2.1 b.2.2.2.2.2.2.1=some r) (fun b=>[]) (fun b=>[(0,.string text1),(3,zP b1),(4,zP b4),(6,zP b3),(7,.bool b.2.2.2.2.1),(8,.bool b.2.2.2.2.2.1),(30,zI r2),(31,zI b.2.2.2.2.2.2.1)]) (fun b=>[cells b1 [zI 0,zI 0] 60,cells b4 [.string p4.text,hd3.v,hd4.v] 153,zv4 hd3.v p4.places,zv3 hd4.v p4.lines,cells b3 [.string b.2.1,b.2.2.2.2.2.2.2.1.v,b.2.2.2.2.2.2.2.2.v,.string text1] 106,zv6 b.2.2.2.2.2.2.2.1.v b.2.2.1,zv5 b.2.2.2.2.2.2.2.2.v b.2.2.2.1]) (fun b=>b.1) (zbT,ByteArray.empty,([]:List Gapi_Verse),([]:List Gapi_Span),true,false,0,Hd.nil,Hd.nil) h rfl (za5 rfl) (zad [0,3,4,5,2,6,7] kr rfl) ?_
   rintro ⟨n1,p14,p15,p16,first3,row3,x3,hd10,hd11⟩ h
   cases n1 with
   | zero=>exact zdM h
   | succ n1 =>
    obtain ⟨ag1,hag1⟩:∃ ag,ag=zaF (fun _ _ _ _ _ _=>none) (zde text1 j1 p4 r2) n1:=⟨_,rfl⟩
    have h:zde text1 j1 p4 r2 ag1 p14 p15 p16 first3 row3 x3=some r:=by rw [hag1]; exact h
    unfold zde at h
    refine zyG (zaW rfl zbC (zyN (zaJ ?_)))
    refine zyB rfl h (fun h => ?_) (fun h => ?_)
    ·
     refine zas (zaI ?_)
     obtain ⟨j2,hj2,h⟩:=zbF h
     refine za1 (β:=ByteArray×(List Gapi_Verse)×(List Gapi_Span)×Bool×Bool×Hd×Hd) 0 rfl (fun b=>j2 b.1 b.2.1 b.2.2.1 b.2.2.2.1 b.2.2.2.2.1=some r) (fun b=>[]) (fun b=>[(0,.string text1),(3,zP b1),(4,zP b4),(6,zP b3),(7,.bool b.2.2.2.1),(8,.bool b.2.2.2.2.1),(30,zI r2),(31,zI x3)]) (fun b=>[cells b1 [zI 0,zI 0] 60,cells b4 [.string p4.text,hd3.v,hd4.v] 153,zv4 hd3.v p4.places,zv3 hd4.v p4.lines,cells b3 [.string b.1,b.2.2.2.2.2.1.v,b.2.2.2.2.2.2.v,.string text1] 106,zv6 b.2.2.2.2.2.1.v b.2.1,zv5 b.2.2.2.2.2.2.v b.2.2.1]) (fun cut => ?_) ?_
     ·
      refine cut (zaC ?_)
      obtain ⟨j3,hj3,h⟩:=zbF h
      refine za1 (β:=Int×Int×ByteArray×Nat) 3 rfl (fun b=>j3 b.1 b.2.1 b.2.2.1=some r) (fun b=>[]) (fun b=>[(0,.string text1),(3,zP b1),(4,zP b4),(6,zP b3),(8,.bool row3),(10,zP b.2.2.2),(13,.string b.2.2.1),(30,zI r2),(31,zI x3)]) (fun b=>[cells b1 [zI 0,zI 0] 60,cells b4 [.string p4.text,hd3.v,hd4.v] 153,zv4 hd3.v p4.places,zv3 hd4.v p4.lines,cells b3 [.string p14,hd10.v,hd11.v,.string text1] 106,zv6 hd10.v p15,zv5 hd11.v p16,cells b.2.2.2 [zI b.1,zI b.2.1] 38]) (fun cut => ?_) ?_
      ·
       refine zyG (zyR 2 rfl (zyH (zyR 2 rfl ?_)))
       obtain ⟨r3,hq4,h⟩:=zbw h
       refine zcH (v:=.tuple #[.agg (zr5 r3.1).toArray,zI r3.2.1,zI r3.2.2]) (vs:=[zP b4,zI x3]) (Rd.nil:Rd _ _ []) rfl dc rfl rfl rfl zxU (zjg (bm1:=b4) (m1:=p4) (m1_h0:=hd3) (m1_h1:=hd4) hq4) (.own (zad [1] (by kernel_rfl) rfl) (fun _ _ h=>sepL.one1.1 h) (.own (zad [2] (by kernel_rfl) rfl) (fun _ _ h=>sepL.one1.1 h) (.own (zad [3] (by kernel_rfl) rfl) (fun _ _ h=>sepL.one1.1 h) .nil))) ?_
       refine zyR 1 rfl (zaY rfl dc rfl rfl (zaY rfl dc rfl rfl (zaY rfl dc rfl rfl ?_)))
       refine zbc zqC rfl dc (fun b6 => ?_)
       refine za0 (k:=7) (vs:=(zr5 r3.1)) (l':=(zr5 r3.1)) zkt rfl rfl rfl rfl rfl (show _≤_ by simp) rfl rfl ?_
       refine zyR 2 rfl (zyH (zyR 1 rfl (zab zdc rfl dc rfl (show _=0 from rfl) (zam (k:=7) zbr rfl dc rfl rfl rfl (zab zdY rfl dc rfl (show _=1 from rfl) (zam (k:=7) zbr rfl dc rfl rfl rfl ?_))))))
       obtain ⟨hg1,h⟩:=zbn h
       refine zeH rfl dc rfl rfl rfl (zci (i:=r3.1.From) (j:=r3.1.To) Tryz.underlying9 (.inr rfl) (.inr rfl) hg1) (zyR 1 rfl (zyN (cut (zaC (zyG (zyR 1 rfl ?_))))))
       obtain ⟨r4,hq5,h⟩:=zbw h
       refine zbe (v:=.bool r4) (vs:=[.string (zbU text1 r3.1.From r3.1.To)]) rfl dc rfl rfl rfl zxT (zmU hq5) (zyR 1 rfl (zyN ?_))
       refine zyB rfl h (fun h => ?_) (fun h => ?_)
       ·
        refine zyG (zyR 1 rfl (zyN (za6 (zcp dc (zak (zav ?_))))))
        exact zai (p14,p15,p16,first3,false,hd10,hd11) h rfl (za5 rfl) (zad [0,1,2,3,4,5,6] kr rfl)
       refine zyG (zyR 1 rfl (zbS rfl dc rfl Tryz.underlying9 (zaW rfl zcK (zyR 1 rfl (zyN ?_)))))
       refine zyB rfl h (fun h => ?_) (fun h => ?_)
       ·
        refine zaJ ?_
        obtain ⟨hg2,h⟩:=zbn h
        refine zbK 5 [(0,54,zP b6),(1,55,zI r3.1.From),(2,56,zI (r3.1.From+1024)),(3,57,.agg #[zI 3,zI (r3.1.From+1024)]),(4,2,.pointer none)] mixed kr kr dc (by rfl) kr kr (zae ?_ (zae ?_ (zae ?_ (zae ?_ (zae ?_ DrawPre.nil))))) ?_
        · exact fun D n d c u i=>zab zdc rfl dc (za4 (by rfl) rfl) (show _=0 from rfl) (zaf 0 u i rfl)
        · exact fun D n d c u i=>zam (k:=7) zbr rfl dc (zaa (m:=0) u rfl (d 0 dc)) rfl rfl (zaf 1 u i rfl)
        · exact fun D n d c u i=>zb9 rfl dc (zaa (m:=1) u rfl (d 1 dc)) rfl (zaX (r:=r3.1.From+1024) (IntWalk.i64_in _ hg2)) (zaf 2 u i rfl)
        · exact fun D n d c u i=>za7 (v:=.agg #[zI 3,zI (r3.1.From+1024)]) (ps:=[(0,.const (zI 3)),(1,.tmp 56)]) rfl dc (evP.cons rfl (evP.cons (zaa (m:=2) u rfl (d 2 dc)) evP.nil)) (fun _=>by kernel_rfl) (zaf 3 u i rfl)
        · exact fun D n d c u i=>zyR 1 rfl (zaf 4 u i rfl)
        refine za0 (k:=0) (vs:=[zI 3,zI (r3.1.From+1024)]) (l':=[zI 3,zI (r3.1.From+1024)]) zks rfl rfl rfl rfl rfl (show _≤_ by simp) rfl rfl (zyN (zaE (zaA (zaq (zaA (zaq (zaq (zaA (zaq (zd1 (by simp) (zd0 zcW zcV 106 ?_)))))))))))
        cases h
        exact zaS (rs:=[.tmp 2,.cell 3 60]) (.pointer none) (.inl rfl) Tryz.results22 (.cons (.tmp rfl) (.cons (.cells zmK (k:=0) rfl rfl rfl) .nil)) rfl (zad [8] kr rfl)
       refine zyG (zyR 2 rfl ?_)
       refine zyS (s:=60) rfl h (fun h => ?_) (fun h => ?_)
       ·
        refine zyR 1 rfl ?_
        obtain ⟨r5,hq6,h⟩:=zbw h
        refine zbe (v:=.bool r5) (vs:=[.string (zbU text1 r3.1.From r3.1.To)]) rfl dc rfl rfl rfl zxS (zlM hq6) (zyR 2 rfl (zyN ?_))
        refine zyB rfl h (fun h => ?_) (fun h => ?_)
        ·
         refine zyG (zyR 1 rfl (zyH (zyR 2 rfl ?_)))
         obtain ⟨hg3,h⟩:=zbn h
         refine zeH rfl dc rfl rfl rfl (zci (i:=1) (j:=((zbU text1 r3.1.From r3.1.To).size:Int)) Tryz.underlying9 (.inr rfl) (.inl ⟨rfl,rfl⟩) hg3) ?_
         obtain ⟨r6,hq7,h⟩:=zbw h
         refine zbe (v:=.string r6) (vs:=[.string (zbU (zbU text1 r3.1.From r3.1.To) 1 ((zbU text1 r3.1.From r3.1.To).size:Int)),.string (⟨#[32]⟩:ByteArray)]) rfl dc rfl rfl rfl zxR (zhk hq7) (zay rfl dc rfl (zab zeU rfl dc rfl (show _=0 from rfl) (zab ztd rfl dc rfl (show _=0 from rfl) ?_)))
         refine zaM (k:=4) (l':=[.string r6,hd10.v,hd11.v,.string text1]) zwX rfl rfl rfl rfl rfl (fun _ _=>rfl) rfl ?_
         refine zyN (za6 (zcp dc (zak (zav ?_))))
         exact zai (r6,p15,p16,false,row3,hd10,hd11) h rfl (za5 rfl) (zad [0,1,2,3,4,5,6] kr rfl)
        refine zyG (zyR 1 rfl (zay rfl dc rfl (zab zeU rfl dc rfl (show _=0 from rfl) (zab zhM rfl dc rfl (show _=1 from rfl) (zam (k:=4) zq4 rfl dc rfl rfl rfl (zbl (k:=5) rfl dc rfl rfl Tryz.underlying26 (zaW rfl zaT (zyR 1 rfl (zyN ?_)))))))))
        refine zyB rfl h (fun h => ?_) (fun h => ?_)
        ·
         refine zaJ ?_
         refine zbK 4 [(0,79,zP b6),(1,80,zI r3.1.From),(2,81,.agg #[zI 3,zI r3.1.From]),(3,2,.pointer none)] mixed kr kr dc (by rfl) kr kr (zae ?_ (zae ?_ (zae ?_ (zae ?_ DrawPre.nil)))) ?_
         · exact fun D n d c u i=>zab zdc rfl dc (za4 (by rfl) rfl) (show _=0 from rfl) (zaf 0 u i rfl)
         · exact fun D n d c u i=>zam (k:=7) zbr rfl dc (zaa (m:=0) u rfl (d 0 dc)) rfl rfl (zaf 1 u i rfl)
         · exact fun D n d c u i=>za7 (v:=.agg #[zI 3,zI r3.1.From]) (ps:=[(0,.const (zI 3)),(1,.tmp 80)]) rfl dc (evP.cons rfl (evP.cons (zaa (m:=1) u rfl (d 1 dc)) evP.nil)) (fun _=>by kernel_rfl) (zaf 2 u i rfl)
         · exact fun D n d c u i=>zyR 1 rfl (zaf 3 u i rfl)
         refine za0 (k:=0) (vs:=[zI 3,zI r3.1.From]) (l':=[zI 3,zI r3.1.From]) zks rfl rfl rfl rfl rfl (show _≤_ by simp) rfl rfl (zyN (zaE (zaA (zaq (zaA (zaq (zaq (zaA (zaq (zd1 (by simp) (zd0 zcW zcV 106 ?_)))))))))))
         cases h
         exact zaS (rs:=[.tmp 2,.cell 3 60]) (.pointer none) (.inl rfl) Tryz.results22 (.cons (.tmp rfl) (.cons (.cells zmK (k:=0) rfl rfl rfl) .nil)) rfl (zad [8] kr rfl)
        refine zas (zag ?_)
        exact zai (r3.1.From,r3.1.To,zbU text1 r3.1.From r3.1.To,b6) h rfl (za5 rfl) (zad [0,1,2,3,4,5,6,7] kr rfl)
       refine zyR 4 rfl (zyN (zaN rfl (zyG (zyR 1 rfl (zay rfl dc rfl (zab zeU rfl dc rfl (show _=0 from rfl) (zab zhM rfl dc rfl (show _=1 from rfl) (zam (k:=4) zq4 rfl dc rfl rfl rfl ?_))))))))
       refine zbl (k:=5) rfl dc rfl rfl Tryz.underlying26 (zaW rfl zaT (zyR 1 rfl (zyN ?_)))
       refine zyB rfl h (fun h => ?_) (fun h => ?_)
       ·
        refine zaJ ?_
        refine zbK 4 [(0,79,zP b6),(1,80,zI r3.1.From),(2,81,.agg #[zI 3,zI r3.1.From]),(3,2,.pointer none)] mixed kr kr dc (by rfl) kr kr (zae ?_ (zae ?_ (zae ?_ (zae ?_ DrawPre.nil)))) ?_
        · exact fun D n d c u i=>zab zdc rfl dc (za4 (by rfl) rfl) (show _=0 from rfl) (zaf 0 u i rfl)
        · exact fun D n d c u i=>zam (k:=7) zbr rfl dc (zaa (m:=0) u rfl (d 0 dc)) rfl rfl (zaf 1 u i rfl)
        · exact fun D n d c u i=>za7 (v:=.agg #[zI 3,zI r3.1.From]) (ps:=[(0,.const (zI 3)),(1,.tmp 80)]) rfl dc (evP.cons rfl (evP.cons (zaa (m:=1) u rfl (d 1 dc)) evP.nil)) (fun _=>by kernel_rfl) (zaf 2 u i rfl)
        · exact fun D n d c u i=>zyR 1 rfl (zaf 3 u i rfl)
        refine za0 (k:=0) (vs:=[zI 3,zI r3.1.From]) (l':=[zI 3,zI r3.1.From]) zks rfl rfl rfl rfl rfl (show _≤_ by simp) rfl rfl (zyN (zaE (zaA (zaq (zaA (zaq (zaq (zaA (zaq (zd1 (by simp) (zd0 zcW zcV 106 ?_)))))))))))
        cases h
        exact zaS (rs:=[.tmp 2,.cell 3 60]) (.pointer none) (.inl rfl) Tryz.results22 (.cons (.tmp rfl) (.cons (.cells zmK (k:=0) rfl rfl rfl) .nil)) rfl (zad [8] kr rfl)
       refine zas (zag ?_)
       exact zai (r3.1.From,r3.1.To,zbU text1 r3.1.From r3.1.To,b6) h rfl (za5 rfl) (zad [0,1,2,3,4,5,6,7] kr rfl)
      rintro ⟨span1,span2,line1,b5⟩ h
      rw [hj3] at h
      obtain ⟨j4,hj4,h⟩:=zbF h
      refine za1 (β:=(List Gapi_Span)×Hd) 2 rfl (fun b=>j4 b.1=some r) (fun b=>[]) (fun b=>[(0,.string text1),(3,zP b1),(4,zP b4),(6,zP b3),(7,.bool false),(10,zP b5),(13,.string line1),(14,zI (p15.length:Int)),(30,zI r2),(31,zI x3)]) (fun b=>[cells b1 [zI 0,zI 0] 60,cells b4 [.string p4.text,hd3.v,hd4.v] 153,zv4 hd3.v p4.places,zv3 hd4.v p4.lines,cells b3 [.string p14,hd10.v,b.2.v,.string text1] 106,zv6 hd10.v p15,zv5 b.2.v b.1,cells b5 [zI span1,zI span2] 38]) (fun cut => ?_) ?_
      ·
       refine zyG (zyR 1 rfl (zyH (zyR 1 rfl (zay rfl dc rfl (zab zeU rfl dc rfl (show _=0 from rfl) (zab zhM rfl dc rfl (show _=1 from rfl) (zam (k:=4) zq4 rfl dc rfl rfl rfl (zbl (k:=5) rfl dc rfl rfl Tryz.underlying26 (zyR 1 rfl ?_)))))))))
       refine zyN (cut (zyG (zyR 1 rfl (zd2 rfl dc rfl zcB (zyN ?_)))))
       refine zyB rfl h (fun h => ?_) (fun h => ?_)
       ·
        refine zat (zyR 2 rfl (zay rfl dc rfl (zab zeU rfl dc rfl (show _=0 from rfl) (zab ziQ rfl dc rfl (show _=2 from rfl) (zam (k:=4) zpk rfl dc rfl rfl rfl (zyR 2 rfl ?_))))))
        refine za7 (v:=.agg #[zI (p15.length:Int),zI (p15.length:Int)]) (ps:=[(0,.tmp 96),(1,.tmp 97)]) rfl dc rfl (fun _=>by kernel_rfl) ?_
        refine zaR (cs:=[zI (p15.length:Int),zI (p15.length:Int)]) (te:=38) (ps:=[(0,.tmp 98)]) rfl dc rfl (fun _=>by kernel_rfl) (fun b7 => ?_)
        obtain ⟨hg4,h⟩:=zbn h
        refine za3 (k:=6) (k2:=8) (ys:=[(⟨(p15.length:Int),(p15.length:Int)⟩:Gapi_Span)]) Tryz.underlying102 zna zbp zcl rfl dc rfl rfl rfl rfl rfl rfl hg4 (fun v2 => ?_)
        refine zbu (k:=6) rfl (fun hd15 he1 => ?_)
        subst he1
        refine zay rfl dc rfl (zab zeU rfl dc rfl (show _=0 from rfl) (zab ziQ rfl dc rfl (show _=2 from rfl) ?_))
        refine zaM (k:=4) (l':=[.string p14,hd10.v,hd15.v,.string text1]) zvH rfl rfl rfl rfl rfl (fun _ _=>rfl) rfl ?_
        refine zaQ ?_
        exact zai (p16++[(⟨(p15.length:Int),(p15.length:Int)⟩:Gapi_Span)],hd15) h rfl (za5 rfl) (zad [0,1,2,3,4,5,6,7] kr rfl)
       refine zas ?_
       exact zai (p16,hd11) h rfl (za5 rfl) (zad [0,1,2,3,4,5,6,7] kr rfl)
      rintro ⟨p20,hd14⟩ h
      rw [hj4] at h
      refine zyG (zyR 1 rfl (zyN (zaJ ?_)))
      obtain ⟨hg5,h⟩:=zbn h
      obtain ⟨q1,hq8,h⟩:=zbw h
      refine zbK 12 [(0,104,zP b3),(1,105,zP b3),(2,106,zP b3),(3,107,.pointer (some ⟨b3,2,none⟩)),(4,108,hd14.v),(5,109,zP b3),(6,110,zP b3),(7,111,zP b3),(8,112,.pointer (some ⟨b3,2,none⟩)),(9,113,hd14.v),(10,114,zI (p20.length:Int)),(11,115,zI ((p20.length:Int) - 1))] mixed kr kr dc (by rfl) kr kr (zyP 1 0 rfl (zae ?_ (zae ?_ (zae ?_ (zae ?_ (zyP 1 5 rfl (zae ?_ (zae ?_ (zae ?_ (zae ?_ (zae ?_ (zae ?_ DrawPre.nil)))))))))))) ?_
      · exact fun D n d c u i=>zay rfl dc (zaa (m:=0) u rfl (d 0 dc)) (zaf 1 u i rfl)
      · exact fun D n d c u i=>zab zeU rfl dc (zaa (m:=1) u rfl (d 1 dc)) (show _=0 from rfl) (zaf 2 u i rfl)
      · exact fun D n d c u i=>zab ziQ rfl dc (zaa (m:=2) u rfl (d 2 dc)) (show _=2 from rfl) (zaf 3 u i rfl)
      · exact fun D n d c u i=>zam (k:=4) zpk rfl dc (zaa (m:=3) u rfl (d 3 dc)) rfl rfl (zaf 4 u i rfl)
      · exact fun D n d c u i=>zay rfl dc (zaa (m:=5) u rfl (d 5 dc)) (zaf 6 u i rfl)
      · exact fun D n d c u i=>zab zeU rfl dc (zaa (m:=6) u rfl (d 6 dc)) (show _=0 from rfl) (zaf 7 u i rfl)
      · exact fun D n d c u i=>zab ziQ rfl dc (zaa (m:=7) u rfl (d 7 dc)) (show _=2 from rfl) (zaf 8 u i rfl)
      · exact fun D n d c u i=>zam (k:=4) zpk rfl dc (zaa (m:=8) u rfl (d 8 dc)) rfl rfl (zaf 9 u i rfl)
      · exact fun D n d c u i=>zbl (k:=6) rfl dc (zaa (m:=9) u rfl (d 9 dc)) rfl Tryz.underlying102 (zaf 10 u i rfl)
      · exact fun D n d c u i=>zb9 rfl dc (zaa (m:=10) u rfl (d 10 dc)) rfl (zbG (r:=(p20.length:Int) - 1) (IntWalk.i64_in _ hg5)) (zaf 11 u i rfl)
      refine zar (k:=6) hq8 Tryz.underlying102 zkt rfl dc rfl rfl rfl rfl (zyR 1 rfl (zyH (zyR 1 rfl ?_)))
      obtain ⟨r7,hq9,h⟩:=zbw h
      refine zbe (v:=zI r7) (vs:=[.string line1]) rfl dc rfl rfl rfl zxQ (zlN hq9) (zyR 1 rfl (zyN (zaJ ?_)))
      obtain ⟨hg6,h⟩:=zbn h
      obtain ⟨hg7,h⟩:=zbn h
      obtain ⟨hg8,h⟩:=zbn h
      obtain ⟨hg9,h⟩:=zbn h
      obtain ⟨hg10,h⟩:=zbn h
      refine zgs 1 ?_
      refine let vals1:(Nat×Hd)→List (Nat×Nat×Value):=fun b=>[(0,119,zP b3),(1,120,zP b3),(2,121,zP b3),(3,122,zP b3),(4,123,.pointer (some ⟨b3,1,none⟩)),(5,124,hd10.v),(6,125,.string line1),(7,126,zI r7),(8,127,.string (zbU line1 r7 (line1.size:Int))),(9,128,zI r7),(10,129,zP b3),(11,130,zP b3),(12,131,zP b3),(13,132,.pointer (some ⟨b3,2,none⟩)),(14,133,hd14.v),(15,134,zI (p20.length:Int)),(16,135,zI ((p20.length:Int) - 1)),(17,136,zI (p15.length:Int)),(18,137,.pointer (some ⟨zcN hd14.v,((p20.length:Int) - 1:Int).toNat*2,none⟩)),(19,138,.pointer (some ⟨zcN hd14.v,((p20.length:Int) - 1:Int).toNat*2,none⟩)),(20,139,.pointer (some ⟨zcN hd14.v,(((p20.length:Int) - 1:Int).toNat)*2,none⟩)),(21,140,zI q1.From),(22,141,zI ((p15.length:Int) - q1.From)),(23,142,zP b5),(24,143,zI span1),(25,144,zI r7),(26,145,zI (span1+r7)),(27,146,.pointer (some ⟨b5,1,none⟩)),(28,147,zI span2),(29,148,.agg #[zI (span1+r7),zI span2]),(30,149,.agg #[.string (zbU line1 r7 (line1.size:Int)),zI r7,zI ((p20.length:Int) - 1),zI ((p15.length:Int) - q1.From),zI (span1+r7),zI span2]),(31,150,.slice (some ⟨b.1,0,none⟩) 1 1),(32,151,b.2.v)]; let LL1:(Nat→Prop)→(Nat×Hd)→List Asn:=fun D b=>[cells b1 [zI 0,zI 0] 60,cells b4 [.string p4.text,hd3.v,hd4.v] 153,zv4 hd3.v p4.places,zv3 hd4.v p4.lines,cells b3 [.string p14,hd10.v,hd14.v,.string text1] 106,eD D (zv6 hd10.v p15) [(32,zv6 b.2.v (p15++[(⟨zbU line1 r7 (line1.size:Int),r7,(p20.length:Int) - 1,(p15.length:Int) - q1.From,span1+r7,span2⟩:Gapi_Verse)]))],zv5 hd14.v p20,cells b5 [zI span1,zI span2] 38,eD D emp [(31,cells b.1 [.string (zbU line1 r7 (line1.size:Int)),zI r7,zI ((p20.length:Int) - 1),zI ((p15.length:Int) - q1.From),zI (span1+r7),zI span2] 76)]]; ?_
      have zhq:zyQ [31,32] LL1:=fun i h D b=>zac rfl (zac rfl (zac rfl (zac rfl (zac rfl (zac (zly rfl h) (zac rfl (zac rfl (zac (zly rfl h) rfl))))))))
      refine zd6 (β:=Nat×Hd) 33 ((0:Nat),Hd.nil) vals1 LL1 mixed kr kr dc (fun _=>rfl) (zow (zac zb4 (zeo (zac zb4 rfl)))) (znp zhq (fun _=>rfl) (fun _=>rfl) 2 0 (fun _=>rfl) rfl (zyq zhq rfl (fun _=>rfl) (fun _=>rfl) ?_ (zyq zhq rfl (fun _=>rfl) (fun _=>rfl) ?_ (zyq zhq rfl (fun _=>rfl) (fun _=>rfl) ?_ (zi5 zhq rfl (fun _=>rfl) (fun _=>rfl) ?_ (znp zhq (fun _=>rfl) (fun _=>rfl) 2 6 (fun _=>rfl) rfl (zi5 zhq rfl (fun _=>rfl) (fun _=>rfl) ?_ (znp zhq (fun _=>rfl) (fun _=>rfl) 2 9 (fun _=>rfl) rfl (zyq zhq rfl (fun _=>rfl) (fun _=>rfl) ?_ (zyq zhq rfl (fun _=>rfl) (fun _=>rfl) ?_ (zyq zhq rfl (fun _=>rfl) (fun _=>rfl) ?_ (zi5 zhq rfl (fun _=>rfl) (fun _=>rfl) ?_ (zi5 zhq rfl (fun _=>rfl) (fun _=>rfl) ?_ (zyq zhq rfl (fun _=>rfl) (fun _=>rfl) ?_ (znp zhq (fun _=>rfl) (fun _=>rfl) 2 17 (fun _=>rfl) rfl (zyq zhq rfl (fun _=>rfl) (fun _=>rfl) ?_ (zyq zhq rfl (fun _=>rfl) (fun _=>rfl) ?_ (zi5 zhq rfl (fun _=>rfl) (fun _=>rfl) ?_ (zyq zhq rfl (fun _=>rfl) (fun _=>rfl) ?_ (zyq zhq rfl (fun _=>rfl) (fun _=>rfl) ?_ (zi5 zhq rfl (fun _=>rfl) (fun _=>rfl) ?_ (znp zhq (fun _=>rfl) (fun _=>rfl) 1 25 (fun _=>rfl) rfl (zyq zhq rfl (fun _=>rfl) (fun _=>rfl) ?_ (zyq zhq rfl (fun _=>rfl) (fun _=>rfl) ?_ (zi5 zhq rfl (fun _=>rfl) (fun _=>rfl) ?_ (zyq zhq rfl (fun _=>rfl) (fun _=>rfl) ?_ (zyq zhq rfl (fun _=>rfl) (fun _=>rfl) ?_ (zau ?_ (zau ?_ DrawG.nil))))))))))))))))))))))))))))) ?_
      · exact fun D ⟨b8,hd16⟩ n d c u i=>zay rfl dc (zaa (m:=1) u rfl (d 1 dc)) (zaf 2 u i rfl)
      · exact fun D ⟨b8,hd16⟩ n d c u i=>zab zeU rfl dc (zaa (m:=2) u rfl (d 2 dc)) (show _=0 from rfl) (zaf 3 u i rfl)
      · exact fun D ⟨b8,hd16⟩ n d c u i=>zab zhM rfl dc (zaa (m:=3) u rfl (d 3 dc)) (show _=1 from rfl) (zaf 4 u i rfl)
      · exact fun D ⟨b8,hd16⟩ n d c u i=>⟨_,(zow (zac (zah (fun hD=>n (c 32 _ rfl hD 5 dc)) zao) (zcA rfl))),zam (k:=4) zq4 rfl dc (zaa (m:=4) u rfl (d 4 dc)) rfl rfl (zaf 5 u i rfl)⟩
      · exact fun D ⟨b8,hd16⟩ n d c u i=>⟨_,(zow (zac (zah (fun hD=>n (c 30 _ rfl (c 31 _ rfl (c 32 _ rfl hD 31 dc) 30 dc) 8 dc)) zao) (zeo (zac (zah (fun hD=>n (c 30 _ rfl (c 31 _ rfl hD 30 dc) 8 dc)) zao) rfl)))),zeH rfl dc (zaa (m:=6) u rfl (d 6 dc)) (evO.some (zaa (m:=7) u rfl (d 7 dc))) zm8 (zci (i:=r7) (j:=(line1.size:Int)) Tryz.underlying9 (.inr rfl) (.inl ⟨rfl,rfl⟩) hg6) (zaf 8 u i rfl)⟩
      · exact fun D ⟨b8,hd16⟩ n d c u i=>zay rfl dc (zaa (m:=10) u rfl (d 10 dc)) (zaf 11 u i rfl)
      · exact fun D ⟨b8,hd16⟩ n d c u i=>zab zeU rfl dc (zaa (m:=11) u rfl (d 11 dc)) (show _=0 from rfl) (zaf 12 u i rfl)
      · exact fun D ⟨b8,hd16⟩ n d c u i=>zab ziQ rfl dc (zaa (m:=12) u rfl (d 12 dc)) (show _=2 from rfl) (zaf 13 u i rfl)
      · exact fun D ⟨b8,hd16⟩ n d c u i=>⟨_,(zow (zac (zah (fun hD=>n (c 15 _ rfl (c 16 _ rfl (c 30 _ rfl (c 31 _ rfl (c 32 _ rfl hD 31 dc) 30 dc) 16 dc) 15 dc) 14 dc)) zao) (zeo (zac (zah (fun hD=>n (c 15 _ rfl (c 16 _ rfl (c 30 _ rfl (c 31 _ rfl hD 30 dc) 16 dc) 15 dc) 14 dc)) zao) rfl)))),zam (k:=4) zpk rfl dc (zaa (m:=13) u rfl (d 13 dc)) rfl rfl (zaf 14 u i rfl)⟩
      · exact fun D ⟨b8,hd16⟩ n d c u i=>⟨_,(zow (zac (zah (fun hD=>n (c 16 _ rfl (c 30 _ rfl (c 31 _ rfl (c 32 _ rfl hD 31 dc) 30 dc) 16 dc) 15 dc)) zao) (zeo (zac (zah (fun hD=>n (c 16 _ rfl (c 30 _ rfl (c 31 _ rfl hD 30 dc) 16 dc) 15 dc)) zao) rfl)))),zbl (k:=6) rfl dc (zaa (m:=14) u rfl (d 14 dc)) rfl Tryz.underlying102 (zaf 15 u i rfl)⟩
      · exact fun D ⟨b8,hd16⟩ n d c u i=>zb9 rfl dc (zaa (m:=15) u rfl (d 15 dc)) rfl (zbG (r:=(p20.length:Int) - 1) (IntWalk.i64_in _ hg7)) (zaf 16 u i rfl)
      · exact fun D ⟨b8,hd16⟩ n d c u i=>zay rfl dc (zaa (m:=18) u rfl (d 18 dc)) (zaf 19 u i rfl)
      · exact fun D ⟨b8,hd16⟩ n d c u i=>zab zdc rfl dc (zaa (m:=19) u rfl (d 19 dc)) (show _=(((p20.length:Int) - 1:Int).toNat)*2 from rfl) (zaf 20 u i rfl)
      · exact fun D ⟨b8,hd16⟩ n d c u i=>⟨_,(zow (zac (zah (fun hD=>n (c 22 _ rfl (c 30 _ rfl (c 31 _ rfl (c 32 _ rfl hD 31 dc) 30 dc) 22 dc) 21 dc)) zao) (zeo (zac (zah (fun hD=>n (c 22 _ rfl (c 30 _ rfl (c 31 _ rfl hD 30 dc) 22 dc) 21 dc)) zao) rfl)))),zaH (i:=((p20.length:Int) - 1:Int).toNat) (j:=0) (k:=6) (q:=q1) zbr zbp rfl dc (zaa (m:=20) u rfl (d 20 dc)) rfl (zaG hq8) rfl dc rfl (zaf 21 u i rfl)⟩
      · exact fun D ⟨b8,hd16⟩ n d c u i=>zb9 rfl dc (zaa (m:=17) u rfl (d 17 dc)) (zaa (m:=21) u rfl (d 21 dc)) (zbG (r:=(p15.length:Int) - q1.From) (IntWalk.i64_in _ hg8)) (zaf 22 u i rfl)
      · exact fun D ⟨b8,hd16⟩ n d c u i=>zab zdc rfl dc (za4 (by rfl) rfl) (show _=0 from rfl) (zaf 23 u i rfl)
      · exact fun D ⟨b8,hd16⟩ n d c u i=>⟨_,(zow (zac (zah (fun hD=>n (c 26 _ rfl (c 29 _ rfl (c 30 _ rfl (c 31 _ rfl (c 32 _ rfl hD 31 dc) 30 dc) 29 dc) 26 dc) 24 dc)) zao) (zeo (zac (zah (fun hD=>n (c 26 _ rfl (c 29 _ rfl (c 30 _ rfl (c 31 _ rfl hD 30 dc) 29 dc) 26 dc) 24 dc)) zao) rfl)))),zam (k:=7) zbr rfl dc (zaa (m:=23) u rfl (d 23 dc)) rfl rfl (zaf 24 u i rfl)⟩
      · exact fun D ⟨b8,hd16⟩ n d c u i=>zb9 rfl dc (zaa (m:=24) u rfl (d 24 dc)) (zaa (m:=25) u rfl (d 25 dc)) (zaX (r:=span1+r7) (IntWalk.i64_in _ hg9)) (zaf 26 u i rfl)
      · exact fun D ⟨b8,hd16⟩ n d c u i=>zab zdY rfl dc (za4 (by rfl) rfl) (show _=1 from rfl) (zaf 27 u i rfl)
      · exact fun D ⟨b8,hd16⟩ n d c u i=>⟨_,(zow (zac (zah (fun hD=>n (c 29 _ rfl (c 30 _ rfl (c 31 _ rfl (c 32 _ rfl hD 31 dc) 30 dc) 29 dc) 28 dc)) zao) (zeo (zac (zah (fun hD=>n (c 29 _ rfl (c 30 _ rfl (c 31 _ rfl hD 30 dc) 29 dc) 28 dc)) zao) rfl)))),zam (k:=7) zbr rfl dc (zaa (m:=27) u rfl (d 27 dc)) rfl rfl (zaf 28 u i rfl)⟩
      · exact fun D ⟨b8,hd16⟩ n d c u i=>za7 (v:=.agg #[zI (span1+r7),zI span2]) (ps:=[(0,.tmp 145),(1,.tmp 147)]) rfl dc (evP.cons (zaa (m:=26) u rfl (d 26 dc)) (evP.cons (zaa (m:=28) u rfl (d 28 dc)) evP.nil)) (fun _=>by kernel_rfl) (zaf 29 u i rfl)
      · exact fun D ⟨b8,hd16⟩ n d c u i=>za7 (v:=.agg #[.string (zbU line1 r7 (line1.size:Int)),zI r7,zI ((p20.length:Int) - 1),zI ((p15.length:Int) - q1.From),zI (span1+r7),zI span2]) (ps:=[(0,.tmp 127),(1,.tmp 128),(2,.tmp 135),(3,.tmp 141),(4,.tmp 148)]) rfl dc (evP.cons (zaa (m:=8) u rfl (d 8 dc)) (evP.cons (zaa (m:=9) u rfl (d 9 dc)) (evP.cons (zaa (m:=16) u rfl (d 16 dc)) (evP.cons (zaa (m:=22) u rfl (d 22 dc)) (evP.cons (zaa (m:=29) u rfl (d 29 dc)) evP.nil))))) (fun _=>by kernel_rfl) (zaf 30 u i rfl)
      ·
       intro D b hn hd hcl
       obtain ⟨zb0,hd16⟩:=b
       refine zaK (zow (zac (zah (fun hD=>hn (hcl 32 _ rfl hD 31 dc)) zao) (zeo (zac (zah hn zao) rfl)))) ?_
       refine zaR (cs:=[.string (zbU line1 r7 (line1.size:Int)),zI r7,zI ((p20.length:Int) - 1),zI ((p15.length:Int) - q1.From),zI (span1+r7),zI span2]) (te:=76) (ps:=[(0,.tmp 149)]) rfl dc (evP.cons (zaa (m:=30) rfl rfl (hd 30 dc)) evP.nil) (fun _=>by kernel_rfl) (fun b8 => ?_)
       refine zc5 8 rfl rfl ?_
       exact zaU (b:=(zb0,hd16)) (b8,hd16) 31 (by rfl) (by rfl) rfl (zjS (zdv (zdv (zap (fun hD=>absurd hD hn) (zap (fun _=>rfl) rfl))))) (zow (zac ((zan (by rfl)).trans (zah (fun hD=>hn (hcl 32 _ rfl hD 31 dc)) zao)) (zeo (zac (zaL (Or.inr rfl) rfl) rfl))))
      ·
       intro D b hn hd hcl
       obtain ⟨b8,zb1⟩:=b
       refine zaK (zow (zac (zah hn zao) (zeo (zac (zaL (hd 31 dc) rfl) rfl)))) ?_
       refine za3 (k:=5) (k2:=8) (ys:=[(⟨zbU line1 r7 (line1.size:Int),r7,(p20.length:Int) - 1,(p15.length:Int) - q1.From,span1+r7,span2⟩:Gapi_Verse)]) Tryz.underlying26 zwF zes zgl rfl dc (zaa (m:=5) rfl rfl (hd 5 dc)) (zaa (m:=31) rfl rfl (hd 31 dc)) rfl rfl rfl rfl hg10 (fun v3 => ?_)
       refine zbu (k:=5) rfl (fun hd16 he2 => ?_)
       subst he2
       exact zaU (b:=(b8,zb1)) (b8,hd16) 32 (by rfl) (by rfl) rfl (zi6 (zdv (zdv (zap (fun hD=>absurd hD hn) rfl)))) (zow (zac (zaL (Or.inr rfl) rfl) (zeo (zac ((zan (by rfl)).trans (zaL (hd 31 dc) rfl)) rfl))))
      intro D b hall
      obtain ⟨b8,hd16⟩:=b
      refine zaK (zow (zac (zaL (hall 32 dc) rfl) (zeo (zac (zaL (hall 31 dc) rfl) rfl)))) (zay rfl dc rfl (zab zeU rfl dc rfl (show _=0 from rfl) (zab zhM rfl dc rfl (show _=1 from rfl) ?_)))
      refine zaM (k:=4) (l':=[.string p14,hd16.v,hd14.v,.string text1]) zxj rfl rfl rfl rfl rfl (fun _ _=>rfl) rfl ?_
      refine zyN (zat (zyR 2 rfl ?_))
      obtain ⟨hg11,h⟩:=zbn h
      refine zaW rfl (zaX (r:=(p15.length:Int)+1) (IntWalk.i64_in _ hg11)) (zay rfl dc rfl (zab zdY rfl dc rfl (show _=(((p20.length:Int) - 1:Int).toNat)*2+1 from rfl) ?_))
      refine zez (i:=((p20.length:Int) - 1:Int).toNat) (j:=1) (k:=6) (q:=q1) (q':=(⟨q1.From,(p15.length:Int)+1⟩:Gapi_Span)) zeA zbp rfl rfl rfl rfl (zaG hq8) rfl dc rfl (fun _ _=>rfl) ?_
      refine zaQ (zag ?_)
      exact zai (p14,p15++[(⟨zbU line1 r7 (line1.size:Int),r7,(p20.length:Int) - 1,(p15.length:Int) - q1.From,span1+r7,span2⟩:Gapi_Verse)],p20.set ((p20.length:Int) - 1:Int).toNat (⟨q1.From,(p15.length:Int)+1⟩:Gapi_Span),false,true,hd16,hd14) h rfl (za5 rfl) (zad [0,1,2,3,4,5,6] kr rfl)
     rintro ⟨p17,p18,p19,first4,row4,hd12,hd13⟩ h
     rw [hj2] at h
     refine zat ?_
     obtain ⟨hg12,h⟩:=zbn h
     refine zaW rfl (zaX (r:=x3+1) (IntWalk.i64_in _ hg12)) (zyR 1 rfl (zaQ ?_))
     subst hag1
     exact za8 (n1,p17,p18,p19,first4,row4,x3+1,hd12,hd13) h (Nat.lt_succ_self _) rfl (za5 rfl) (zad [0,1,2,3,4,5,6] kr rfl)
    refine za6 (zak (zak (zav ?_)))
    exact zai (p14,p15,p16,b3,hd10,hd11) h rfl (za5 rfl) (zad [0,4,5,6] kr rfl)
  rintro ⟨p1,p2,p3,b2,hd1,hd2⟩ h
  rw [hj1] at h
  refine zyG (zyR 1 rfl ?_)
  refine za7 (v:=.agg #[zI 0,zI 0]) (ps:=[]) rfl dc rfl (fun _=>by kernel_rfl) ?_
  refine zyR 1 rfl (za0 (k:=0) (vs:=[zI 0,zI 0]) (l':=[zI 0,zI 0]) zks rfl rfl rfl rfl rfl (show _≤_ by simp) rfl rfl (zyN (zaE (zd1 (by simp) ?_))))
  refine zoZ (As:=[cells b2 [.string p1,hd1.v,hd2.v,.string text1] 106,zv6 hd1.v p2,zv5 hd2.v p3]) (zad [1,2,3] kr rfl) (zjE (enc:=zcW) (nest:=zcV) (t:=106) (x:=(⟨p1,p2,p3,text1⟩:Gpoem_Poem)) (b:=b2) (hd:=(hd1,hd2))) (fun _ _ => ?_)
  cases h
  exact zaS (rs:=[.tmp 2,.cell 3 60]) (zP b2) (.inl rfl) Tryz.results22 (.cons (.tmp rfl) (.cons (.cells zmK (k:=0) rfl rfl rfl) .nil)) rfl (zad [4] kr rfl)
 exact fun b hb=>hb.elim
end Go.Proofs.YtbempdelckaccaaGreatDoor
