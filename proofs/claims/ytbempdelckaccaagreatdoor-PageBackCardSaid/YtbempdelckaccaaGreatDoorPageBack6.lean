/-
  Texts laid together: LgI, LgF, LgM, PlPageBack. Nothing is assumed.
-/
import Derived.Test.YtbempdelckaccaaGreatDoorPageBack5
import Derived.Test.YtbempdelckaccaaGreatDoorPageBack2
import Derived.Test.YtbempdelckaccaaGreatDoorPageBack4
set_option maxRecDepth 100000
set_option maxHeartbeats 4000000

namespace Go.Proofs.YtbempdelckaccaaGreatDoor
open Go.RowKit Go.Lib
set_option linter.unusedVariables false
set_option linter.unusedSimpArgs false
def zbW (x3:Int) (j1:Option (List (Int×Gapi_Row))) (x4:List Gapi_Row) (ag2:Int→Option (List (Int×Gapi_Row))) (x7:Int):Option (List (Int×Gapi_Row)) :=
zax (decide ((x7:Int)<(x4.length:Int))) (
zak (zcN x4 x7) fun (q1:Gapi_Row) =>
zgK (x3,q1) <|
grd (I64 (x7+1)) <|
ag2 (x7+1)
) (
j1
)
def zbX (c0:Gpage_Book) (ag1:Int→Option (List (Int×Gapi_Row))) (x3:Int):Option (List (Int×Gapi_Row)) :=
zax (decide ((x3:Int)<(c0.pages.length:Int))) (
zbr (fun (j1:Option (List (Int×Gapi_Row))) =>
zak (zcN c0.pages x3) fun (x4:List Gapi_Row) =>
zaM (fun _=>none) (zbW x3 j1 x4) zb4 0
) (
grd (I64 (x3+1)) <|
ag1 (x3+1)
)
) (
some []
)
def zd6 (c0:Gpage_Book):Option (List (Int×Gapi_Row)) :=
zaM (fun _=>none) (zbX c0) zb4 0
theorem zhs {b_c0 p_c0:Nat} {c0:Gpage_Book} {c0_h0:Hd} {xs:(List (Int×Gapi_Row))} (h:zd6 c0=some xs):ItrR Tryz.prog 32 [zP b_c0] (fun q:Int×Gapi_Row=>[zI q.1,.agg (zr4 q.2).toArray]) xs [cells b_c0 [zP p_c0] 25,cells p_c0 [zI c0.layout_Width,zI c0.layout_Height,zI c0.layout_Turn,zI c0.layout_Every,c0_h0.v,zI c0.cost] 81,zfp za7 zbi 43 1 c0_h0.v c0.pages]:=by
 unfold zd6 at h
 refine ItrR.intro Tryz.func32 rfl Tryz.ntmps32 (by simp) ?_
 intro l w0 K I X hrd hy
 obtain ⟨r0,hx0⟩:∃ r,xs=[]++r:=⟨xs,rfl⟩
 have hr0:xs=r0:=hx0
 rw [hr0] at h
 refine zaH (zyG (za3 (i:=0) hrd rfl zuM rfl dc rfl rfl (zaW rfl (zcn Tryz.underlying25) (zyN (zaT rfl (zau (zaI (zyG (za3 (i:=0) hrd rfl zuM rfl dc rfl rfl (zar rfl dc rfl ?_))))))))))
 refine zac zn6 rfl dc rfl (show _=4 from rfl) (za3 (i:=1) hrd rfl zuK rfl dc rfl rfl ?_)
 obtain ⟨zs1,hz1,hV1,hrd⟩:=hrd.openN (i:=2) rfl zf2 zkn
 replace hrd:Rd _ _ [cells b_c0 [zP p_c0] 25,cells p_c0 [zI c0.layout_Width,zI c0.layout_Height,zI c0.layout_Turn,zI c0.layout_Every,c0_h0.v,zI c0.cost] 81,zfp za7 zbi 43 1 c0_h0.v c0.pages,zfe za7 1 c0_h0.v 0 zs1,zgI zeb zs1]:=hrd
 refine zhc hz1 hV1 rfl dc rfl Tryz.underlying79 (zyR 1 rfl (zyN (zaG ?_)))
 refine zbt (β:=Nat×Int×(List (Int×Gapi_Row))×(List (Int×Gapi_Row))) (fun b=>zaM (fun _=>none) (zbX c0) b.1 b.2.1=some b.2.2.2∧xs=b.2.2.1++b.2.2.2) (fun b=>[]) (fun b=>[(0,.func (.yield l) #[] #[]),(12,c0_h0.v),(13,zI (c0.pages.length:Int)),(14,zI b.2.1)]) (fun b=>[I b.2.2.1]) (fun b=>b.1) (zb4,0,([]:List (Int×Gapi_Row)),r0) ⟨h,hx0⟩ rfl (zba rfl) (zad [0] kr rfl) ?_
 rintro ⟨n1,x3,acc3,rr3⟩ ⟨h,hx3⟩
 cases n1 with
 | zero=>exact zdG h
 | succ n1 =>
  obtain ⟨ag1,hag1⟩:∃ ag,ag=zaM (fun _=>none) (zbX c0) n1:=⟨_,rfl⟩
  have h:zbX c0 ag1 x3=some rr3:=by rw [hag1]; exact h
  unfold zbX at h
  refine zyG (zaW rfl zbA (zyN (zaH ?_)))
  refine zyB rfl h (fun h => ?_) (fun h => ?_)
  ·
   refine zau (zaI ?_)
   obtain ⟨j1,hj1,h⟩:=zbO h
   refine zaY (β:=(List (Int×Gapi_Row))×(List (Int×Gapi_Row))) 0 rfl (fun b=>j1=some b.2∧xs=b.1++b.2) (fun b=>[]) (fun b=>[(0,.func (.yield l) #[] #[]),(12,c0_h0.v),(13,zI (c0.pages.length:Int)),(14,zI x3)]) (fun b=>[I b.1]) (fun cut => ?_) ?_
   ·
    refine cut (zaG (zyG (zyR 1 rfl ?_)))
    obtain ⟨x4,hq1,h⟩:=zbx h
    obtain ⟨eh1,eq1⟩:=zic hz1 hq1
    have hrd:Rd _ _ [cells b_c0 [zP p_c0] 25,cells p_c0 [zI c0.layout_Width,zI c0.layout_Height,zI c0.layout_Turn,zI c0.layout_Every,c0_h0.v,zI c0.cost] 81,zfp za7 zbi 43 1 c0_h0.v c0.pages,zfe za7 1 c0_h0.v 0 zs1,zgI zeb zs1,zoF zcG 6 eh1 x4]:=hrd.openEl (i:=4) (z:=(x4,eh1)) rfl (Vw.get hV1 eq1)
    obtain ⟨vv1,k1,L1,hV2,hrd⟩:=hrd.openSl (i:=5) rfl
    replace hrd:Rd _ _ [cells b_c0 [zP p_c0] 25,cells p_c0 [zI c0.layout_Width,zI c0.layout_Height,zI c0.layout_Turn,zI c0.layout_Every,c0_h0.v,zI c0.cost] 81,zfp za7 zbi 43 1 c0_h0.v c0.pages,zfe za7 1 c0_h0.v 0 zs1,zgI zeb zs1,zoF zcG 6 eh1 x4,zfe zcG 6 vv1 k1 L1]:=hrd
    refine zbj hV1 eq1 Tryz.underlying79 ztl rfl dc rfl rfl rfl (zdU (n:=0+(x3:Int).toNat) (j:=0) (i:=3) (q:=(x4,eh1)) hrd rfl (by omega) zjY rfl dc rfl (Vw.get hV1 eq1) rfl rfl (zyR 2 rfl (zyH (zyR 1 rfl (zdA hV2 rfl dc rfl Tryz.underlying43 (zyR 1 rfl (zyN (zaG ?_))))))))
    refine zbt (β:=Nat×Int×(List (Int×Gapi_Row))×(List (Int×Gapi_Row))) (fun b=>zaM (fun _=>none) (zbW x3 j1 x4) b.1 b.2.1=some b.2.2.2∧xs=b.2.2.1++b.2.2.2) (fun b=>[]) (fun b=>[(0,.func (.yield l) #[] #[]),(3,zI x3),(12,c0_h0.v),(13,zI (c0.pages.length:Int)),(14,zI x3),(19,eh1.v),(20,zI (x4.length:Int)),(21,zI b.2.1)]) (fun b=>[I b.2.2.1]) (fun b=>b.1) (zb4,0,acc3,rr3) ⟨h,hx3⟩ rfl (zba rfl) (zad [0] kr rfl) ?_
    rintro ⟨n2,x7,acc7,rr7⟩ ⟨h,hx7⟩
    cases n2 with
    | zero=>exact zdG h
    | succ n2 =>
     obtain ⟨ag2,hag2⟩:∃ ag,ag=zaM (fun _=>none) (zbW x3 j1 x4) n2:=⟨_,rfl⟩
     have h:zbW x3 j1 x4 ag2 x7=some rr7:=by rw [hag2]; exact h
     unfold zbW at h
     refine zyG (zaW rfl zbA (zyN (zaH ?_)))
     refine zyB rfl h (fun h => ?_) (fun h => ?_)
     ·
      refine zau (zaI (zaH (zaG (zyG ?_))))
      obtain ⟨q1,hq2,h⟩:=zbx h
      refine zbj hV2 hq2 Tryz.underlying43 zhW rfl dc rfl rfl rfl (ziD (m:=k1+(x7:Int).toNat) (j:=0) (i:=6) (q:=q1) (cs:=(zr4 q1)) hrd rfl (by omega) zj0 rfl dc rfl (Vw.get hV2 hq2) rfl rfl rfl ?_)
      refine zbg znH rfl dc (fun b1 => ?_)
      refine zaU (k:=1) (vs:=(zr4 q1)) (l':=(zr4 q1)) zhW rfl rfl rfl rfl rfl (show _≤_ by simp) rfl rfl ?_
      refine zyH (zyR 2 rfl (za5 (k:=1) (cs:=(zr4 q1)) zj0 rfl dc rfl rfl rfl rfl ?_))
      obtain ⟨rr8,hr1,h⟩:=zjt h
      have hx8:xs=acc7++(x3,q1)::rr8:=by rw [hx7,hr1]
      refine zeG hy rfl dc rfl hx8 rfl (k:=0) rfl ?_ ?_
      ·
       have hx9:xs=(acc7++[(x3,q1)])++rr8:=by rw [hx8]; simp
       refine zdJ rfl dc rfl zcA (zyN (zaT rfl (zau (zah (zaI (zaB ?_))))))
       obtain ⟨hg1,h⟩:=zbw h
       refine zaW rfl (zaV (r:=x7+1) (IntWalk.i64_in _ hg1)) (zyR 1 rfl (zaX ?_))
       subst hag2
       exact za4 (n2,x7+1,acc7++[(x3,q1)],rr8) ⟨h,hx9⟩ (Nat.lt_succ_self _) rfl (zba rfl) (zad [0] kr rfl)
      refine zdJ rfl dc rfl zcA (zyN (zbd rfl (zaA (zal (zai (zai (zal (zal (zai (zai (zal ?_)))))))))))
      exact zkL (ds:=[]) acc7 (x3,q1) rr8 hx8 (.inl rfl) Splits.nil Tryz.results32 (zad [0] kr rfl)
     refine za9 (zap (zap (zaz (zah ?_))))
     exact zaq (acc7,rr7) ⟨h,hx7⟩ rfl (zba rfl) (zad [0] kr rfl)
   rintro ⟨acc4,rr4⟩ ⟨h,hx4⟩
   rw [hj1] at h
   refine zaB ?_
   obtain ⟨hg2,h⟩:=zbw h
   refine zaW rfl (zaV (r:=x3+1) (IntWalk.i64_in _ hg2)) (zyR 1 rfl (zaX ?_))
   subst hag1
   exact za4 (n1,x3+1,acc4,rr4) ⟨h,hx4⟩ (Nat.lt_succ_self _) rfl (zba rfl) (zad [0] kr rfl)
  refine za9 (zap (zap (zaz ?_)))
  cases h
  exact zkK (ds:=[]) (.inr rfl) Splits.nil Tryz.results32 (congrArg I (hx3.trans (List.append_nil _))) (zad [0] kr rfl)
def zfs (b1:Gpage_Book):Option Unit :=
some ()
theorem ziN {bb1:Nat} {b1:Gpage_Book} {b1_h0:Hd} {r:Unit} (h:zfs b1=some r):FnR Tryz.prog 10 [zP bb1] [cells bb1 [zI b1.layout_Width,zI b1.layout_Height,zI b1.layout_Turn,zI b1.layout_Every,b1_h0.v,zI b1.cost] 81,zfp za7 zbi 43 1 b1_h0.v b1.pages] [] (fun v0:Nat=>.func (.func 32) #[] #[zP v0]) (fun v0=>[cells v0 [zP bb1] 25]):=by
 unfold zfs at h
 refine FnR.intro Tryz.func10 rfl Tryz.ntmps10 (by simp) ?_
 intro w0 K hrd
 refine zyG ?_
 refine zdQ rfl dc rfl (fun b2 => ?_)
 refine zyR 1 rfl (zyH (zgy (x1:=[]) (x2:=[.tmp 1]) rfl dc rfl rfl (zyR 1 rfl (zyN (zaA ?_)))))
 cases h
 exact zaF (rs:=[.tmp 2]) b2 (.inl rfl) Tryz.results10 (.cons (.tmp rfl) .nil) rfl (zad [0] kr rfl)
end Go.Proofs.YtbempdelckaccaaGreatDoor

namespace Go.Proofs.YtbempdelckaccaaGreatDoor
open Go.RowKit Go.Lib
set_option linter.unusedVariables false
set_option linter.unusedSimpArgs false
def zez (a1:Gapi_Row) (b1:Gapi_Row) (first1:Bool):Option Bool :=
zax (first1) (
zax ((b1.Line:Int)==0) (
zax ((b1.Stanza:Int)==0) (
some ((b1.Part:Int)==0)
) (
some false
)
) (
some false
)
) (
zax ((b1.Line:Int)==a1.Line) (
zax ((b1.Stanza:Int)==a1.Stanza) (
grd (I64 (a1.Part+1)) <|
some ((b1.Part:Int)==(a1.Part+1))
) (
some false
)
) (
grd (I64 (a1.Line+1)) <|
zax ((b1.Line:Int)==(a1.Line+1)) (
zax ((b1.Part:Int)==0) (
zax ((b1.Stanza:Int)==a1.Stanza) (
some true
) (
grd (I64 (a1.Stanza+1)) <|
some ((b1.Stanza:Int)==(a1.Stanza+1))
)
) (
some false
)
) (
some false
)
)
)
theorem zkc {a1:Gapi_Row} {b1:Gapi_Row} {first1:Bool} {r:Bool} (h:zez a1 b1 first1=some r):FnP Tryz.prog 52 [.agg (zr4 a1).toArray,.agg (zr4 b1).toArray,.bool first1] (.bool r):=by
 unfold zez at h
 refine FnP.intro Tryz.func52 rfl Tryz.ntmps52 (by simp) ?_
 intro w0 K
 refine zyG ?_
 refine zdQ rfl dc rfl (fun b2 => ?_)
 refine zdQ rfl dc rfl (fun b3 => ?_)
 refine zyR 1 rfl (zyN (zaH (zaG (zyG (zyR 2 rfl (zyN ?_))))))
 refine zyB rfl h (fun h => ?_) (fun h => ?_)
 ·
  refine zyG (zac zfS rfl dc rfl (show _=0 from rfl) (zan (k:=1) zbS rfl dc rfl rfl rfl (zaW rfl za1 (zyR 1 rfl ?_))))
  refine zyS (s:=12) rfl h (fun h => ?_) (fun h => ?_)
  ·
   refine zac zew rfl dc rfl (show _=1 from rfl) (zan (k:=1) zbS rfl dc rfl rfl rfl (zaW rfl za1 (zyR 2 rfl ?_)))
   refine zyS (s:=17) rfl h (fun h => ?_) (fun h => ?_)
   ·
    refine zac ziS rfl dc rfl (show _=2 from rfl) (zan (k:=1) zbS rfl dc rfl rfl rfl (zaW rfl za1 (zyR 2 rfl (zyN (zaA (zal (zai ?_)))))))
    cases h
    exact zaF (rs:=[.tmp 6]) () (.inl rfl) Tryz.results52 (.cons (.tmp rfl) .nil) rfl Splits.nil
   refine zyR 5 rfl (zyN (zaA (zal (zai ?_))))
   cases h
   exact zaF (rs:=[.tmp 6]) () (.inl rfl) Tryz.results52 (.cons (.tmp rfl) .nil) rfl Splits.nil
  refine zyR 10 rfl (zyN (zaA (zal ?_)))
  refine zai ?_
  cases h
  exact zaF (rs:=[.tmp 6]) () (.inl rfl) Tryz.results52 (.cons (.tmp rfl) .nil) rfl Splits.nil
 refine zyG (zac zfS rfl dc rfl (show _=0 from rfl) (zan (k:=1) zbS rfl dc rfl rfl rfl (zac zfS rfl dc rfl (show _=0 from rfl) (zan (k:=0) zbS rfl dc rfl rfl rfl (zaW rfl za1 (zyR 1 rfl (zyN ?_)))))))
 refine zyB rfl h (fun h => ?_) (fun h => ?_)
 ·
  refine zyG (zac zew rfl dc rfl (show _=1 from rfl) (zan (k:=1) zbS rfl dc rfl rfl rfl (zac zew rfl dc rfl (show _=1 from rfl) (zan (k:=0) zbS rfl dc rfl rfl rfl (zaW rfl za1 (zyR 1 rfl ?_))))))
  refine zyS (s:=33) rfl h (fun h => ?_) (fun h => ?_)
  ·
   refine zac ziS rfl dc rfl (show _=2 from rfl) (zan (k:=1) zbS rfl dc rfl rfl rfl (zac ziS rfl dc rfl (show _=2 from rfl) (zan (k:=0) zbS rfl dc rfl rfl rfl ?_)))
   obtain ⟨hg1,h⟩:=zbw h
   refine zaW rfl (zaV (r:=a1.Part+1) (IntWalk.i64_in _ hg1)) (zaW rfl za1 (zyR 2 rfl (zyN (zaA (zal (zai ?_))))))
   cases h
   exact zaF (rs:=[.tmp 6]) () (.inl rfl) Tryz.results52 (.cons (.tmp rfl) .nil) rfl Splits.nil
  refine zyR 8 rfl (zyN (zaA (zal (zai ?_))))
  cases h
  exact zaF (rs:=[.tmp 6]) () (.inl rfl) Tryz.results52 (.cons (.tmp rfl) .nil) rfl Splits.nil
 refine zau (zah (zaI (zyG (zac zfS rfl dc rfl (show _=0 from rfl) (zan (k:=1) zbS rfl dc rfl rfl rfl (zac zfS rfl dc rfl (show _=0 from rfl) (zan (k:=0) zbS rfl dc rfl rfl rfl ?_)))))))
 obtain ⟨hg2,h⟩:=zbw h
 refine zaW rfl (zaV (r:=a1.Line+1) (IntWalk.i64_in _ hg2)) (zaW rfl za1 (zyR 1 rfl ?_))
 refine zyS (s:=47) rfl h (fun h => ?_) (fun h => ?_)
 ·
  refine zac ziS rfl dc rfl (show _=2 from rfl) (zan (k:=1) zbS rfl dc rfl rfl rfl (zaW rfl za1 (zyR 2 rfl ?_)))
  refine zyS (s:=52) rfl h (fun h => ?_) (fun h => ?_)
  ·
   refine zac zew rfl dc rfl (show _=1 from rfl) (zan (k:=1) zbS rfl dc rfl rfl rfl (zac zew rfl dc rfl (show _=1 from rfl) (zan (k:=0) zbS rfl dc rfl rfl rfl (zaW rfl za1 (zyR 1 rfl ?_)))))
   refine zyS (s:=58) rfl h (fun h => ?_) (fun h => ?_)
   ·
    refine zyR 9 rfl (zyN (zaA ?_))
    cases h
    exact zaF (rs:=[.tmp 6]) () (.inl rfl) Tryz.results52 (.cons (.tmp rfl) .nil) rfl Splits.nil
   refine zac zew rfl dc rfl (show _=1 from rfl) (zan (k:=1) zbS rfl dc rfl rfl rfl (zac zew rfl dc rfl (show _=1 from rfl) (zan (k:=0) zbS rfl dc rfl rfl rfl ?_)))
   obtain ⟨hg3,h⟩:=zbw h
   refine zaW rfl (zaV (r:=a1.Stanza+1) (IntWalk.i64_in _ hg3)) (zaW rfl za1 (zyR 3 rfl (zyN (zaA ?_))))
   cases h
   exact zaF (rs:=[.tmp 6]) () (.inl rfl) Tryz.results52 (.cons (.tmp rfl) .nil) rfl Splits.nil
  refine zyR 14 rfl ?_
  refine zyR 1 rfl (zyN (zaA ?_))
  cases h
  exact zaF (rs:=[.tmp 6]) () (.inl rfl) Tryz.results52 (.cons (.tmp rfl) .nil) rfl Splits.nil
 refine zyR 14 rfl ?_
 refine zyR 6 rfl (zyN (zaA ?_))
 cases h
 exact zaF (rs:=[.tmp 6]) () (.inl rfl) Tryz.results52 (.cons (.tmp rfl) .nil) rfl Splits.nil
def zcj (rows1:List Gapi_Row) (j1:(List (List ByteArray))→Option ((Option Gpoem_Poem)×Int)) (ag1:(List (List ByteArray))→Int→Int→Int→Int→Int→ByteArray→Int→Option ((Option Gpoem_Poem)×Int)) (stanzas4:List (List ByteArray)) (last13:Int) (last14:Int) (last15:Int) (last16:Int) (last17:Int) (last18:ByteArray) (x3:Int):Option ((Option Gpoem_Poem)×Int) :=
zax (decide ((x3:Int)<(rows1.length:Int))) (
zbr (fun (j2:(List (List ByteArray))→Int→Int→Int→Int→Int→ByteArray→Option ((Option Gpoem_Poem)×Int)) =>
zak (zcN rows1 x3) fun (q1:Gapi_Row) =>
zax ((q1.Line:Int)==(-1)) (
j2 stanzas4 last13 last14 last15 last16 last17 last18
) (
zbr (fun (j3:Bool→Bool→Option ((Option Gpoem_Poem)×Int)) =>
zak (zez (⟨last13,last14,last15,last16,last17,last18⟩:Gapi_Row) q1 (((stanzas4.length:Int):Int)==0)) fun (r1:Bool) =>
zax (!r1) (
some (none,300)
) (
zax ((q1.Part:Int)==0) (
zax (decide ((q1.Indent:Int)<0)) (
some (none,300)
) (
zax (decide ((1024:Int)<q1.Indent)) (
some (none,300)
) (
zak (zbU q1.Text (⟨#[32]⟩:ByteArray)) fun (r2:Bool) =>
zax (r2) (
some (none,300)
) (
j3 true r2
)
)
)
) (
j3 false false
)
)
) (fun (x4:Bool) (x5:Bool) =>
zbr (fun (j4:(List (List ByteArray))→Option ((Option Gpoem_Poem)×Int)) =>
zax ((q1.Stanza:Int)==(stanzas4.length:Int)) (
grd (stanzas4.length+1≤2147483648) <|
j4 (stanzas4++[([]:List ByteArray)])
) (
j4 stanzas4
)
) (fun (stanzas6:List (List ByteArray)) =>
zak (zcN stanzas6 q1.Stanza) fun (x6:List ByteArray) =>
zbr (fun (j5:(List (List ByteArray))→Option ((Option Gpoem_Poem)×Int)) =>
zax ((q1.Part:Int)==0) (
grd (0≤q1.Indent∧q1.Indent≤140737488355328) <|
grd ((zbR q1.Indent).size+q1.Text.size≤9223372036854775807) <|
grd (x6.length+1≤2147483648) <|
j5 (stanzas6.set (q1.Stanza:Int).toNat (x6++[(zbR q1.Indent)++q1.Text]))
) (
grd (I64 ((x6.length:Int) - 1)) <|
zak (zcN x6 ((x6.length:Int) - 1)) fun (q2:ByteArray) =>
grd (q2.size+q1.Text.size≤9223372036854775807) <|
j5 (stanzas6.set ((q1.Stanza:Int).toNat) (x6.set ((x6.length:Int) - 1:Int).toNat (q2++q1.Text)))
)
) (fun (stanzas7:List (List ByteArray)) =>
j2 stanzas7 q1.Line q1.Stanza q1.Part q1.Indent q1.Number q1.Text
)
)
)
)
) (fun (stanzas5:List (List ByteArray)) (last19:Int) (last20:Int) (last21:Int) (last22:Int) (last23:Int) (last24:ByteArray) =>
grd (I64 (x3+1)) <|
ag1 stanzas5 last19 last20 last21 last22 last23 last24 (x3+1)
)
) (
j1 stanzas4
)
def zfP (title1:ByteArray) (rows1:List Gapi_Row):Option ((Option Gpoem_Poem)×Int) :=
zbr (fun (j1:(List (List ByteArray))→Option ((Option Gpoem_Poem)×Int)) =>
zaM (fun _ _ _ _ _ _ _ _=>none) (zcj rows1 j1) zb4 ([]:List (List ByteArray)) 0 0 0 0 0 ByteArray.empty 0
) (fun (stanzas1:List (List ByteArray)) =>
zak (zeI title1 stanzas1) fun (r3:((Option Gpoem_Poem)×Int)) =>
some (r3.1,r3.2)
)
theorem zm4 {title1:ByteArray} {vvrows1 vrows1:Value} {Lrows1:List Gapi_Row} {krows1:Nat} {rows1:List Gapi_Row} (hwrows1:Vw vvrows1 Lrows1 6 krows1 vrows1 rows1) {r:((Option Gpoem_Poem)×Int)} (h:zfP title1 rows1=some r):FnR Tryz.prog 23 [.string title1,vrows1] [zfe zcG 6 vvrows1 krows1 Lrows1] [] (fun v0:Value=>.tuple #[v0,zI r.2]) (fun v0=>[zho zaP zaO 106 v0 r.1]):=by
 unfold zfP at h
 refine FnR.intro Tryz.func23 rfl Tryz.ntmps23 (by simp) ?_
 intro w0 K hrd
 obtain ⟨j1,hj1,h⟩:=zbO h
 refine zaY (β:=(List (List ByteArray))×Hd) 3 rfl (fun b=>j1 b.1=some r) (fun b=>[]) (fun b=>[(0,.string title1),(6,b.2.v)]) (fun b=>[zfp zaD zaC 70 1 b.2.v b.1]) (fun cut => ?_) ?_
 ·
  refine zyG (zyR 2 rfl (zyH (zyR 1 rfl (zyH ?_))))
  refine zbg znH rfl dc (fun b1 => ?_)
  refine zyN (cut (zyG (zyR 1 rfl (zdA hwrows1 rfl dc rfl Tryz.underlying43 (zyR 1 rfl (zyN (zaG (zmy (enc:=zaD) (nest:=zaC) (e:=70) (size:=1) ?_))))))))
  refine zbt (β:=Nat×(List (List ByteArray))×Int×Int×Int×Int×Int×ByteArray×Int×Hd) (fun b=>zaM (fun _ _ _ _ _ _ _ _=>none) (zcj rows1 j1) b.1 b.2.1 b.2.2.1 b.2.2.2.1 b.2.2.2.2.1 b.2.2.2.2.2.1 b.2.2.2.2.2.2.1 b.2.2.2.2.2.2.2.1 b.2.2.2.2.2.2.2.2.1=some r) (fun b=>[]) (fun b=>[(0,.string title1),(6,b.2.2.2.2.2.2.2.2.2.v),(7,zP b1),(11,vrows1),(12,zI (rows1.length:Int)),(13,zI b.2.2.2.2.2.2.2.2.1)]) (fun b=>[zfp zaD zaC 70 1 b.2.2.2.2.2.2.2.2.2.v b.2.1,cells b1 [zI b.2.2.1,zI b.2.2.2.1,zI b.2.2.2.2.1,zI b.2.2.2.2.2.1,zI b.2.2.2.2.2.2.1,.string b.2.2.2.2.2.2.2.1] 33]) (fun b=>b.1) (zb4,([]:List (List ByteArray)),0,0,0,0,0,ByteArray.empty,0,Hd.nil) h rfl (zba rfl) (zad [1,0] kr rfl) ?_
  rintro ⟨n1,stanzas4,last13,last14,last15,last16,last17,last18,x3,hd4⟩ h
  cases n1 with
  | zero=>exact zdG h
  | succ n1 =>
   obtain ⟨ag1,hag1⟩:∃ ag,ag=zaM (fun _ _ _ _ _ _ _ _=>none) (zcj rows1 j1) n1:=⟨_,rfl⟩
   have h:zcj rows1 j1 ag1 stanzas4 last13 last14 last15 last16 last17 last18 x3=some r:=by rw [hag1]; exact h
   unfold zcj at h
   refine zyG (zaW rfl zbA (zyN (zaH ?_)))
   refine zyB rfl h (fun h => ?_) (fun h => ?_)
   ·
    refine zau (zaI ?_)
    obtain ⟨j2,hj2,h⟩:=zbO h
    refine zaY (β:=(List (List ByteArray))×Int×Int×Int×Int×Int×ByteArray×Hd) 0 rfl (fun b=>j2 b.1 b.2.1 b.2.2.1 b.2.2.2.1 b.2.2.2.2.1 b.2.2.2.2.2.1 b.2.2.2.2.2.2.1=some r) (fun b=>[]) (fun b=>[(0,.string title1),(6,b.2.2.2.2.2.2.2.v),(7,zP b1),(11,vrows1),(12,zI (rows1.length:Int)),(13,zI x3)]) (fun b=>[zfp zaD zaC 70 1 b.2.2.2.2.2.2.2.v b.1,cells b1 [zI b.2.1,zI b.2.2.1,zI b.2.2.2.1,zI b.2.2.2.2.1,zI b.2.2.2.2.2.1,.string b.2.2.2.2.2.2.1] 33]) (fun cut => ?_) ?_
    ·
     refine cut (zaG (zyG ?_))
     obtain ⟨q1,hq1,h⟩:=zbx h
     refine zbj hwrows1 hq1 Tryz.underlying43 zhW rfl dc rfl rfl rfl (ziD (m:=krows1+(x3:Int).toNat) (j:=0) (i:=0) (q:=q1) (cs:=(zr4 q1)) hrd rfl (by omega) zj0 rfl dc rfl (Vw.get hwrows1 hq1) rfl rfl rfl ?_)
     refine zbg znH rfl dc (fun b2 => ?_)
     refine zaU (k:=2) (vs:=(zr4 q1)) (l':=(zr4 q1)) zhW rfl rfl rfl rfl rfl (show _≤_ by simp) rfl rfl ?_
     refine zyN (zaH (zyG (zac zfS rfl dc rfl (show _=0 from rfl) (zan (k:=2) zbS rfl dc rfl rfl rfl (zaW rfl za1 (zyN ?_))))))
     refine zyB rfl h (fun h => ?_) (fun h => ?_)
     ·
      refine za9 (zap (zaz ?_))
      exact zaq (stanzas4,last13,last14,last15,last16,last17,last18,hd4) h rfl (zba rfl) (zad [0,1] kr rfl)
     refine zau (zaI ?_)
     obtain ⟨j3,hj3,h⟩:=zbO h
     refine zaY (β:=Bool×Bool) 0 rfl (fun b=>j3 b.1 b.2=some r) (fun b=>[]) (fun b=>[(0,.string title1),(6,hd4.v),(7,zP b1),(9,zP b2),(11,vrows1),(12,zI (rows1.length:Int)),(13,zI x3),(28,.pointer (some ⟨b2,2,none⟩)),(29,zI q1.Part),(30,.bool ((q1.Part:Int)==0)),(31,.bool b.1),(45,.bool b.2)]) (fun b=>[zfp zaD zaC 70 1 hd4.v stanzas4,cells b1 [zI last13,zI last14,zI last15,zI last16,zI last17,.string last18] 33,cells b2 (zr4 q1) 33]) (fun cut => ?_) ?_
     ·
      refine cut (zyG (za5 (k:=1) (cs:=[zI last13,zI last14,zI last15,zI last16,zI last17,.string last18]) zj0 rfl dc rfl rfl rfl rfl (za5 (k:=2) (cs:=(zr4 q1)) zj0 rfl dc rfl rfl rfl rfl (zyR 1 rfl (zhm (k:=0) rfl dc rfl rfl Tryz.underlying112 (zaW rfl za1 ?_))))))
      obtain ⟨r1,hq2,h⟩:=zbx h
      refine zbc (v:=.bool r1) (vs:=[.agg #[zI last13,zI last14,zI last15,zI last16,zI last17,.string last18],.agg (zr4 q1).toArray,.bool (((stanzas4.length:Int):Int)==0)]) rfl dc rfl rfl rfl zwD (zkc (a1:=(⟨last13,last14,last15,last16,last17,last18⟩:Gapi_Row)) (b1:=q1) hq2) (zdJ rfl dc rfl zcA (zyR 1 rfl ?_))
      refine zyS (s:=27) rfl h (fun h => ?_) (fun h => ?_)
      ·
       refine zyR 14 rfl ?_
       refine zyR 5 rfl (zyN (zbd rfl (zyG (zyR 2 rfl (zyN ?_)))))
       refine zaA (zai (zal (zai (zai (zal (zai (zck zaP zaO 106 ?_)))))))
       cases h
       exact zaF (rs:=[.tmp 4,.tmp 5]) (.pointer none) (.inl rfl) Tryz.results23 (.cons (.tmp rfl) (.cons (.tmp rfl) .nil)) rfl (zad [3] kr rfl)
      refine zac ziS rfl dc rfl (show _=2 from rfl) (zan (k:=2) zbS rfl dc rfl rfl rfl (zaW rfl za1 (zyR 1 rfl ?_)))
      refine zyS (s:=31) rfl h (fun h => ?_) (fun h => ?_)
      ·
       refine zac zmj rfl dc rfl (show _=3 from rfl) (zan (k:=2) zbS rfl dc rfl rfl rfl (zaW rfl zbA (zyR 1 rfl ?_)))
       refine zyS (s:=35) rfl h (fun h => ?_) (fun h => ?_)
       ·
        refine zyR 11 rfl (zyN (zbd rfl ?_))
        refine zyG (zyR 2 rfl (zyN (zaA (zai (zal (zai (zai (zal (zai (zck zaP zaO 106 ?_))))))))))
        cases h
        exact zaF (rs:=[.tmp 4,.tmp 5]) (.pointer none) (.inl rfl) Tryz.results23 (.cons (.tmp rfl) (.cons (.tmp rfl) .nil)) rfl (zad [3] kr rfl)
       refine zac zmj rfl dc rfl (show _=3 from rfl) (zan (k:=2) zbS rfl dc rfl rfl rfl (zaW rfl zcR (zyR 2 rfl ?_)))
       refine zyS (s:=40) rfl h (fun h => ?_) (fun h => ?_)
       ·
        refine zyR 6 rfl (zyN (zbd rfl (zyG (zyR 2 rfl (zaX ?_)))))
        refine zaI (zaA (zai (zal (zai (zai (zal (zai (zck zaP zaO 106 ?_))))))))
        cases h
        exact zaF (rs:=[.tmp 4,.tmp 5]) (.pointer none) (.inl rfl) Tryz.results23 (.cons (.tmp rfl) (.cons (.tmp rfl) .nil)) rfl (zad [3] kr rfl)
       refine zac zn8 rfl dc rfl (show _=5 from rfl) (zan (k:=2) zjc rfl dc rfl rfl rfl ?_)
       obtain ⟨r2,hq3,h⟩:=zbx h
       refine zbc (v:=.bool r2) (vs:=[.string q1.Text,.string (⟨#[32]⟩:ByteArray)]) rfl dc rfl rfl rfl zva (zfw hq3) (zyR 3 rfl (zyN ?_))
       refine zyB rfl h (fun h => ?_) (fun h => ?_)
       ·
        refine zyG (zyR 2 rfl (zyN (zaA (zai (zal (zai (zai (zal (zai (zck zaP zaO 106 ?_))))))))))
        cases h
        exact zaF (rs:=[.tmp 4,.tmp 5]) (.pointer none) (.inl rfl) Tryz.results23 (.cons (.tmp rfl) (.cons (.tmp rfl) .nil)) rfl (zad [3] kr rfl)
       refine zau ?_
       exact zaq (true,r2) h rfl (zba rfl) (zad [0,1,2] kr rfl)
      refine zyR 14 rfl ?_
      refine zyR 1 rfl (zyN (zaT rfl (zau ?_)))
      exact zaq (false,false) h rfl (zba rfl) (zad [0,1,2] kr rfl)
     rintro ⟨x4,x5⟩ h
     rw [hj3] at h
     obtain ⟨j4,hj4,h⟩:=zbO h
     refine zaY (β:=(List (List ByteArray))×Hd) 0 rfl (fun b=>j4 b.1=some r) (fun b=>[]) (fun b=>[(0,.string title1),(6,b.2.v),(7,zP b1),(9,zP b2),(11,vrows1),(12,zI (rows1.length:Int)),(13,zI x3),(28,.pointer (some ⟨b2,2,none⟩)),(29,zI q1.Part),(30,.bool ((q1.Part:Int)==0)),(31,.bool x4),(45,.bool x5)]) (fun b=>[zfp zaD zaC 70 1 b.2.v b.1,cells b1 [zI last13,zI last14,zI last15,zI last16,zI last17,.string last18] 33,cells b2 (zr4 q1) 33]) (fun cut => ?_) ?_
     ·
      refine cut (zyG (zac zew rfl dc rfl (show _=1 from rfl) (zan (k:=2) zbS rfl dc rfl rfl rfl (zyR 1 rfl (zhm (k:=0) rfl dc rfl rfl Tryz.underlying112 (zaW rfl za1 (zyN ?_)))))))
      refine zyB rfl h (fun h => ?_) (fun h => ?_)
      ·
       refine zaB (zyR 1 rfl ?_)
       refine zaR (cs:=[.slice none 0 0]) (te:=70) (ps:=[(0,.const (.slice none 0 0))]) rfl dc rfl (fun _=>by kernel_rfl) (fun b3 => ?_)
       refine zfU (enc:=zjl) (e:=9) (size:=1) ?_
       refine zgh (k:=0) rfl zm5 (fun zs1 hz1 => ?_)
       obtain ⟨hg1,h⟩:=zbw h
       refine zaZ (k:=0) (k2:=3) (ys:=[(([]:List ByteArray),Hd.nil)]) Tryz.underlying112 ztQ zbf zfj rfl dc rfl rfl rfl rfl rfl rfl (by rw [zut hz1]; exact hg1) (fun v1 => ?_)
       refine zbo (k:=0) rfl (fun hd7 he1 => ?_)
       subst he1
       refine ze9 (k:=5) rfl (zad [4] kr rfl) rfl (zoH (nest:=zaC) (zs:=zs1) (z:=(([]:List ByteArray),Hd.nil))) ?_
       refine ze9 (k:=0) rfl (zad [5] kr rfl) rfl (zjm (enc:=zaD) (nest:=zaC) (zvI hz1)) ?_
       refine zcu (L':=[zfp zaD zaC 70 1 hd7.v (stanzas4++[([]:List ByteArray)]),cells b1 [zI last13,zI last14,zI last15,zI last16,zI last17,.string last18] 33,cells b2 (zr4 q1) 33,cells b3 [.slice none 0 0] 70]) (zad [0,1,2,3] kr rfl) (zyR 1 rfl (zaX ?_))
       exact zaq (stanzas4++[([]:List ByteArray)],hd7) h rfl (zba rfl) (zad [0,1,2] kr rfl)
      refine zau ?_
      exact zaq (stanzas4,hd4) h rfl (zba rfl) (zad [0,1,2] kr rfl)
     rintro ⟨stanzas6,hd6⟩ h
     rw [hj4] at h
     refine zyG (zyR 1 rfl (zac zew rfl dc rfl (show _=1 from rfl) (zan (k:=2) zbS rfl dc rfl rfl rfl ?_)))
     refine zgh (k:=0) rfl zm5 (fun zs2 hz2 => ?_)
     obtain ⟨x6,hq4,h⟩:=zbx h
     obtain ⟨eh1,eq1⟩:=zic hz2 hq4
     refine zaL (k:=0) eq1 Tryz.underlying112 zhV rfl dc rfl rfl rfl rfl (zyR 1 rfl (zyN ?_))
     obtain ⟨j5,hj5,h⟩:=zbO h
     refine zaY (β:=(List (List ByteArray))) 0 rfl (fun b=>j5 b=some r) (fun b=>[]) (fun b=>[(0,.string title1),(6,hd6.v),(7,zP b1),(9,zP b2),(11,vrows1),(12,zI (rows1.length:Int)),(13,zI x3),(28,.pointer (some ⟨b2,2,none⟩)),(29,zI q1.Part),(30,.bool ((q1.Part:Int)==0)),(31,.bool x4),(45,.bool x5)]) (fun b=>[zfp zaD zaC 70 1 hd6.v b,cells b1 [zI last13,zI last14,zI last15,zI last16,zI last17,.string last18] 33,cells b2 (zr4 q1) 33]) (fun cut => ?_) ?_
     ·
      refine cut (zyG (zac ziS rfl dc rfl (show _=2 from rfl) (zan (k:=2) zbS rfl dc rfl rfl rfl (zaW rfl za1 (zyN ?_)))))
      refine zyB rfl h (fun h => ?_) (fun h => ?_)
      ·
       obtain ⟨hg2,h⟩:=zbw h
       obtain ⟨hg3,h⟩:=zbw h
       obtain ⟨hg4,h⟩:=zbw h
       refine zfk (k:=3) rfl (zqq (za0 eq1)) (fun _ _ => ?_)
       refine zfz 1 ?_
       refine let vals1:(Nat×Hd)→List (Nat×Nat×Value):=fun b=>[(0,62,.pointer (some ⟨zdK hd6.v,(q1.Stanza:Int).toNat*1,none⟩)),(1,63,.pointer (some ⟨zdK hd6.v,(q1.Stanza:Int).toNat*1,none⟩)),(2,64,.pointer (some ⟨zdK hd6.v,(q1.Stanza:Int).toNat*1,none⟩)),(3,65,eh1.v),(4,66,.pointer (some ⟨b2,3,none⟩)),(5,67,zI q1.Indent),(6,68,.string (zbR q1.Indent)),(7,69,.pointer (some ⟨b2,5,none⟩)),(8,70,.string q1.Text),(9,71,.string ((zbR q1.Indent)++q1.Text)),(10,72,.slice (some ⟨b.1,0,none⟩) 1 1),(11,73,b.2.v)]; let LL1:(Nat→Prop)→(Nat×Hd)→List Asn:=fun D b=>[zv9 hd6.v zs2,cells b1 [zI last13,zI last14,zI last15,zI last16,zI last17,.string last18] 33,cells b2 (zr4 q1) 33,own zaC (zs2.eraseIdx ((q1.Stanza:Int).toNat)),eD D (zv7 eh1.v x6) [(11,zv7 b.2.v (x6++[(zbR q1.Indent)++q1.Text]))],eD D emp [(10,cells b.1 [.string ((zbR q1.Indent)++q1.Text)] 9)]]; ?_
       have zhq:zyQ [10,11] LL1:=fun i h D b=>zab rfl (zab rfl (zab rfl (zab rfl (zab (zja rfl h) (zab (zja rfl h) rfl)))))
       refine zdB (β:=Nat×Hd) 12 ((0:Nat),Hd.nil) vals1 LL1 mixed kr kr dc (fun _=>rfl) (zeH (zab zbN (zab zbN rfl))) (zlc zhq (fun _=>rfl) (fun _=>rfl) 2 0 (fun _=>rfl) rfl (zyq zhq rfl (fun _=>rfl) (fun _=>rfl) ?_ (zgj zhq rfl (fun _=>rfl) (fun _=>rfl) ?_ (zyq zhq rfl (fun _=>rfl) (fun _=>rfl) ?_ (zgj zhq rfl (fun _=>rfl) (fun _=>rfl) ?_ (zgj zhq rfl (fun _=>rfl) (fun _=>rfl) ?_ (zyq zhq rfl (fun _=>rfl) (fun _=>rfl) ?_ (zgj zhq rfl (fun _=>rfl) (fun _=>rfl) ?_ (zyq zhq rfl (fun _=>rfl) (fun _=>rfl) ?_ (zat ?_ (zat ?_ DrawG.nil))))))))))) ?_
       · exact fun D ⟨b4,hd8⟩ n d c u i=>zar rfl dc (zaa (m:=1) u rfl (d 1 dc)) (zaf 2 u i rfl)
       · exact fun D ⟨b4,hd8⟩ n d c u i=>⟨_,(zeH (zab (zag (fun hD=>n (c 11 _ rfl hD 3 dc)) zaj) rfl)),zbk (i:=(q1.Stanza:Int).toNat) (j:=0) (k:=0) (q:=(x6,eh1)) zjX zbf rfl dc (zaa (m:=2) u rfl (d 2 dc)) rfl (za0 eq1) rfl dc rfl (zaf 3 u i rfl)⟩
       · exact fun D ⟨b4,hd8⟩ n d c u i=>zac zmj rfl dc (za8 (by rfl) rfl) (show _=3 from rfl) (zaf 4 u i rfl)
       · exact fun D ⟨b4,hd8⟩ n d c u i=>⟨_,(zeH (zab (zag (fun hD=>n (c 6 _ rfl (c 11 _ rfl hD 6 dc) 5 dc)) zaj) (zab (zag (fun hD=>n (c 6 _ rfl (c 9 _ rfl (c 10 _ rfl hD 9 dc) 6 dc) 5 dc)) zaj) rfl))),zan (k:=2) zbS rfl dc (zaa (m:=4) u rfl (d 4 dc)) rfl rfl (zaf 5 u i rfl)⟩
       · exact fun D ⟨b4,hd8⟩ n d c u i=>⟨_,(zeH (zab (zag (fun hD=>n (c 11 _ rfl hD 6 dc)) zaj) (zab (zag (fun hD=>n (c 9 _ rfl (c 10 _ rfl hD 9 dc) 6 dc)) zaj) rfl))),zbc (v:=.string (zbR q1.Indent)) (vs:=[.string (⟨#[32]⟩:ByteArray),zI q1.Indent]) rfl dc rfl (evL.cons rfl (evL.cons (zaa (m:=5) u rfl (d 5 dc)) evL.nil)) rfl zu9 (zox q1.Indent hg2) (zaf 6 u i rfl)⟩
       · exact fun D ⟨b4,hd8⟩ n d c u i=>zac zn8 rfl dc (za8 (by rfl) rfl) (show _=5 from rfl) (zaf 7 u i rfl)
       · exact fun D ⟨b4,hd8⟩ n d c u i=>⟨_,(zeH (zab (zag (fun hD=>n (c 9 _ rfl (c 10 _ rfl (c 11 _ rfl hD 10 dc) 9 dc) 8 dc)) zaj) (zab (zag (fun hD=>n (c 9 _ rfl (c 10 _ rfl hD 9 dc) 8 dc)) zaj) rfl))),zan (k:=2) zjc rfl dc (zaa (m:=7) u rfl (d 7 dc)) rfl rfl (zaf 8 u i rfl)⟩
       · exact fun D ⟨b4,hd8⟩ n d c u i=>zcc rfl dc (zaa (m:=6) u rfl (d 6 dc)) (zaa (m:=8) u rfl (d 8 dc)) (zf3 hg3) (zaf 9 u i rfl)
       ·
        intro D b hn hd hcl
        obtain ⟨zb0,hd8⟩:=b
        refine zaK (zeH (zab (zag (fun hD=>hn (hcl 11 _ rfl hD 10 dc)) zaj) (zab (zag hn zaj) rfl))) ?_
        refine zaR (cs:=[.string ((zbR q1.Indent)++q1.Text)]) (te:=9) (ps:=[(0,.tmp 71)]) rfl dc (evP.cons (zaa (m:=9) rfl rfl (hd 9 dc)) evP.nil) (fun _=>by kernel_rfl) (fun b4 => ?_)
        refine zcS 5 rfl rfl ?_
        exact zaQ (b:=(zb0,hd8)) (b4,hd8) 10 (by rfl) (by rfl) rfl (zrE (zao (fun hD=>absurd hD hn) (zao (fun _=>rfl) rfl))) (zeH (zab ((zam (by rfl)).trans (zag (fun hD=>hn (hcl 11 _ rfl hD 10 dc)) zaj)) (zab (zaE (Or.inr rfl) rfl) rfl)))
       ·
        intro D b hn hd hcl
        obtain ⟨b4,zb1⟩:=b
        refine zaK (zeH (zab (zag hn zaj) (zab (zaE (hd 10 dc) rfl) rfl))) ?_
        refine zaZ (k:=4) (k2:=5) (ys:=[(zbR q1.Indent)++q1.Text]) Tryz.underlying70 zvM zfA zjK rfl dc (zaa (m:=3) rfl rfl (hd 3 dc)) (zaa (m:=10) rfl rfl (hd 10 dc)) rfl rfl rfl rfl hg4 (fun v2 => ?_)
        refine zbo (k:=4) rfl (fun hd8 he2 => ?_)
        subst he2
        exact zaQ (b:=(b4,zb1)) (b4,hd8) 11 (by rfl) (by rfl) rfl (zuk (zao (fun hD=>absurd hD hn) rfl)) (zeH (zab (zaE (Or.inr rfl) rfl) (zab ((zam (by rfl)).trans (zaE (hd 10 dc) rfl)) rfl)))
       intro D b hall
       obtain ⟨b4,hd8⟩:=b
       refine zaK (zeH (zab (zaE (hall 11 dc) rfl) (zab (zaE (hall 10 dc) rfl) rfl))) (zar rfl dc rfl ?_)
       refine zei (i:=(q1.Stanza:Int).toNat) (j:=0) (k:=0) (q:=(x6,eh1)) (q':=(x6++[(zbR q1.Indent)++q1.Text],hd8)) zhV zbf rfl rfl rfl rfl (za0 eq1) rfl dc rfl (fun _ _=>rfl) ?_
       refine ze9 (k:=3) rfl (zad [4] kr rfl) rfl (zqp (nest:=zaC) (zs:=zs2) (z:=(x6++[(zbR q1.Indent)++q1.Text],hd8)) (zl0 (za0 eq1)) zhZ) ?_
       refine zaX (ziC (k:=0) rfl (zad [3] kr rfl) rfl (zjm (enc:=zaD) (nest:=zaC) (zvH hz2)) ?_)
       exact zaq (stanzas6.set (q1.Stanza:Int).toNat (x6++[(zbR q1.Indent)++q1.Text])) h rfl (zba rfl) (zad [0,1,2] kr rfl)
      obtain ⟨hg5,h⟩:=zbw h
      obtain ⟨q2,hq5,h⟩:=zbx h
      obtain ⟨hg6,h⟩:=zbw h
      refine zfk (k:=3) rfl (zqq (za0 eq1)) (fun _ _ => ?_)
      refine zbz 12 [(0,75,.pointer (some ⟨zdK hd6.v,(q1.Stanza:Int).toNat*1,none⟩)),(1,76,.pointer (some ⟨zdK hd6.v,(q1.Stanza:Int).toNat*1,none⟩)),(2,77,eh1.v),(3,78,.pointer (some ⟨zdK hd6.v,(q1.Stanza:Int).toNat*1,none⟩)),(4,79,.pointer (some ⟨zdK hd6.v,(q1.Stanza:Int).toNat*1,none⟩)),(5,80,eh1.v),(6,81,zI (x6.length:Int)),(7,82,zI ((x6.length:Int) - 1)),(8,83,.pointer (some ⟨zdK eh1.v,((x6.length:Int) - 1:Int).toNat*1,none⟩)),(9,84,.string q2),(10,85,.pointer (some ⟨b2,5,none⟩)),(11,86,.string q1.Text)] mixed kr kr dc (by rfl) kr kr (zyP 1 0 rfl (zae ?_ (zae ?_ (zyP 1 3 rfl (zae ?_ (zae ?_ (zae ?_ (zae ?_ (zae ?_ (zae ?_ (zae ?_ (zae ?_ DrawPre.nil)))))))))))) ?_
      · exact fun D n d c u i=>zar rfl dc (zaa (m:=0) u rfl (d 0 dc)) (zaf 1 u i rfl)
      · exact fun D n d c u i=>zbk (i:=(q1.Stanza:Int).toNat) (j:=0) (k:=0) (q:=(x6,eh1)) zjX zbf rfl dc (zaa (m:=1) u rfl (d 1 dc)) rfl (za0 eq1) rfl dc rfl (zaf 2 u i rfl)
      · exact fun D n d c u i=>zar rfl dc (zaa (m:=3) u rfl (d 3 dc)) (zaf 4 u i rfl)
      · exact fun D n d c u i=>zbk (i:=(q1.Stanza:Int).toNat) (j:=0) (k:=0) (q:=(x6,eh1)) zjX zbf rfl dc (zaa (m:=4) u rfl (d 4 dc)) rfl (za0 eq1) rfl dc rfl (zaf 5 u i rfl)
      · exact fun D n d c u i=>zcm (k:=4) rfl dc (zaa (m:=5) u rfl (d 5 dc)) rfl Tryz.underlying70 (zaf 6 u i rfl)
      · exact fun D n d c u i=>zcc rfl dc (zaa (m:=6) u rfl (d 6 dc)) rfl (zcd (r:=(x6.length:Int) - 1) (IntWalk.i64_in _ hg5)) (zaf 7 u i rfl)
      · exact fun D n d c u i=>zaL (k:=4) hq5 Tryz.underlying70 zrz rfl dc (zaa (m:=2) u rfl (d 2 dc)) (zaa (m:=7) u rfl (d 7 dc)) rfl rfl (zaf 8 u i rfl)
      · exact fun D n d c u i=>zbk (i:=((x6.length:Int) - 1:Int).toNat) (j:=0) (k:=4) (q:=q2) zjc zfA rfl dc (zaa (m:=8) u rfl (d 8 dc)) rfl (za0 hq5) rfl dc rfl (zaf 9 u i rfl)
      · exact fun D n d c u i=>zac zn8 rfl dc (za8 (by rfl) rfl) (show _=5 from rfl) (zaf 10 u i rfl)
      · exact fun D n d c u i=>zan (k:=2) zjc rfl dc (zaa (m:=10) u rfl (d 10 dc)) rfl rfl (zaf 11 u i rfl)
      refine zaW rfl (zf3 hg6) (zaL (k:=4) hq5 Tryz.underlying70 zrz rfl dc rfl rfl rfl rfl ?_)
      refine zei (i:=((x6.length:Int) - 1:Int).toNat) (j:=0) (k:=4) (q:=q2) (q':=q2++q1.Text) zrz zfA rfl rfl rfl rfl (za0 hq5) rfl dc rfl (fun _ _=>rfl) ?_
      refine zaX (zvv (k:=0) rfl (zrG (ztd (za0 eq1)).symm (q1:=(x6,eh1)) (q2:=(x6.set ((x6.length:Int) - 1:Int).toNat (q2++q1.Text),eh1)) zbf rfl) (ziC (k:=3) rfl (zad [4] kr rfl) rfl (zqp (nest:=zaC) (zs:=zs2) (z:=(x6.set ((x6.length:Int) - 1:Int).toNat (q2++q1.Text),eh1)) (zl0 (za0 eq1)) zhZ) ?_))
      refine ziC (k:=0) rfl (zad [3] kr rfl) rfl (zjm (enc:=zaD) (nest:=zaC) (zvH hz2)) ?_
      exact zaq (stanzas6.set ((q1.Stanza:Int).toNat) (x6.set ((x6.length:Int) - 1:Int).toNat (q2++q1.Text))) h rfl (zba rfl) (zad [0,1,2] kr rfl)
     rintro stanzas7 h
     rw [hj5] at h
     refine zaB (za5 (k:=2) (cs:=(zr4 q1)) zj0 rfl dc rfl rfl rfl rfl (zaU (k:=1) (vs:=(zr4 q1)) (l':=(zr4 q1)) zhW rfl rfl rfl rfl rfl (show _≤_ by simp) rfl rfl (zaX (zah ?_))))
     exact zaq (stanzas7,q1.Line,q1.Stanza,q1.Part,q1.Indent,q1.Number,q1.Text,hd6) h rfl (zba rfl) (zad [0,1] kr rfl)
    rintro ⟨stanzas5,last19,last20,last21,last22,last23,last24,hd5⟩ h
    rw [hj2] at h
    refine zaB ?_
    obtain ⟨hg7,h⟩:=zbw h
    refine zaW rfl (zaV (r:=x3+1) (IntWalk.i64_in _ hg7)) (zyR 1 rfl (zaX ?_))
    subst hag1
    exact za4 (n1,stanzas5,last19,last20,last21,last22,last23,last24,x3+1,hd5) h (Nat.lt_succ_self _) rfl (zba rfl) (zad [0,1] kr rfl)
   refine za9 (zap (zap (zaz ?_)))
   exact zaq (stanzas4,hd4) h rfl (zba rfl) (zad [0] kr rfl)
 rintro ⟨stanzas1,hd1⟩ h
 rw [hj1] at h
 refine zyG (zyR 2 rfl ?_)
 obtain ⟨r3,hq6,h⟩:=zbx h
 refine zfa (vs:=[.string title1,hd1.v]) hrd rfl dc rfl rfl rfl zwC (zlM (nest:=zaC) (e:=70) (v:=hd1.v) (xs:=stanzas1) (RD1:=[]) (RD2:=[]) zbf zhw (fun zs_c0 hz_c0 hV_c0=>(zmY (vstanzas1:=hd1) hV_c0 hz_c0 hq6))) Splits.nil (.own (zad [0] (by kernel_rfl) rfl) (fun _ _ h=>sepL.one1.1 h) .nil) ?_
 rintro v3
 refine zcu (L':=[zfp zaD zaC 70 1 hd1.v stanzas1,zho zaP zaO 106 v3 r3.1]) (zad [0,1] kr rfl) (zaJ rfl dc rfl rfl (zaJ rfl dc rfl rfl (zyR 2 rfl (zyN (zaA ?_)))))
 cases h
 exact zaF (rs:=[.tmp 4,.tmp 5]) v3 (.inl rfl) Tryz.results23 (.cons (.tmp rfl) (.cons (.tmp rfl) .nil)) rfl (zad [1] kr rfl)
end Go.Proofs.YtbempdelckaccaaGreatDoor

namespace Go.Proofs.YtbempdelckaccaaGreatDoor
open Go.RowKit Go.Lib
set_option linter.unusedVariables false
set_option linter.unusedSimpArgs false
def zcV (x1:Int×Gapi_Row) (ag1:(List Gapi_Row)→Option Bool) (rows4:List Gapi_Row):Option Bool :=
grd (rows4.length+1≤2147483648) <|
ag1 (rows4++[x1.2])
def zeC (text1:ByteArray) (l1:Gapi_Layout):Option Bool :=
zak (zfW) fun (r1:Bool) =>
zax (!r1) (
some false
) (
zax (decide ((4000:Int)<(text1.size:Int))) (
some true
) (
zak (zdH text1 l1) fun (r2:((Option Gpage_Book)×(List Gapi_Verse)×Bool×Bool)) =>
zax (!r2.2.2.2) (
some r2.2.2.2
) (
zax (!r2.2.2.1) (
some r2.2.2.2
) (
zak (zcT text1) fun (r3:((Option Gpoem_Poem)×Gapi_Spot)) =>
zax (r3.1.isNone) (
some false
) (
zax ((r3.2.Err:Int) != 0) (
some false
) (
zbr (fun (j1:ByteArray→(List Gapi_Verse)→(List Gapi_Span)→ByteArray→(List Gapi_Row)→Option Bool) =>
zak (r2.1) fun (p5:Gpage_Book) =>
zak (zfs p5) fun (r4:Unit) =>
zak (r3.1) fun (p6:Gpoem_Poem) =>
zak (zd6 p5) fun (its1:(List (Int×Gapi_Row))) =>
zbr (fun (dn1:(List Gapi_Row)→Option Bool) =>
zdh dn1 (zcV) its1 ([]:List Gapi_Row)
) (fun (rows4:List Gapi_Row) =>
j1 p6.told_title p6.told_lines p6.told_stanzas p6.source rows4
)
) (fun (p1:ByteArray) (p2:List Gapi_Verse) (p3:List Gapi_Span) (p4:ByteArray) (rows1:List Gapi_Row) =>
zbr (fun (j2:(Option Gpoem_Poem)→Int→Option Bool) =>
zak (zfg (⟨p1,p2,p3,p4⟩:Gpoem_Poem)) fun (r5:ByteArray) =>
zak (zfP r5 rows1) fun (r6:((Option Gpoem_Poem)×Int)) =>
zak (zcU (⟨p1,p2,p3,p4⟩:Gpoem_Poem)) fun (r7:ByteArray) =>
zax (decide ((65536:Int)<(r7.size:Int))) (
zak (zcU (⟨p1,p2,p3,p4⟩:Gpoem_Poem)) fun (r8:ByteArray) =>
some (decide ((65536:Int)<(r8.size:Int)))
) (
zax (((r2.2.1.length:Int):Int)==0) (
zax (((rows1.length:Int):Int) != 0) (
zak (zcU (⟨p1,p2,p3,p4⟩:Gpoem_Poem)) fun (r9:ByteArray) =>
some (decide ((65536:Int)<(r9.size:Int)))
) (
j2 r6.1 r6.2
)
) (
j2 r6.1 r6.2
)
)
) (fun (m1:Option Gpoem_Poem) (e1:Int) =>
zax ((e1:Int)==0) (
zax (!m1.isNone) (
zak (m1) fun (p7:Gpoem_Poem) =>
zak (zdn p7 (⟨p1,p2,p3,p4⟩:Gpoem_Poem)) fun (r10:Bool) =>
zax (r10) (
zak (zdn (⟨p1,p2,p3,p4⟩:Gpoem_Poem) p7) fun (r11:Bool) =>
some r11
) (
some false
)
) (
some false
)
) (
some false
)
)
)
)
)
)
)
)
)
theorem ziO {text1:ByteArray} {l1:Gapi_Layout} {r:Bool} (h:zeC text1 l1=some r):FnP Tryz.prog 5 [.string text1,.agg (zr0 l1).toArray] (.bool r):=by
 unfold zeC at h
 refine FnP.intro Tryz.func5 rfl Tryz.ntmps5 (by simp) ?_
 intro w0 K
 refine ziE ?_
 refine zyG ?_
 refine zdQ rfl dc rfl (fun b1 => ?_)
 refine zyR 1 rfl (zyN (zaH (zyG ?_)))
 obtain ⟨r1,hq1,h⟩:=zbx h
 refine zbc (v:=.bool r1) (vs:=[]) rfl dc rfl rfl rfl zxl (zmd hq1) (zdJ rfl dc rfl zcA (zyN ?_))
 refine zyB rfl h (fun h => ?_) (fun h => ?_)
 ·
  refine zyG (zyR 1 rfl (zyN (zaA (zai ?_))))
  cases h
  exact zeO (rs:=[.tmp 4]) ([]:List Nat) () (.inl rfl) (zbI (k:=0) rfl) Tryz.results5 (.cons (.tmp rfl) .nil) rfl Splits.nil
 refine zau (zaI (zaH (zyG (zyR 1 rfl (zbl rfl dc rfl Tryz.underlying9 (zaW rfl zcR (zyN ?_)))))))
 refine zyB rfl h (fun h => ?_) (fun h => ?_)
 ·
  refine zyG (zyR 1 rfl (zyN (zaA (zai ?_))))
  cases h
  exact zeO (rs:=[.tmp 4]) ([]:List Nat) () (.inl rfl) (zbI (k:=0) rfl) Tryz.results5 (.cons (.tmp rfl) .nil) rfl Splits.nil
 refine zau (zaI (zyG (zyR 1 rfl (za5 (k:=1) (cs:=(zr0 l1)) zkZ rfl dc rfl rfl rfl rfl ?_))))
 obtain ⟨r2,hq2,h⟩:=zbx h
 refine zdI (vs:=[.string text1,.agg (zr0 l1).toArray]) rfl dc rfl rfl rfl zxk (znc (l1:=l1) hq2) Splits.nil ?_
 rintro ⟨v1,v2⟩
 refine zbo (k:=3) rfl (fun hd1 he1 => ?_)
 subst he1
 refine zyR 1 rfl (zaJ rfl dc rfl rfl (zaJ rfl dc rfl rfl (zaJ rfl dc rfl rfl (zaJ rfl dc rfl rfl (zyR 4 rfl (zyN (zaH (zyG ?_))))))))
 refine zyR 1 rfl (zdJ rfl dc rfl zcA (zyR 1 rfl ?_))
 refine zyS (s:=31) rfl h (fun h => ?_) (fun h => ?_)
 ·
  refine zyR 3 rfl (zyN (zbd rfl (zyG (zyR 2 rfl (zyN (zaA (zai ?_)))))))
  cases h
  exact zeO (rs:=[.tmp 4]) ([]:List Nat) () (.inl rfl) (zbI (k:=0) rfl) Tryz.results5 (.cons (.tmp rfl) .nil) rfl Splits.nil
 refine zyR 1 rfl (zdJ rfl dc rfl zcA (zyR 1 rfl (zyN ?_)))
 refine zyB rfl h (fun h => ?_) (fun h => ?_)
 ·
  refine zyG (zyR 2 rfl (zyN (zaA (zai ?_))))
  cases h
  exact zeO (rs:=[.tmp 4]) ([]:List Nat) () (.inl rfl) (zbI (k:=0) rfl) Tryz.results5 (.cons (.tmp rfl) .nil) rfl Splits.nil
 refine zau (zaI (zyG (zyR 1 rfl ?_)))
 obtain ⟨r3,hq3,h⟩:=zbx h
 refine zdI (vs:=[.string text1]) rfl dc rfl rfl rfl ztN (zgY hq3) Splits.nil ?_
 rintro v3
 refine zcu (L':=[zhS ((([]:List Nat):List Nat).map zkT),cells b1 (zr0 l1) 23,zho zbH zbG 81 v1 r2.1,zv2 hd1.v r2.2.1,zho zaP zaO 106 v3 r3.1]) (zad [0,1,2,3,4] kr rfl) (zyR 1 rfl (zaJ rfl dc rfl rfl (zaJ rfl dc rfl rfl ?_)))
 refine zbg zpa rfl dc (fun b2 => ?_)
 refine zyR 1 rfl (zaU (k:=5) (vs:=(zr6 r3.2)) (l':=(zr6 r3.2)) ziI rfl rfl rfl rfl rfl (show _≤_ by simp) rfl rfl ?_)
 refine zyN (zaH (zyG (zyR 1 rfl ?_)))
 refine zhb (k:=4) rfl (fun hv1 => ?_)
 refine zaW rfl (zi6 Tryz.underlying58 hv1) (zyR 1 rfl ?_)
 refine zyS (s:=43) rfl h (fun h => ?_) (fun h => ?_)
 ·
  refine zyR 4 rfl (zyN (zbd rfl (zyG (zyR 1 rfl (zyN (zaA (zai ?_)))))))
  cases h
  exact zeO (rs:=[.tmp 4]) ([]:List Nat) () (.inl rfl) (zbI (k:=0) rfl) Tryz.results5 (.cons (.tmp rfl) .nil) rfl Splits.nil
 refine zac zn7 rfl dc rfl (show _=0 from rfl) (zan (k:=5) ztm rfl dc rfl rfl rfl (zaW rfl zbP (zyR 1 rfl (zyN ?_))))
 refine zyB rfl h (fun h => ?_) (fun h => ?_)
 ·
  refine zyG (zyR 1 rfl (zyN (zaA (zai ?_))))
  cases h
  exact zeO (rs:=[.tmp 4]) ([]:List Nat) () (.inl rfl) (zbI (k:=0) rfl) Tryz.results5 (.cons (.tmp rfl) .nil) rfl Splits.nil
 refine zau (zaI ?_)
 obtain ⟨j1,hj1,h⟩:=zbO h
 refine zaY (β:=ByteArray×(List Gapi_Verse)×(List Gapi_Span)×ByteArray×(List Gapi_Row)×Nat×Hd×Hd×Nat×Hd×(List Nat)) 1 rfl (fun b=>j1 b.1 b.2.1 b.2.2.1 b.2.2.2.1 b.2.2.2.2.1=some r) (fun b=>zfQ b.2.2.2.2.2.2.2.2.2.2) (fun b=>[(6,hd1.v),(9,zP b.2.2.2.2.2.1),(11,zP b.2.2.2.2.2.2.2.2.1)]) (fun b=>[zv2 hd1.v r2.2.1,cells b.2.2.2.2.2.1 [.string b.1,b.2.2.2.2.2.2.1.v,b.2.2.2.2.2.2.2.1.v,.string b.2.2.2.1] 106,zv2 b.2.2.2.2.2.2.1.v b.2.1,zv3 b.2.2.2.2.2.2.2.1.v b.2.2.1,cells b.2.2.2.2.2.2.2.2.1 [b.2.2.2.2.2.2.2.2.2.1.v] 43,zv1 b.2.2.2.2.2.2.2.2.2.1.v b.2.2.2.2.1,zhS ((b.2.2.2.2.2.2.2.2.2.2:List Nat).map zkT)]) (fun cut => ?_) ?_
 ·
  refine zyG ?_
  refine zbg zvW rfl dc (fun b5 => ?_)
  refine zyN (cut (zyG (zyR 1 rfl ?_)))
  obtain ⟨p5,hq4,h⟩:=zbx h
  refine zmx (As:=[zho zbH zbG 81 v1 r2.1]) (zad [2] kr rfl) (zfo hq4) ?_
  rintro ⟨b6,hd5⟩ hv2
  have hkp:=h
  subst hv2
  have h:=hkp
  obtain ⟨r4,hq5,h⟩:=zbx h
  refine zfa (vs:=[zP b6]) (Rd.nil:Rd _ _ []) rfl dc rfl rfl rfl zwT (ziN (bb1:=b6) (b1:=p5) (b1_h0:=hd5) hq5) Splits.nil (.own (zad [7] (by kernel_rfl) rfl) (fun _ _ h=>sepL.one1.1 h) (.own (zad [8] (by kernel_rfl) rfl) (fun _ _ h=>sepL.one1.1 h) .nil)) ?_
  rintro b7
  refine zcu (L':=[zhS ((([]:List Nat):List Nat).map zkT),cells b1 (zr0 l1) 23,emp,zv2 hd1.v r2.2.1,zho zaP zaO 106 v3 r3.1,cells b2 (zr6 r3.2) 60,cells b5 [.slice none 0 0] 43,cells b6 [zI p5.layout_Width,zI p5.layout_Height,zI p5.layout_Turn,zI p5.layout_Every,hd5.v,zI p5.cost] 81,zfp za7 zbi 43 1 hd5.v p5.pages,cells b7 [zP b6] 25]) (zad [0,1,2,3,4,5,6,7,8,9] kr rfl) (zyN (zaG ?_))
  obtain ⟨p6,hq6,h⟩:=zbx h
  refine zt5 (As:=[zho zaP zaO 106 v3 r3.1]) (zad [4] kr rfl) (zfo hq6) ?_
  rintro ⟨b8,hd6,hd7⟩ hv3
  have hkp:=h
  subst hv3
  have h:=hkp
  obtain ⟨its1,hq7,h⟩:=zbx h
  refine zdR (enc:=zcG) (e:=33) (size:=6) ?_
  obtain ⟨dn1,hdn1,h⟩:=zbO h
  refine zkO (α:=Int×Gapi_Row) (β:=(List Gapi_Row)×Hd) (γ:=Unit) (δ:=Nat) (ps:=[50,51]) (Rd.nil:Rd _ _ []) Ro.nil rfl zwL (zhs hq7) (fun pre b=>∀ post,its1=pre++post→zdh dn1 (zcV) post b.1=some r) (fun pre b=>[zv2 hd1.v r2.2.1,cells b8 [.string p6.told_title,hd6.v,hd7.v,.string p6.source] 106,zv2 hd6.v p6.told_lines,zv3 hd7.v p6.told_stanzas,cells b5 [b.2.v] 43,zv1 b.2.v b.1]) (fun c pre g=>False) (fun c pre g=>[]) (fun pre x b j=>[(4,.bool false),(6,hd1.v),(9,zP b8),(11,zP b5),(49,.func (.func 32) #[] #[zP b7]),(13,zP j)]) (fun pre x b j=>[zv2 hd1.v r2.2.1,cells b8 [.string p6.told_title,hd6.v,hd7.v,.string p6.source] 106,zv2 hd6.v p6.told_lines,zv3 hd7.v p6.told_stanzas,cells b5 [b.2.v] 43,zv1 b.2.v b.1,cells j (zr4 x.2) 33]) (([]:List Gapi_Row),Hd.nil) (fun post e=>by rw [List.nil_append] at e; subst e; exact h) (zad [3,10,11,12,6,13] kr rfl) (.own (As:=[cells b7 [zP b6] 25]) (zad [9] (by kernel_rfl) rfl) (fun _ _ h=>sepL.one1.1 h) (.own (As:=[cells b6 [zI p5.layout_Width,zI p5.layout_Height,zI p5.layout_Turn,zI p5.layout_Every,hd5.v,zI p5.cost] 81]) (zad [7] (by kernel_rfl) rfl) (fun _ _ h=>sepL.one1.1 h) (.own (As:=[zfp za7 zbi 43 1 hd5.v p5.pages]) (zad [8] (by kernel_rfl) rfl) (fun _ _ h=>sepL.one1.1 h) .nil))) (fun _=>rfl) dc ?_ ?_ ?_ ?_
  ·
   rintro lp rc pre x1 post ⟨rows4,hd10⟩ w1 K1 hxs1 hext hro hinv
   refine zaB ?_
   refine zbg znH rfl dc (fun b9 => ?_)
   refine zaU (k:=6) (vs:=(zr4 x1.2)) (l':=(zr4 x1.2)) zhW rfl rfl rfl rfl rfl (show _≤_ by simp) rfl rfl ?_
   refine zaX ?_
   exact fun a w ha hw=>⟨b9,(zba rfl) _ _ _ ha,hw.weaken (zad [0,1,2,3,4,5,6] kr rfl)⟩
  ·
   rintro lp rc pre x1 post1 ⟨rows4,hd10⟩ jb1 w1 K1 hxs1 hext hro hinv
   have h:=hinv (x1::post1) hxs1
   obtain ⟨ag1,hag1⟩:∃ ag,ag=zdh dn1 (zcV) post1:=⟨_,rfl⟩
   have h:zcV x1 ag1 rows4=some r:=by rw [hag1]; exact h
   unfold zcV at h
   refine zaG (zaB (zan (k:=4) zjY rfl dc rfl rfl rfl (za5 (k:=6) (cs:=(zr4 x1.2)) zj0 rfl dc rfl rfl rfl rfl ?_)))
   refine zaR (cs:=(zr4 x1.2)) (te:=33) (ps:=[(0,.tmp 53)]) rfl dc rfl (fun _=>by kernel_rfl) (fun b10 => ?_)
   obtain ⟨hg1,h⟩:=zbw h
   refine zaZ (k:=5) (k2:=7) (ys:=[x1.2]) Tryz.underlying43 zsq zbY zeF rfl dc rfl rfl rfl rfl rfl rfl hg1 (fun v4 => ?_)
   refine zbo (k:=5) rfl (fun hd11 he2 => ?_)
   subst he2
   refine zbe (k:=4) (l':=[hd11.v]) ztl rfl rfl rfl rfl rfl (fun _ _=>rfl) rfl ?_
   refine zaX (zah ?_)
   exact zfm (rows4++[x1.2],hd11) (fun post2 e2=>by have e9:=zex hxs1 e2; subst e9; subst hag1; exact h) (zad [0,1,2,3,4,5] kr rfl)
  ·
   rintro dm1 ⟨rows4,hd10⟩ hinv
   have h:dn1 rows4=some r:=hinv [] (List.append_nil _).symm
   rw [hdn1] at h
   refine zfT (k:=20) (j:=0) rfl rfl dc ?_
   refine zah ?_
   exact zaq (p6.told_title,p6.told_lines,p6.told_stanzas,p6.source,rows4,b8,hd6,hd7,b5,hd10,dm1::([]:List Nat)) h rfl (zba rfl) (zad [14,15,16,17,18,19,0] kr rfl)
  rintro dm1 c pre x1 post g hxs hX
  exact (show False from hX).elim
 rintro ⟨p1,p2,p3,p4,rows1,b3,hd2,hd3,b4,hd4,ds1⟩ h
 rw [hj1] at h
 obtain ⟨j2,hj2,h⟩:=zbO h
 refine zaY (β:=(Option Gpoem_Poem)×Int×Value) 1 rfl (fun b=>j2 b.1 b.2.1=some r) (fun b=>zfQ ds1) (fun b=>[(9,zP b3),(14,b.2.2),(15,zI b.2.1)]) (fun b=>[cells b3 [.string p1,hd2.v,hd3.v,.string p4] 106,zv2 hd2.v p2,zv3 hd3.v p3,zho zaP zaO 106 b.2.2 b.1,zhS ((ds1:List Nat).map zkT)]) (fun cut => ?_) ?_
 ·
  refine zaH ?_
  obtain ⟨r5,hq8,h⟩:=zbx h
  obtain ⟨r6,hq9,h⟩:=zbx h
  refine zfz 1 ?_
  refine let vals1:(Value)→List (Nat×Nat×Value):=fun b=>[(0,57,zP b3),(1,58,.string r5),(2,59,hd4.v),(3,60,.tuple #[b,zI r6.2]),(4,56,.tuple #[b,zI r6.2]),(5,61,b),(6,62,zI r6.2),(7,14,b)]; let LL1:(Nat→Prop)→(Value)→List Asn:=fun D b=>[zv2 hd1.v r2.2.1,cells b3 [.string p1,hd2.v,hd3.v,.string p4] 106,zv2 hd2.v p2,zv3 hd3.v p3,cells b4 [hd4.v] 43,zv1 hd4.v rows1,zhS ((ds1:List Nat).map zkT),eD D emp [(3,zho zaP zaO 106 b r6.1)]]; ?_
  refine zdB (β:=Value) 8 (.slice none 0 0:Value) vals1 LL1 mixed kr kr dc (fun _=>rfl) (zhd (zab zbN rfl)) (zat ?_ (zat ?_ (zat ?_ (zat ?_ (zat ?_ (zat ?_ (zat ?_ (zat ?_ DrawG.nil)))))))) ?_
  ·
   intro D b hn hd hcl
   revert b; intro v6
   refine zaK (zhd (zab (zag (fun hD=>hn (hcl 1 _ rfl (hcl 3 _ rfl hD 1 dc) 0 dc)) zaj) rfl)) ?_
   refine zfV rfl dc (za8 (by rfl) rfl) ?_
   exact zaQ v6 0 (by rfl) (by rfl) rfl (zhe rfl) (zhd (zab ((zam (by rfl)).trans (zag (fun hD=>hn (hcl 1 _ rfl (hcl 3 _ rfl hD 1 dc) 0 dc)) zaj)) rfl))
  ·
   intro D b hn hd hcl
   revert b; intro v6
   refine zaK (zhd (zab (zag (fun hD=>hn (hcl 3 _ rfl hD 1 dc)) zaj) rfl)) ?_
   refine zbZ (v:=.string r5) (vs:=[zP b3]) (Rd.nil:Rd _ _ []) rfl dc rfl (evL.cons (zaa (m:=0) rfl rfl (hd 0 dc)) evL.nil) rfl zwQ (zh5 (bp1:=b3) (p1:=(⟨p1,p2,p3,p4⟩:Gpoem_Poem)) (p1_h0:=hd2) (p1_h1:=hd3) hq8) (.own (zad [1] (by kernel_rfl) rfl) (fun _ _ h=>sepL.one1.1 h) (.own (zad [2] (by kernel_rfl) rfl) (fun _ _ h=>sepL.one1.1 h) (.own (zad [3] (by kernel_rfl) rfl) (fun _ _ h=>sepL.one1.1 h) .nil))) ?_
   exact zaQ v6 1 (by rfl) (by rfl) rfl (zhe rfl) (zhd (zab ((zam (by rfl)).trans (zag (fun hD=>hn (hcl 3 _ rfl hD 1 dc)) zaj)) rfl))
  ·
   intro D b hn hd hcl
   revert b; intro v6
   refine zaK (zhd (zab (zag (fun hD=>hn (hcl 3 _ rfl hD 2 dc)) zaj) rfl)) ?_
   refine zan (k:=4) zjY rfl dc (za8 (by rfl) rfl) rfl rfl ?_
   exact zaQ v6 2 (by rfl) (by rfl) rfl (zhe rfl) (zhd (zab ((zam (by rfl)).trans (zag (fun hD=>hn (hcl 3 _ rfl hD 2 dc)) zaj)) rfl))
  ·
   intro D b hn hd hcl
   revert b; intro _b
   refine zaK (zhd (zab (zag hn zaj) rfl)) ?_
   refine zo4 (k:=5) rfl (fun hw1 => ?_)
   refine zfa (vs:=[.string r5,hd4.v]) (Rd.nil:Rd _ _ []) rfl dc rfl (evL.cons (zaa (m:=1) rfl rfl (hd 1 dc)) (evL.cons (zaa (m:=2) rfl rfl (hd 2 dc)) evL.nil)) rfl zwR (zm4 hw1 hq9) Splits.nil (.own (As:=[zv1 hd4.v rows1]) (zad [5] (by kernel_rfl) rfl) (fun _ _ h=>zj5 zbY (sepL.one1.1 h)) .nil) ?_
   rintro v6
   refine zcu (L':=[zv2 hd1.v r2.2.1,cells b3 [.string p1,hd2.v,hd3.v,.string p4] 106,zv2 hd2.v p2,zv3 hd3.v p3,cells b4 [hd4.v] 43,zv1 hd4.v rows1,zhS ((ds1:List Nat).map zkT),emp,zho zaP zaO 106 v6 r6.1]) (zad [0,1,2,3,4,5,6,7,8] kr rfl) (zcS 7 rfl rfl ?_)
   exact zaQ v6 3 (by rfl) (by rfl) rfl (ztb (zao (fun hD=>absurd hD hn) (zao (fun hD=>absurd (hcl 4 _ rfl hD 3 dc) hn) (zao (fun hD=>absurd (hcl 4 _ rfl (hcl 5 _ rfl hD 4 dc) 3 dc) hn) (zao (fun _=>rfl) (zao (fun hD=>absurd (hcl 7 _ rfl hD 3 dc) hn) rfl)))))) (zhd (zab (zaE (Or.inr rfl) rfl) rfl))
  ·
   intro D b hn hd hcl
   revert b; intro v6
   refine zaK (zhd (zab (zaE (hd 3 dc) rfl) rfl)) (zfV rfl dc (zaa (m:=3) rfl rfl (hd 3 dc)) ?_)
   exact zaQ v6 4 (by rfl) (by rfl) rfl (zhe rfl) (zhd (zab ((zam (by rfl)).trans (zaE (hd 3 dc) rfl)) rfl))
  ·
   intro D b hn hd hcl
   revert b; intro v6
   refine zaK (zhd (zab (zaE (hcl 4 _ rfl (hd 4 dc) 3 dc) rfl) rfl)) (zaJ rfl dc (zaa (m:=4) rfl rfl (hd 4 dc)) rfl ?_)
   exact zaQ v6 5 (by rfl) (by rfl) rfl (zhe rfl) (zhd (zab ((zam (by rfl)).trans (zaE (hcl 4 _ rfl (hd 4 dc) 3 dc) rfl)) rfl))
  ·
   intro D b hn hd hcl
   revert b; intro v6
   refine zaK (zhd (zab (zaE (hcl 4 _ rfl (hd 4 dc) 3 dc) rfl) rfl)) (zaJ rfl dc (zaa (m:=4) rfl rfl (hd 4 dc)) rfl ?_)
   exact zaQ v6 6 (by rfl) (by rfl) rfl (zhe rfl) (zhd (zab ((zam (by rfl)).trans (zaE (hcl 4 _ rfl (hd 4 dc) 3 dc) rfl)) rfl))
  ·
   intro D b hn hd hcl
   revert b; intro v6
   refine zaK (zhd (zab (zaE (hd 3 dc) rfl) rfl)) (znC rfl dc (zaa (m:=5) rfl rfl (hd 5 dc)) ?_)
   exact zaQ v6 7 (by rfl) (by rfl) rfl (zhe rfl) (zhd (zab ((zam (by rfl)).trans (zaE (hd 3 dc) rfl)) rfl))
  intro D b hall
  revert b; intro v6
  refine zaK (zhd (zab (zaE (hall 3 dc) rfl) rfl)) (zyR 1 rfl (zyN (cut (zyG (zyR 1 rfl ?_)))))
  obtain ⟨r7,hq10,h⟩:=zbx h
  refine zbZ (v:=.string r7) (vs:=[zP b3]) (Rd.nil:Rd _ _ []) rfl dc rfl rfl rfl ztM (ze2 (bp1:=b3) (p1:=(⟨p1,p2,p3,p4⟩:Gpoem_Poem)) (p1_h0:=hd2) (p1_h1:=hd3) hq10) (.own (zad [1] (by kernel_rfl) rfl) (fun _ _ h=>sepL.one1.1 h) (.own (zad [2] (by kernel_rfl) rfl) (fun _ _ h=>sepL.one1.1 h) (.own (zad [3] (by kernel_rfl) rfl) (fun _ _ h=>sepL.one1.1 h) .nil))) ?_
  refine zbl rfl dc rfl Tryz.underlying9 (zaW rfl zcR (zyR 1 rfl ?_))
  refine zyS (s:=67) rfl h (fun h => ?_) (fun h => ?_)
  ·
   refine zyR 9 rfl (zyN (zbd rfl (zyG ?_)))
   refine zyR 1 rfl ?_
   obtain ⟨r8,hq11,h⟩:=zbx h
   refine zbZ (v:=.string r8) (vs:=[zP b3]) (Rd.nil:Rd _ _ []) rfl dc rfl rfl rfl ztM (ze2 (bp1:=b3) (p1:=(⟨p1,p2,p3,p4⟩:Gpoem_Poem)) (p1_h0:=hd2) (p1_h1:=hd3) hq11) (.own (zad [1] (by kernel_rfl) rfl) (fun _ _ h=>sepL.one1.1 h) (.own (zad [2] (by kernel_rfl) rfl) (fun _ _ h=>sepL.one1.1 h) (.own (zad [3] (by kernel_rfl) rfl) (fun _ _ h=>sepL.one1.1 h) .nil))) ?_
   refine zbl rfl dc rfl Tryz.underlying9 (zaW rfl zcR (zyR 1 rfl (zyN (zaA (zai ?_)))))
   cases h
   exact zeO (rs:=[.tmp 4]) ds1 () (.inl rfl) (zbI (k:=6) rfl) Tryz.results5 (.cons (.tmp rfl) .nil) rfl Splits.nil
  refine zyR 1 rfl (zcm (k:=0) rfl dc rfl rfl Tryz.underlying26 (zaW rfl za1 (zyR 1 rfl ?_)))
  refine zyS (s:=71) rfl h (fun h => ?_) (fun h => ?_)
  ·
   refine zan (k:=4) zjY rfl dc rfl rfl rfl (zcm (k:=5) rfl dc rfl rfl Tryz.underlying43 (zaW rfl zbP (zyR 2 rfl (zyN ?_))))
   refine zyB rfl h (fun h => ?_) (fun h => ?_)
   ·
    refine zyG (zyR 1 rfl ?_)
    obtain ⟨r9,hq12,h⟩:=zbx h
    refine zbZ (v:=.string r9) (vs:=[zP b3]) (Rd.nil:Rd _ _ []) rfl dc rfl rfl rfl ztM (ze2 (bp1:=b3) (p1:=(⟨p1,p2,p3,p4⟩:Gpoem_Poem)) (p1_h0:=hd2) (p1_h1:=hd3) hq12) (.own (zad [1] (by kernel_rfl) rfl) (fun _ _ h=>sepL.one1.1 h) (.own (zad [2] (by kernel_rfl) rfl) (fun _ _ h=>sepL.one1.1 h) (.own (zad [3] (by kernel_rfl) rfl) (fun _ _ h=>sepL.one1.1 h) .nil))) ?_
    refine zbl rfl dc rfl Tryz.underlying9 (zaW rfl zcR (zyR 1 rfl (zyN (zaA (zai ?_)))))
    cases h
    exact zeO (rs:=[.tmp 4]) ds1 () (.inl rfl) (zbI (k:=6) rfl) Tryz.results5 (.cons (.tmp rfl) .nil) rfl Splits.nil
   refine zau ?_
   exact zaq (r6.1,r6.2,v6) h rfl (zba rfl) (zad [1,2,3,7,6] kr rfl)
  refine zyR 5 rfl (zyN (zaT rfl (zau ?_)))
  exact zaq (r6.1,r6.2,v6) h rfl (zba rfl) (zad [1,2,3,7,6] kr rfl)
 rintro ⟨m1,e1,v5⟩ h
 rw [hj2] at h
 refine zyG (zyR 1 rfl (zaW rfl za1 (zyR 1 rfl ?_)))
 refine zyS (s:=83) rfl h (fun h => ?_) (fun h => ?_)
 ·
  refine zyR 1 rfl ?_
  refine zhb (k:=3) rfl (fun hv4 => ?_)
  refine zaW rfl (zlG Tryz.underlying58 hv4) (zyR 2 rfl ?_)
  refine zyS (s:=87) rfl h (fun h => ?_) (fun h => ?_)
  ·
   refine zyR 2 rfl ?_
   obtain ⟨p7,hq13,h⟩:=zbx h
   refine zmx (As:=[zho zaP zaO 106 v5 m1]) (zad [3] kr rfl) (zfo hq13) ?_
   rintro ⟨b11,hd12,hd13⟩ hv5
   have hkp:=h
   subst hv5
   have h:=hkp
   obtain ⟨r10,hq14,h⟩:=zbx h
   refine zbZ (v:=.bool r10) (vs:=[zP b11,zP b3]) (Rd.nil:Rd _ _ []) rfl dc rfl rfl rfl zve (zgb (bp1:=b11) (p1:=p7) (p1_h0:=hd12) (p1_h1:=hd13) (bq1:=b3) (q1:=(⟨p1,p2,p3,p4⟩:Gpoem_Poem)) (q1_h0:=hd2) (q1_h1:=hd3) hq14) (.own (zad [5] (by kernel_rfl) rfl) (fun _ _ h=>sepL.one1.1 h) (.own (zad [6] (by kernel_rfl) rfl) (fun _ _ h=>sepL.one1.1 h) (.own (zad [7] (by kernel_rfl) rfl) (fun _ _ h=>sepL.one1.1 h) (.own (zad [0] (by kernel_rfl) rfl) (fun _ _ h=>sepL.one1.1 h) (.own (zad [1] (by kernel_rfl) rfl) (fun _ _ h=>sepL.one1.1 h) (.own (zad [2] (by kernel_rfl) rfl) (fun _ _ h=>sepL.one1.1 h) .nil)))))) ?_
   refine zyR 2 rfl ?_
   refine zyS (s:=92) rfl h (fun h => ?_) (fun h => ?_)
   ·
    refine zyR 2 rfl ?_
    obtain ⟨r11,hq15,h⟩:=zbx h
    refine zbZ (v:=.bool r11) (vs:=[zP b3,zP b11]) (Rd.nil:Rd _ _ []) rfl dc rfl rfl rfl zve (zgb (bp1:=b3) (p1:=(⟨p1,p2,p3,p4⟩:Gpoem_Poem)) (p1_h0:=hd2) (p1_h1:=hd3) (bq1:=b11) (q1:=p7) (q1_h0:=hd12) (q1_h1:=hd13) hq15) (.own (zad [0] (by kernel_rfl) rfl) (fun _ _ h=>sepL.one1.1 h) (.own (zad [1] (by kernel_rfl) rfl) (fun _ _ h=>sepL.one1.1 h) (.own (zad [2] (by kernel_rfl) rfl) (fun _ _ h=>sepL.one1.1 h) (.own (zad [5] (by kernel_rfl) rfl) (fun _ _ h=>sepL.one1.1 h) (.own (zad [6] (by kernel_rfl) rfl) (fun _ _ h=>sepL.one1.1 h) (.own (zad [7] (by kernel_rfl) rfl) (fun _ _ h=>sepL.one1.1 h) .nil)))))) ?_
    refine zyR 2 rfl (zyN (zaA ?_))
    cases h
    exact zeO (rs:=[.tmp 4]) ds1 () (.inl rfl) (zbI (k:=4) rfl) Tryz.results5 (.cons (.tmp rfl) .nil) rfl Splits.nil
   refine zyR 5 rfl (zyN (zaA ?_))
   cases h
   exact zeO (rs:=[.tmp 4]) ds1 () (.inl rfl) (zbI (k:=4) rfl) Tryz.results5 (.cons (.tmp rfl) .nil) rfl Splits.nil
  refine zyR 10 rfl (zyN (zaA ?_))
  cases h
  exact zeO (rs:=[.tmp 4]) ds1 () (.inl rfl) (zbI (k:=4) rfl) Tryz.results5 (.cons (.tmp rfl) .nil) rfl Splits.nil
 refine zyR 14 rfl ?_
 refine zyN (zaA ?_)
 cases h
 exact zeO (rs:=[.tmp 4]) ds1 () (.inl rfl) (zbI (k:=4) rfl) Tryz.results5 (.cons (.tmp rfl) .nil) rfl Splits.nil
end Go.Proofs.YtbempdelckaccaaGreatDoor

namespace Go.Proofs.YtbempdelckaccaaGreatDoor
open Go.RowKit Go.Lib
set_option linter.unusedVariables false
set_option linter.unusedSimpArgs false
def zqV:Nat→List (List Gapi_Row)→List (Int×Gapi_Row)
 | _,[]=>[]
 | k,pg::ps=>pg.map (fun r=>((k:Int),r))++zqV (k+1) ps
theorem zkt:∀ (ps:List (List Gapi_Row)) (k:Nat),(zqV k ps).map Prod.snd=ps.flatten
 | [],k=>rfl
 | pg::ps,k=>by
  show (pg.map _++zqV (k+1) ps).map Prod.snd=_
  rw [List.map_append,zkt ps (k+1),List.map_map,List.flatten_cons]
  congr 1
  exact List.map_id _
theorem zsu (k:Int) (pg:List Gapi_Row) (hpg:pg.length≤1000000) (X:List (Int×Gapi_Row)) (j:Option (List (Int×Gapi_Row))) (hj:j=some X):∀ (d i m:Nat),i+d=pg.length→d<m→zaM (fun _=>none) (zbW k j pg) m (i:Int)=some ((pg.drop i).map (fun r=>(k,r))++X):=by
 intro d
 induction d with
 | zero =>
  intro i m hi hm
  obtain ⟨m,rfl⟩:∃ q,m=q+1:=⟨m - 1,by omega⟩
  rw [zeo]
  unfold zbW
  refine zaw (decide_eq_false (by omega)) ?_
  rw [List.drop_of_length_le (by omega),hj]; rfl
 | succ d ih =>
  intro i m hi hm
  obtain ⟨m,rfl⟩:∃ q,m=q+1:=⟨m - 1,by omega⟩
  rw [zeo]
  have ih':=ih (i+1) m (by omega) (by omega)
  rw [show ((i+1:Nat):Int)=(i:Int)+1 by omega] at ih'
  generalize zaM (fun _=>none) (zbW k j pg) m=ag at ih' ⊢
  have hv:pg[i]?=some pg[i]:=List.getElem?_eq_getElem (by omega)
  unfold zbW
  refine zay (decide_eq_true (by omega)) (zaN (zcJ hv) ?_)
  rw [zn3 (show I64 ((i:Int)+1) from ⟨by omega,by omega⟩),ih',List.drop_eq_getElem_cons (show i<pg.length by omega)]
  rfl
theorem zrl (b:Gpage_Book) (hp:b.pages.length≤1000000) (hpg:∀ pg∈b.pages,pg.length≤1000000):∀ (d i m:Nat),i+d=b.pages.length→d<m→zaM (fun _=>none) (zbX b) m (i:Int)=some (zqV i (b.pages.drop i)):=by
 intro d
 induction d with
 | zero =>
  intro i m hi hm
  obtain ⟨m,rfl⟩:∃ q,m=q+1:=⟨m - 1,by omega⟩
  rw [zeo]
  unfold zbX
  refine zaw (decide_eq_false (by omega)) ?_
  rw [List.drop_of_length_le (by omega)]; rfl
 | succ d ih =>
  intro i m hi hm
  obtain ⟨m,rfl⟩:∃ q,m=q+1:=⟨m - 1,by omega⟩
  rw [zeo]
  have ih':=ih (i+1) m (by omega) (by omega)
  rw [show ((i+1:Nat):Int)=(i:Int)+1 by omega] at ih'
  generalize zaM (fun _=>none) (zbX b) m=ag at ih' ⊢
  have hv:b.pages[i]?=some b.pages[i]:=List.getElem?_eq_getElem (by omega)
  have hl:=hpg _ (List.mem_of_getElem? hv)
  unfold zbX
  refine zay (decide_eq_true (by omega)) (zbF (zaN (zcJ hv) ?_))
  have hin:=zsu (i:Int) b.pages[i] hl _ (grd (I64 ((i:Int)+1))<|ag ((i:Int)+1)) (by rw [zn3 (show I64 ((i:Int)+1) from ⟨by omega,by omega⟩),ih']) b.pages[i].length 0 zb4 (by omega) (zdL (by omega))
  refine hin.trans ?_
  rw [List.drop_zero,List.drop_eq_getElem_cons (show i<b.pages.length by omega)]
  rfl
theorem ztY (b:Gpage_Book) (hp:b.pages.length≤1000000) (hpg:∀ pg∈b.pages,pg.length≤1000000):zd6 b=some (zqV 0 b.pages):=by
 have:=zrl b hp hpg b.pages.length 0 zb4 (by omega) (zdL (by omega))
 rwa [List.drop_zero] at this
theorem zlu (dn:List Gapi_Row→Option Bool):∀ (its:List (Int×Gapi_Row)) (acc:List Gapi_Row),acc.length+its.length≤2147483648→zdh dn zcV its acc=dn (acc++its.map Prod.snd)
 | [],acc,h=>by rw [List.map_nil,List.append_nil]; rfl
 | x::its,acc,h=>by
  rw [List.length_cons] at h
  show (grd (acc.length+1≤2147483648)<|zdh dn zcV its (acc++[x.2]))=_
  refine zbM (by omega) ?_
  rw [zlu dn its (acc++[x.2]) (by rw [List.length_append]; simp; omega),List.map_cons,List.append_assoc]; rfl
def nb (r:Gapi_Row):Bool:=r.Line != -1
theorem zsR:∀ (l:List Gapi_Row) (o:Option Int),(∀ r∈l,0≤r.Line)→(pgL o l).filter nb=l
 | [],o,h=>by cases o <;> rfl
 | r::l,o,h=>by
  have hr:nb r=true:=by
   have:=h r (List.mem_cons_self ..)
   unfold nb; simp; omega
  have ih:=fun o=>zsR l o (fun x hx=>h x (List.mem_cons_of_mem _ hx))
  have hb:nb zrn=false:=rfl
  cases o with
  | none=>show (r::pgL (some r.Stanza) l).filter nb=_; rw [List.filter_cons_of_pos hr,ih]
  | some s =>
   rw [zmb]
   split
   ·rw [List.filter_cons_of_pos hr,ih]
   ·rw [List.filter_cons_of_neg (by rw [hb]; decide),List.filter_cons_of_pos hr,ih]
theorem zm2 {R:Nat→Nat→Bool} {rows:List Gapi_Row} (h0:∀ r∈rows,0≤r.Line):∀ (ts:List Nat) (f:Nat),zpJ R rows.length f ts→(zgd rows f ts).flatten.filter nb=rows.drop f
 | [],f,h=>by
  have:f=rows.length:=h
  rw [this,List.drop_length]; rfl
 | t::ts,f,h=>by
  obtain ⟨h1,h2,_,h3⟩:=h
  show ((pgL none ((rows.drop f).take (t - f))::zgd rows t ts).flatten).filter nb=_
  rw [List.flatten_cons,List.filter_append,zm2 h0 ts t h3,zsR _ _ (fun r hr=>h0 r (List.mem_of_mem_drop (List.mem_of_mem_take hr)))]
  have:=List.take_append_drop (t - f) (rows.drop f)
  rw [List.drop_drop,show f+(t - f)=t by omega] at this
  exact this
def ztG (a r:Gapi_Row) (first:Bool):Bool :=
 if first then decide (r.Line=0)&&(decide (r.Stanza=0)&&decide (r.Part=0))
 else if r.Line=a.Line then decide (r.Stanza=a.Stanza)&&decide (r.Part=a.Part+1)
 else decide (r.Line=a.Line+1)&&(decide (r.Part=0)&&(decide (r.Stanza=a.Stanza)||decide (r.Stanza=a.Stanza+1)))
structure Sml (a:Gapi_Row):Prop where
 l:0≤a.Line∧a.Line≤1000000
 s:0≤a.Stanza∧a.Stanza≤1000000
 p:0≤a.Part∧a.Part≤1000000
theorem ztF (a r:Gapi_Row) (first:Bool) (h:Sml a):zez a r first=some (ztG a r first):=by
 obtain ⟨h1,h2,h3⟩:=h
 unfold zez ztG
 cases first with
 | true =>
  refine zay rfl ?_
  rw [if_pos rfl]
  by_cases e1:r.Line=0
  ·refine zay (by simpa using e1) ?_
   by_cases e2:r.Stanza=0
   ·refine zay (by simpa using e2) ?_
    rw [decide_eq_true e1,decide_eq_true e2,Bool.true_and,Bool.true_and]; rfl
   ·refine zaw (by simpa using e2) ?_
    rw [decide_eq_false e2,Bool.false_and,Bool.and_false]
  ·refine zaw (by simpa using e1) ?_
   rw [decide_eq_false e1,Bool.false_and]
 | false =>
  refine zaw rfl ?_
  rw [if_neg (by decide)]
  by_cases e1:r.Line=a.Line
  ·refine zay (by simpa using e1) ?_
   rw [if_pos e1]
   by_cases e2:r.Stanza=a.Stanza
   ·refine zay (by simpa using e2) (zbM ⟨by omega,by omega⟩ ?_)
    rw [decide_eq_true e2,Bool.true_and]; rfl
   ·refine zaw (by simpa using e2) ?_
    rw [decide_eq_false e2,Bool.false_and]
  ·refine zaw (by simpa using e1) (zbM ⟨by omega,by omega⟩ ?_)
   rw [if_neg e1]
   by_cases e2:r.Line=a.Line+1
   ·refine zay (by simpa using e2) ?_
    by_cases e3:r.Part=0
    ·refine zay (by simpa using e3) ?_
     by_cases e4:r.Stanza=a.Stanza
     ·refine zay (by simpa using e4) ?_
      rw [decide_eq_true e2,decide_eq_true e3,decide_eq_true e4]; rfl
     ·refine zaw (by simpa using e4) (zbM ⟨by omega,by omega⟩ ?_)
      rw [decide_eq_true e2,decide_eq_true e3,decide_eq_false e4]; rfl
    ·refine zaw (by simpa using e3) ?_
     rw [decide_eq_false e3,Bool.false_and,Bool.and_false]
   ·refine zaw (by simpa using e2) ?_
    rw [decide_eq_false e2,Bool.false_and]
abbrev StB:Type:=List (List ByteArray)×Gapi_Row
structure NewR (S:List (List ByteArray)) (a r:Gapi_Row):Prop where
 sm:Sml a
 fo:ztG a r (((S.length:Int):Int)==0)=true
 ln:r.Line≠-1
 pt:r.Part=0
 i:0≤r.Indent∧r.Indent≤1024
 sp:zbU r.Text (⟨#[32]⟩:ByteArray)=some false
 sz:r.Text.size≤1024
inductive Bk:List (List ByteArray)→Gapi_Row→List Gapi_Row→List (List ByteArray)→Gapi_Row→Prop
 | nil {S a}:Bk S a [] S a
 | skip {S a r rs S' a'} (h:r.Line=-1) (hr:Bk S a rs S' a'):Bk S a (r::rs) S' a'
 | new1 {S a r rs S' a'} (h:NewR S a r) (hs:r.Stanza=(S.length:Int)) (hl:S.length≤1000000) (hr:Bk (S++[[zbR r.Indent++r.Text]]) r rs S' a'):Bk S a (r::rs) S' a'
 | new2 {P y a r rs S' a'} (h:NewR (P++[y]) a r) (hs:r.Stanza=(P.length:Int)) (hl:P.length≤1000000) (hy:y.length≤1000000) (hr:Bk (P++[y++[zbR r.Indent++r.Text]]) r rs S' a'):Bk (P++[y]) a (r::rs) S' a'
 | cont {P y c a r rs S' a'} (hs:r.Stanza=(P.length:Int)) (hl:P.length≤1000000) (hy:y.length≤1000000) (sm:Sml a) (e1:r.Line=a.Line) (e2:r.Stanza=a.Stanza) (e3:r.Part=a.Part+1) (hc:c.size≤1000000) (ht:r.Text.size≤1000000)
   (hr:Bk (P++[y++[c++r.Text]]) r rs S' a'):Bk (P++[y++[c]]) a (r::rs) S' a'
theorem Bk.app {S a rs S' a'} (h:Bk S a rs S' a') {rs2 S2 a2} (h2:Bk S' a' rs2 S2 a2):Bk S a (rs++rs2) S2 a2:=by
 induction h with
 | nil=>exact h2
 | skip h hr ih=>exact .skip h (ih h2)
 | new1 h hs hl hr ih=>exact .new1 h hs hl (ih h2)
 | new2 h hs hl hy hr ih=>exact .new2 h hs hl hy (ih h2)
 | cont hs hl hy sm e1 e2 e3 hc ht hr ih=>exact .cont hs hl hy sm e1 e2 e3 hc ht (ih h2)
theorem Bk.blanks {B:List Gapi_Row}:∀ {S a S' a'},Bk S a (B.filter nb) S' a'→Bk S a B S' a':=by
 induction B with
 | nil=>intro S a S' a' h; exact h
 | cons r B ih =>
  intro S a S' a' h
  cases hb:nb r with
  | false =>
   rw [List.filter_cons_of_neg (by rw [hb]; decide)] at h
   have:r.Line=-1:=by unfold nb at hb; simpa using hb
   exact .skip this (ih h)
  | true =>
   rw [List.filter_cons_of_pos hb] at h
   cases h with
   | skip h hr=>exact .skip h (ih hr)
   | new1 h hs hl hr=>exact .new1 h hs hl (ih hr)
   | new2 h hs hl hy hr=>exact .new2 h hs hl hy (ih hr)
   | cont hs hl hy sm e1 e2 e3 hc ht hr=>exact .cont hs hl hy sm e1 e2 e3 hc ht (ih hr)
theorem zit {α:Type} {B:List α} {i:Nat} {r:α} {rs:List α} (h:B.drop i=r::rs):i<B.length∧B[i]?=some r∧B.drop (i+1)=rs:=by
 have hl:=congrArg List.length h
 rw [List.length_drop,List.length_cons] at hl
 refine ⟨by omega,?_,?_⟩
 ·have:(B.drop i)[0]?=some r:=by rw [h]; rfl
  simpa using this
 ·rw [← List.drop_drop,h]; rfl
theorem zgR (n:Int) (h:0≤n∧n≤1024):(zbR n).size≤1024:=by
 unfold zbR
 have:(Lib.repeatL [32] n.toNat:List UInt8).length=n.toNat:=by rw [zj7,List.length_replicate]
 show ((Lib.repeatL [32] n.toNat:List UInt8).toArray).size≤1024
 rw [List.size_toArray,this]; omega
theorem zt0 (B:List Gapi_Row) (hB:B.length≤1000000) (j:List (List ByteArray)→Option ((Option Gpoem_Poem)×Int)) {S a rs S' a'} (h:Bk S a rs S' a') :
  ∀ (i m:Nat),B.drop i=rs→rs.length<m→zaM (fun _ _ _ _ _ _ _ _=>none) (zcj B j) m S a.Line a.Stanza a.Part a.Indent a.Number a.Text (i:Int)=j S':=by
 induction h with
 | nil =>
  intro i m hi hm
  obtain ⟨m,rfl⟩:∃ q,m=q+1:=⟨m - 1,by simp at hm; omega⟩
  rw [zeo]
  have:B.length≤i:=by
   have:=congrArg List.length hi
   rw [List.length_drop] at this; simp at this; omega
  unfold zcj
  exact zaw (decide_eq_false (by omega)) rfl
 | @skip S a r rs S' a' h hr ih =>
  intro i m hi hm
  obtain ⟨m,rfl⟩:∃ q,m=q+1:=⟨m - 1,by omega⟩
  rw [List.length_cons] at hm
  obtain ⟨hlt,hg,hd⟩:=zit hi
  rw [zeo]
  have ih':=ih (i+1) m hd (by omega)
  rw [show ((i+1:Nat):Int)=(i:Int)+1 by omega] at ih'
  generalize zaM (fun _ _ _ _ _ _ _ _=>none) (zcj B j) m=ag at ih' ⊢
  unfold zcj
  exact zay (decide_eq_true (by omega)) (zbF (zaN (zcJ hg) (zay (by rw [h]; rfl) (zbM ⟨by omega,by omega⟩ ih'))))
 | @new1 S a r rs S' a' h hs hl hr ih =>
  intro i m hi hm
  obtain ⟨m,rfl⟩:∃ q,m=q+1:=⟨m - 1,by omega⟩
  rw [List.length_cons] at hm
  obtain ⟨hlt,hg,hd⟩:=zit hi
  rw [zeo]
  have ih':=ih (i+1) m hd (by omega)
  rw [show ((i+1:Nat):Int)=(i:Int)+1 by omega] at ih'
  generalize zaM (fun _ _ _ _ _ _ _ _=>none) (zcj B j) m=ag at ih' ⊢
  have hf:=ztF a r (((S.length:Int):Int)==0) h.sm
  rw [h.fo] at hf
  have hi0:=h.i
  have hsz:=h.sz
  have hsp:=zgR r.Indent h.i
  unfold zcj
  refine zay (decide_eq_true (by omega)) (zbF (zaN (zcJ hg) (zaw (by have:=h.ln; simpa using this) (zbF (zaN hf (zaw rfl (zay (by rw [h.pt]; rfl) (zaw (decide_eq_false (by omega)) (zaw (decide_eq_false (by omega)) (zaN h.sp (zaw rfl (zbF (zay (by rw [hs]; simp) (zbM (by omega) ?_))))))))))))))
  have hg2:zcN (S++[([]:List ByteArray)]) r.Stanza=some []:=by rw [hs]; exact zcJ (by simp)
  refine zaN hg2 (zbF (zay (by rw [h.pt]; rfl) (zbM ⟨by omega,by omega⟩ (zbM (by omega) (zbM (by simp) (zbM ⟨by omega,by omega⟩ ?_))))))
  rw [hs,Int.toNat_natCast,List.set_append_right _ _ (Nat.le_refl _),Nat.sub_self]
  rw [hs] at ih'
  exact ih'
 | @new2 P y a r rs S' a' h hs hl hy hr ih =>
  intro i m hi hm
  obtain ⟨m,rfl⟩:∃ q,m=q+1:=⟨m - 1,by omega⟩
  rw [List.length_cons] at hm
  obtain ⟨hlt,hg,hd⟩:=zit hi
  rw [zeo]
  have ih':=ih (i+1) m hd (by omega)
  rw [show ((i+1:Nat):Int)=(i:Int)+1 by omega] at ih'
  generalize zaM (fun _ _ _ _ _ _ _ _=>none) (zcj B j) m=ag at ih' ⊢
  have hf:=ztF a r ((((P++[y]).length:Int):Int)==0) h.sm
  rw [h.fo] at hf
  have hi0:=h.i
  have hsz:=h.sz
  have hsp:=zgR r.Indent h.i
  have hlen:(P++[y]).length=P.length+1:=by simp
  unfold zcj
  refine zay (decide_eq_true (by omega)) (zbF (zaN (zcJ hg) (zaw (by have:=h.ln; simpa using this) (zbF (zaN hf (zaw rfl (zay (by rw [h.pt]; rfl) (zaw (decide_eq_false (by omega)) (zaw (decide_eq_false (by omega)) (zaN h.sp (zaw rfl (zbF (zaw (by rw [hs,hlen]; exact beq_eq_false_iff_ne.2 (by omega)) ?_)))))))))))))
  have hg2:zcN (P++[y]) r.Stanza=some y:=by rw [hs]; exact zcJ (by simp)
  refine zaN hg2 (zbF (zay (by rw [h.pt]; rfl) (zbM ⟨by omega,by omega⟩ (zbM (by omega) (zbM (by omega) (zbM ⟨by omega,by omega⟩ ?_))))))
  rw [hs,Int.toNat_natCast,List.set_append_right _ _ (Nat.le_refl _),Nat.sub_self]
  rw [hs] at ih'
  exact ih'
 | @cont P y c a r rs S' a' hs hl hy sm e1 e2 e3 hc ht hr ih =>
  intro i m hi hm
  obtain ⟨m,rfl⟩:∃ q,m=q+1:=⟨m - 1,by omega⟩
  rw [List.length_cons] at hm
  obtain ⟨hlt,hg,hd⟩:=zit hi
  rw [zeo]
  have ih':=ih (i+1) m hd (by omega)
  rw [show ((i+1:Nat):Int)=(i:Int)+1 by omega] at ih'
  generalize zaM (fun _ _ _ _ _ _ _ _=>none) (zcj B j) m=ag at ih' ⊢
  have hlen:(P++[y++[c]]).length=P.length+1:=by simp
  have hylen:(y++[c]).length=y.length+1:=by simp
  have hf:=ztF a r ((((P++[y++[c]]).length:Int):Int)==0) sm
  have hfo:ztG a r ((((P++[y++[c]]).length:Int):Int)==0)=true:=by
   have:((((P++[y++[c]]).length:Int):Int)==0)=false:=by rw [hlen]; simp; omega
   rw [this]; unfold ztG
   rw [if_neg (by decide),if_pos e1,decide_eq_true e2,decide_eq_true e3]; rfl
  rw [hfo] at hf
  have hp:=sm.p
  have hline:=sm.l
  have hb1:((r.Line:Int)==(-1))=false:=beq_eq_false_iff_ne.2 (by omega)
  have hb2:((r.Part:Int)==0)=false:=beq_eq_false_iff_ne.2 (by omega)
  unfold zcj
  refine zay (decide_eq_true (by omega)) (zbF (zaN (zcJ hg) (zaw hb1 (zbF (zaN hf (zaw rfl (zaw hb2 (zbF (zaw (by rw [hs,hlen]; exact beq_eq_false_iff_ne.2 (by omega)) ?_)))))))))
  have hg2:zcN (P++[y++[c]]) r.Stanza=some (y++[c]):=by rw [hs]; exact zcJ (by simp)
  have hg3:zcN (y++[c]) (((y++[c]).length:Int) - 1)=some c:=by
   rw [show (((y++[c]).length:Int) - 1)=(y.length:Int) by omega]; exact zcJ (by simp)
  refine zaN hg2 (zbF (zaw hb2 (zbM ⟨by omega,by omega⟩ (zaN hg3 (zbM (by omega) (zbM ⟨by omega,by omega⟩ ?_))))))
  rw [hs,Int.toNat_natCast,List.set_append_right _ _ (Nat.le_refl _),Nat.sub_self,show (((y++[c]).length:Int) - 1).toNat=y.length by omega,List.set_append_right _ _ (Nat.le_refl _),Nat.sub_self]
  rw [hs] at ih'
  exact ih'
theorem zp8 {l:Gapi_Layout} {k:Int} {v:Gapi_Verse} {p:Int} {t:ByteArray} (hk:0≤k∧k≤1000000) (hs:0≤v.Stanza∧v.Stanza≤1000000) (hp:0≤p∧p≤1000000):Sml (zmC l k v p t):=⟨hk,hs,hp⟩
theorem zro {l:Gapi_Layout} {k:Int} {v:Gapi_Verse} (hk:0≤k∧k≤1000000) (P:List (List ByteArray)) (hP:v.Stanza=(P.length:Int)) (hl:P.length≤1000000) (y:List ByteArray) (hy:y.length≤1000000) :
  ∀ (ts:List ByteArray) (p:Nat) (c t:ByteArray),c.size+zud ts≤1000000→p+ts.length≤1000000→∃ a',Bk (P++[y++[c]]) (zmC l k v (p:Int) t) (zhn l k v ((p:Int)+1) ts) (P++[y++[c++zof ts]]) a'∧Sml a'∧a'.Line=k∧a'.Stanza=v.Stanza
 | [],p,c,t,h1,h2=>by
  refine ⟨zmC l k v (p:Int) t,?_,zp8 hk ⟨by omega,by omega⟩ ⟨by omega,by omega⟩,rfl,rfl⟩
  have:c++zof []=c:=by
   show c++(⟨#[]⟩:ByteArray)=c
   exact ByteArray.append_empty
  rw [this]; exact .nil
 | u::ts,p,c,t,h1,h2=>by
  have h1':c.size+(u.size+zud ts)≤1000000:=h1
  rw [List.length_cons] at h2
  obtain ⟨a',hb,hs,hl1,hs1⟩:=zro hk P hP hl y hy ts (p+1) (c++u) u (by rw [ByteArray.size_append]; omega) (by omega)
  refine ⟨a',.cont (r:=zmC l k v ((p:Int)+1) u) hP hl hy (zp8 hk ⟨by omega,by omega⟩ ⟨by omega,by omega⟩) rfl rfl rfl (by omega) (show u.size≤1000000 by omega) ?_,hs,hl1,hs1⟩
  rw [show (((p+1:Nat):Int))=(p:Int)+1 by omega] at hb
  have e:c++zof (u::ts)=c++u++zof ts:=by
   show c++(u++zof ts)=_
   rw [ByteArray.append_assoc]
  rw [e]; exact hb
theorem zoz:∀ ts:List ByteArray,(zof ts).size=zud ts
 | []=>rfl
 | t::ts=>by
  show (t++zof ts).size=t.size+zud ts
  rw [ByteArray.size_append,zoz ts]
structure BInv (k:Int) (S:List (List ByteArray)) (a:Gapi_Row):Prop where
 sm:Sml a
 hd:(S.length=0∧k=0)∨(a.Line=k - 1∧a.Stanza=(S.length:Int) - 1∧0<S.length)
theorem zo2 {l:Gapi_Layout} (hm:zjE l=true) {v:Gapi_Verse} (h:OkV v) (hns:∀ t u:ByteArray,v.Text=t++u→zbU t (⟨#[32]⟩:ByteArray)=some false) {k:Int} (hk:0≤k∧k≤1000000)
  {S:List (List ByteArray)} {a:Gapi_Row} (hi:BInv k S a) (P:List (List ByteArray)) (y:List ByteArray) (hy:y.length≤1000000) (hP:P.length≤1000000) (hvS:v.Stanza=(P.length:Int)) (hS:(S=P∧y=[])∨S=P++[y]) :
  ∃ a',Bk S a (zhn l k v 0 (znM l v)) (P++[y++[zbR v.Indent++v.Text]]) a'∧BInv (k+1) (P++[y++[zbR v.Indent++v.Text]]) a':=by
 obtain ⟨w1,w2,w3⟩:=zpV hm h.i0
 have hsz:=h.sz
 have hcat:zof (znM l v)=v.Text:=zo1 (s:=v.Text) (by omega) w2 w3
 have hlen:=znL hm h
 have hsp:=zgR v.Indent h.i0
 cases hT:znM l v with
 | nil=>exact absurd hT (zpX hm h)
 | cons t0 ts =>
  rw [hT] at hcat hlen
  have hcat':v.Text=t0++zof ts:=hcat.symm
  have hts:t0.size+zud ts=v.Text.size:=by rw [hcat',ByteArray.size_append,zoz]
  obtain ⟨a',hb,hs1,hl1,hst1⟩:=zro (l:=l) hk P hvS hP y hy ts 0 (zbR v.Indent++t0) t0 (by rw [ByteArray.size_append]; omega) (by rw [List.length_cons] at hlen; omega)
  have e:zbR v.Indent++t0++zof ts=zbR v.Indent++v.Text:=by rw [ByteArray.append_assoc,← hcat']
  rw [e] at hb
  have hbi:BInv (k+1) (P++[y++[zbR v.Indent++v.Text]]) a':=⟨hs1,.inr ⟨by omega,by rw [hst1,hvS]; simp,by simp⟩⟩
  refine ⟨a',?_,hbi⟩
  have hnew:∀ f,f=((((S.length:Int):Int)==0))→ztG a (zmC l k v 0 t0) f=true:=by
   intro f hf
   unfold ztG
   rcases hi.hd with ⟨h1,h2⟩ | ⟨h1,h2,h3⟩
   ·have:f=true:=by rw [hf,h1]; rfl
    have hv0:v.Stanza=0:=by
     rcases hS with ⟨rfl,_⟩ | rfl
     ·omega
     ·simp at h1
    rw [this,if_pos rfl]
    rw [decide_eq_true (show (zmC l k v 0 t0).Line=0 from h2),decide_eq_true (show (zmC l k v 0 t0).Stanza=0 from hv0),decide_eq_true (show (zmC l k v 0 t0).Part=0 from rfl)]; rfl
   ·have:f=false:=by rw [hf]; exact beq_eq_false_iff_ne.2 (by omega)
    rw [this,if_neg (by decide),if_neg (show ¬ (zmC l k v 0 t0).Line=a.Line by show ¬ k=a.Line; omega)]
    rw [decide_eq_true (show (zmC l k v 0 t0).Line=a.Line+1 by show k=a.Line+1; omega),decide_eq_true (show (zmC l k v 0 t0).Part=0 from rfl)]
    have:v.Stanza=a.Stanza∨v.Stanza=a.Stanza+1:=by
     rcases hS with ⟨rfl,_⟩ | rfl
     ·right; omega
     ·left; rw [h2,hvS]; simp
    rcases this with h | h
    ·rw [decide_eq_true (show (zmC l k v 0 t0).Stanza=a.Stanza from h)]; rfl
    ·rw [decide_eq_true (show (zmC l k v 0 t0).Stanza=a.Stanza+1 from h)]; simp
  have hN:NewR S a (zmC l k v 0 t0):=⟨hi.sm,hnew _ rfl,by show k≠-1; omega,rfl,h.i0,hns t0 (zof ts) hcat',by show t0.size≤1024; omega⟩
  rcases hS with ⟨rfl,rfl⟩ | rfl
  ·exact .new1 hN hvS hP hb
  ·exact .new2 hN hvS hP hy hb
theorem zw9 (x:List UInt8) (t u:ByteArray) (h:mkB (x.drop (ind x))=t++u):zbU t (⟨#[32]⟩:ByteArray)=some false:=by
 obtain ⟨tl,rfl⟩:∃ tl,t=mkB tl:=⟨t.data.toList,by simp [mkB]⟩
 unfold zbU
 refine zaN (ztt tl [32]) ?_
 have hk:∀ (X:List UInt8) (b:UInt8) (r:List UInt8),X.drop (ind X)=b::r→b≠32:=by
  intro X
  induction X with
  | nil=>intro b r h; simp at h
  | cons c X ih =>
   intro b r h
   rw [zib] at h
   split at h
   ·rw [List.drop_succ_cons] at h; exact ih b r h
   ·rename_i hc
    rw [List.drop_zero] at h
    have:=(List.cons.inj h).1
    rw [← this]; exact hc
 have hd:x.drop (ind x)=tl++u.data.toList:=by
  have:=congrArg (fun s:ByteArray=>s.data.toList) h
  simp only [ByteArray.data_append,Array.toList_append,zgp] at this
  exact this
 cases tl with
 | nil=>rfl
 | cons b r =>
  have hb:=hk x b (r++u.data.toList) hd
  show some (decide (([32]:List UInt8).length≤(b::r).length)&&decide ((b::r).take ([32]:List UInt8).length=[32]))=some false
  rw [decide_eq_false (p:=(b::r).take ([32]:List UInt8).length=[32]) (fun e=>hb (List.cons.inj e).1),Bool.and_false]
section
variable {l:Gapi_Layout} (hm:zjE l=true)
include hm
theorem zvq {z:List Row} {k0:Nat} (ih:∀ (vs:List Gapi_Verse) (kk:Nat) (S:List (List ByteArray)) (a:Gapi_Row),S.length=k0+1→kk+vs.length≤1000→(∀ v∈vs,OkV v)→vs.map zki=(zee (k0+1) z).map ziP→BInv (kk:Int) S a→∃ a',Bk S a (zc3 l (kk:Int) vs) (S++mkZ z) a') :
  ∀ (r:Row) (j:Nat) (vs:List Gapi_Verse) (kk:Nat) (P:List (List ByteArray)) (y:List ByteArray) (a:Gapi_Row),P.length=k0→k0≤100000→y.length+r.length≤100000→kk+vs.length≤1000→(∀ v∈vs,OkV v) →
  vs.map zki=((zfu j r).map (fun p=>(k0,p))++zee (k0+1) z).map ziP→BInv (kk:Int) (P++[y]) a→∃ a',Bk (P++[y]) a (zc3 l (kk:Int) vs) (P++[y++r.map mkB]++mkZ z) a'
 | [],j,vs,kk,P,y,a,hP,hk0,hyr,hkk,hv,h,hi=>by
  obtain ⟨a',hb⟩:=ih vs kk (P++[y]) a (by simp; omega) hkk hv h hi
  exact ⟨a',by rw [List.map_nil,List.append_nil]; exact hb⟩
 | x::r,j,[],kk,P,y,a,hP,hk0,hyr,hkk,hv,h,hi=>by
  simp [zfu] at h
 | x::r,j,v::vs,kk,P,y,a,hP,hk0,hyr,hkk,hv,h,hi=>by
  obtain ⟨h1,h2⟩:=List.cons.inj (show zki v::vs.map zki=ziP (k0,j,x)::((zfu (j+1) r).map (fun p=>(k0,p))++zee (k0+1) z).map ziP from h)
  have hs:v.Stanza=(k0:Int):=congrArg (fun q=>q.2.2.1) h1
  have hx:v.Text=mkB (x.drop (ind x)):=congrArg (fun q=>q.1) h1
  have hin:v.Indent=(ind x:Int):=congrArg (fun q=>q.2.1) h1
  rw [List.length_cons] at hyr hkk
  obtain ⟨a1,hb1,hi1⟩:=zo2 hm (hv v (List.mem_cons_self ..)) (fun t u e=>zw9 x t u (by rw [← hx]; exact e)) (k:=(kk:Int)) ⟨by omega,by omega⟩ hi P y (by omega) (by omega) (by rw [hs,hP]) (.inr rfl)
  rw [hx,hin,zoJ x] at hb1 hi1
  obtain ⟨a2,hb2⟩:=zvq ih r (j+1) vs (kk+1) P (y++[mkB x]) a1 hP hk0 (by rw [List.length_append]; simp; omega) (by omega) (fun w hw=>hv w (List.mem_cons_of_mem _ hw)) h2 (by rw [show ((kk+1:Nat):Int)=(kk:Int)+1 by omega]; exact hi1)
  refine ⟨a2,?_⟩
  rw [show ((kk+1:Nat):Int)=(kk:Int)+1 by omega,List.append_assoc y] at hb2
  exact hb1.app hb2
theorem zrp:∀ (z:List Row) (k0:Nat) (vs:List Gapi_Verse) (kk:Nat) (S:List (List ByteArray)) (a:Gapi_Row),S.length=k0→k0+z.length≤100000→(∀ r∈z,r.length≤99999)→kk+vs.length≤1000→(∀ v∈vs,OkV v)→(∀ r∈z,r≠[])→vs.map zki=(zee k0 z).map ziP→BInv (kk:Int) S a→∃ a',Bk S a (zc3 l (kk:Int) vs) (S++mkZ z) a'
 | [],k0,vs,kk,S,a,hS,hk0,hrl,hkk,hv,hne,h,hi=>by
  have:vs=[]:=by simpa [zee] using h
  subst this
  exact ⟨a,by show Bk S a [] (S++[]) a; rw [List.append_nil]; exact .nil⟩
 | []::z,k0,vs,kk,S,a,hS,hk0,hrl,hkk,hv,hne,h,hi=>absurd rfl (hne [] (List.mem_cons_self ..))
 | (x::r)::z,k0,[],kk,S,a,hS,hk0,hrl,hkk,hv,hne,h,hi=>by simp [zee,zfu] at h
 | (x::r)::z,k0,v::vs,kk,S,a,hS,hk0,hrl,hkk,hv,hne,h,hi=>by
  obtain ⟨h1,h2⟩:=List.cons.inj (show zki v::vs.map zki=ziP (k0,0,x)::((zfu 1 r).map (fun p=>(k0,p))++zee (k0+1) z).map ziP from h)
  have hs:v.Stanza=(k0:Int):=congrArg (fun q=>q.2.2.1) h1
  have hx:v.Text=mkB (x.drop (ind x)):=congrArg (fun q=>q.1) h1
  have hin:v.Indent=(ind x:Int):=congrArg (fun q=>q.2.1) h1
  have hrl0:=hrl _ (List.mem_cons_self ..)
  rw [List.length_cons] at hkk hk0 hrl0
  obtain ⟨a1,hb1,hi1⟩:=zo2 hm (hv v (List.mem_cons_self ..)) (fun t u e=>zw9 x t u (by rw [← hx]; exact e)) (k:=(kk:Int)) ⟨by omega,by omega⟩ hi S [] (by simp) (by omega) (by rw [hs,hS]) (.inl ⟨rfl,rfl⟩)
  rw [hx,hin,zoJ x] at hb1 hi1
  obtain ⟨a2,hb2⟩:=zvq hm (fun vs kk S a e1 e2 e3 e4 e5=>zrp z (k0+1) vs kk S a e1 (by omega) (fun r hr=>hrl r (List.mem_cons_of_mem _ hr)) e2 e3 (fun r hr=>hne r (List.mem_cons_of_mem _ hr)) e4 e5) r 1 vs (kk+1) S [mkB x] a1 hS (by omega) (by simp; omega) (by omega) (fun w hw=>hv w (List.mem_cons_of_mem _ hw)) h2 (by rw [show ((kk+1:Nat):Int)=(kk:Int)+1 by omega]; exact hi1)
  refine ⟨a2,?_⟩
  rw [show ((kk+1:Nat):Int)=(kk:Int)+1 by omega,List.append_assoc S] at hb2
  exact hb1.app hb2
end
theorem zpg (l:Gapi_Layout) (vs:List Gapi_Verse):∀ r∈zc3 l 0 vs,0≤r.Line:=by
 intro r hr
 obtain ⟨j,v,_,h,_⟩:=zgm hr
 omega
theorem zrs {l:Gapi_Layout} (hm:zjE l=true) {p:Gpoem_Poem} {t:List UInt8} {z:List Row} (hok:OkP p t z) (hg:PgOk p.told_lines) (hz:z.length≤512) (hzr:∀ r∈z,r.length≤512) (hlen:(zju l p.told_lines).pages.flatten.length≤1000000) (title:ByteArray) :
  zfP title (zju l p.told_lines).pages.flatten=(zak (zeI title (mkZ z)) fun (r3:((Option Gpoem_Poem)×Int))=>some (r3.1,r3.2)):=by
 obtain ⟨a',hb⟩:=zrp hm z 0 p.told_lines 0 [] (⟨0,0,0,0,0,ByteArray.empty⟩:Gapi_Row) rfl (by omega) (fun r hr=>by have:=hzr r hr; omega) (by have:=hg.len; omega) hg.ok hok.ne hok.vok ⟨⟨⟨by decide,by decide⟩,⟨by decide,by decide⟩,⟨by decide,by decide⟩⟩,.inl ⟨rfl,rfl⟩⟩
 have hR:=zl6 hm p.told_lines hg.ok (by have:=hg.len; omega) hg.stp
 have hrise:=zhi (zlL hR (zna hm)) (znE (rows:=zc3 l 0 p.told_lines) (zna hm)) (zc3 l 0 p.told_lines).length 0 (Nat.zero_le _) (by omega)
 have hf:(zju l p.told_lines).pages.flatten.filter nb=zc3 l 0 p.told_lines:=by
  have:=zm2 (zpg l p.told_lines) (zjs (zc3 l 0 p.told_lines) l.Height) 0 hrise
  rwa [List.drop_zero] at this
 have hb2:Bk [] (⟨0,0,0,0,0,ByteArray.empty⟩:Gapi_Row) (zju l p.told_lines).pages.flatten (mkZ z) a':=Bk.blanks (by rw [hf]; exact hb)
 unfold zfP
 refine zbF ?_
 exact zt0 _ hlen _ hb2 0 zb4 (List.drop_zero ..) (zdL (by omega))
theorem zoG {R:Nat→Nat→Bool} {rows:List Gapi_Row}:∀ (ts:List Nat) (f:Nat),zpJ R rows.length f ts→f≤rows.length→ts.length+f≤rows.length∧(zgd rows f ts).flatten.length+2*f≤2*rows.length∧∀ pg∈zgd rows f ts,pg.length≤2*rows.length
 | [],f,h,hf=>by
  have:f=rows.length:=h
  refine ⟨by simp; omega,by show 0+2*f≤_; omega,fun pg hpg => ?_⟩
  cases hpg
 | t::ts,f,h,hf=>by
  obtain ⟨h1,h2,_,h3⟩:=h
  obtain ⟨i1,i2,i3⟩:=zoG ts t h3 h2
  have hp:=znW ((rows.drop f).take (t - f)) none
  have hl:((rows.drop f).take (t - f)).length=t - f:=by rw [List.length_take,List.length_drop]; omega
  rw [hl] at hp
  refine ⟨by rw [List.length_cons]; omega,?_,fun pg hpg => ?_⟩
  ·show ((pgL none ((rows.drop f).take (t - f))::zgd rows t ts).flatten).length+_≤_
   rw [List.flatten_cons,List.length_append]; omega
  ·rcases List.mem_cons.1 (show pg∈pgL none ((rows.drop f).take (t - f))::zgd rows t ts from hpg) with rfl | hpg
   ·omega
   ·exact i3 pg hpg
theorem zsv {l:Gapi_Layout} (hm:zjE l=true) {vs:List Gapi_Verse} (hg:PgOk vs):(zju l vs).pages.length≤61440∧(zju l vs).pages.flatten.length≤122880∧∀ pg∈(zju l vs).pages,pg.length≤122880:=by
 have hR:=zl6 hm vs hg.ok (by have:=hg.len; omega) hg.stp
 have hrise:=zhi (zlL hR (zna hm)) (znE (rows:=zc3 l 0 vs) (zna hm)) (zc3 l 0 vs).length 0 (Nat.zero_le _) (by omega)
 obtain ⟨h1,h2,h3⟩:=zoG (zjs (zc3 l 0 vs) l.Height) 0 hrise (Nat.zero_le _)
 have h4:=zj2 hm vs 0 hg.ok
 have h5:=hg.len
 have h6:=zlv (zc3 l 0 vs) (zjs (zc3 l 0 vs) l.Height) 0
 refine ⟨?_,?_,fun pg hpg => ?_⟩
 ·show (zgd (zc3 l 0 vs) 0 (zjs (zc3 l 0 vs) l.Height)).length≤_
  rw [h6]; omega
 ·show (zgd (zc3 l 0 vs) 0 (zjs (zc3 l 0 vs) l.Height)).flatten.length≤_
  omega
 ·have:=h3 pg hpg; omega
theorem znN:∀ (z:List Row) (r:Row),r∈z→r.length≤tot z
 | [],r,h=>by cases h
 | x::z,r,h=>by
  rw [zeA]
  rcases List.mem_cons.1 h with rfl | h
  ·omega
  ·have:=znN z r h; omega
theorem zpq (T:List UInt8) (l:Gapi_Layout):zeC (mkB T) l=some true:=by
 unfold zeC
 refine zaN zuW (zaw rfl ?_)
 by_cases hT:4000<(mkB T).size
 ·exact zay (decide_eq_true (by omega)) rfl
 refine zaw (decide_eq_false (by omega)) ?_
 rcases zqc T l with hset | ⟨p,t,z,hok,hm,hg,hrd,hset⟩
 ·exact zaN hset (zaw rfl (zay rfl rfl))
 ·refine zaN hset (zaw rfl (zaw rfl (zaN hrd (zaw rfl (zaw rfl (zbF ?_))))))
  obtain ⟨l1,l2,l3⟩:=zsv hm hg
  have hbr:=ztY (zju l p.told_lines) (by omega) (fun pg h=>by have:=l3 pg h; omega)
  refine zaN rfl (zaN rfl (zaN rfl (zaN hbr (zbF ?_))))
  refine (zlu _ _ [] ?_).trans ?_
  ·have:=congrArg List.length (zkt (zju l p.told_lines).pages 0)
   rw [List.length_map] at this
   rw [this,List.length_nil]; omega
  rw [List.nil_append,zkt]
  have hz1:=zlh z hok.ne
  have hz2:=hok.most
  have hback:=zrs hm hok hg (by omega) (fun r hr=>by have:=znN z r hr; omega) (by omega) (mkB t)
  rw [zqE hok.toGoodP (by omega) (fun r hr=>by have:=znN z r hr; omega)] at hback
  refine zbF (zbF (zaN rfl ?_))
  by_cases hl:65536<(prT t z).length
  ·rw [zqF hok.toGoodP hz2 hl,← hok.title] at hback
   refine zaN hback (zaN hok.print (zay (decide_eq_true (by rw [za6]; omega)) (zaN hok.print ?_)))
   rw [decide_eq_true (by rw [za6]; omega)]
  ·obtain ⟨q,h1,h2,h3,h4,h5⟩:=zqG hok.toGoodP hz2 (by omega)
   rw [h1,← hok.title] at hback
   refine zaN hback (zaN hok.print (zaw (decide_eq_false (by rw [za6]; omega)) ?_))
   by_cases h0:p.told_lines=[]
   ·have e:(zju l p.told_lines).pages.flatten=[]:=by rw [h0]; rfl
    refine zay (by rw [h0]; rfl) (zaw (by rw [e]; rfl) ?_)
    exact zay rfl (zay rfl (zaN rfl (zaN (zoB h2 hok) (zay (by simp) (zaN (zoB hok h2) (by simp))))))
   ·refine zaw (beq_eq_false_iff_ne.2 ?_) ?_
    ·intro e
     exact h0 (List.length_eq_zero_iff.1 (Int.ofNat_eq_zero.1 e))
    ·exact zay rfl (zay rfl (zaN rfl (zaN (zoB h2 hok) (zay (by simp) (zaN (zoB hok h2) (by simp))))))
theorem pageBack_any (s:ByteArray) (l:Gapi_Layout) (w:World) (hs:s.size≤140737488351232):Calls Tryz.prog 5 #[.string s,.agg #[.int .i64 l.Width,.int .i64 l.Height,.int .i64 l.Turn,.int .i64 l.Every]] w fun e w'=>e=.returned (.bool true)∧Below w.heap.size w w' :=
 ziO (by obtain ⟨T,rfl⟩:=zuR s; exact zpq T l) w
end Go.Proofs.YtbempdelckaccaaGreatDoor
