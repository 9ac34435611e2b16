/-
  Texts laid together: LqH, PqF, PqG, PqH, PqI, PqJ, PqK, PgM, LpR, LfR, Qr, LpC, Pa, LpT, Pb, Pc, Pd, Pe, LpF, LpG, LpH, Pf, Pg, Ph, Pi, Pj, Pk, PgA, Pn, LgC, LgA, PgB, PgC, PgD, LgB, LgD, PgE, LgF. Nothing is assumed.
-/
import Derived.Test.YtbempdelckaccaaDoorPageRefuses3
import Derived.Test.YtbempdelckaccaaDoorPageRefuses2
import Derived.Test.YtbempdelckaccaaDoorPageRefuses1
set_option maxRecDepth 100000
set_option maxHeartbeats 4000000

namespace Go.Proofs.YtbempdelckaccaaDoor
open Go.RowKit Go.Lib
set_option linter.unusedVariables false
set_option linter.unusedSimpArgs false
def zci (j3:ByteArray→Option ByteArray) (x5:List ByteArray) (ag2:ByteArray→Int→Option ByteArray) (b12:ByteArray) (x8:Int):Option ByteArray :=
zam (decide ((x8:Int)<(x5.length:Int))) (
zan (zcI x5 x8) fun (q2:ByteArray) =>
grd (q2.size+(⟨#[10]⟩:ByteArray).size≤9223372036854775807) <|
grd (b12.size+(q2++(⟨#[10]⟩:ByteArray)).size≤140737488355328) <|
grd (I64 (x8+1)) <|
ag2 (b12++(q2++(⟨#[10]⟩:ByteArray))) (x8+1)
) (
j3 b12
)
def zbB (stanzas1:List (List ByteArray)) (j2:ByteArray→Option ByteArray) (ag1:ByteArray→Int→Option ByteArray) (b7:ByteArray) (x4:Int):Option ByteArray :=
zam (decide ((x4:Int)<(stanzas1.length:Int))) (
zbk (fun (j3:ByteArray→Option ByteArray) =>
zan (zcI stanzas1 x4) fun (x5:List ByteArray) =>
zbk (fun (j4:ByteArray→Option ByteArray) =>
zam (decide ((0:Int)<(b7.size:Int))) (
grd (b7.size+(⟨#[10]⟩:ByteArray).size≤140737488355328) <|
j4 (b7++(⟨#[10]⟩:ByteArray))
) (
j4 b7
)
) (fun (b9:ByteArray) =>
zaT (fun _ _=>none) (zci j3 x5) zb8 b9 0
)
) (fun (b8:ByteArray) =>
grd (I64 (x4+1)) <|
ag1 b8 (x4+1)
)
) (
j2 b7
)
def zcJ (title1:ByteArray) (stanzas1:List (List ByteArray)):Option ByteArray :=
zbk (fun (j1:ByteArray→Option ByteArray) =>
zam (!decide (title1=(⟨#[]⟩:ByteArray))) (
grd ((⟨#[35,32]⟩:ByteArray).size+title1.size≤9223372036854775807) <|
grd (((⟨#[35,32]⟩:ByteArray)++title1).size+(⟨#[10]⟩:ByteArray).size≤9223372036854775807) <|
grd ((⟨#[]⟩:ByteArray).size+(((⟨#[35,32]⟩:ByteArray)++title1)++(⟨#[10]⟩:ByteArray)).size≤140737488355328) <|
j1 ((⟨#[]⟩:ByteArray)++(((⟨#[35,32]⟩:ByteArray)++title1)++(⟨#[10]⟩:ByteArray)))
) (
zam (decide ((0:Int)<(stanzas1.length:Int))) (
zan (zcI stanzas1 0) fun (x1:List ByteArray) =>
zan (zcI x1 0) fun (q1:ByteArray) =>
zan (zdl q1) fun (r1:Bool) =>
zam (r1) (
grd ((⟨#[35,32]⟩:ByteArray).size+title1.size≤9223372036854775807) <|
grd (((⟨#[35,32]⟩:ByteArray)++title1).size+(⟨#[10]⟩:ByteArray).size≤9223372036854775807) <|
grd ((⟨#[]⟩:ByteArray).size+(((⟨#[35,32]⟩:ByteArray)++title1)++(⟨#[10]⟩:ByteArray)).size≤140737488355328) <|
j1 ((⟨#[]⟩:ByteArray)++(((⟨#[35,32]⟩:ByteArray)++title1)++(⟨#[10]⟩:ByteArray)))
) (
j1 (⟨#[]⟩:ByteArray)
)
) (
j1 (⟨#[]⟩:ByteArray)
)
)
) (fun (b2:ByteArray) =>
zbk (fun (j2:ByteArray→Option ByteArray) =>
zaT (fun _ _=>none) (zbB stanzas1 j2) zb8 b2 0
) (fun (b4:ByteArray) =>
some b4
)
)
theorem zh2 {title1:ByteArray} {vvstanzas1:Value} {vstanzas1:Hd} {Zstanzas1:List ((List ByteArray)×Hd)} {kstanzas1:Nat} {zstanzas1:List ((List ByteArray)×Hd)} {stanzas1:List (List ByteArray)} (hwstanzas1:Vw vvstanzas1 Zstanzas1 1 kstanzas1 vstanzas1.v zstanzas1) (hzstanzas1:zstanzas1.map Prod.fst=stanzas1) {r:ByteArray} (h:zcJ title1 stanzas1=some r):FnR Tryd.prog 52 [.string title1,vstanzas1.v] [zeL zau 1 vvstanzas1 kstanzas1 Zstanzas1,zfX zbw Zstanzas1] [] (fun _:Unit=>(.string r)) (fun _=>[]):=by
 unfold zcJ at h
 refine FnR.intro Tryd.func52 rfl Tryd.ntmps52 (by simp) ?_
 intro w0 K hrd
 obtain ⟨j1,hj1,h⟩:=zbU h
 refine zaZ (β:=ByteArray×Nat) 2 rfl (fun b=>j1 b.1=some r) (fun b=>[]) (fun b=>[(1,vstanzas1.v),(5,zP b.2)]) (fun b=>[zmi b.2 b.1]) (fun cut => ?_) ?_
 ·
  refine zyG (zyR 1 rfl (zyH ?_))
  refine zbY zpG rfl dc (fun b3 => ?_)
  refine zqA (k:=0) rfl zmc ?_
  refine zyN (cut (zyG (zyR 1 rfl (zaQ rfl zgJ (zyR 1 rfl ?_)))))
  refine zyS (s:=12) rfl h (fun h => ?_) (fun h => ?_)
  ·
   refine zyR 12 rfl (zyN ?_)
   refine zbg rfl (zaG (zyR 1 rfl ?_))
   obtain ⟨hg1,h⟩:=zbM h
   refine zaQ rfl (zer hg1) ?_
   obtain ⟨hg2,h⟩:=zbM h
   refine zaQ rfl (zer hg2) ?_
   obtain ⟨hg3,h⟩:=zbM h
   refine zeh (vs:=[zP b3,.string (((⟨#[35,32]⟩:ByteArray)++title1)++(⟨#[10]⟩:ByteArray))]) rfl dc rfl rfl rfl zod (zje b3 (⟨#[]⟩:ByteArray) (((⟨#[35,32]⟩:ByteArray)++title1)++(⟨#[10]⟩:ByteArray)) hg3) (zae [0] kr rfl) ?_
   rintro u1
   refine zaK ?_
   exact zai ((⟨#[]⟩:ByteArray)++(((⟨#[35,32]⟩:ByteArray)++title1)++(⟨#[10]⟩:ByteArray)),b3) h rfl (za1 rfl) (zae [1] kr rfl)
  refine zyR 1 rfl (zgN hzstanzas1 hwstanzas1 rfl dc rfl Tryd.underlying43 (zaQ rfl zcQ (zyR 1 rfl ?_)))
  refine zyS (s:=16) rfl h (fun h => ?_) (fun h => ?_)
  ·
   refine zyR 1 rfl ?_
   obtain ⟨x1,hq1,h⟩:=zbT h
   obtain ⟨eh1,eq1⟩:=zhh hzstanzas1 hq1
   have hrd:Rd _ _ [zeL zau 1 vvstanzas1 kstanzas1 Zstanzas1,zfX zbw Zstanzas1,zmI zhx 1 eh1 x1]:=hrd.openEl (i:=1) (z:=(x1,eh1)) rfl (Vw.get hwstanzas1 eq1)
   obtain ⟨vv1,k1,L1,hV1,hrd⟩:=hrd.openSl (i:=2) rfl
   replace hrd:Rd _ _ [zeL zau 1 vvstanzas1 kstanzas1 Zstanzas1,zfX zbw Zstanzas1,zmI zhx 1 eh1 x1,zeL zhx 1 vv1 k1 L1]:=hrd
   refine zbx hwstanzas1 eq1 Tryd.underlying43 zhr rfl dc rfl rfl rfl (zdi (n:=kstanzas1+(0:Int).toNat) (j:=0) (i:=0) (q:=(x1,eh1)) hrd rfl (by omega) zhV rfl dc rfl (Vw.get hwstanzas1 eq1) rfl rfl ?_)
   obtain ⟨q1,hq2,h⟩:=zbT h
   refine zbx hV1 hq2 Tryd.underlying49 zmt rfl dc rfl rfl rfl (zdi (n:=k1+(0:Int).toNat) (j:=0) (i:=3) (q:=q1) hrd rfl (by omega) zht rfl dc rfl (Vw.get hV1 hq2) rfl rfl ?_)
   obtain ⟨r1,hq3,h⟩:=zbT h
   refine zbb (v:=.bool r1) (vs:=[.string q1]) rfl dc rfl rfl rfl zqi (zfO hq3) (zyR 2 rfl (zyN ?_))
   refine zyB rfl h (fun h => ?_) (fun h => ?_)
   ·
    refine zaG (zyR 1 rfl ?_)
    obtain ⟨hg4,h⟩:=zbM h
    refine zaQ rfl (zer hg4) ?_
    obtain ⟨hg5,h⟩:=zbM h
    refine zaQ rfl (zer hg5) ?_
    obtain ⟨hg6,h⟩:=zbM h
    refine zeh (vs:=[zP b3,.string (((⟨#[35,32]⟩:ByteArray)++title1)++(⟨#[10]⟩:ByteArray))]) rfl dc rfl rfl rfl zod (zje b3 (⟨#[]⟩:ByteArray) (((⟨#[35,32]⟩:ByteArray)++title1)++(⟨#[10]⟩:ByteArray)) hg6) (zae [0] kr rfl) ?_
    rintro u2
    refine zaK ?_
    exact zai ((⟨#[]⟩:ByteArray)++(((⟨#[35,32]⟩:ByteArray)++title1)++(⟨#[10]⟩:ByteArray)),b3) h rfl (za1 rfl) (zae [1] kr rfl)
   refine zar ?_
   exact zai ((⟨#[]⟩:ByteArray),b3) h rfl (za1 rfl) (zae [0] kr rfl)
  refine zyR 8 rfl (zyN (zaP rfl (zar ?_)))
  exact zai ((⟨#[]⟩:ByteArray),b3) h rfl (za1 rfl) (zae [0] kr rfl)
 rintro ⟨b2,b1⟩ h
 rw [hj1] at h
 obtain ⟨j2,hj2,h⟩:=zbU h
 refine zaZ (β:=ByteArray) 0 rfl (fun b=>j2 b=some r) (fun b=>[]) (fun b=>[(5,zP b1)]) (fun b=>[zmi b1 b]) (fun cut => ?_) ?_
 ·
  refine cut (zyG (zyR 1 rfl (zgN hzstanzas1 hwstanzas1 rfl dc rfl Tryd.underlying43 (zyR 1 rfl (zyN (zaL ?_))))))
  refine zbK (β:=Nat×ByteArray×Int) (fun b=>zaT (fun _ _=>none) (zbB stanzas1 j2) b.1 b.2.1 b.2.2=some r) (fun b=>[]) (fun b=>[(5,zP b1),(29,vstanzas1.v),(30,zI (stanzas1.length:Int)),(31,zI b.2.2)]) (fun b=>[zmi b1 b.2.1]) (fun b=>b.1) (zb8,b2,0) h rfl (za1 rfl) (zae [0] kr rfl) ?_
  rintro ⟨n1,b7,x4⟩ h
  cases n1 with
  | zero=>exact zdu h
  | succ n1 =>
   obtain ⟨ag1,hag1⟩:∃ ag,ag=zaT (fun _ _=>none) (zbB stanzas1 j2) n1:=⟨_,rfl⟩
   have h:zbB stanzas1 j2 ag1 b7 x4=some r:=by rw [hag1]; exact h
   unfold zbB at h
   refine zyG (zaQ rfl zbV (zyN (zaF ?_)))
   refine zyB rfl h (fun h => ?_) (fun h => ?_)
   ·
    refine zar (zaH ?_)
    obtain ⟨j3,hj3,h⟩:=zbU h
    refine zaZ (β:=ByteArray) 0 rfl (fun b=>j3 b=some r) (fun b=>[]) (fun b=>[(5,zP b1),(29,vstanzas1.v),(30,zI (stanzas1.length:Int)),(31,zI x4)]) (fun b=>[zmi b1 b]) (fun cut => ?_) ?_
    ·
     refine cut (zaL (zyG ?_))
     obtain ⟨x5,hq4,h⟩:=zbT h
     obtain ⟨eh2,eq2⟩:=zhh hzstanzas1 hq4
     have hrd:Rd _ _ [zeL zau 1 vvstanzas1 kstanzas1 Zstanzas1,zfX zbw Zstanzas1,zmI zhx 1 eh2 x5]:=hrd.openEl (i:=1) (z:=(x5,eh2)) rfl (Vw.get hwstanzas1 eq2)
     obtain ⟨vv2,k2,L2,hV2,hrd⟩:=hrd.openSl (i:=2) rfl
     replace hrd:Rd _ _ [zeL zau 1 vvstanzas1 kstanzas1 Zstanzas1,zfX zbw Zstanzas1,zmI zhx 1 eh2 x5,zeL zhx 1 vv2 k2 L2]:=hrd
     refine zbx hwstanzas1 eq2 Tryd.underlying43 zhr rfl dc rfl rfl rfl (zdi (n:=kstanzas1+(x4:Int).toNat) (j:=0) (i:=0) (q:=(x5,eh2)) hrd rfl (by omega) zhV rfl dc rfl (Vw.get hwstanzas1 eq2) rfl rfl (zyR 1 rfl (zyN ?_)))
     obtain ⟨j4,hj4,h⟩:=zbU h
     refine zaZ (β:=ByteArray) 0 rfl (fun b=>j4 b=some r) (fun b=>[]) (fun b=>[(5,zP b1),(7,eh2.v),(29,vstanzas1.v),(30,zI (stanzas1.length:Int)),(31,zI x4)]) (fun b=>[zmi b1 b]) (fun cut => ?_) ?_
     ·
      refine cut (zyG (zol (v:=zI (b7.size:Int)) (vs:=[zP b1]) rfl dc rfl rfl rfl zrB (zpj b1 b7) [0] kr rfl (zaQ rfl zcQ (zyN ?_))))
      refine zyB rfl h (fun h => ?_) (fun h => ?_)
      ·
       refine zaG ?_
       obtain ⟨hg7,h⟩:=zbM h
       refine zeh (vs:=[zP b1,.string (⟨#[10]⟩:ByteArray)]) rfl dc rfl rfl rfl zod (zje b1 b7 (⟨#[10]⟩:ByteArray) hg7) (zae [0] kr rfl) ?_
       rintro u3
       refine zaK ?_
       exact zai (b7++(⟨#[10]⟩:ByteArray)) h rfl (za1 rfl) (zae [1] kr rfl)
      refine zar ?_
      exact zai b7 h rfl (za1 rfl) (zae [0] kr rfl)
     rintro b9 h
     rw [hj4] at h
     refine zyG (zyR 1 rfl (zdR hV2 rfl dc rfl Tryd.underlying49 (zyR 1 rfl (zyN (zaL ?_)))))
     refine zbK (β:=Nat×ByteArray×Int) (fun b=>zaT (fun _ _=>none) (zci j3 x5) b.1 b.2.1 b.2.2=some r) (fun b=>[]) (fun b=>[(5,zP b1),(29,vstanzas1.v),(30,zI (stanzas1.length:Int)),(31,zI x4),(38,eh2.v),(39,zI (x5.length:Int)),(40,zI b.2.2)]) (fun b=>[zmi b1 b.2.1]) (fun b=>b.1) (zb8,b9,0) h rfl (za1 rfl) (zae [0] kr rfl) ?_
     rintro ⟨n2,b12,x8⟩ h
     cases n2 with
     | zero=>exact zdu h
     | succ n2 =>
      obtain ⟨ag2,hag2⟩:∃ ag,ag=zaT (fun _ _=>none) (zci j3 x5) n2:=⟨_,rfl⟩
      have h:zci j3 x5 ag2 b12 x8=some r:=by rw [hag2]; exact h
      unfold zci at h
      refine zyG (zaQ rfl zbV (zyN (zaF ?_)))
      refine zyB rfl h (fun h => ?_) (fun h => ?_)
      ·
       refine zar (zaH (zaF (zaL (zyG ?_))))
       obtain ⟨q2,hq5,h⟩:=zbT h
       refine zbx hV2 hq5 Tryd.underlying49 zmt rfl dc rfl rfl rfl (zdi (n:=k2+(x8:Int).toNat) (j:=0) (i:=3) (q:=q2) hrd rfl (by omega) zht rfl dc rfl (Vw.get hV2 hq5) rfl rfl (zyR 1 rfl (zyN (zaG (zyR 1 rfl ?_)))))
       obtain ⟨hg8,h⟩:=zbM h
       refine zaQ rfl (zer hg8) ?_
       obtain ⟨hg9,h⟩:=zbM h
       refine zeh (vs:=[zP b1,.string (q2++(⟨#[10]⟩:ByteArray))]) rfl dc rfl rfl rfl zod (zje b1 b12 (q2++(⟨#[10]⟩:ByteArray)) hg9) (zae [0] kr rfl) ?_
       rintro u4
       refine zaK (zal (zaH (zaG ?_)))
       obtain ⟨hg10,h⟩:=zbM h
       refine zaQ rfl (zaW (r:=x8+1) (IntWalk.i64_in _ hg10)) (zyR 1 rfl (zaK ?_))
       subst hag2
       exact za8 (n2,b12++(q2++(⟨#[10]⟩:ByteArray)),x8+1) h (Nat.lt_succ_self _) rfl (za1 rfl) (zae [1] kr rfl)
      refine zbc (zap (zap (zaw (zal ?_))))
      exact zai b12 h rfl (za1 rfl) (zae [0] kr rfl)
    rintro b8 h
    rw [hj3] at h
    refine zaG ?_
    obtain ⟨hg11,h⟩:=zbM h
    refine zaQ rfl (zaW (r:=x4+1) (IntWalk.i64_in _ hg11)) (zyR 1 rfl (zaK ?_))
    subst hag1
    exact za8 (n1,b8,x4+1) h (Nat.lt_succ_self _) rfl (za1 rfl) (zae [0] kr rfl)
   refine zbc (zap (zap (zaw ?_)))
   exact zai b7 h rfl (za1 rfl) (zae [0] kr rfl)
 rintro b4 h
 rw [hj2] at h
 refine zyG (zeh (vs:=[zP b1]) rfl dc rfl rfl rfl zrA (zpi b1 b4) (zae [0] kr rfl) ?_)
 rintro _
 refine zyR 1 rfl (zyN (zax ?_))
 cases h
 exact zaC (rs:=[.tmp 4]) () (.inl rfl) Tryd.results52 (.cons (.tmp rfl) .nil) rfl Splits.nil
def zcR (stanzas1:List (List ByteArray)) (j1:Int→Option ((Option Gpoem_Poem)×Int)) (ag1:Int→Int→Option ((Option Gpoem_Poem)×Int)) (n4:Int) (x3:Int):Option ((Option Gpoem_Poem)×Int) :=
zam (decide ((x3:Int)<(stanzas1.length:Int))) (
zan (zcI stanzas1 x3) fun (x4:List ByteArray) =>
grd (I64 (n4+(x4.length:Int))) <|
grd (I64 (x3+1)) <|
ag1 (n4+(x4.length:Int)) (x3+1)
) (
j1 n4
)
def zda (title1:ByteArray) (stanzas1:List (List ByteArray)):Option ((Option Gpoem_Poem)×Int) :=
zbk (fun (j1:Int→Option ((Option Gpoem_Poem)×Int)) =>
zaT (fun _ _=>none) (zcR stanzas1 j1) zb8 0 0
) (fun (n1:Int) =>
zan (zcJ title1 stanzas1) fun (r1:ByteArray) =>
zam (decide ((512:Int)<n1)) (
some (none,3)
) (
zam (decide ((65536:Int)<(r1.size:Int))) (
some (none,3)
) (
zan (zcV r1) fun (r2:((Option Gpoem_Poem)×Gapi_Spot)) =>
some (r2.1,0)
)
)
)
theorem zj9 {title1:ByteArray} {vvstanzas1:Value} {vstanzas1:Hd} {Zstanzas1:List ((List ByteArray)×Hd)} {kstanzas1:Nat} {zstanzas1:List ((List ByteArray)×Hd)} {stanzas1:List (List ByteArray)} (hwstanzas1:Vw vvstanzas1 Zstanzas1 1 kstanzas1 vstanzas1.v zstanzas1) (hzstanzas1:zstanzas1.map Prod.fst=stanzas1) {r:((Option Gpoem_Poem)×Int)} (h:zda title1 stanzas1=some r):FnR Tryd.prog 28 [.string title1,vstanzas1.v] [zeL zau 1 vvstanzas1 kstanzas1 Zstanzas1,zfX zbw Zstanzas1] [] (fun v0:Value=>.tuple #[v0,zI r.2]) (fun v0=>[zhG zaJ zaI 81 v0 r.1]):=by
 unfold zda at h
 refine FnR.intro Tryd.func28 rfl Tryd.ntmps28 (by simp) ?_
 intro w0 K hrd
 obtain ⟨j1,hj1,h⟩:=zbU h
 refine zaZ (β:=Int) 2 rfl (fun b=>j1 b=some r) (fun b=>[]) (fun b=>[(0,.string title1),(1,vstanzas1.v),(6,zI b)]) (fun b=>[]) (fun cut => ?_) ?_
 ·
  refine zyG (zyR 2 rfl (zyH (zyR 1 rfl (zyN (cut (zyG ?_))))))
  refine zyR 1 rfl (zgN hzstanzas1 hwstanzas1 rfl dc rfl Tryd.underlying43 (zyR 1 rfl (zyN (zaL ?_))))
  refine zbK (β:=Nat×Int×Int) (fun b=>zaT (fun _ _=>none) (zcR stanzas1 j1) b.1 b.2.1 b.2.2=some r) (fun b=>[]) (fun b=>[(0,.string title1),(1,vstanzas1.v),(6,zI b.2.1),(12,vstanzas1.v),(13,zI (stanzas1.length:Int)),(14,zI b.2.2)]) (fun b=>[]) (fun b=>b.1) (zb8,0,0) h rfl (za1 rfl) Splits.nil ?_
  rintro ⟨n5,n4,x3⟩ h
  cases n5 with
  | zero=>exact zdu h
  | succ n5 =>
   obtain ⟨ag1,hag1⟩:∃ ag,ag=zaT (fun _ _=>none) (zcR stanzas1 j1) n5:=⟨_,rfl⟩
   have h:zcR stanzas1 j1 ag1 n4 x3=some r:=by rw [hag1]; exact h
   unfold zcR at h
   refine zyG (zaQ rfl zbV (zyN (zaF ?_)))
   refine zyB rfl h (fun h => ?_) (fun h => ?_)
   ·
    refine zar (zaH (zaF (zaL (zyG ?_))))
    obtain ⟨x4,hq1,h⟩:=zbT h
    obtain ⟨eh1,eq1⟩:=zhh hzstanzas1 hq1
    have hrd:Rd _ _ [zeL zau 1 vvstanzas1 kstanzas1 Zstanzas1,zfX zbw Zstanzas1,zmI zhx 1 eh1 x4]:=hrd.openEl (i:=1) (z:=(x4,eh1)) rfl (Vw.get hwstanzas1 eq1)
    obtain ⟨vv1,k1,L1,hV1,hrd⟩:=hrd.openSl (i:=2) rfl
    replace hrd:Rd _ _ [zeL zau 1 vvstanzas1 kstanzas1 Zstanzas1,zfX zbw Zstanzas1,zmI zhx 1 eh1 x4,zeL zhx 1 vv1 k1 L1]:=hrd
    refine zbx hwstanzas1 eq1 Tryd.underlying43 zhr rfl dc rfl rfl rfl (zdi (n:=kstanzas1+(x3:Int).toNat) (j:=0) (i:=0) (q:=(x4,eh1)) hrd rfl (by omega) zhV rfl dc rfl (Vw.get hwstanzas1 eq1) rfl rfl (zyR 1 rfl (zyN (zaG (zyR 2 rfl (zdR hV1 rfl dc rfl Tryd.underlying49 ?_))))))
    obtain ⟨hg1,h⟩:=zbM h
    refine zaQ rfl (zaW (r:=n4+(x4.length:Int)) (IntWalk.i64_in _ hg1)) (zyR 1 rfl (zaK (zal (zaH (zaG ?_)))))
    obtain ⟨hg2,h⟩:=zbM h
    refine zaQ rfl (zaW (r:=x3+1) (IntWalk.i64_in _ hg2)) (zyR 1 rfl (zaK ?_))
    subst hag1
    exact za8 (n5,n4+(x4.length:Int),x3+1) h (Nat.lt_succ_self _) rfl (za1 rfl) Splits.nil
   refine zbc (zap (zap (zaw ?_)))
   exact zai n4 h rfl (za1 rfl) Splits.nil
 rintro n1 h
 rw [hj1] at h
 refine zyG (zyR 2 rfl ?_)
 obtain ⟨r1,hq2,h⟩:=zbT h
 refine zco (v:=.string r1) (vs:=[.string title1,vstanzas1.v]) hrd rfl dc rfl rfl rfl zrx (zh2 (vstanzas1:=vstanzas1) hwstanzas1 hzstanzas1 hq2) (.ro 0 rfl (.ro 1 rfl .nil)) (zyR 1 rfl (zyN (zaF (zyG (zyR 1 rfl (zaQ rfl zcQ (zyR 1 rfl ?_)))))))
 refine zyS (s:=28) rfl h (fun h => ?_) (fun h => ?_)
 ·
  refine zyR 4 rfl (zyN (zbg rfl (zyG (zyR 2 rfl (zyN (zax ?_))))))
  refine zag (zcA zaJ zaI 81 ?_)
  cases h
  exact zaC (rs:=[.tmp 4,.tmp 5]) (.pointer none) (.inl rfl) Tryd.results28 (.cons (.tmp rfl) (.cons (.tmp rfl) .nil)) rfl (zae [0] kr rfl)
 refine zyR 1 rfl (zbt rfl dc rfl Tryd.underlying9 (zaQ rfl zcQ (zyR 1 rfl (zyN ?_))))
 refine zyB rfl h (fun h => ?_) (fun h => ?_)
 ·
  refine zyG (zyR 2 rfl (zyN (zax (zag (zcA zaJ zaI 81 ?_)))))
  cases h
  exact zaC (rs:=[.tmp 4,.tmp 5]) (.pointer none) (.inl rfl) Tryd.results28 (.cons (.tmp rfl) (.cons (.tmp rfl) .nil)) rfl (zae [0] kr rfl)
 refine zar (zaH (zyG (zyR 1 rfl ?_)))
 obtain ⟨r2,hq3,h⟩:=zbT h
 refine zeh (vs:=[.string r1]) rfl dc rfl rfl rfl zrN (zka hq3) Splits.nil ?_
 rintro v1
 refine zc5 (L':=[zhG zaJ zaI 81 v1 r2.1]) (zae [0] kr rfl) (zyR 1 rfl (zaE rfl dc rfl rfl (zaE rfl dc rfl rfl ?_)))
 refine zbY zpA rfl dc (fun b1 => ?_)
 refine zyR 1 rfl (za6 (k:=1) (vs:=[zI r2.2.Err,zI r2.2.At]) (l':=[zI r2.2.Err,zI r2.2.At]) zlL rfl rfl rfl rfl rfl (show _≤_ by simp) rfl rfl ?_)
 refine zyH (zyR 3 rfl (zyN (zax ?_)))
 cases h
 exact zaC (rs:=[.tmp 4,.tmp 5]) v1 (.inl rfl) Tryd.results28 (.cons (.tmp rfl) (.cons (.tmp rfl) .nil)) rfl (zae [0] kr rfl)
def zcS (j2:Option ((Option Gpoem_Poem)×Int)) (x4:List ByteArray) (ag2:Int→Option ((Option Gpoem_Poem)×Int)) (x7:Int):Option ((Option Gpoem_Poem)×Int) :=
zam (decide ((x7:Int)<(x4.length:Int))) (
zan (zcI x4 x7) fun (q1:ByteArray) =>
zam (!(zme q1 1024)) (
some (none,170)
) (
zan (zdb q1) fun (r1:Bool) =>
zam (r1) (
some (none,170)
) (
grd (I64 (x7+1)) <|
ag2 (x7+1)
)
)
) (
j2
)
def zcE (stanzas1:List (List ByteArray)) (j1:Option ((Option Gpoem_Poem)×Int)) (ag1:Int→Option ((Option Gpoem_Poem)×Int)) (x3:Int):Option ((Option Gpoem_Poem)×Int) :=
zam (decide ((x3:Int)<(stanzas1.length:Int))) (
zbk (fun (j2:Option ((Option Gpoem_Poem)×Int)) =>
zan (zcI stanzas1 x3) fun (x4:List ByteArray) =>
zam (((x4.length:Int):Int)==0) (
some (none,170)
) (
zaT (fun _=>none) (zcS j2 x4) zb8 0
)
) (
grd (I64 (x3+1)) <|
ag1 (x3+1)
)
) (
j1
)
def zcW (title1:ByteArray) (stanzas1:List (List ByteArray)):Option ((Option Gpoem_Poem)×Int) :=
zam (!(zme title1 1022)) (
some (none,170)
) (
zbk (fun (j1:Option ((Option Gpoem_Poem)×Int)) =>
zaT (fun _=>none) (zcE stanzas1 j1) zb8 0
) (
zan (zda title1 stanzas1) fun (r2:((Option Gpoem_Poem)×Int)) =>
some (r2.1,r2.2)
)
)
theorem zhf {title1:ByteArray} {vvstanzas1:Value} {vstanzas1:Hd} {Zstanzas1:List ((List ByteArray)×Hd)} {kstanzas1:Nat} {zstanzas1:List ((List ByteArray)×Hd)} {stanzas1:List (List ByteArray)} (hwstanzas1:Vw vvstanzas1 Zstanzas1 1 kstanzas1 vstanzas1.v zstanzas1) (hzstanzas1:zstanzas1.map Prod.fst=stanzas1) {r:((Option Gpoem_Poem)×Int)} (h:zcW title1 stanzas1=some r):FnR Tryd.prog 14 [.string title1,vstanzas1.v] [zeL zau 1 vvstanzas1 kstanzas1 Zstanzas1,zfX zbw Zstanzas1] [] (fun v0:Value=>.tuple #[v0,zI r.2]) (fun v0=>[zhG zaJ zaI 81 v0 r.1]):=by
 unfold zcW at h
 refine FnR.intro Tryd.func14 rfl Tryd.ntmps14 (by simp) ?_
 intro w0 K hrd
 refine zyG (zyR 2 rfl (zyN (zaF (zyG (zyR 1 rfl (zbb (v:=.bool (zme title1 1022)) (vs:=[.string title1,zI 1022]) rfl dc rfl rfl rfl zqk (zp6 title1 1022 dc) (zdg rfl dc rfl zch (zyN ?_))))))))
 refine zyB rfl h (fun h => ?_) (fun h => ?_)
 ·
  refine zyG (zyR 2 rfl (zyN (zax (zag (zcA zaJ zaI 81 ?_)))))
  cases h
  exact zaC (rs:=[.tmp 4,.tmp 5]) (.pointer none) (.inl rfl) Tryd.results14 (.cons (.tmp rfl) (.cons (.tmp rfl) .nil)) rfl (zae [0] kr rfl)
 refine zar (zaH ?_)
 obtain ⟨j1,hj1,h⟩:=zbU h
 refine zaZ (β:=Unit) 0 rfl (fun b=>j1=some r) (fun b=>[]) (fun b=>[(0,.string title1),(1,vstanzas1.v)]) (fun b=>[]) (fun cut => ?_) ?_
 ·
  refine cut (zyG (zyR 1 rfl (zgN hzstanzas1 hwstanzas1 rfl dc rfl Tryd.underlying43 (zyR 1 rfl (zyN (zaL ?_))))))
  refine zbK (β:=Nat×Int) (fun b=>zaT (fun _=>none) (zcE stanzas1 j1) b.1 b.2=some r) (fun b=>[]) (fun b=>[(0,.string title1),(1,vstanzas1.v),(13,vstanzas1.v),(14,zI (stanzas1.length:Int)),(15,zI b.2)]) (fun b=>[]) (fun b=>b.1) (zb8,0) h rfl (za1 rfl) Splits.nil ?_
  rintro ⟨n1,x3⟩ h
  cases n1 with
  | zero=>exact zdu h
  | succ n1 =>
   obtain ⟨ag1,hag1⟩:∃ ag,ag=zaT (fun _=>none) (zcE stanzas1 j1) n1:=⟨_,rfl⟩
   have h:zcE stanzas1 j1 ag1 x3=some r:=by rw [hag1]; exact h
   unfold zcE at h
   refine zyG (zaQ rfl zbV (zyN (zaF ?_)))
   refine zyB rfl h (fun h => ?_) (fun h => ?_)
   ·
    refine zar (zaH ?_)
    obtain ⟨j2,hj2,h⟩:=zbU h
    refine zaZ (β:=Unit) 0 rfl (fun b=>j2=some r) (fun b=>[]) (fun b=>[(0,.string title1),(1,vstanzas1.v),(13,vstanzas1.v),(14,zI (stanzas1.length:Int)),(15,zI x3)]) (fun b=>[]) (fun cut => ?_) ?_
    ·
     refine cut (zaL (zyG ?_))
     obtain ⟨x4,hq1,h⟩:=zbT h
     obtain ⟨eh1,eq1⟩:=zhh hzstanzas1 hq1
     have hrd:Rd _ _ [zeL zau 1 vvstanzas1 kstanzas1 Zstanzas1,zfX zbw Zstanzas1,zmI zhx 1 eh1 x4]:=hrd.openEl (i:=1) (z:=(x4,eh1)) rfl (Vw.get hwstanzas1 eq1)
     obtain ⟨vv1,k1,L1,hV1,hrd⟩:=hrd.openSl (i:=2) rfl
     replace hrd:Rd _ _ [zeL zau 1 vvstanzas1 kstanzas1 Zstanzas1,zfX zbw Zstanzas1,zmI zhx 1 eh1 x4,zeL zhx 1 vv1 k1 L1]:=hrd
     refine zbx hwstanzas1 eq1 Tryd.underlying43 zhr rfl dc rfl rfl rfl (zdi (n:=kstanzas1+(x3:Int).toNat) (j:=0) (i:=0) (q:=(x4,eh1)) hrd rfl (by omega) zhV rfl dc rfl (Vw.get hwstanzas1 eq1) rfl rfl (zyR 1 rfl (zyN (zaF (zyG (zyR 1 rfl (zdR hV1 rfl dc rfl Tryd.underlying49 (zaQ rfl zaq (zyN ?_)))))))))
     refine zyB rfl h (fun h => ?_) (fun h => ?_)
     ·
      refine zyG (zyR 2 rfl (zyN (zax (zag (zaj (zag (zag (zaj (zag (zcA zaJ zaI 81 ?_))))))))))
      cases h
      exact zaC (rs:=[.tmp 4,.tmp 5]) (.pointer none) (.inl rfl) Tryd.results14 (.cons (.tmp rfl) (.cons (.tmp rfl) .nil)) rfl (zae [0] kr rfl)
     refine zar (zaH (zyG (zyR 1 rfl (zdR hV1 rfl dc rfl Tryd.underlying49 (zyR 1 rfl (zyN (zaL ?_)))))))
     refine zbK (β:=Nat×Int) (fun b=>zaT (fun _=>none) (zcS j2 x4) b.1 b.2=some r) (fun b=>[]) (fun b=>[(0,.string title1),(1,vstanzas1.v),(13,vstanzas1.v),(14,zI (stanzas1.length:Int)),(15,zI x3),(22,eh1.v),(23,zI (x4.length:Int)),(24,zI b.2)]) (fun b=>[]) (fun b=>b.1) (zb8,0) h rfl (za1 rfl) Splits.nil ?_
     rintro ⟨n2,x7⟩ h
     cases n2 with
     | zero=>exact zdu h
     | succ n2 =>
      obtain ⟨ag2,hag2⟩:∃ ag,ag=zaT (fun _=>none) (zcS j2 x4) n2:=⟨_,rfl⟩
      have h:zcS j2 x4 ag2 x7=some r:=by rw [hag2]; exact h
      unfold zcS at h
      refine zyG (zaQ rfl zbV (zyN (zaF ?_)))
      refine zyB rfl h (fun h => ?_) (fun h => ?_)
      ·
       refine zar (zaH (zaF (zaL (zyG ?_))))
       obtain ⟨q1,hq2,h⟩:=zbT h
       refine zbx hV1 hq2 Tryd.underlying49 zmt rfl dc rfl rfl rfl (zdi (n:=k1+(x7:Int).toNat) (j:=0) (i:=3) (q:=q1) hrd rfl (by omega) zht rfl dc rfl (Vw.get hV1 hq2) rfl rfl (zyR 1 rfl (zyH (zyR 1 rfl (zbb (v:=.bool (zme q1 1024)) (vs:=[.string q1,zI 1024]) rfl dc rfl rfl rfl zqk (zp6 q1 1024 dc) (zdg rfl dc rfl zch (zyR 1 rfl ?_)))))))
       refine zyS (s:=31) rfl h (fun h => ?_) (fun h => ?_)
       ·
        refine zyR 3 rfl (zyN (zbg rfl (zyG (zyR 2 rfl (zyN (zax (zaj ?_)))))))
        refine zag (zag (zaj (zaj (zag (zag (zaj (zag (zcA zaJ zaI 81 ?_))))))))
        cases h
        exact zaC (rs:=[.tmp 4,.tmp 5]) (.pointer none) (.inl rfl) Tryd.results14 (.cons (.tmp rfl) (.cons (.tmp rfl) .nil)) rfl (zae [0] kr rfl)
       refine zyR 1 rfl ?_
       obtain ⟨r1,hq3,h⟩:=zbT h
       refine zbb (v:=.bool r1) (vs:=[.string q1]) rfl dc rfl rfl rfl zqj (zgn hq3) (zyR 1 rfl (zyN ?_))
       refine zyB rfl h (fun h => ?_) (fun h => ?_)
       ·
        refine zyG (zyR 2 rfl (zyN (zax (zaj (zag (zag (zaj (zaj (zag (zag ?_))))))))))
        refine zaj (zag (zcA zaJ zaI 81 ?_))
        cases h
        exact zaC (rs:=[.tmp 4,.tmp 5]) (.pointer none) (.inl rfl) Tryd.results14 (.cons (.tmp rfl) (.cons (.tmp rfl) .nil)) rfl (zae [0] kr rfl)
       refine zar (zal (zaH (zaG ?_)))
       obtain ⟨hg1,h⟩:=zbM h
       refine zaQ rfl (zaW (r:=x7+1) (IntWalk.i64_in _ hg1)) (zyR 1 rfl (zaK ?_))
       subst hag2
       exact za8 (n2,x7+1) h (Nat.lt_succ_self _) rfl (za1 rfl) Splits.nil
      refine zbc (zap (zap (zaw (zal ?_))))
      exact zai () h rfl (za1 rfl) Splits.nil
    rintro _ h
    rw [hj2] at h
    refine zaG ?_
    obtain ⟨hg2,h⟩:=zbM h
    refine zaQ rfl (zaW (r:=x3+1) (IntWalk.i64_in _ hg2)) (zyR 1 rfl (zaK ?_))
    subst hag1
    exact za8 (n1,x3+1) h (Nat.lt_succ_self _) rfl (za1 rfl) Splits.nil
   refine zbc (zap (zap (zaw ?_)))
   exact zai () h rfl (za1 rfl) Splits.nil
 rintro _ h
 rw [hj1] at h
 refine zyG (zyR 2 rfl ?_)
 obtain ⟨r2,hq4,h⟩:=zbT h
 refine zfK (vs:=[.string title1,vstanzas1.v]) hrd rfl dc rfl rfl rfl zrJ (zj9 (vstanzas1:=vstanzas1) hwstanzas1 hzstanzas1 hq4) Splits.nil (.ro 0 rfl (.ro 1 rfl .nil)) ?_
 rintro v1
 refine zc5 (L':=[zhG zaJ zaI 81 v1 r2.1]) (zae [0] kr rfl) (zaE rfl dc rfl rfl (zaE rfl dc rfl rfl (zyR 2 rfl (zyN (zax ?_)))))
 cases h
 exact zaC (rs:=[.tmp 4,.tmp 5]) v1 (.inl rfl) Tryd.results14 (.cons (.tmp rfl) (.cons (.tmp rfl) .nil)) rfl (zae [0] kr rfl)
end Go.Proofs.YtbempdelckaccaaDoor

namespace Go.Proofs.YtbempdelckaccaaDoor
open Go.RowKit Go.Lib
set_option linter.unusedVariables false
set_option linter.unusedSimpArgs false
theorem zgW (a b:List UInt8):mkB a++mkB b=mkB (a++b):=by
 have h:∀ a b:ByteArray,a.data.toList=b.data.toList→a=b:=fun a b h=>by
  have:mkB a.data.toList=mkB b.data.toList:=by rw [h]
  exact this
 apply h
 rw [ByteArray.data_append,Array.toList_append]
 rfl
abbrev Row:=List (List UInt8)
def lnT (r:Row):List UInt8:=r.flatMap (· ++ [10])
def zmz (a:List UInt8):List UInt8:=if a=[] then a else a++[10]
def zh7 (t:List UInt8):List Row→Bool
 | (x::_)::_=>decide (t≠[])||zjh x
 | _=>decide (t≠[])
def zko (t:List UInt8) (z:List Row):List UInt8:=if zh7 t z then 35::32::t++[10] else []
def prF (a:List UInt8) (z:List Row):List UInt8:=z.foldl (fun a r=>zmz a++lnT r) a
def prT (t:List UInt8) (z:List Row):List UInt8:=prF (zko t z) z
def wtR (r:Row):Nat:=(r.map fun x=>x.length+1).sum
def wtZ (z:List Row):Nat:=(z.map fun r=>1+wtR r).sum
theorem zeZ (x:List UInt8) (r:Row):wtR (x::r)=x.length+1+wtR r:=by unfold wtR; rw [List.map_cons,List.sum_cons]
theorem zge (r:Row) (z:List Row):wtZ (r::z)=1+wtR r+wtZ z:=by unfold wtZ; rw [List.map_cons,List.sum_cons]
theorem zfB (x:List UInt8) (r:Row):lnT (x::r)=x++[10]++lnT r:=List.flatMap_cons
theorem zo4 (r:Row):(lnT r).length=wtR r:=by
 induction r with
 | nil=>rfl
 | cons x r ih=>rw [zfB,zeZ,List.length_append,List.length_append,ih]; rfl
theorem zkN (r:Row):r.length≤wtR r:=by
 induction r with
 | nil=>exact Nat.le_refl _
 | cons x r ih=>rw [zeZ,List.length_cons]; omega
theorem zkM (z:List Row):z.length≤wtZ z:=by
 induction z with
 | nil=>exact Nat.le_refl _
 | cons r z ih=>rw [zge,List.length_cons]; omega
theorem znP (a:List UInt8):(zmz a).length≤a.length+1:=by
 unfold zmz; split
 ·omega
 ·rw [List.length_append]; simp
theorem zm1 (t:List UInt8) (z:List Row):(zko t z).length≤t.length+3:=by
 unfold zko; split
 ·simp
 ·simp
theorem zlT (r:Row) (J:ByteArray→Option ByteArray) (a0:List UInt8) (hb:a0.length+wtR r≤140737488354000):∀ (n i:Nat) (a:List UInt8),i≤r.length→r.length - i<n→a.length+wtR (r.drop i)≤140737488354000 →
  zaT (fun _ _=>none) (zci J (r.map mkB)) n (mkB a) (i:Int)=J (mkB (a++lnT (r.drop i))):=by
 intro n
 induction n with
 | zero=>intro i a h1 h2; omega
 | succ n ih =>
  intro i a hi hn ha
  rw [zbI]
  obtain ⟨ag,hag⟩:∃ ag,ag=zaT (fun _ _=>none) (zci J (r.map mkB)) n:=⟨_,rfl⟩
  rw [← hag] at ih ⊢
  unfold zci
  have hrl:=zkN r
  rcases Nat.lt_or_ge i r.length with h | h
  ·have hd:r.drop i=r[i]::r.drop (i+1):=List.drop_eq_getElem_cons h
   rw [hd,zeZ] at ha
   have hg:zcI (r.map mkB) (i:Int)=some (mkB r[i]):=zbm (by rw [List.getElem?_map,List.getElem?_eq_getElem h]; rfl)
   refine zaA (decide_eq_true (by rw [List.length_map]; omega)) (za3 hg ?_)
   rw [show (⟨#[10]⟩:ByteArray)=mkB [10] from rfl,zgW,zgW]
   refine zce (by rw [zaY,zaY]; simp only [List.length_singleton]; omega) (zce (by rw [zaY,zaY,List.length_append]; simp only [List.length_singleton]; omega) (zce ⟨by omega,by omega⟩ ?_))
   rw [show (i:Int)+1=((i+1:Nat):Int) by omega,ih (i+1) _ (by omega) (by omega) (by rw [List.length_append,List.length_append]; simp only [List.length_singleton]; omega),hd,zfB]
   simp only [List.append_assoc]
  ·rw [List.drop_eq_nil_of_le h]
   refine zav (decide_eq_false (by rw [List.length_map]; omega)) ?_
   show J (mkB a)=J (mkB (a++[]))
   rw [List.append_nil]
theorem zkU (z:List Row) (hz:z.length≤140737488354000) (J:ByteArray→Option ByteArray):∀ (n i:Nat) (a:List UInt8),i≤z.length→z.length - i<n→a.length+wtZ (z.drop i)≤140737488354000 →
  zaT (fun _ _=>none) (zbB (mkZ z) J) n (mkB a) (i:Int)=J (mkB (prF a (z.drop i))):=by
 intro n
 induction n with
 | zero=>intro i a h1 h2; omega
 | succ n ih =>
  intro i a hi hn ha
  rw [zbI]
  obtain ⟨ag,hag⟩:∃ ag,ag=zaT (fun _ _=>none) (zbB (mkZ z) J) n:=⟨_,rfl⟩
  rw [← hag] at ih ⊢
  unfold zbB
  rcases Nat.lt_or_ge i z.length with h | h
  ·have hd:z.drop i=z[i]::z.drop (i+1):=List.drop_eq_getElem_cons h
   have hdl:=zkM (z.drop i)
   rw [List.length_drop] at hdl
   rw [hd,zge] at ha
   have hg:zcI (mkZ z) (i:Int)=some (z[i].map mkB):=zbm (by unfold mkZ; rw [List.getElem?_map,List.getElem?_eq_getElem h]; rfl)
   have hsl:=znP a
   refine zaA (decide_eq_true (by rw [zef]; omega)) (zbC (za3 hg (zbC ?_)))
   have hin:=zlT z[i] (fun (b8:ByteArray)=>grd (I64 ((i:Int)+1))<|ag b8 ((i:Int)+1)) (zmz a) (by omega) zb8 0 (zmz a) (Nat.zero_le _) (by have:=zkN z[i]; unfold zb8; omega) (by rw [List.drop_zero]; omega)
   have fin:(grd (I64 ((i:Int)+1))<|ag (mkB (zmz a++lnT z[i])) ((i:Int)+1))=J (mkB (prF a (z.drop i))):=by
    rw [hd]
    refine zce ⟨by omega,by omega⟩ ?_
    rw [show (i:Int)+1=((i+1:Nat):Int) by omega,ih (i+1) _ (by omega) (by omega) (by rw [List.length_append,zo4]; omega)]
    rfl
   by_cases ha0:a=[]
   ·subst ha0
    refine zav (decide_eq_false (by rw [zaY]; simp)) ?_
    refine hin.trans ?_
    rw [List.drop_zero]; exact fin
   ·have hpos:0<a.length:=List.length_pos_iff.2 ha0
    refine zaA (decide_eq_true (by rw [zaY]; omega)) (zce (by rw [zaY]; show a.length+1≤_; omega) ?_)
    have e:zmz a=a++[10]:=if_neg ha0
    rw [show (⟨#[10]⟩:ByteArray)=mkB [10] from rfl,zgW,← e]
    refine hin.trans ?_
    rw [List.drop_zero]; exact fin
  ·rw [List.drop_eq_nil_of_le h]
   exact zav (decide_eq_false (by rw [zef]; omega)) rfl
theorem zmN (t:List UInt8) (z:List Row) (hne:∀ r∈z,r≠[]) (hw:t.length+3+wtZ z≤140737488354000):zcJ (mkB t) (mkZ z)=some (mkB (prT t z)):=by
 have hzl:=zkM z
 unfold zcJ
 refine zbC ?_
 have tail:∀ b:List UInt8,b=zko t z→(zbk (fun (j2:ByteArray→Option ByteArray)=>zaT (fun _ _=>none) (zbB (mkZ z) j2) zb8 (mkB b) 0) (fun (b4:ByteArray)=>some b4))=some (mkB (prT t z)):=fun b hb=>by
  have hl:=zm1 t z
  have:=zkU z (by omega) (fun (b4:ByteArray)=>some b4) zb8 0 b (Nat.zero_le _) (by unfold zb8; omega) (by rw [List.drop_zero,hb]; omega)
  rw [List.drop_zero] at this
  refine zbC (this.trans ?_)
  rw [hb]; rfl
 have hd:(grd ((⟨#[35,32]⟩:ByteArray).size+(mkB t).size≤9223372036854775807)<|grd (((⟨#[35,32]⟩:ByteArray)++mkB t).size+(⟨#[10]⟩:ByteArray).size≤9223372036854775807) <|
   grd ((⟨#[]⟩:ByteArray).size+(((⟨#[35,32]⟩:ByteArray)++mkB t)++(⟨#[10]⟩:ByteArray)).size≤140737488355328) <|
   (zbk (fun (j2:ByteArray→Option ByteArray)=>zaT (fun _ _=>none) (zbB (mkZ z) j2) zb8 ((⟨#[]⟩:ByteArray)++(((⟨#[35,32]⟩:ByteArray)++mkB t)++(⟨#[10]⟩:ByteArray))) 0) (fun (b4:ByteArray)=>some b4))) =
    (zbk (fun (j2:ByteArray→Option ByteArray)=>zaT (fun _ _=>none) (zbB (mkZ z) j2) zb8 (mkB (35::32::t++[10])) 0) (fun (b4:ByteArray)=>some b4)):=by
  rw [show (⟨#[35,32]⟩:ByteArray)=mkB [35,32] from rfl,show (⟨#[10]⟩:ByteArray)=mkB [10] from rfl,show (⟨#[]⟩:ByteArray)=mkB [] from rfl,zgW,zgW,zgW]
  refine zce ?_ (zce ?_ (zce ?_ rfl))
  ·rw [zaY,zaY]; simp only [List.length_cons,List.length_nil]; omega
  ·rw [zaY,zaY,List.length_append]; simp only [List.length_cons,List.length_nil]; omega
  ·rw [zaY,zaY,List.length_append,List.length_append]; simp only [List.length_cons,List.length_nil]; omega
 by_cases ht:t=[]
 ·subst ht
  refine zav (by rw [show (⟨#[]⟩:ByteArray)=mkB [] from rfl]; simp) ?_
  cases z with
  | nil=>exact zav (decide_eq_false (by simp [mkZ])) (tail [] rfl)
  | cons r z =>
   have hr:=hne r (by simp)
   obtain ⟨x,r',rfl⟩:=List.exists_cons_of_ne_nil hr
   refine zaA (decide_eq_true (by rw [zef,List.length_cons]; omega)) (za3 (a:=(x::r').map mkB) rfl (za3 (a:=mkB x) rfl (za3 (zll x) ?_)))
   cases hti:zjh x with
   | true =>
    refine zaA rfl (hd.trans (tail _ ?_))
    have:zh7 [] ((x::r')::z)=true:=by show (decide (([]:List UInt8)≠[])||zjh x)=true; rw [hti]; rfl
    unfold zko; rw [this]; rfl
   | false =>
    refine zav rfl (tail [] ?_)
    have:zh7 [] ((x::r')::z)=false:=by show (decide (([]:List UInt8)≠[])||zjh x)=false; rw [hti]; rfl
    unfold zko; rw [this]; rfl
 ·refine zaA (by rw [show (⟨#[]⟩:ByteArray)=mkB [] from rfl,decide_eq_false (fun e=>ht (zf4 e))]; rfl) (hd.trans (tail _ ?_))
  unfold zko
  have:zh7 t z=true:=by
   unfold zh7
   split <;> simp [ht]
  rw [this]; rfl
end Go.Proofs.YtbempdelckaccaaDoor

namespace Go.Proofs.YtbempdelckaccaaDoor
open Go.RowKit Go.Lib
set_option linter.unusedVariables false
set_option linter.unusedSimpArgs false
theorem zdD (r:Row) (z:List Row):tot (r::z)=r.length+tot z:=by unfold tot; rw [List.map_cons,List.sum_cons]
theorem zov:∀ (z:List Row),tot z≤wtZ z
 | []=>Nat.le_refl _
 | r::z=>by have:=zov z; have:=zkN r; rw [zdD,zge]; omega
theorem zlj:∀ (z:List Row) (i:Nat) (r:Row),z[i]?=some r→tot (z.take (i+1))=tot (z.take i)+r.length
 | [],i,r,h=>by simp at h
 | y::z,0,r,h=>by
  have:y=r:=by simpa using h
  subst this
  rw [List.take_succ_cons,List.take_zero,List.take_zero,zdD]; show y.length+0=0+y.length; omega
 | y::z,i+1,r,h=>by
  rw [List.take_succ_cons,List.take_succ_cons,zdD,zdD,zlj z i r (by simpa using h)]; omega
theorem zhP:∀ (z:List Row) (i:Nat),tot (z.take i)≤tot z
 | [],i=>by simp
 | y::z,0=>by simp [tot]
 | y::z,i+1=>by rw [List.take_succ_cons,zdD,zdD]; have:=zhP z i; omega
theorem zl7 {R:Type} {F:(Int→Int→Option R)→Int→Int→Option R} (z:List Row) (hz:tot z≤140737488354000) (hzl:z.length≤140737488354000) (J:Int→Option R)
  (hs:∀ ag (n i:Int) r,zcI (mkZ z) i=some r→(i:Int)<(z.length:Int)→I64 (n+(r.length:Int))→I64 (i+1)→F ag n i=ag (n+(r.length:Int)) (i+1)) (he:∀ ag n,F ag n (z.length:Int)=J n) :
  ∀ (n i:Nat),i≤z.length→z.length - i<n→zaT (fun _ _=>none) F n (tot (z.take i):Int) (i:Int)=J (tot z:Int):=by
 intro n
 induction n with
 | zero=>intro i h1 h2; omega
 | succ n ih =>
  intro i hi hn
  rw [zbI]
  rcases Nat.lt_or_ge i z.length with h | h
  ·have hg:zcI (mkZ z) (i:Int)=some (z[i].map mkB):=zbm (by unfold mkZ; rw [List.getElem?_map,List.getElem?_eq_getElem h]; rfl)
   have h1:=zlj z i z[i] (List.getElem?_eq_getElem h)
   have h2:=zhP z (i+1)
   rw [hs _ _ _ _ hg (by omega) (by rw [List.length_map]; exact ⟨by omega,by omega⟩) ⟨by omega,by omega⟩,List.length_map]
   rw [show (tot (z.take i):Int)+(z[i].length:Int)=(tot (z.take (i+1)):Int) by omega,show (i:Int)+1=((i+1:Nat):Int) by omega]
   exact ih (i+1) (by omega) (by omega)
  ·obtain rfl:i=z.length:=by omega
   rw [he,List.take_length]
theorem zoF (t:List UInt8) (z:List Row) (hne:∀ r∈z,r≠[]) (hw:t.length+3+wtZ z≤140737488354000):zda (mkB t) (mkZ z) =
  if 512<tot z∨65536<(prT t z).length then some (none,3) else (zcV (mkB (prT t z))).bind fun r=>some (r.1,0):=by
 unfold zda
 have h1:=zov z
 have h2:=zkM z
 have key:=zl7 (F:=zcR (mkZ z) (fun (n1:Int)=>zan (zcJ (mkB t) (mkZ z)) fun (r1:ByteArray)=>zam (decide ((512:Int)<n1)) (some (none,3)) (zam (decide ((65536:Int)<(r1.size:Int))) (some (none,3)) (zan (zcV r1) fun (r2:((Option Gpoem_Poem)×Gapi_Spot))=>some (r2.1,0))))) z (by omega) (by omega)
  (fun (n1:Int)=>zan (zcJ (mkB t) (mkZ z)) fun (r1:ByteArray)=>zam (decide ((512:Int)<n1)) (some (none,3)) (zam (decide ((65536:Int)<(r1.size:Int))) (some (none,3)) (zan (zcV r1) fun (r2:((Option Gpoem_Poem)×Gapi_Spot))=>some (r2.1,0))))
  (fun ag n i r hg hi h1 h2=>by
   unfold zcR
   exact zaA (decide_eq_true (by rw [zef]; exact hi)) (za3 hg (zce h1 (zce h2 rfl))))
  (fun ag n=>by
   unfold zcR
   exact zav (decide_eq_false (by rw [zef]; omega)) rfl) zb8 0 (Nat.zero_le _) (by unfold zb8; omega)
 refine zbC (key.trans ?_)
 refine za3 (zmN t z hne hw) ?_
 by_cases h512:512<tot z
 ·rw [if_pos (.inl h512)]; exact zaA (decide_eq_true (by omega)) rfl
 ·refine zav (decide_eq_false (by omega)) ?_
  by_cases hl:65536<(prT t z).length
  ·rw [if_pos (.inr hl)]; exact zaA (decide_eq_true (by rw [zaY]; omega)) rfl
  ·rw [if_neg (by omega)]
   exact zav (decide_eq_false (by rw [zaY]; omega)) rfl
end Go.Proofs.YtbempdelckaccaaDoor

namespace Go.Proofs.YtbempdelckaccaaDoor
open Go.RowKit Go.Lib
set_option linter.unusedVariables false
set_option linter.unusedSimpArgs false
def noE (x:List UInt8):Prop:=∀ b∈x,isE b=false
structure GLn (x:List UInt8):Prop where
 bl:zga x=false
 le:x.length≤1024
 ne:noE x
def zfe:Nat→Row→List (Nat×List UInt8)
 | _,[]=>[]
 | i,x::r=>(i,x)::zfe (i+1) r
def zen:Nat→List Row→List (Nat×Nat×List UInt8)
 | _,[]=>[]
 | k,r::z=>(zfe 0 r).map (fun p=>(k,p))++zen (k+1) z
def zmf (v:Gapi_Verse):ByteArray×Int×Int×Int:=(v.Text,v.Indent,v.Stanza,v.In)
def zjQ (p:Nat×Nat×List UInt8):ByteArray×Int×Int×Int:=(mkB (p.2.2.drop (ind p.2.2)),(ind p.2.2:Int),(p.1:Int),(p.2.1:Int))
def VOk (vs:List Gapi_Verse) (z:List Row):Prop:=vs.map zmf=(zen 0 z).map zjQ
theorem zkv (x:List UInt8):∀ (r:Row) (i:Nat),zfe i (r++[x])=zfe i r++[(i+r.length,x)]
 | [],i=>rfl
 | y::r,i=>by
  show (i,y)::zfe (i+1) (r++[x])=_
  rw [zkv x r (i+1),List.length_cons,show i+1+r.length=i+(r.length+1) by omega]; rfl
theorem zgt:∀ (a b:List Row) (k:Nat),zen k (a++b)=zen k a++zen (k+a.length) b
 | [],b,k=>rfl
 | r::a,b,k=>by
  show _++zen (k+1) (a++b)=_
  rw [zgt a b (k+1),List.length_cons,show k+1+a.length=k+(a.length+1) by omega,← List.append_assoc]; rfl
theorem zig (r:Row) (k:Nat):zen k [r]=(zfe 0 r).map (fun p=>(k,p)):=List.append_nil _
structure PInv (st:RS):Prop extends RInv st where
 vok:VOk st.vs st.stz
 tE:noE st.t
 tL:st.t.length≤1022
 ln:∀ r∈st.stz,∀ x∈r,GLn x
 fr:∀ v∈st.vs,0≤v.Span_From
theorem zl4 (st:RS):zen 0 (zb4 st)=zen 0 st.stz:=by
 unfold zb4
 split
 ·rfl
 ·rw [zgt,zig]; exact List.append_nil _
theorem PInv.step {st st':RS} {x:Nat×List UInt8} (h:PInv st) (hx:noE x.2) (hs:zdz st x=.ok st'):PInv st':=by
 refine ⟨h.toRInv.step hs,?_,?_,?_,?_,?_⟩ <;> unfold zdz at hs
 all_goals
  split at hs
  ·cases hs; first | exact h.vok | exact h.tE | exact h.tL | exact h.ln | exact h.fr
  split at hs
  ·cases hs
  split at hs
 ·cases hs; exact h.vok
 ·split at hs
  ·cases hs
  ·cases hs
   obtain ⟨init,r,he,hl,hdl,htot,hsp⟩:=zjs h.toRInv
   show (st.vs++[zfi x.1 x.2 (zb4 st)]).map zmf=(zen 0 ((zb4 st).dropLast++[ze4 (zb4 st)++[x.2]])).map zjQ
   rw [hdl,hl,zgt,zig,zkv,List.map_append,List.map_append,List.map_append,List.map_append,← List.append_assoc]
   have h2:zen 0 st.stz=zen 0 init++(zfe 0 r).map (fun p=>(init.length,p)):=by
    rw [← zl4,he,zgt,zig,Nat.zero_add]
   have h3:=h.vok
   unfold VOk at h3
   rw [h3,h2,List.map_append,Nat.zero_add]
   congr 1
   unfold zfi zmf
   rw [hl,he]
   simp [zjQ]
 ·rename_i ht
  cases hs
  intro b hb
  exact hx b (List.mem_of_mem_drop hb)
 ·split at hs
  ·cases hs
  ·cases hs; exact h.tE
 ·rename_i hl ht
  cases hs
  show (x.2.drop 2).length≤1022
  rw [List.length_drop]; omega
 ·split at hs
  ·cases hs
  ·cases hs; exact h.tL
 ·cases hs; exact h.ln
 ·rename_i hb hl ht
  split at hs
  ·cases hs
  ·cases hs
   obtain ⟨init,r,he,hl2,hdl,htot,hsp⟩:=zjs h.toRInv
   intro r' hr' y hy
   have hold:∀ r∈zb4 st,∀ x∈r,GLn x:=fun r hr x hx=>by
    unfold zb4 at hr
    split at hr
    ·exact h.ln r hr x hx
    ·rcases List.mem_append.1 hr with hr | hr
     ·exact h.ln r hr x hx
     ·rw [List.mem_singleton] at hr; subst hr; cases hx
   have hr2:r'∈(zb4 st).dropLast++[ze4 (zb4 st)++[x.2]]:=hr'
   rw [hdl,hl2] at hr2
   rcases List.mem_append.1 hr2 with hr2 | hr2
   ·exact hold r' (by rw [he]; exact List.mem_append_left _ hr2) y hy
   ·rw [List.mem_singleton] at hr2
    subst hr2
    rcases List.mem_append.1 hy with hy | hy
    ·exact hold r (by rw [he]; simp) y hy
    ·rw [List.mem_singleton] at hy
     subst hy
     exact ⟨by simpa using hb,by omega,hx⟩
 ·cases hs; exact h.fr
 ·split at hs
  ·cases hs
  ·cases hs
   intro v hv
   rcases List.mem_append.1 (show v∈st.vs++[zfi x.1 x.2 (zb4 st)] from hv) with hv | hv
   ·exact h.fr v hv
   ·rw [List.mem_singleton] at hv; subst hv
    show (0:Int)≤(x.1:Int)+(ind x.2:Int)
    omega
theorem zq4:PInv rs0:=⟨zkQ,rfl,(fun b hb=>by cases hb),Nat.zero_le _,(fun r hr=>by cases hr),(fun v hv=>by cases hv)⟩
theorem PInv.fold:∀ {xs:List (Nat×List UInt8)} {st st':RS},PInv st→(∀ x∈xs,noE x.2)→zcM st xs=.ok st'→PInv st'
 | [],st,st',h,hx,hs=>by cases hs; exact h
 | x::xs,st,st',h,hx,hs=>by
  unfold zcM at hs
  cases he:zdz st x with
  | ok s1=>rw [he] at hs; exact PInv.fold (h.step (hx x (by simp)) he) (fun y hy=>hx y (by simp [hy])) hs
  | error e=>rw [he] at hs; cases hs
theorem zmZ (T:List UInt8):∀ x∈zeU T,noE x.2:=by
 intro x hx
 obtain ⟨y,hy,rfl⟩:=List.mem_map.1 hx
 exact (zjj T y hy).2.2
theorem zq5 {T:List UInt8} {st:RS} (h:rd T=.ok st):PInv st∧T.length≤65536:=by
 unfold rd at h
 split at h
 ·cases h
 ·exact ⟨PInv.fold zq4 (zmZ T) h,by omega⟩
def plL:Bool→List Row→Row
 | _,[]=>[]
 | a,r::z=>(if a then [[]] else [])++r++plL true z
def zl1 (t:List UInt8) (z:List Row):Row:=if zh7 t z then [35::32::t] else []
theorem zkY (a b:Row):lnT (a++b)=lnT a++lnT b:=List.flatMap_append
theorem zp8 {r:Row} (h:r≠[]):lnT r≠[]:=by
 obtain ⟨x,r,rfl⟩:=List.exists_cons_of_ne_nil h
 rw [zfB]; simp
theorem zoD:∀ (z:List Row) (a:List UInt8),(∀ r∈z,r≠[])→prF a z=a++lnT (plL (decide (a≠[])) z)
 | [],a,h=>(List.append_nil _).symm
 | r::z,a,h=>by
  show prF (zmz a++lnT r) z=_
  have hne:zmz a++lnT r≠[]:=by
   intro e
   exact zp8 (h r (by simp)) (List.append_eq_nil_iff.1 e).2
  rw [zoD z _ (fun y hy=>h y (by simp [hy])),decide_eq_true hne]
  show _=a++lnT ((if decide (a≠[])=true then [[]] else [])++r++plL true z)
  rw [zkY,zkY]
  by_cases ha:a=[]
  ·subst ha
   simp [zmz,lnT]
  ·have e:zmz a=a++[10]:=if_neg ha
   rw [decide_eq_true ha,if_pos rfl,e]
   show a++[10]++lnT r++_=a++([10]++lnT r++_)
   simp only [List.append_assoc]
def prL (t:List UInt8) (z:List Row):Row:=zl1 t z++plL (zh7 t z) z
theorem zmO (t:List UInt8) (z:List Row) (h:∀ r∈z,r≠[]):prT t z=lnT (prL t z):=by
 unfold prT prL zl1 zko
 rw [zoD z _ h,zkY]
 cases zh7 t z with
 | true =>
  have e1:((if true=true then (35::32::t++[10]) else []):List UInt8)=35::32::t++[10]:=rfl
  have e2:decide ((35::32::t++[10]:List UInt8)≠[])=true:=decide_eq_true (by simp)
  rw [e1,e2]
  show _=lnT [35::32::t]++_
  rw [zfB]
  show _=35::32::t++[10]++[]++_
  rw [List.append_nil]
 | false=>rfl
def itL:Nat→Row→List (Nat×List UInt8)
 | _,[]=>[]
 | f,x::r=>(f,x)::itL (f+x.length+1) r
theorem zjt:∀ (a b:Row) (f:Nat),itL f (a++b)=itL f a++itL (f+wtR a) b
 | [],b,f=>rfl
 | x::a,b,f=>by
  show _::itL (f+x.length+1) (a++b)=_
  rw [zjt a b,zeZ,show f+x.length+1+wtR a=f+(x.length+1+wtR a) by omega]; rfl
def zq2:Nat→Row→List (Nat×Nat)
 | f,[]=>[(f,f)]
 | f,x::r=>(f,f+x.length)::zq2 (f+x.length+1) r
theorem zmu:∀ (x t:List UInt8) (f a:Nat),noE x→spP false f a (x++t)=spP false f (a+x.length) t
 | [],t,f,a,h=>rfl
 | b::x,t,f,a,h=>by
  have hb:=h b (by simp)
  have h13:b≠13:=fun e=>by rw [e] at hb; cases hb
  have h10:b≠10:=fun e=>by rw [e] at hb; cases hb
  rw [List.cons_append,spP,if_neg h13,if_neg h10,zmu x t f (a+1) (fun y hy=>h y (by simp [hy])),List.length_cons,show a+1+x.length=a+(x.length+1) by omega]
theorem zjX:∀ (r:Row) (f:Nat),(∀ x∈r,noE x)→spP false f f (lnT r)=zq2 f r
 | [],f,h=>rfl
 | x::r,f,h=>by
  rw [zfB,List.append_assoc,zmu x _ f f (h x (by simp))]
  show spP false f (f+x.length) (10::lnT r)=_
  rw [spP,if_neg (by decide),if_pos rfl,zjX r _ (fun y hy=>h y (by simp [hy]))]
  rfl
theorem zia:∀ (r:Row) (pre:List UInt8) (f:Nat),pre.length=f→(zq2 f r).map (fun x=>(x.1,((pre++lnT r).drop x.1).take (x.2 - x.1)))=itL f r++[(f+wtR r,[])]
 | [],pre,f,h=>by
  show [(f,_)]=[(f+0,[])]
  rw [Nat.sub_self,List.take_zero]; rfl
 | x::r,pre,f,h=>by
  show (f,_)::_=(f,x)::_
  have h2:=zia r (pre++(x++[10])) (f+x.length+1) (by rw [List.length_append,List.length_append]; simp; omega)
  rw [zfB]
  congr 1
  ·congr 1
   rw [← h,List.drop_left,show pre.length+x.length - pre.length=x.length by omega,List.append_assoc,List.take_left]
  ·rw [List.append_assoc] at h2
   rw [h2,zeZ,show f+x.length+1+wtR r=f+(x.length+1+wtR r) by omega]
   rfl
theorem zn0 (r:Row) (h:∀ x∈r,noE x):zeU (lnT r)=itL 0 r++[(wtR r,[])]:=by
 unfold zeU zb6
 rw [zjX r 0 h]
 have:=zia r [] 0 rfl
 rw [Nat.zero_add] at this
 exact this
theorem zfo:∀ (xs ys:List (Nat×List UInt8)) (st st':RS),zcM st xs=.ok st'→zcM st (xs++ys)=zcM st' ys
 | [],ys,st,st',h=>by cases h; rfl
 | x::xs,ys,st,st',h=>by
  unfold zcM at h
  rw [List.cons_append]
  conv=>lhs; unfold zcM
  cases he:zdz st x with
  | ok s1=>rw [he] at h; exact zfo xs ys s1 st' h
  | error e=>rw [he] at h; cases h
theorem ziR {st:RS} {f:Nat} {x:List UInt8} (hx:GLn x) (ht:¬ (st.first=true∧zjh x=true)) (hl:st.vs.length<512):zdz st (f,x)=.ok (zis st f x):=by
 unfold zdz
 rw [if_neg (by rw [hx.bl]; decide),if_neg (by have:=hx.le; show ¬ 1024<x.length; omega),if_neg ht,if_neg (by omega)]
theorem zlr:∀ (r:Row) (st:RS) (f:Nat) (init:List Row) (cur:Row),(∀ x∈r,GLn x)→st.row=true→st.first=false→st.stz=init++[cur]→st.vs.length+r.length≤512 →
  ∃ st',zcM st (itL f r)=.ok st'∧st'.t=st.t∧st'.stz=init++[cur++r]∧st'.row=true∧st'.first=false∧st'.vs.length=st.vs.length+r.length
 | [],st,f,init,cur,hg,hr,hf,hz,hl=>⟨st,rfl,rfl,by rw [hz,List.append_nil],hr,hf,rfl⟩
 | x::r,st,f,init,cur,hg,hr,hf,hz,hl=>by
  rw [List.length_cons] at hl
  have hs:zdz st (f,x)=.ok (zis st f x):=ziR (hg x (by simp)) (by rw [hf]; simp) (by omega)
  have ho:zb4 st=init++[cur]:=by unfold zb4; rw [hr,if_pos rfl,hz]
  have hz':(zis st f x).stz=init++[cur++[x]]:=by
   show (zb4 st).dropLast++[ze4 (zb4 st)++[x]]=_
   rw [ho,List.dropLast_concat]
   congr 2
   unfold ze4; rw [List.getLastD_concat]
  obtain ⟨st',h1,h2,h3,h4,h5,h6⟩:=zlr r (zis st f x) (f+x.length+1) init (cur++[x]) (fun y hy=>hg y (by simp [hy])) rfl rfl hz' (by show (st.vs++[_]).length+r.length≤512; rw [List.length_append,List.length_singleton]; omega)
  refine ⟨st',?_,h2,by rw [h3,List.append_assoc]; rfl,h4,h5,?_⟩
  ·show zcM st ((f,x)::itL (f+x.length+1) r)=_
   unfold zcM
   rw [hs]; exact h1
  ·rw [h6]
   show (st.vs++[_]).length+_=_
   rw [List.length_append,List.length_singleton,List.length_cons]; omega
theorem zn8 (r:Row) (st:RS) (f:Nat) (hg:∀ x∈r,GLn x) (hne:r≠[]) (hr:st.row=false) (hf:st.first=true→∀ x,r.head?=some x→zjh x=false) (hl:st.vs.length+r.length≤512) :
  ∃ st',zcM st (itL f r)=.ok st'∧st'.t=st.t∧st'.stz=st.stz++[r]∧st'.row=true∧st'.first=false∧st'.vs.length=st.vs.length+r.length:=by
 obtain ⟨x,r,rfl⟩:=List.exists_cons_of_ne_nil hne
 rw [List.length_cons] at hl
 have hs:zdz st (f,x)=.ok (zis st f x):=ziR (hg x (by simp)) (fun ⟨a,b⟩=>by rw [hf a x rfl] at b; cases b) (by omega)
 have ho:zb4 st=st.stz++[[]]:=by unfold zb4; rw [hr,if_neg (by decide)]
 have hz':(zis st f x).stz=st.stz++[[x]]:=by
  show (zb4 st).dropLast++[ze4 (zb4 st)++[x]]=_
  rw [ho,List.dropLast_concat]
  congr 2
  unfold ze4; rw [List.getLastD_concat]; rfl
 obtain ⟨st',h1,h2,h3,h4,h5,h6⟩:=zlr r (zis st f x) (f+x.length+1) st.stz [x] (fun y hy=>hg y (by simp [hy])) rfl rfl hz' (by show (st.vs++[_]).length+r.length≤512; rw [List.length_append,List.length_singleton]; omega)
 refine ⟨st',?_,h2,h3,h4,h5,?_⟩
 ·show zcM st ((f,x)::itL (f+x.length+1) r)=_
  unfold zcM
  rw [hs]; exact h1
 ·rw [h6]
  show (st.vs++[_]).length+_=_
  rw [List.length_append,List.length_singleton,List.length_cons]; omega
theorem zm9:∀ (z:List Row) (a:Bool) (st:RS) (f:Nat),(∀ r∈z,r≠[])→(∀ r∈z,∀ x∈r,GLn x)→(a=false→st.row=false)→(st.first=true→∀ r x,z.head?=some r→r.head?=some x→zjh x=false)→st.vs.length+tot z≤512 →
  ∃ st',zcM st (itL f (plL a z))=.ok st'∧st'.t=st.t∧st'.stz=st.stz++z∧st'.vs.length=st.vs.length+tot z
 | [],a,st,f,hne,hg,hr,hf,hl=>⟨st,rfl,rfl,by rw [List.append_nil],rfl⟩
 | r::z,a,st,f,hne,hg,hr,hf,hl=>by
  rw [zdD] at hl
  have hb:∃ st1 f1,zcM st (itL f (if a then [[]] else []))=.ok st1∧f1=f+wtR (if a then [[]] else [])∧st1.row=false∧st1.t=st.t∧st1.stz=st.stz∧st1.vs=st.vs∧st1.first=st.first:=by
   cases a with
   | false=>exact ⟨st,_,rfl,rfl,hr rfl,rfl,rfl,rfl,rfl⟩
   | true=>exact ⟨{ st with row:=false },_,rfl,rfl,rfl,rfl,rfl,rfl,rfl⟩
  obtain ⟨st1,f1,e1,rfl,hr1,ht1,hz1,hv1,hf1⟩:=hb
  obtain ⟨st2,e2,ht2,hz2,hr2,hf2,hl2⟩:=zn8 r st1 (f+wtR (if a then [[]] else [])) (hg r (by simp)) (hne r (by simp)) hr1 (fun h x hx=>hf (by rw [← hf1]; exact h) r x rfl hx) (by rw [hv1]; omega)
  obtain ⟨st3,e3,ht3,hz3,hl3⟩:=zm9 z true st2 (f+wtR ((if a then [[]] else [])++r)) (fun y hy=>hne y (by simp [hy])) (fun y hy=>hg y (by simp [hy])) (fun h=>by cases h) (fun h=>by rw [hf2] at h; cases h) (by rw [hl2,hv1]; omega)
  refine ⟨st3,?_,by rw [ht3,ht2,ht1],by rw [hz3,hz2,hz1,List.append_assoc]; rfl,by rw [hl3,hl2,hv1,zdD]; omega⟩
  show zcM st (itL f ((if a then [[]] else [])++r++plL true z))=_
  rw [zjt,zjt,List.append_assoc,zfo _ _ _ _ e1,zfo _ _ _ _ e2]
  exact e3
structure GoodP (t:List UInt8) (z:List Row):Prop where
 tE:noE t
 tL:t.length≤1022
 ne:∀ r∈z,r≠[]
 ln:∀ r∈z,∀ x∈r,GLn x
theorem PInv.good {st:RS} (h:PInv st):GoodP st.t st.stz:=⟨h.tE,h.tL,h.ne,h.ln⟩
theorem zmP:∀ (z:List Row) (a:Bool),(∀ r∈z,∀ x∈r,GLn x)→∀ x∈plL a z,noE x
 | [],a,h,x,hx=>by cases hx
 | r::z,a,h,x,hx=>by
  have hx2:x∈(if a then [[]] else [])++r++plL true z:=hx
  rcases List.mem_append.1 hx2 with hx2 | hx2
  ·rcases List.mem_append.1 hx2 with hx2 | hx2
   ·cases a with
    | false=>cases hx2
    | true=>rw [if_pos rfl,List.mem_singleton] at hx2; subst hx2; intro b hb; cases hb
   ·exact (h r (by simp) x hx2).ne
  ·exact zmP z true (fun y hy=>h y (by simp [hy])) x hx2
theorem znU {t:List UInt8} {z:List Row} (h:GoodP t z) (hn:tot z≤512) (hl:(prT t z).length≤65536):∃ st,rd (prT t z)=.ok st∧st.t=t∧st.stz=z:=by
 have htE:noE (35::32::t):=by
  intro b hb
  rcases List.mem_cons.1 hb with rfl | hb
  ·rfl
  ·rcases List.mem_cons.1 hb with rfl | hb
   ·rfl
   ·exact h.tE b hb
 have hno:∀ x∈prL t z,noE x:=by
  intro x hx
  rcases List.mem_append.1 hx with hx | hx
  ·unfold zl1 at hx
   split at hx
   ·rw [List.mem_singleton] at hx; subst hx; exact htE
   ·cases hx
  ·exact zmP z _ h.ln x hx
 unfold rd
 rw [if_neg (by omega),zmO t z h.ne,zn0 _ hno]
 have hh:∃ st1,zcM rs0 (itL 0 (zl1 t z))=.ok st1∧st1.row=false∧st1.t=t∧st1.stz=[]∧st1.vs=[]∧(st1.first=true→∀ r x,z.head?=some r→r.head?=some x→zjh x=false):=by
  unfold zl1
  cases hn:zh7 t z with
  | true =>
   refine ⟨⟨t,[],[],false,false⟩,?_,rfl,rfl,rfl,rfl,fun h=>by cases h⟩
   rw [if_pos rfl]
   show zcM rs0 [(0,35::32::t)]=_
   unfold zcM
   have:zdz rs0 (0,35::32::t)=.ok ⟨t,[],[],false,false⟩:=by
    unfold zdz
    have hb:zga (35::32::t)=false:=rfl
    have hti:zjh (35::32::t)=true:=rfl
    rw [if_neg (by rw [hb]; decide),if_neg (by have:=h.tL; show ¬ 1024<(35::32::t).length; rw [List.length_cons,List.length_cons]; omega),if_pos ⟨rfl,hti⟩]
    rfl
   rw [this]; rfl
  | false =>
   have ht:t=[]:=by
    unfold zh7 at hn
    split at hn
    ·rw [Bool.or_eq_false_iff] at hn; simpa using hn.1
    ·simpa using hn
   refine ⟨rs0,rfl,rfl,ht.symm,rfl,rfl,fun _ r x hr hx => ?_⟩
   cases z with
   | nil=>cases hr
   | cons r' z =>
    have e:r'=r:=Option.some.inj hr
    subst e
    cases r' with
    | nil=>cases hx
    | cons x' r' =>
     have e:x'=x:=Option.some.inj hx
     subst e
     have:(decide (t≠[])||zjh x')=false:=hn
     rw [Bool.or_eq_false_iff] at this
     exact this.2
 obtain ⟨st1,e1,hr1,ht1,hz1,hv1,hf1⟩:=hh
 obtain ⟨st2,e2,ht2,hz2,hl2⟩:=zm9 z (zh7 t z) st1 (0+wtR (zl1 t z)) h.ne h.ln (fun _=>hr1) hf1 (by rw [hv1]; show 0+_≤_; omega)
 refine ⟨{ st2 with row:=false },?_,ht2.trans ht1,by show st2.stz=z; rw [hz2,hz1]; rfl⟩
 unfold prL
 rw [zjt,List.append_assoc,zfo _ _ _ _ e1,zfo _ _ _ _ e2]
 rfl
end Go.Proofs.YtbempdelckaccaaDoor

namespace Go.Proofs.YtbempdelckaccaaDoor
open Go.RowKit Go.Lib
set_option linter.unusedVariables false
set_option linter.unusedSimpArgs false
theorem zhZ (n:Nat):Lib.repeatL [32] n=List.replicate n 32:=by
 induction n with
 | zero=>rfl
 | succ n ih=>rw [Lib.repeatL,ih,List.replicate_succ]; rfl
theorem zib:∀ x:List UInt8,List.replicate (ind x) 32++x.drop (ind x)=x
 | []=>rfl
 | b::x=>by
  rw [zhH]
  by_cases h:b=32
  ·rw [if_pos h,List.replicate_succ,List.drop_succ_cons,List.cons_append,zib x,h]
  ·rw [if_neg h]; rfl
abbrev LnE:=Nat×Nat×List UInt8
def zeT (from_ to_:Nat):Nat→List LnE→List Row×Int→List Row×Int
 | _,[],a=>a
 | i,p::L,a =>
  if i<from_∨to_≤i then zeT from_ to_ (i+1) L a
  else if (p.1:Int)≠a.2 then zeT from_ to_ (i+1) L (a.1++[[p.2.2]],(p.1:Int))
  else zeT from_ to_ (i+1) L (a.1.dropLast++[ze4 a.1++[p.2.2]],a.2)
def zmh (from_ to_:Nat):Nat→Row→Row
 | _,[]=>[]
 | at_,x::r=>if from_≤at_∧at_<to_ then x::zmh from_ to_ (at_+1) r else zmh from_ to_ (at_+1) r
def zqu (from_ to_:Nat):Nat→List Row→List Row
 | _,[]=>[]
 | at_,r::z=>(if zmh from_ to_ at_ r=[] then [] else [zmh from_ to_ at_ r])++zqu from_ to_ (at_+r.length) z
theorem zku:∀ (r:Row) (j:Nat),(zfe j r).length=r.length
 | [],j=>rfl
 | x::r,j=>by show (zfe (j+1) r).length+1=_; rw [zku r]; rfl
theorem zkt:∀ (z:List Row) (k:Nat),(zen k z).length=tot z
 | [],k=>rfl
 | r::z,k=>by
  show ((zfe 0 r).map _++zen (k+1) z).length=_
  rw [List.length_append,List.length_map,zku,zkt z,zdD]
theorem zjn (from_ to_ k:Nat) (out:List Row):∀ (r:Row) (j at_:Nat) (acc:Row) (L:List LnE),zeT from_ to_ at_ ((zfe j r).map (fun p=>(k,p))++L) (out++[acc],(k:Int))=zeT from_ to_ (at_+r.length) L (out++[acc++zmh from_ to_ at_ r],(k:Int))
 | [],j,at_,acc,L=>by
  show zeT from_ to_ at_ L _=zeT from_ to_ at_ L (out++[acc++[]],_)
  rw [List.append_nil]
 | x::r,j,at_,acc,L=>by
  show zeT from_ to_ at_ ((k,j,x)::((zfe (j+1) r).map (fun p=>(k,p))++L)) _=_
  rw [zeT,zmh,List.length_cons,show at_+(r.length+1)=at_+1+r.length by omega]
  by_cases h:from_≤at_∧at_<to_
  ·rw [if_neg (by omega),if_neg (by simp),if_pos h]
   show zeT from_ to_ (at_+1) _ ((out++[acc]).dropLast++[ze4 (out++[acc])++[x]],(k:Int))=_
   have h6:ze4 (out++[acc])=acc:=by unfold ze4; rw [List.getLastD_concat]
   rw [List.dropLast_concat,h6,zjn from_ to_ k out r (j+1) (at_+1) (acc++[x]) L,List.append_assoc]; rfl
  ·rw [if_pos (by omega),if_neg h,zjn from_ to_ k out r (j+1) (at_+1) acc L]
theorem zj5 (from_ to_ k:Nat) (out:List Row) (s:Int) (hs:s≠(k:Int)):∀ (r:Row) (j at_:Nat) (L:List LnE),zeT from_ to_ at_ ((zfe j r).map (fun p=>(k,p))++L) (out,s) =
  if zmh from_ to_ at_ r=[] then zeT from_ to_ (at_+r.length) L (out,s) else zeT from_ to_ (at_+r.length) L (out++[zmh from_ to_ at_ r],(k:Int))
 | [],j,at_,L=>by rw [show zmh from_ to_ at_ []=[] from rfl,if_pos rfl]; rfl
 | x::r,j,at_,L=>by
  show zeT from_ to_ at_ ((k,j,x)::((zfe (j+1) r).map (fun p=>(k,p))++L)) _=_
  rw [zeT,zmh,List.length_cons,show at_+(r.length+1)=at_+1+r.length by omega]
  by_cases h:from_≤at_∧at_<to_
  ·rw [if_neg (by omega),if_pos (by show (k:Int)≠s; omega),if_pos h,if_neg (by simp)]
   exact zjn from_ to_ k out r (j+1) (at_+1) [x] L
  ·rw [if_pos (by omega),if_neg h,zj5 from_ to_ k out s hs r (j+1) (at_+1) L]
theorem zgl (from_ to_:Nat):∀ (z:List Row) (k at_:Nat) (out:List Row) (s:Int),s<(k:Int)→(zeT from_ to_ at_ (zen k z) (out,s)).1=out++zqu from_ to_ at_ z
 | [],k,at_,out,s,hs=>(List.append_nil _).symm
 | r::z,k,at_,out,s,hs=>by
  show (zeT from_ to_ at_ ((zfe 0 r).map (fun p=>(k,p))++zen (k+1) z) (out,s)).1=_
  rw [zj5 from_ to_ k out s (by omega),zqu]
  split
  ·rw [zgl from_ to_ z (k+1) _ out s (by omega)]; rfl
  ·rw [zgl from_ to_ z (k+1) _ _ (k:Int) (by omega),List.append_assoc]
theorem zkz (to_:Nat):∀ (r:Row) (at_:Nat),at_+r.length≤to_→zmh 0 to_ at_ r=r
 | [],at_,h=>rfl
 | x::r,at_,h=>by
  rw [List.length_cons] at h
  rw [zmh,if_pos ⟨Nat.zero_le _,by omega⟩,zkz to_ r (at_+1) (by omega)]
theorem zin (to_:Nat):∀ (z:List Row) (at_:Nat),(∀ r∈z,r≠[])→at_+tot z≤to_→zqu 0 to_ at_ z=z
 | [],at_,hne,h=>rfl
 | r::z,at_,hne,h=>by
  rw [zdD] at h
  rw [zqu,zkz to_ r at_ (by omega),if_neg (hne r (by simp)),zin to_ z (at_+r.length) (fun y hy=>hne y (by simp [hy])) (by omega)]
  rfl
structure OkP (p:Gpoem_Poem) (t:List UInt8) (z:List Row):Prop extends GoodP t z where
 title:p.told_title=mkB t
 vok:VOk p.told_lines z
 sp:p.told_stanzas=zha 0 z
 most:tot z≤512
theorem OkP.len {p:Gpoem_Poem} {t:List UInt8} {z:List Row} (h:OkP p t z):p.told_lines.length=tot z:=by
 have:=congrArg List.length h.vok
 rw [List.length_map,List.length_map,zkt] at this
 exact this
theorem PInv.ok {st:RS} (h:PInv st) (src:ByteArray):OkP (⟨mkB st.t,st.vs,zha 0 st.stz,src⟩:Gpoem_Poem) st.t st.stz:=⟨h.good,rfl,h.vok,rfl,by have:=h.tot; have:=h.most; omega⟩
theorem zou:∀ (r:Row),(∀ x∈r,x.length≤1024)→wtR r≤r.length*1025
 | [],h=>Nat.zero_le _
 | x::r,h=>by
  have h1:=zou r fun y hy=>h y (by simp [hy])
  have h2:=h x (by simp)
  rw [zeZ,List.length_cons]; omega
theorem zot:∀ (z:List Row),(∀ r∈z,∀ x∈r,x.length≤1024)→wtZ z≤z.length+tot z*1025
 | [],h=>Nat.zero_le _
 | r::z,h=>by
  have h1:=zot z fun y hy=>h y (by simp [hy])
  have h2:=zou r (h r (by simp))
  rw [zge,zdD,List.length_cons]; omega
end Go.Proofs.YtbempdelckaccaaDoor

namespace Go.Proofs.YtbempdelckaccaaDoor
open Go.RowKit Go.Lib
set_option linter.unusedVariables false
set_option linter.unusedSimpArgs false
def k3 (v:Gapi_Verse):ByteArray×Int×Int:=(v.Text,v.Indent,v.Stanza)
theorem zhX (a b:Nat):∀ (L L':List LnE) (i:Nat) (x:List Row×Int),L.map (fun p=>(p.1,p.2.2))=L'.map (fun p=>(p.1,p.2.2))→zeT a b i L x=zeT a b i L' x
 | [],[],i,x,h=>rfl
 | [],q::L',i,x,h=>by cases h
 | p::L,[],i,x,h=>by cases h
 | p::L,q::L',i,x,h=>by
  rw [List.map_cons,List.map_cons] at h
  obtain ⟨h1,h2⟩:=List.cons.inj h
  have e1:p.1=q.1:=(Prod.mk.inj h1).1
  have e2:p.2.2=q.2.2:=(Prod.mk.inj h1).2
  unfold zeT
  rw [e1,e2]
  simp only [zhX a b L L' (i+1) _ h2]
theorem zo5 {p q:LnE} (h:(zjQ p).1=(zjQ q).1∧(zjQ p).2.1=(zjQ q).2.1∧(zjQ p).2.2.1=(zjQ q).2.2.1):(p.1,p.2.2)=(q.1,q.2.2):=by
 obtain ⟨h1,h2,h3⟩:=h
 have e1:=zf4 h1
 have e2:(ind p.2.2:Int)=(ind q.2.2:Int):=h2
 have e3:(p.1:Int)=(q.1:Int):=h3
 have e4:p.2.2=q.2.2:=by
  rw [← zib p.2.2,← zib q.2.2,e1,show ind p.2.2=ind q.2.2 by omega]
 rw [e4,show p.1=q.1 by omega]
theorem ziZ:∀ (L L':List LnE) (vs vs':List Gapi_Verse),vs.map zmf=L.map zjQ→vs'.map zmf=L'.map zjQ→vs.map k3=vs'.map k3→L.map (fun p=>(p.1,p.2.2))=L'.map (fun p=>(p.1,p.2.2))
 | [],[],vs,vs',h1,h2,h3=>rfl
 | [],q::L',vs,vs',h1,h2,h3=>by
  have e1:=congrArg List.length h1; have e2:=congrArg List.length h2; have e3:=congrArg List.length h3
  simp at e1 e2 e3; rw [e1] at e3; simp at e3; rw [← e3] at e2; simp at e2
 | p::L,[],vs,vs',h1,h2,h3=>by
  have e1:=congrArg List.length h1; have e2:=congrArg List.length h2; have e3:=congrArg List.length h3
  simp at e1 e2 e3; rw [e2] at e3; simp at e3; rw [e3] at e1; simp at e1
 | p::L,q::L',vs,vs',h1,h2,h3=>by
  cases vs with
  | nil=>cases h1
  | cons v vs =>
   cases vs' with
   | nil=>cases h2
   | cons v' vs' =>
    rw [List.map_cons,List.map_cons] at h1 h2 h3
    obtain ⟨a1,b1⟩:=List.cons.inj h1
    obtain ⟨a2,b2⟩:=List.cons.inj h2
    obtain ⟨a3,b3⟩:=List.cons.inj h3
    rw [List.map_cons,List.map_cons,ziZ L L' vs vs' b1 b2 b3]
    congr 1
    refine zo5 ⟨?_,?_,?_⟩
    ·rw [← a1,← a2]; exact congrArg (fun x=>x.1) a3
    ·rw [← a1,← a2]; exact congrArg (fun x=>x.2.1) a3
    ·rw [← a1,← a2]; exact congrArg (fun x=>x.2.2) a3
theorem zmn {z z':List Row} (h1:∀ r∈z,r≠[]) (h2:∀ r∈z',r≠[]) (h:(zen 0 z).map (fun p=>(p.1,p.2.2))=(zen 0 z').map (fun p=>(p.1,p.2.2))):z=z':=by
 have e:=zhX 0 (tot z+tot z') _ _ 0 ([],-1) h
 have a:=zgl 0 (tot z+tot z') z 0 0 [] (-1) (by omega)
 have b:=zgl 0 (tot z+tot z') z' 0 0 [] (-1) (by omega)
 rw [zin _ z 0 h1 (by omega)] at a
 rw [zin _ z' 0 h2 (by omega)] at b
 rw [e] at a
 have:[]++z=[]++z':=a.symm.trans b
 simpa using this
theorem zrh {p q:Gpoem_Poem} {t t':List UInt8} {z:List Row} (hp:OkP p t z) (hq:OkP q t' z):p.told_lines.map k3=q.told_lines.map k3:=by
 have h:=hp.vok.trans hq.vok.symm
 have:=congrArg (List.map fun x:ByteArray×Int×Int×Int=>(x.1,x.2.1,x.2.2.1)) h
 rw [List.map_map,List.map_map] at this
 exact this
instance {a b:List (ByteArray×Int×Int)}:Decidable (a=b):=inferInstance
theorem zmD (p q:Gpoem_Poem) (hl:p.told_lines.length=q.told_lines.length) (hb:p.told_lines.length≤1000):∀ (n i:Nat),i≤p.told_lines.length→p.told_lines.length - i<n →
  zaT (fun _=>none) (zbW p q (some true)) n (i:Int)=some (decide ((p.told_lines.drop i).map k3=(q.told_lines.drop i).map k3)):=by
 intro n
 induction n with
 | zero=>intro i h1 h2; omega
 | succ n ih =>
  intro i hi hn
  rw [zbI]
  obtain ⟨ag,hag⟩:∃ ag,ag=zaT (fun _=>none) (zbW p q (some true)) n:=⟨_,rfl⟩
  rw [← hag] at ih ⊢
  unfold zbW
  rcases Nat.lt_or_ge i p.told_lines.length with h | h
  ·have h':i<q.told_lines.length:=by omega
   have hd:=List.drop_eq_getElem_cons h
   have hd':=List.drop_eq_getElem_cons h'
   rw [hd,hd',List.map_cons,List.map_cons]
   refine zaA (decide_eq_true (by omega)) (za3 (zbm (List.getElem?_eq_getElem h)) (za3 (zbm (List.getElem?_eq_getElem h')) ?_))
   generalize p.told_lines[i]=v
   generalize q.told_lines[i]=v'
   by_cases h1:v.Text=v'.Text
   ·refine zav (by rw [decide_eq_true h1]; rfl) ?_
    by_cases h2:v.Indent=v'.Indent
    ·refine zav (by rw [h2]; exact bne_self_eq_false _) ?_
     by_cases h3:v.Stanza=v'.Stanza
     ·refine zav (by rw [h3]; exact bne_self_eq_false _) (zce ⟨by omega,by omega⟩ ?_)
      rw [show (i:Int)+1=((i+1:Nat):Int) by omega,ih (i+1) (by omega) (by omega)]
      have:k3 v=k3 v':=by unfold k3; rw [h1,h2,h3]
      rw [this]
      congr 1
      exact (decide_eq_decide.2 ⟨fun e=>by rw [e],fun e=>(List.cons.inj e).2⟩)
     ·refine zaA (bne_iff_ne.2 h3) ?_
      rw [decide_eq_false (fun e=>h3 (congrArg (fun x:ByteArray×Int×Int=>x.2.2) (List.cons.inj e).1))]
    ·refine zaA (bne_iff_ne.2 h2) ?_
     rw [decide_eq_false (fun e=>h2 (congrArg (fun x:ByteArray×Int×Int=>x.2.1) (List.cons.inj e).1))]
   ·refine zaA (by rw [decide_eq_false h1]; rfl) ?_
    rw [decide_eq_false (fun e=>h1 (congrArg (fun x:ByteArray×Int×Int=>x.1) (List.cons.inj e).1))]
  ·rw [List.drop_eq_nil_of_le h,List.drop_eq_nil_of_le (by omega)]
   exact zav (decide_eq_false (by omega)) rfl
theorem zpT {p q:Gpoem_Poem} {t t':List UInt8} {z z':List Row} (hp:OkP p t z) (hq:OkP q t' z'):zcC p q=some (decide (t=t'∧z=z')):=by
 unfold zcC
 have m1:=hp.most
 have m2:=hq.most
 have l1:=hp.len
 have l2:=hq.len
 by_cases ht:t=t'
 ·refine zav (by rw [hp.title,hq.title,ht]; simp) ?_
  by_cases hl:p.told_lines.length=q.told_lines.length
  ·refine zav (by rw [hl]; exact bne_self_eq_false _) (zbC ?_)
   have:=zmD p q hl (by omega) zb8 0 (Nat.zero_le _) (by unfold zb8; omega)
   rw [List.drop_zero,List.drop_zero] at this
   refine this.trans ?_
   congr 1
   refine decide_eq_decide.2 ⟨fun e=>⟨ht,zmn hp.ne hq.ne (ziZ _ _ _ _ hp.vok hq.vok e)⟩,fun e => ?_⟩
   have hz:=e.2
   subst hz
   exact zrh hp hq
  ·refine zaA (bne_iff_ne.2 (by omega)) ?_
   rw [decide_eq_false (fun e=>hl (by rw [l1,l2,e.2]))]
 ·refine zaA (by rw [hp.title,hq.title,decide_eq_false (fun e=>ht (zf4 e))]; rfl) ?_
  rw [decide_eq_false (fun e=>ht e.1)]
end Go.Proofs.YtbempdelckaccaaDoor

namespace Go.Proofs.YtbempdelckaccaaDoor
open Go.RowKit Go.Lib
set_option linter.unusedVariables false
set_option linter.unusedSimpArgs false
theorem zmW {t:List UInt8} {z:List Row} (h:GoodP t z) (hn:tot z≤512) (hl:(prT t z).length≤65536):∃ p,zda (mkB t) (mkZ z)=some (some p,0)∧OkP p t z∧p.source=mkB (prT t z) ∧
  zcV (mkB (prT t z))=some (some p,(⟨0,0⟩:Gapi_Spot))∧zfp (mkB (prT t z))=some ((⟨mkB t,mkZ z⟩:Gref17_Poem),p.told_lines,(⟨0,0⟩:Gapi_Spot)):=by
 obtain ⟨st,h1,h2,h3⟩:=znU h hn hl
 obtain ⟨hI,_⟩:=zq5 h1
 have hwt:=zot z fun r hr x hx=>(h.ln r hr x hx).le
 have h4:=zms z h.ne
 have h5:=h.tL
 have hr:=zpV (prT t z)
 have hrr:=zmF (prT t z)
 rw [h1] at hr hrr
 have hok:=hI.ok (mkB (prT t z))
 rw [h2,h3] at hok
 refine ⟨(⟨mkB st.t,st.vs,zha 0 st.stz,mkB (prT t z)⟩:Gpoem_Poem),?_,by rw [h2,h3]; exact hok,rfl,hr,?_⟩
 ·rw [zoF t z h.ne (by omega),if_neg (by omega),hr]; rfl
 ·rw [hrr]
  show some ((⟨mkB st.t,mkZ st.stz⟩:Gref17_Poem),st.vs,_)=_
  rw [h2,h3]
end Go.Proofs.YtbempdelckaccaaDoor

namespace Go.Proofs.YtbempdelckaccaaDoor
open Go.RowKit Go.Lib
set_option linter.unusedVariables false
set_option linter.unusedSimpArgs false
def zoP (l:List UInt8):Bool:=!(l.any isE)&&(decide (l.length≤1024)&&!zga l)
theorem zmU (l:List UInt8) (n:Nat):zme (mkB l) (n:Int)=(decide (l.length≤n)&&!(l.any isE)):=by
 unfold zme zi6
 rw [zem,zaY]
 congr 1
 exact decide_eq_decide.2 (by omega)
theorem zlC {R α:Type} {F:(Int→Option R)→Int→Option R} (r:List α) (f:α→Bool) (E J:Option R) (hs:∀ ag (i:Nat) x,r[i]?=some x→F ag (i:Int)=if f x=true then ag ((i+1:Nat):Int) else E) (he:∀ ag,F ag (r.length:Int)=J) :
  ∀ n i,i≤r.length→r.length - i<n→zaT (fun _=>none) F n (i:Int)=if (r.drop i).all f=true then J else E:=by
 intro n
 induction n with
 | zero=>intro i h1 h2; omega
 | succ n ih =>
  intro i hi hn
  rw [zbI]
  rcases Nat.lt_or_ge i r.length with h | h
  ·rw [hs _ i _ (List.getElem?_eq_getElem h),ih (i+1) (by omega) (by omega),List.drop_eq_getElem_cons h,List.all_cons]
   cases f r[i] <;> simp
  ·obtain rfl:i=r.length:=by omega
   rw [he,List.drop_length]; rfl
def zkR (r:Row):Bool:=!r.isEmpty&&r.all zoP
theorem zp7 (t:List UInt8) (z:List Row) (hz:z.length≤140737488355328) (hr:∀ r∈z,r.length≤140737488355328∧∀ x∈r,x.length≤140737488355328):zcW (mkB t) (mkZ z)=if zme (mkB t) 1022=true then (if z.all zkR=true then zda (mkB t) (mkZ z) else some (none,170)) else some (none,170):=by
 unfold zcW
 cases ht:zme (mkB t) 1022 with
 | false=>exact zaA rfl rfl
 | true =>
  rw [if_pos rfl]
  refine zav rfl (zbC ?_)
  have key:∀ J:Option ((Option Gpoem_Poem)×Int),zaT (fun _=>none) (zcE (mkZ z) J) zb8 0=if z.all zkR=true then J else some (none,170):=fun J=>by
   have:=zlC (F:=zcE (mkZ z) J) z zkR (some (none,170)) J (fun ag i r hi => ?_) (fun ag => ?_) zb8 0 (Nat.zero_le _) (by unfold zb8; omega)
   ·rw [List.drop_zero] at this; exact this
   ·unfold zcE
    have hil:=(List.getElem?_eq_some_iff.1 hi).1
    have hg:zcI (mkZ z) (i:Int)=some (r.map mkB):=zbm (by unfold mkZ; rw [List.getElem?_map,hi]; rfl)
    obtain ⟨hrl,hrx⟩:=hr r (List.mem_of_getElem? hi)
    refine zaA (decide_eq_true (by show (i:Int)<((mkZ z).length:Int); rw [zef]; omega)) (zbC (za3 hg ?_))
    have go:(grd (I64 ((i:Int)+1))<|ag ((i:Int)+1))=ag ((i+1:Nat):Int):=zce ⟨by omega,by omega⟩ (by rw [show (i:Int)+1=((i+1:Nat):Int) by omega])
    rw [go]
    cases r with
    | nil=>exact zaA rfl rfl
    | cons y r =>
     refine zav (by rw [List.length_map]; exact beq_eq_false_iff_ne.2 (by rw [List.length_cons]; omega)) ?_
     have hin:=zlC (F:=zcS (ag ((i+1:Nat):Int)) ((y::r).map mkB)) (y::r) zoP (some (none,170)) (ag ((i+1:Nat):Int)) (fun ag2 k x hk => ?_) (fun ag2 => ?_) zb8 0 (Nat.zero_le _) (by unfold zb8; omega)
     ·rw [List.drop_zero] at hin
      refine hin.trans ?_
      unfold zkR
      simp
     ·unfold zcS
      have hkl:=(List.getElem?_eq_some_iff.1 hk).1
      have hgk:zcI ((y::r).map mkB) (k:Int)=some (mkB x):=zbm (by rw [List.getElem?_map,hk]; rfl)
      have hxl:=hrx x (List.mem_of_getElem? hk)
      refine zaA (decide_eq_true (by rw [List.length_map]; omega)) (za3 hgk ?_)
      have hmay:=zmU x 1024
      rw [show ((1024:Nat):Int)=1024 from rfl] at hmay
      cases hm:zme (mkB x) 1024 with
      | false =>
       have:zoP x=false:=by
        unfold zoP
        rw [hmay] at hm
        cases h1:decide (x.length≤1024) <;> cases h2:x.any isE <;> simp_all
       rw [this]; exact zaA rfl rfl
      | true =>
       refine zav rfl (za3 (znn x (by omega)) ?_)
       have:zoP x=!zga x:=by
        unfold zoP
        rw [hmay,Bool.and_eq_true] at hm
        rw [hm.1,hm.2]; simp
       rw [this]
       cases zga x with
       | true=>exact zaA rfl rfl
       | false=>exact zav rfl (zce ⟨by omega,by omega⟩ (by rw [show (k:Int)+1=((k+1:Nat):Int) by omega]; rfl))
     ·unfold zcS
      exact zav (decide_eq_false (by rw [List.length_map]; omega)) rfl
   ·unfold zcE
    exact zav (decide_eq_false (by show ¬ (z.length:Int)<((mkZ z).length:Int); rw [zef]; omega)) rfl
  rw [key]
  generalize zda (mkB t) (mkZ z)=o
  cases o <;> rfl
end Go.Proofs.YtbempdelckaccaaDoor

namespace Go.Proofs.YtbempdelckaccaaDoor
open Go.RowKit Go.Lib
set_option linter.unusedVariables false
set_option linter.unusedSimpArgs false
def ze1 (r1:Int):Option Int :=
zbk (fun (j1:Option Int) =>
zam ((r1:Int) != 65533) (
zam (decide (Utf8.encode r1=(⟨#[239,191,189]⟩:ByteArray))) (
some 0
) (
j1
)
) (
j1
)
) (
some ((Utf8.encode r1).size:Int)
)
theorem ziD {r1:Int} {r:Int} (h:ze1 r1=some r):FnP Tryd.prog 117 [.int .i32 r1] (zI r):=by
 unfold ze1 at h
 refine FnP.intro Tryd.func117 rfl Tryd.ntmps117 (by simp) ?_
 intro w0 K
 obtain ⟨j1,hj1,h⟩:=zbU h
 refine zaZ (β:=Unit) 1 rfl (fun b=>j1=some r) (fun b=>[]) (fun b=>[(0,.int .i32 r1)]) (fun b=>[]) (fun cut => ?_) ?_
 ·
  refine zyG (zyR 1 rfl (zyN (cut (zyG (zyR 1 rfl (zaQ rfl zbF (zyR 1 rfl ?_)))))))
  refine zyS (s:=5) rfl h (fun h => ?_) (fun h => ?_)
  ·
   refine zyR 1 rfl (zg8 rfl dc rfl (zgH Tryd.underlying21 Tryd.underlying9) (zaQ rfl zfG (zyR 1 rfl (zyN ?_))))
   refine zyB rfl h (fun h => ?_) (fun h => ?_)
   ·
    refine zyG (zyR 1 rfl (zyN (zax (zag ?_))))
    cases h
    exact zaC (rs:=[.tmp 2]) () (.inl rfl) Tryd.results117 (.cons (.tmp rfl) .nil) rfl Splits.nil
   refine zar ?_
   exact zai () h rfl (za1 rfl) Splits.nil
  refine zyR 4 rfl (zyN (zaP rfl (zar ?_)))
  exact zai () h rfl (za1 rfl) Splits.nil
 rintro _ h
 rw [hj1] at h
 refine zyG (zyR 1 rfl (zg8 rfl dc rfl (zgH Tryd.underlying21 Tryd.underlying9) (zbt rfl dc rfl Tryd.underlying9 (zyR 1 rfl (zyN (zax ?_))))))
 cases h
 exact zaC (rs:=[.tmp 2]) () (.inl rfl) Tryd.results117 (.cons (.tmp rfl) .nil) rfl Splits.nil
def zdE (s1:ByteArray) (at1:Int) (j1:Option Gapi_Piece) (ag1:Option Gapi_Piece):Option Gapi_Piece :=
zam (decide (0<(pcs (zcu s1 at1 (s1.size:Int)).data.toList).length)) (
zan ((pcs (zcu s1 at1 (s1.size:Int)).data.toList)[0]?) fun (p1:Pc) =>
zbk (fun (j2:Int→Option Gapi_Piece) =>
zan (ze1 (p1.r:Int)) fun (r1:Int) =>
zam (((p1.r:Int):Int)==65533) (
grd (I64 ((s1.size:Int) - at1)) <|
zam (decide ((((s1.size:Int) - at1):Int)<3)) (
some (⟨at1,1,65533,true⟩:Gapi_Piece)
) (
grd (I64 (at1+3)) <|
grd (0≤(at1:Int)∧(at1:Int)≤(at1+3)∧(at1+3:Int)≤(s1.size:Int)) <|
zam (!decide (zcu s1 at1 (at1+3)=(⟨#[239,191,189]⟩:ByteArray))) (
some (⟨at1,1,65533,true⟩:Gapi_Piece)
) (
j2 r1
)
)
) (
j2 r1
)
) (fun (n2:Int) =>
some (⟨at1,n2,(p1.r:Int),false⟩:Gapi_Piece)
)
) (
j1
)
def zfn (s1:ByteArray) (at1:Int):Option Gapi_Piece :=
zbk (fun (j1:Option Gapi_Piece) =>
grd (0≤(at1:Int)∧(at1:Int)≤(s1.size:Int)∧((s1.size:Int):Int)≤(s1.size:Int)) <|
zaT none (zdE s1 at1 j1) zb8
) (
some (⟨0,0,0,false⟩:Gapi_Piece)
)
theorem zjm {s1:ByteArray} {at1:Int} {r:Gapi_Piece} (h:zfn s1 at1=some r):FnP Tryd.prog 113 [.string s1,zI at1] (.agg (zr1 r).toArray):=by
 unfold zfn at h
 refine FnP.intro Tryd.func113 rfl Tryd.ntmps113 (by simp) ?_
 intro w0 K
 obtain ⟨j1,hj1,h⟩:=zbU h
 refine zaZ (β:=Nat) 1 rfl (fun b=>j1=some r) (fun b=>[]) (fun b=>[(4,zP b)]) (fun b=>[cells b [zI 0,zI 0,.int .i32 0,.bool false] 187]) (fun cut => ?_) ?_
 ·
  refine zyG ?_
  refine zbY zml rfl dc (fun b2 => ?_)
  refine zyN (cut (zyG (zyR 2 rfl ?_)))
  obtain ⟨hg1,h⟩:=zbM h
  refine zd5 rfl dc rfl rfl rfl (zcf (i:=at1) (j:=(s1.size:Int)) Tryd.underlying9 (.inr rfl) (.inl ⟨rfl,rfl⟩) hg1) ?_
  refine zdh Tryd.underlying9 rfl dc rfl (fun b3 => ?_)
  refine zyN (zaL ?_)
  refine zbK (β:=Nat) (fun b=>zaT none (zdE s1 at1 j1) b=some r) (fun b=>[]) (fun b=>[(0,.string s1),(1,zI at1),(4,zP b2),(11,zP b3)]) (fun b=>[cells b2 [zI 0,zI 0,.int .i32 0,.bool false] 187,obj b3 (.stringIter (zcu s1 at1 (s1.size:Int)) (zed (zcu s1 at1 (s1.size:Int)) 0))]) (fun b=>b) zb8 h rfl (za1 rfl) (zae [0,1] kr rfl) ?_
  rintro n1 h
  cases n1 with
  | zero=>exact zdu h
  | succ n1 =>
   obtain ⟨ag1,hag1⟩:∃ ag,ag=zaT none (zdE s1 at1 j1) n1:=⟨_,rfl⟩
   have h:zdE s1 at1 j1 ag1=some r:=by rw [hag1]; exact h
   unfold zdE at h
   refine zyG ?_
   refine zdo (b:=decide (0<(pcs (zcu s1 at1 (s1.size:Int)).data.toList).length)) (fun hb1 => ?_) (fun hb1 => ?_)
   ·
    have h:=zc1 hb1 h
    obtain ⟨p1,hq1,h⟩:=zbT h
    refine zdA (k:=1) (m:=0) (p:=p1) rfl dc rfl rfl hq1 (zaE rfl dc rfl rfl (zyN (zaF (zbg rfl (zar (zaH (zaL ?_)))))))
    obtain ⟨j2,hj2,h⟩:=zbU h
    refine zaZ (β:=Int) 2 rfl (fun b=>j2 b=some r) (fun b=>[]) (fun b=>[(1,zI at1),(4,zP b2),(6,.int .i32 (p1.r:Int)),(7,zI b)]) (fun b=>[cells b2 [zI 0,zI 0,.int .i32 0,.bool false] 187]) (fun cut => ?_) ?_
    ·
     refine zyG (zaE rfl dc rfl rfl (zyR 1 rfl (zyH (zyR 1 rfl ?_))))
     obtain ⟨r1,hq2,h⟩:=zbT h
     refine zbb (v:=zI r1) (vs:=[.int .i32 (p1.r:Int)]) rfl dc rfl rfl rfl zqn (ziD hq2) (zyR 1 rfl (zyN (cut (zyG (zyR 1 rfl (zaQ rfl zaq (zyR 1 rfl ?_)))))))
     refine zyS (s:=19) rfl h (fun h => ?_) (fun h => ?_)
     ·
      refine zyR 1 rfl (zbt rfl dc rfl Tryd.underlying9 (zyR 1 rfl ?_))
      obtain ⟨hg2,h⟩:=zbM h
      refine zaQ rfl (zcc (r:=(s1.size:Int) - at1) (IntWalk.i64_in _ hg2)) (zaQ rfl zbV (zyR 1 rfl ?_))
      refine zyS (s:=25) rfl h (fun h => ?_) (fun h => ?_)
      ·
       refine zyR 8 rfl (zyN (zbg rfl (zyG (zyR 1 rfl ?_))))
       refine zbJ (v:=.agg #[zI at1,zI 1,.int .i32 65533,.bool true]) (ps:=[(0,.tmp 34),(1,.const (zI 1)),(2,.const (.int .i32 65533)),(3,.const (.bool true))]) rfl dc rfl (fun _=>by kernel_rfl) ?_
       refine za6 (k:=0) (vs:=[zI at1,zI 1,.int .i32 65533,.bool true]) (l':=[zI at1,zI 1,.int .i32 65533,.bool true]) zgg rfl rfl rfl rfl rfl (show _≤_ by simp) rfl rfl ?_
       refine zyN (zax (zag (zaj (zag (zaj (zag ?_))))))
       cases h
       exact zaC (rs:=[.cell 4 187]) () (.inl rfl) Tryd.results113 (.cons (.cells zdT (k:=0) rfl rfl rfl) .nil) rfl Splits.nil
      refine zyR 3 rfl ?_
      obtain ⟨hg3,h⟩:=zbM h
      refine zaQ rfl (zaW (r:=at1+3) (IntWalk.i64_in _ hg3)) ?_
      obtain ⟨hg4,h⟩:=zbM h
      refine zd5 rfl dc rfl rfl rfl (zcf (i:=at1) (j:=at1+3) Tryd.underlying9 (.inr rfl) (.inr rfl) hg4) (zaQ rfl zgJ (zyR 2 rfl (zyN ?_)))
      refine zyB rfl h (fun h => ?_) (fun h => ?_)
      ·
       refine zyG (zyR 1 rfl ?_)
       refine zbJ (v:=.agg #[zI at1,zI 1,.int .i32 65533,.bool true]) (ps:=[(0,.tmp 34),(1,.const (zI 1)),(2,.const (.int .i32 65533)),(3,.const (.bool true))]) rfl dc rfl (fun _=>by kernel_rfl) ?_
       refine za6 (k:=0) (vs:=[zI at1,zI 1,.int .i32 65533,.bool true]) (l':=[zI at1,zI 1,.int .i32 65533,.bool true]) zgg rfl rfl rfl rfl rfl (show _≤_ by simp) rfl rfl ?_
       refine zyN (zax (zag (zaj (zag (zaj (zag ?_))))))
       cases h
       exact zaC (rs:=[.cell 4 187]) () (.inl rfl) Tryd.results113 (.cons (.cells zdT (k:=0) rfl rfl rfl) .nil) rfl Splits.nil
      refine zar ?_
      exact zai r1 h rfl (za1 rfl) (zae [0] kr rfl)
     refine zyR 14 rfl ?_
     refine zyN (zaP rfl (zar ?_))
     exact zai r1 h rfl (za1 rfl) (zae [0] kr rfl)
    rintro n2 h
    rw [hj2] at h
    refine zyG (zyR 3 rfl ?_)
    refine zbJ (v:=.agg #[zI at1,zI n2,.int .i32 (p1.r:Int),.bool false]) (ps:=[(0,.tmp 36),(1,.tmp 37),(2,.tmp 38)]) rfl dc rfl (fun _=>by kernel_rfl) ?_
    refine za6 (k:=0) (vs:=[zI at1,zI n2,.int .i32 (p1.r:Int),.bool false]) (l':=[zI at1,zI n2,.int .i32 (p1.r:Int),.bool false]) zgg rfl rfl rfl rfl rfl (show _≤_ by simp) rfl rfl (zyN (zax (zaj (zag (zaj (zag ?_))))))
    cases h
    exact zaC (rs:=[.cell 4 187]) () (.inl rfl) Tryd.results113 (.cons (.cells zdT (k:=0) rfl rfl rfl) .nil) rfl Splits.nil
   have h:=zc2 hb1 h
   refine zdB (k:=1) (m:=0) rfl dc rfl rfl (Nat.le_of_not_lt (of_decide_eq_false hb1)) (zaE rfl dc rfl rfl (zyN (zaF (zaP rfl (zbc (zap (zap (zaw ?_))))))))
   exact zai b2 h rfl (za1 rfl) (zae [0] kr rfl)
 rintro b1 h
 rw [hj1] at h
 refine zyG ?_
 refine zbJ (v:=.agg #[zI 0,zI 0,.int .i32 0,.bool false]) (ps:=[]) rfl dc rfl (fun _=>by kernel_rfl) ?_
 refine za6 (k:=0) (vs:=[zI 0,zI 0,.int .i32 0,.bool false]) (l':=[zI 0,zI 0,.int .i32 0,.bool false]) zgg rfl rfl rfl rfl rfl (show _≤_ by simp) rfl rfl (zyN (zax ?_))
 cases h
 exact zaC (rs:=[.cell 4 187]) () (.inl rfl) Tryd.results113 (.cons (.cells zdT (k:=0) rfl rfl rfl) .nil) rfl Splits.nil
def zcL (c0:ByteArray) (ag1:Nat→Option (List Gapi_Piece)) (m3:Nat):Option (List Gapi_Piece) :=
zam (decide (m3<(pcs c0.data.toList).length)) (
zan ((pcs c0.data.toList)[m3]?) fun (p1:Pc) =>
zan (zfn c0 (p1.i:Int)) fun (r1:Gapi_Piece) =>
zip r1 <|
ag1 (m3+1)
) (
some []
)
def zec (c0:ByteArray):Option (List Gapi_Piece) :=
zaT (fun _=>none) (zcL c0) zb8 0
theorem zgk {b_c0:Nat} {c0:ByteArray} {xs:(List Gapi_Piece)} (h:zec c0=some xs):Itr Tryd.prog 112 [zP b_c0] (fun q:Gapi_Piece=>[.agg (zr1 q).toArray]) xs [(b_c0,.cells #[.string c0] 9 (0,0))]:=by
 unfold zec at h
 refine Itr.intro Tryd.func112 rfl Tryd.ntmps112 (by simp) ?_
 intro l w0 K I X hRo hy
 obtain ⟨r0,hx0⟩:∃ r,xs=[]++r:=⟨xs,rfl⟩
 have hr0:xs=r0:=hx0
 rw [hr0] at h
 refine zyG (ziv (i:=0) hRo zht rfl dc rfl rfl rfl ?_)
 refine zdh Tryd.underlying9 rfl dc rfl (fun b1 => ?_)
 refine zyN (zaL ?_)
 refine zbK (β:=Nat×Nat×(List Gapi_Piece)×(List Gapi_Piece)) (fun b=>zaT (fun _=>none) (zcL c0) b.1 b.2.1=some b.2.2.2∧xs=b.2.2.1++b.2.2.2) (fun b=>[]) (fun b=>[(0,.func (.yield l) #[] #[]),(1,zP b_c0),(5,zP b1)]) (fun b=>[I b.2.2.1,obj b1 (.stringIter c0 (zed c0 b.2.1))]) (fun b=>b.1) (zb8,0,([]:List Gapi_Piece),r0) ⟨h,hx0⟩ rfl (za1 rfl) (zae [0,1] kr rfl) ?_
 rintro ⟨n1,m3,acc3,rr3⟩ ⟨h,hx3⟩
 cases n1 with
 | zero=>exact zdu h
 | succ n1 =>
  obtain ⟨ag1,hag1⟩:∃ ag,ag=zaT (fun _=>none) (zcL c0) n1:=⟨_,rfl⟩
  have h:zcL c0 ag1 m3=some rr3:=by rw [hag1]; exact h
  unfold zcL at h
  refine zyG ?_
  refine zdo (b:=decide (m3<(pcs c0.data.toList).length)) (fun hb1 => ?_) (fun hb1 => ?_)
  ·
   have h:=zc1 hb1 h
   obtain ⟨p1,hq1,h⟩:=zbT h
   refine zdA (k:=1) (m:=m3) (p:=p1) rfl dc rfl rfl hq1 (zaE rfl dc rfl rfl (zyN (zaF (zbg rfl (zar (zaH (zaL (zyG (zaE rfl dc rfl rfl (zyR 1 rfl (zaK ?_)))))))))))
   refine zaH (zyG (zyR 1 rfl (ziv (i:=0) hRo zht rfl dc rfl rfl rfl (zyR 1 rfl ?_))))
   obtain ⟨r1,hq2,h⟩:=zbT h
   refine zbb (v:=.agg (zr1 r1).toArray) (vs:=[.string c0,zI (p1.i:Int)]) rfl dc rfl rfl rfl zqp (zjm hq2) ?_
   obtain ⟨rr4,hr1,h⟩:=ziK h
   have hx4:xs=acc3++r1::rr4:=by rw [hx3,hr1]
   refine zd4 hy rfl dc rfl hx4 rfl (k:=0) rfl ?_ ?_
   ·
    have hx5:xs=(acc3++[r1])++rr4:=by rw [hx4]; simp
    refine zdg rfl dc rfl zch (zyN (zaP rfl (zar (zal ?_))))
    subst hag1
    exact za8 (n1,m3+1,acc3++[r1],rr4) ⟨h,hx5⟩ (Nat.lt_succ_self _) rfl (za1 rfl) (zae [0,1] kr rfl)
   refine zdg rfl dc rfl zch (zyN (zbg rfl (zax (zaj (zag (zaj ?_))))))
   exact zk8 (ds:=[]) acc3 r1 rr4 hx4 (.inl rfl) Splits.nil Tryd.results112 (zae [0] kr rfl)
  have h:=zc2 hb1 h
  refine zdB (k:=1) (m:=m3) rfl dc rfl rfl (Nat.le_of_not_lt (of_decide_eq_false hb1)) (zaE rfl dc rfl rfl (zyN (zaF (zaP rfl (zbc (zap (zap (zaw ?_))))))))
  cases h
  exact zk7 (ds:=[]) (.inr rfl) Splits.nil Tryd.results112 (congrArg I (hx3.trans (List.append_nil _))) (zae [0] kr rfl)
def zeK (s1:ByteArray):Option ByteArray :=
some s1
theorem zhW {s1:ByteArray} {r:ByteArray} (h:zeK s1=some r):Fn Tryd.prog 99 [.string s1] [] (fun v0:Nat=>.func (.func 112) #[] #[zP v0]) (fun v0=>[cells v0 [.string r] 9]):=by
 unfold zeK at h
 refine Fn.intro Tryd.func99 rfl Tryd.ntmps99 (by simp) ?_
 intro w0 K
 refine zyG ?_
 refine zeC rfl dc rfl (fun b1 => ?_)
 refine zyR 1 rfl (zyH (ziu (x1:=[]) (x2:=[.tmp 1]) rfl dc rfl rfl (zyR 1 rfl (zyN (zax ?_)))))
 cases h
 exact zaC (rs:=[.tmp 2]) b1 (.inl rfl) Tryd.results99 (.cons (.tmp rfl) .nil) rfl (zae [0] kr rfl)
end Go.Proofs.YtbempdelckaccaaDoor


namespace Go.Proofs.YtbempdelckaccaaDoor
open Go.RowKit Go.Lib
set_option linter.unusedVariables false
set_option linter.unusedSimpArgs false
end Go.Proofs.YtbempdelckaccaaDoor

namespace Go.Proofs.YtbempdelckaccaaDoor
open Go.RowKit Go.Lib
set_option linter.unusedVariables false
set_option linter.unusedSimpArgs false
def zde (r1:Int) (j1:Option Bool) (ag1:Bool→Nat→Option Bool) (within3:Bool) (m3:Nat):Option Bool :=
zam (decide (m3<(pcs (⟨#[225,132,128,225,133,159,226,186,128,227,128,190,227,129,129,228,182,191,228,184,128,234,147,143,234,176,128,237,158,163,239,164,128,239,171,191,239,184,176,239,185,175,239,188,128,239,189,160,239,191,160,239,191,166,240,159,140,128,240,159,153,143,240,159,164,128,240,159,167,191,240,160,128,128,240,191,191,189]⟩:ByteArray).data.toList).length)) (
zan ((pcs (⟨#[225,132,128,225,133,159,226,186,128,227,128,190,227,129,129,228,182,191,228,184,128,234,147,143,234,176,128,237,158,163,239,164,128,239,171,191,239,184,176,239,185,175,239,188,128,239,189,160,239,191,160,239,191,166,240,159,140,128,240,159,153,143,240,159,164,128,240,159,167,191,240,160,128,128,240,191,191,189]⟩:ByteArray).data.toList)[m3]?) fun (p1:Pc) =>
zbk (fun (j2:Bool→Bool→Option Bool) =>
zam (!within3) (
zam (decide ((r1:Int)<(p1.r:Int))) (
some within3
) (
zam (within3) (
zam (decide ((r1:Int)≤(p1.r:Int))) (
some within3
) (
j2 true (decide ((r1:Int)≤(p1.r:Int)))
)
) (
j2 false false
)
)
) (
zam (within3) (
zam (decide ((r1:Int)≤(p1.r:Int))) (
some within3
) (
j2 true (decide ((r1:Int)≤(p1.r:Int)))
)
) (
j2 false false
)
)
) (fun (x1:Bool) (x2:Bool) =>
ag1 (!within3) (m3+1)
)
) (
j1
)
def zeP (r1:Int):Option Bool :=
zbk (fun (j1:Option Bool) =>
zaT (fun _ _=>none) (zde r1 j1) zb8 false 0
) (
some false
)
theorem ziq {r1:Int} {r:Bool} (h:zeP r1=some r):FnP Tryd.prog 115 [.int .i32 r1] (.bool r):=by
 unfold zeP at h
 refine FnP.intro Tryd.func115 rfl Tryd.ntmps115 (by simp) ?_
 intro w0 K
 obtain ⟨j1,hj1,h⟩:=zbU h
 refine zaZ (β:=Unit) 2 rfl (fun b=>j1=some r) (fun b=>[]) (fun b=>[]) (fun b=>[]) (fun cut => ?_) ?_
 ·
  refine zyG (zyR 1 rfl (zyH (zyR 1 rfl (zyN (cut (zyG ?_))))))
  refine zdh Tryd.underlying9 rfl dc rfl (fun b1 => ?_)
  refine zyN (zaL ?_)
  refine zbK (β:=Nat×Bool×Nat) (fun b=>zaT (fun _ _=>none) (zde r1 j1) b.1 b.2.1 b.2.2=some r) (fun b=>[]) (fun b=>[(0,.int .i32 r1),(3,.bool b.2.1),(6,zP b1)]) (fun b=>[obj b1 (.stringIter (⟨#[225,132,128,225,133,159,226,186,128,227,128,190,227,129,129,228,182,191,228,184,128,234,147,143,234,176,128,237,158,163,239,164,128,239,171,191,239,184,176,239,185,175,239,188,128,239,189,160,239,191,160,239,191,166,240,159,140,128,240,159,153,143,240,159,164,128,240,159,167,191,240,160,128,128,240,191,191,189]⟩:ByteArray) (zed (⟨#[225,132,128,225,133,159,226,186,128,227,128,190,227,129,129,228,182,191,228,184,128,234,147,143,234,176,128,237,158,163,239,164,128,239,171,191,239,184,176,239,185,175,239,188,128,239,189,160,239,191,160,239,191,166,240,159,140,128,240,159,153,143,240,159,164,128,240,159,167,191,240,160,128,128,240,191,191,189]⟩:ByteArray) b.2.2))]) (fun b=>b.1) (zb8,false,0) (by exact h) rfl (za1 rfl) (zae [0] kr rfl) ?_
  rintro ⟨n1,within3,m3⟩ h
  cases n1 with
  | zero=>exact zdu h
  | succ n1 =>
   obtain ⟨ag1,hag1⟩:∃ ag,ag=zaT (fun _ _=>none) (zde r1 j1) n1:=⟨_,rfl⟩
   have h:zde r1 j1 ag1 within3 m3=some r:=by rw [hag1]; exact h
   unfold zde at h
   refine zyG ?_
   refine zdo (b:=decide (m3<(pcs (⟨#[225,132,128,225,133,159,226,186,128,227,128,190,227,129,129,228,182,191,228,184,128,234,147,143,234,176,128,237,158,163,239,164,128,239,171,191,239,184,176,239,185,175,239,188,128,239,189,160,239,191,160,239,191,166,240,159,140,128,240,159,153,143,240,159,164,128,240,159,167,191,240,160,128,128,240,191,191,189]⟩:ByteArray).data.toList).length)) (fun hb1 => ?_) (fun hb1 => ?_)
   ·
    have h:=zc1 hb1 h
    obtain ⟨p1,hq1,h⟩:=zbT h
    refine zdA (k:=0) (m:=m3) (p:=p1) rfl dc rfl rfl hq1 (zaE rfl dc rfl rfl (zyN (zaF (zbg rfl (zar (zaH (zaL ?_)))))))
    obtain ⟨j2,hj2,h⟩:=zbU h
    refine zaZ (β:=Bool×Bool) 1 rfl (fun b=>j2 b.1 b.2=some r) (fun b=>[]) (fun b=>[(0,.int .i32 r1),(3,.bool within3),(6,zP b1),(18,.bool within3),(19,.bool b.1),(23,.bool b.2)]) (fun b=>[obj b1 (.stringIter (⟨#[225,132,128,225,133,159,226,186,128,227,128,190,227,129,129,228,182,191,228,184,128,234,147,143,234,176,128,237,158,163,239,164,128,239,171,191,239,184,176,239,185,175,239,188,128,239,189,160,239,191,160,239,191,166,240,159,140,128,240,159,153,143,240,159,164,128,240,159,167,191,240,160,128,128,240,191,191,189]⟩:ByteArray) (zed (⟨#[225,132,128,225,133,159,226,186,128,227,128,190,227,129,129,228,182,191,228,184,128,234,147,143,234,176,128,237,158,163,239,164,128,239,171,191,239,184,176,239,185,175,239,188,128,239,189,160,239,191,160,239,191,166,240,159,140,128,240,159,153,143,240,159,164,128,240,159,167,191,240,160,128,128,240,191,191,189]⟩:ByteArray) (m3+1)))]) (fun cut => ?_) ?_
    ·
     refine zyG (zaE rfl dc rfl rfl (zyR 1 rfl (zyN (cut (zyG (zyR 1 rfl (zdg rfl dc rfl zch (zyR 1 rfl ?_))))))))
     refine zyS (s:=12) rfl h (fun h => ?_) (fun h => ?_)
     ·
      refine zyR 2 rfl (zaQ rfl zbV (zyR 2 rfl ?_))
      refine zyS (s:=17) rfl h (fun h => ?_) (fun h => ?_)
      ·
       refine zyR 7 rfl (zyN (zbg rfl (zyG (zyR 2 rfl ?_))))
       refine zyN (zax (zag (zaj (zag (zaj (zag ?_))))))
       cases h
       exact zaC (rs:=[.tmp 2]) () (.inl rfl) Tryd.results115 (.cons (.tmp rfl) .nil) rfl Splits.nil
      refine zyR 2 rfl ?_
      refine zyS (s:=19) rfl h (fun h => ?_) (fun h => ?_)
      ·
       refine zyR 2 rfl (zaQ rfl zd1 (zyR 2 rfl (zyN ?_)))
       refine zyB rfl h (fun h => ?_) (fun h => ?_)
       ·
        refine zyG (zyR 2 rfl (zyN (zax (zag (zaj (zag (zaj (zag ?_))))))))
        cases h
        exact zaC (rs:=[.tmp 2]) () (.inl rfl) Tryd.results115 (.cons (.tmp rfl) .nil) rfl Splits.nil
       refine zar ?_
       exact zai (true,decide ((r1:Int)≤(p1.r:Int))) h rfl (za1 rfl) (zae [0] kr rfl)
      refine zyR 5 rfl (zyN (zaP rfl (zar ?_)))
      exact zai (false,false) h rfl (za1 rfl) (zae [0] kr rfl)
     refine zyR 7 rfl ?_
     refine zyS (s:=19) rfl h (fun h => ?_) (fun h => ?_)
     ·
      refine zyR 2 rfl (zaQ rfl zd1 (zyR 2 rfl (zyN ?_)))
      refine zyB rfl h (fun h => ?_) (fun h => ?_)
      ·
       refine zyG (zyR 2 rfl (zyN (zax (zag (zaj (zag (zaj (zag ?_))))))))
       cases h
       exact zaC (rs:=[.tmp 2]) () (.inl rfl) Tryd.results115 (.cons (.tmp rfl) .nil) rfl Splits.nil
      refine zar ?_
      exact zai (true,decide ((r1:Int)≤(p1.r:Int))) h rfl (za1 rfl) (zae [0] kr rfl)
     refine zyR 5 rfl (zyN (zaP rfl (zar ?_)))
     exact zai (false,false) h rfl (za1 rfl) (zae [0] kr rfl)
    rintro ⟨x1,x2⟩ h
    rw [hj2] at h
    refine zaG (zyR 1 rfl (zdg rfl dc rfl zch (zyR 1 rfl (zaK (zal ?_)))))
    subst hag1
    exact za8 (n1,!within3,m3+1) h (Nat.lt_succ_self _) rfl (za1 rfl) (zae [0] kr rfl)
   have h:=zc2 hb1 h
   refine zdB (k:=0) (m:=m3) rfl dc rfl rfl (Nat.le_of_not_lt (of_decide_eq_false hb1)) (zaE rfl dc rfl rfl (zyN (zaF (zaP rfl (zbc (zap (zap (zaw ?_))))))))
   exact zai () h rfl (zfy) Splits.nil
 rintro _ h
 rw [hj1] at h
 refine zyG (zyR 1 rfl (zyN (zax ?_)))
 cases h
 exact zaC (rs:=[.tmp 2]) () (.inl rfl) Tryd.results115 (.cons (.tmp rfl) .nil) rfl Splits.nil
def zcO (p1:Gapi_Piece):Option Int :=
grd (I32 p1.Rune) <|
zam (((zc0 p1.Broken p1.Rune):Int)==11) (
some 1
) (
zbk (fun (j1:Bool→Option Int) =>
zam (((zc0 p1.Broken p1.Rune):Int)==2) (
j1 (((zc0 p1.Broken p1.Rune):Int)==2)
) (
zam (((zc0 p1.Broken p1.Rune):Int)==4) (
j1 (((zc0 p1.Broken p1.Rune):Int)==4)
) (
j1 (((zc0 p1.Broken p1.Rune):Int)==9)
)
)
) (fun (x1:Bool) =>
zam (x1) (
some 0
) (
zan (zeP p1.Rune) fun (r1:Bool) =>
zam (r1) (
some 2
) (
some 1
)
)
)
)
theorem zdO {p1:Gapi_Piece} {r:Int} (h:zcO p1=some r):FnP Tryd.prog 102 [.agg (zr1 p1).toArray] (zI r):=by
 unfold zcO at h
 refine FnP.intro Tryd.func102 rfl Tryd.ntmps102 (by simp) ?_
 intro w0 K
 refine zyG ?_
 refine zeC rfl dc rfl (fun b1 => ?_)
 refine zyR 1 rfl (zyN (zaF (zyG (zbf (k:=0) (cs:=(zr1 p1)) zdT rfl dc rfl rfl rfl rfl ?_))))
 obtain ⟨hg1,h⟩:=zbM h
 refine zbb (v:=zI (zc0 p1.Broken p1.Rune)) (vs:=[.agg (zr1 p1).toArray]) rfl dc rfl rfl rfl znm (zrd p1.At p1.Width p1.Rune p1.Broken hg1.1 hg1.2) (zyN (zaL (zyG (zaQ rfl zaq (zyR 1 rfl (zyN ?_))))))
 refine zyB rfl h (fun h => ?_) (fun h => ?_)
 ·
  refine zyG (zyR 1 rfl (zyN (zax (zaj (zag ?_)))))
  cases h
  exact zaC (rs:=[.tmp 2]) () (.inl rfl) Tryd.results102 (.cons (.tmp rfl) .nil) rfl Splits.nil
 obtain ⟨j1,hj1,h⟩:=zbU h
 refine zaZ (β:=Bool) 0 rfl (fun b=>j1 b=some r) (fun b=>[]) (fun b=>[(1,zP b1),(7,.bool b)]) (fun b=>[cells b1 (zr1 p1) 187]) (fun cut => ?_) ?_
 ·
  refine cut (zyG (zaQ rfl zaq (zyR 1 rfl (zyN ?_))))
  refine zyB rfl h (fun h => ?_) (fun h => ?_)
  ·
   refine zar ?_
   exact zai (((zc0 p1.Broken p1.Rune):Int)==2) h rfl (za1 rfl) (zae [0] kr rfl)
  refine zyG (zaQ rfl zaq (zyR 1 rfl (zyN ?_)))
  refine zyB rfl h (fun h => ?_) (fun h => ?_)
  ·
   refine zar ?_
   exact zai (((zc0 p1.Broken p1.Rune):Int)==4) h rfl (za1 rfl) (zae [0] kr rfl)
  refine zaG (zaQ rfl zaq (zyR 1 rfl (zaK ?_)))
  exact zai (((zc0 p1.Broken p1.Rune):Int)==9) h rfl (za1 rfl) (zae [0] kr rfl)
 rintro x1 h
 rw [hj1] at h
 refine zyB rfl h (fun h => ?_) (fun h => ?_)
 ·
  refine zyG (zyR 1 rfl (zyN (zax (zaj (zag ?_)))))
  cases h
  exact zaC (rs:=[.tmp 2]) () (.inl rfl) Tryd.results102 (.cons (.tmp rfl) .nil) rfl Splits.nil
 refine zar (zal (zaH (zaF (zyG (zac zgu rfl dc rfl (show _=2 from rfl) (zah (k:=0) zmB rfl dc rfl rfl rfl ?_))))))
 obtain ⟨r1,hq1,h⟩:=zbT h
 refine zbb (v:=.bool r1) (vs:=[.int .i32 p1.Rune]) rfl dc rfl rfl rfl zqo (ziq hq1) (zyN ?_)
 refine zyB rfl h (fun h => ?_) (fun h => ?_)
 ·
  refine zyG (zyR 1 rfl (zyN (zax (zag ?_))))
  cases h
  exact zaC (rs:=[.tmp 2]) () (.inl rfl) Tryd.results102 (.cons (.tmp rfl) .nil) rfl Splits.nil
 refine zar (zaH (zyG (zyR 1 rfl (zyN (zax ?_)))))
 cases h
 exact zaC (rs:=[.tmp 2]) () (.inl rfl) Tryd.results102 (.cons (.tmp rfl) .nil) rfl Splits.nil
def zdN (head1:Int) (behind1:Gapi_Piece) (p1:Gapi_Piece):Option Bool :=
zam (p1.Broken) (
some false
) (
grd (I32 p1.Rune) <|
zam (((zc0 p1.Broken p1.Rune):Int)==2) (
some true
) (
zam ((p1.Rune:Int)==8205) (
some true
) (
zam ((head1:Int)==10) (
zam (((zc0 p1.Broken p1.Rune):Int)==10) (
some ((behind1.Rune:Int)==8205)
) (
some false
)
) (
some false
)
)
)
)
theorem zfc {head1:Int} {behind1:Gapi_Piece} {p1:Gapi_Piece} {r:Bool} (h:zdN head1 behind1 p1=some r):FnP Tryd.prog 101 [zI head1,.agg (zr1 behind1).toArray,.agg (zr1 p1).toArray] (.bool r):=by
 unfold zdN at h
 refine FnP.intro Tryd.func101 rfl Tryd.ntmps101 (by simp) ?_
 intro w0 K
 refine zyG ?_
 refine zeC rfl dc rfl (fun b1 => ?_)
 refine zeC rfl dc rfl (fun b2 => ?_)
 refine zyR 1 rfl (zyN (zaF (zyG (zac zn9 rfl dc rfl (show _=3 from rfl) (zah (k:=1) zq3 rfl dc rfl rfl rfl (zyN ?_))))))
 refine zyB rfl h (fun h => ?_) (fun h => ?_)
 ·
  refine zyG (zyR 1 rfl (zyN (zax (zag ?_))))
  cases h
  exact zaC (rs:=[.tmp 6]) () (.inl rfl) Tryd.results101 (.cons (.tmp rfl) .nil) rfl Splits.nil
 refine zar (zaH (zyG (zbf (k:=1) (cs:=(zr1 p1)) zdT rfl dc rfl rfl rfl rfl ?_)))
 obtain ⟨hg1,h⟩:=zbM h
 refine zbb (v:=zI (zc0 p1.Broken p1.Rune)) (vs:=[.agg (zr1 p1).toArray]) rfl dc rfl rfl rfl znm (zrd p1.At p1.Width p1.Rune p1.Broken hg1.1 hg1.2) (zyR 1 rfl (zyH (zyR 1 rfl (zaQ rfl zaq (zyR 1 rfl ?_)))))
 refine zyS (s:=14) rfl h (fun h => ?_) (fun h => ?_)
 ·
  refine zyR 14 rfl ?_
  refine zyR 4 rfl (zyN (zax ?_))
  cases h
  exact zaC (rs:=[.tmp 6]) () (.inl rfl) Tryd.results101 (.cons (.tmp rfl) .nil) rfl Splits.nil
 refine zac zgu rfl dc rfl (show _=2 from rfl) (zah (k:=1) zmB rfl dc rfl rfl rfl (zaQ rfl zaq (zyR 2 rfl ?_)))
 refine zyS (s:=19) rfl h (fun h => ?_) (fun h => ?_)
 ·
  refine zyR 13 rfl (zaK ?_)
  refine zaH (zax ?_)
  cases h
  exact zaC (rs:=[.tmp 6]) () (.inl rfl) Tryd.results101 (.cons (.tmp rfl) .nil) rfl Splits.nil
 refine zyR 1 rfl (zaQ rfl zaq (zyR 1 rfl ?_))
 refine zyS (s:=22) rfl h (fun h => ?_) (fun h => ?_)
 ·
  refine zyR 1 rfl (zaQ rfl zaq (zyR 2 rfl ?_))
  refine zyS (s:=26) rfl h (fun h => ?_) (fun h => ?_)
  ·
   refine zac zgu rfl dc rfl (show _=2 from rfl) (zah (k:=0) zmB rfl dc rfl rfl rfl (zaQ rfl zaq (zyR 3 rfl (zyN (zax ?_)))))
   cases h
   exact zaC (rs:=[.tmp 6]) () (.inl rfl) Tryd.results101 (.cons (.tmp rfl) .nil) rfl Splits.nil
  refine zyR 6 rfl (zyN (zax ?_))
  cases h
  exact zaC (rs:=[.tmp 6]) () (.inl rfl) Tryd.results101 (.cons (.tmp rfl) .nil) rfl Splits.nil
 refine zyR 10 rfl (zyN (zax ?_))
 cases h
 exact zaC (rs:=[.tmp 6]) () (.inl rfl) Tryd.results101 (.cons (.tmp rfl) .nil) rfl Splits.nil
def zcP (x1:Gapi_Piece) (ag1:Int→Int→Int→Int→Int→Int→Int→Bool→Bool→Option (List Gapi_Cell)) (now13:Int) (now14:Int) (now15:Int) (head4:Int) (last13:Int) (last14:Int) (last15:Int) (last16:Bool) (open5:Bool):Option (List Gapi_Cell) :=
zbk (fun (j2:Option (List Gapi_Cell)) =>
grd (I32 x1.Rune) <|
zam (!open5) (
j2
) (
zam ((last15:Int)==13) (
zam ((x1.Rune:Int)==10) (
grd (I64 (x1.At+x1.Width)) <|
ag1 now13 (x1.At+x1.Width) now15 head4 x1.At x1.Width x1.Rune x1.Broken open5
) (
zam ((head4:Int) != 11) (
zam ((head4:Int) != 4) (
zam ((head4:Int) != 9) (
zan (zdN head4 (⟨last13,last14,last15,last16⟩:Gapi_Piece) x1) fun (r2:Bool) =>
zam (r2) (
grd (I64 (x1.At+x1.Width)) <|
zan (zcO x1) fun (r3:Int) =>
ag1 now13 (x1.At+x1.Width) (max now15 r3) head4 x1.At x1.Width x1.Rune x1.Broken open5
) (
zip (⟨now13,now14,now15⟩:Gapi_Cell) <|
j2
)
) (
zip (⟨now13,now14,now15⟩:Gapi_Cell) <|
j2
)
) (
zip (⟨now13,now14,now15⟩:Gapi_Cell) <|
j2
)
) (
zip (⟨now13,now14,now15⟩:Gapi_Cell) <|
j2
)
)
) (
zam ((head4:Int) != 11) (
zam ((head4:Int) != 4) (
zam ((head4:Int) != 9) (
zan (zdN head4 (⟨last13,last14,last15,last16⟩:Gapi_Piece) x1) fun (r4:Bool) =>
zam (r4) (
grd (I64 (x1.At+x1.Width)) <|
zan (zcO x1) fun (r5:Int) =>
ag1 now13 (x1.At+x1.Width) (max now15 r5) head4 x1.At x1.Width x1.Rune x1.Broken open5
) (
zip (⟨now13,now14,now15⟩:Gapi_Cell) <|
j2
)
) (
zip (⟨now13,now14,now15⟩:Gapi_Cell) <|
j2
)
) (
zip (⟨now13,now14,now15⟩:Gapi_Cell) <|
j2
)
) (
zip (⟨now13,now14,now15⟩:Gapi_Cell) <|
j2
)
)
)
) (
grd (I64 (x1.At+x1.Width)) <|
zan (zcO x1) fun (r6:Int) =>
ag1 x1.At (x1.At+x1.Width) r6 (zc0 x1.Broken x1.Rune) x1.At x1.Width x1.Rune x1.Broken true
)
def zeg (c0:ByteArray):Option (List Gapi_Cell) :=
zbk (fun (j1:Int→Int→Int→Bool→Option (List Gapi_Cell)) =>
zan (zeK c0) fun (r1:ByteArray) =>
zan (zec r1) fun (its1:(List Gapi_Piece)) =>
zbk (fun (dn1:Int→Int→Int→Int→Int→Int→Int→Bool→Bool→Option (List Gapi_Cell)) =>
zh1 dn1 (zcP) its1 0 0 0 0 0 0 0 false false
) (fun (now13:Int) (now14:Int) (now15:Int) (head4:Int) (last13:Int) (last14:Int) (last15:Int) (last16:Bool) (open5:Bool) =>
j1 now13 now14 now15 open5
)
) (fun (now1:Int) (now2:Int) (now3:Int) (zb4:Bool) =>
zam (zb4) (
zip (⟨now1,now2,now3⟩:Gapi_Cell) <|
some []
) (
some []
)
)
theorem zgI {b_c0:Nat} {c0:ByteArray} {xs:(List Gapi_Cell)} (h:zeg c0=some xs):Itr Tryd.prog 98 [zP b_c0] (fun q:Gapi_Cell=>[.agg (zr0 q).toArray]) xs [(b_c0,.cells #[.string c0] 9 (0,0))]:=by
 unfold zeg at h
 refine Itr.intro Tryd.func98 rfl Tryd.ntmps98 (by simp) ?_
 intro l w0 K I X hRo hy
 obtain ⟨r0,hx0⟩:∃ r,xs=[]++r:=⟨xs,rfl⟩
 have hr0:xs=r0:=hx0
 rw [hr0] at h
 refine zlF ?_
 refine zyG ?_
 refine zeC rfl dc rfl (fun b1 => ?_)
 refine zyN ?_
 refine zeI (β:=Unit) (l:=0) (fun _=>False) (fun _=>[]) (fun _=>[]) rfl ?_ ?_
 ·
  obtain ⟨j1,hj1,h⟩:=zbU h
  refine zaZ (β:=Int×Int×Int×Bool×(List Gapi_Cell)×(List Gapi_Cell)×Nat×Nat×(List Nat)) 5 rfl (fun b=>j1 b.1 b.2.1 b.2.2.1 b.2.2.2.1=some b.2.2.2.2.2.1∧xs=b.2.2.2.2.1++b.2.2.2.2.2.1) (fun b=>zf5 b.2.2.2.2.2.2.2.2) (fun b=>[(2,zP b1),(3,zP b.2.2.2.2.2.2.1),(6,zP b.2.2.2.2.2.2.2.1)]) (fun b=>[I b.2.2.2.2.1,cells b1 [.func (.yield l) #[] #[]] 184,cells b.2.2.2.2.2.2.1 [zI b.1,zI b.2.1,zI b.2.2.1] 106,cells b.2.2.2.2.2.2.2.1 [.bool b.2.2.2.1] 4,ziS ((b.2.2.2.2.2.2.2.2:List Nat).map znE)]) (fun cut => ?_) ?_
  ·
   refine zyG ?_
   refine zbY zos rfl dc (fun b4 => ?_)
   refine zyH ?_
   refine zbY zpC rfl dc (fun b5 => ?_)
   refine zyH ?_
   refine zbY zml rfl dc (fun b6 => ?_)
   refine zyH ?_
   refine zbY zsw rfl dc (fun b7 => ?_)
   refine zbu (k:=6) (l':=[.bool false]) zsi rfl rfl rfl rfl rfl (fun _ _=>rfl) rfl ?_
   refine zyN (zaF (zhM (zaH (cut (zyG (ziv (i:=0) hRo zht rfl dc rfl rfl rfl ?_))))))
   obtain ⟨r1,hq1,h⟩:=zbT h
   refine zeh (vs:=[.string c0]) rfl dc rfl rfl rfl zrl (zhW hq1) Splits.nil ?_
   rintro b8
   refine zyN (zaL ?_)
   obtain ⟨its1,hq2,h⟩:=zbT h
   obtain ⟨dn1,hdn1,h⟩:=zbU h
   refine zlG (α:=Gapi_Piece) (β:=Int×Int×Int×Int×Int×Int×Int×Bool×Bool×(List Gapi_Cell)×(List Gapi_Cell)) (γ:=(List Gapi_Cell×Gapi_Cell×List Gapi_Cell)) (δ:=Nat) (ps:=[11]) hRo rfl zqq (zgk hq2) (fun pre b=>(∀ post,its1=pre++post→zh1 dn1 (zcP) post b.1 b.2.1 b.2.2.1 b.2.2.2.1 b.2.2.2.2.1 b.2.2.2.2.2.1 b.2.2.2.2.2.2.1 b.2.2.2.2.2.2.2.1 b.2.2.2.2.2.2.2.2.1=some b.2.2.2.2.2.2.2.2.2.2)∧xs=b.2.2.2.2.2.2.2.2.2.1++b.2.2.2.2.2.2.2.2.2.2) (fun pre b=>[I b.2.2.2.2.2.2.2.2.2.1,cells b1 [.func (.yield l) #[] #[]] 184,cells b4 [zI b.1,zI b.2.1,zI b.2.2.1] 106,cells b5 [zI b.2.2.2.1] 185,cells b6 [zI b.2.2.2.2.1,zI b.2.2.2.2.2.1,.int .i32 b.2.2.2.2.2.2.1,.bool b.2.2.2.2.2.2.2.1] 187,cells b7 [.bool b.2.2.2.2.2.2.2.2.1] 4]) (fun c pre g=>(fun g=>c=Code.ret∧xs=g.1++g.2.1::g.2.2) g) (fun c pre g=>(fun g=>[X (g.1++[g.2.1])]) g) (fun pre x b j=>[(2,zP b1),(3,zP b4),(4,zP b5),(5,zP b6),(6,zP b7),(10,.func (.func 112) #[] #[zP b8]),(7,zP j)]) (fun pre x b j=>[I b.2.2.2.2.2.2.2.2.2.1,cells b1 [.func (.yield l) #[] #[]] 184,cells b4 [zI b.1,zI b.2.1,zI b.2.2.1] 106,cells b5 [zI b.2.2.2.1] 185,cells b6 [zI b.2.2.2.2.1,zI b.2.2.2.2.2.1,.int .i32 b.2.2.2.2.2.2.1,.bool b.2.2.2.2.2.2.2.1] 187,cells b7 [.bool b.2.2.2.2.2.2.2.2.1] 4,cells j (zr1 x) 187]) (0,0,0,0,0,0,0,false,false,([]:List Gapi_Cell),r0) ⟨fun post e=>(by rw [List.nil_append] at e; subst e; exact h),hx0⟩ (zae [0,2,3,4,5,6] kr rfl) ⟨.inl ⟨7,rfl⟩,trivial⟩ (fun _=>rfl) dc ?_ ?_ ?_ ?_
   ·
    rintro lp rc pre x1 post ⟨now13,now14,now15,head4,last13,last14,last15,last16,open5,acc4,rr4⟩ w1 K1 hxs1 hext hro hinv
    have hy:=hy.later hext
    refine zaG ?_
    refine zbY zml rfl dc (fun b9 => ?_)
    refine za6 (k:=6) (vs:=(zr1 x1)) (l':=(zr1 x1)) zgg rfl rfl rfl rfl rfl (show _≤_ by simp) rfl rfl ?_
    refine zaK ?_
    exact fun a w ha hw=>⟨b9,(za1 rfl) _ _ _ ha,hw.weaken (zae [0,1,2,3,4,5,6] kr rfl)⟩
   ·
    rintro lp rc pre x1 post1 ⟨now13,now14,now15,head4,last13,last14,last15,last16,open5,acc4,rr4⟩ jb1 w1 K1 hxs1 hext hro hinv
    have hy:=hy.later hext
    obtain ⟨hinv,hx4⟩:=hinv
    have h:=hinv (x1::post1) hxs1
    obtain ⟨ag1,hag1⟩:∃ ag,ag=zh1 dn1 (zcP) post1:=⟨_,rfl⟩
    have h:zcP x1 ag1 now13 now14 now15 head4 last13 last14 last15 last16 open5=some rr4:=by rw [hag1]; exact h
    unfold zcP at h
    refine zaL ?_
    obtain ⟨j2,hj2,h⟩:=zbU h
    refine zaZ (β:=(List Gapi_Cell)×(List Gapi_Cell)) 1 rfl (fun b=>j2=some b.2∧xs=b.1++b.2) (fun b=>[]) (fun b=>[(2,zP b1),(3,zP b4),(4,zP b5),(5,zP b6),(6,zP b7),(7,zP jb1),(8,zI (zc0 x1.Broken x1.Rune)),(10,.func (.func 112) #[] #[zP b8])]) (fun b=>[I b.1,cells b1 [.func (.yield l) #[] #[]] 184,cells b4 [zI now13,zI now14,zI now15] 106,cells b5 [zI head4] 185,cells b6 [zI last13,zI last14,.int .i32 last15,.bool last16] 187,cells b7 [.bool open5] 4,cells jb1 (zr1 x1) 187]) (fun cut => ?_) ?_
    ·
     refine zyG (zbf (k:=6) (cs:=(zr1 x1)) zdT rfl dc rfl rfl rfl rfl ?_)
     obtain ⟨hg1,h⟩:=zbM h
     refine zbb (v:=zI (zc0 x1.Broken x1.Rune)) (vs:=[.agg (zr1 x1).toArray]) rfl dc rfl rfl rfl znm (zrd x1.At x1.Width x1.Rune x1.Broken hg1.1 hg1.2) (zyR 1 rfl (zyN (cut (zaL (zyG (zah (k:=5) zq3 rfl dc rfl rfl rfl (zdg rfl dc rfl zch (zyR 1 rfl (zyN ?_)))))))))
     refine zyB rfl h (fun h => ?_) (fun h => ?_)
     ·
      refine zar (zal ?_)
      exact zai (acc4,rr4) ⟨h,hx4⟩ rfl (za1 rfl) (zae [0,1,2,3,4,5,6] kr rfl)
     refine zyG (zac zgu rfl dc rfl (show _=2 from rfl) (zah (k:=4) zmB rfl dc rfl rfl rfl (zaQ rfl zaq (zyR 1 rfl ?_))))
     refine zyS (s:=25) rfl h (fun h => ?_) (fun h => ?_)
     ·
      refine zac zgu rfl dc rfl (show _=2 from rfl) (zah (k:=6) zmB rfl dc rfl rfl rfl (zaQ rfl zaq (zyR 2 rfl (zyN ?_))))
      refine zyB rfl h (fun h => ?_) (fun h => ?_)
      ·
       refine zyG (zac zgv rfl dc rfl (show _=0 from rfl) (zah (k:=6) za5 rfl dc rfl rfl rfl (zac zhI rfl dc rfl (show _=1 from rfl) (zah (k:=6) za5 rfl dc rfl rfl rfl ?_))))
       obtain ⟨hg2,h⟩:=zbM h
       refine zaQ rfl (zaW (r:=x1.At+x1.Width) (IntWalk.i64_in _ hg2)) (zac zfE rfl dc rfl (show _=0 from rfl) (zac zez rfl dc rfl (show _=1 from rfl) ?_))
       refine zbu (k:=2) (l':=[zI now13,zI (x1.At+x1.Width),zI now15]) zhs rfl rfl rfl rfl rfl (fun _ _=>rfl) rfl ?_
       refine zyH (zbf (k:=6) (cs:=(zr1 x1)) zdT rfl dc rfl rfl rfl rfl (za6 (k:=4) (vs:=(zr1 x1)) (l':=(zr1 x1)) zgg rfl rfl rfl rfl rfl (show _≤_ by simp) rfl rfl ?_))
       refine zyN (zbc (zbX dc (zap (zaw ?_))))
       exact zgK (now13,x1.At+x1.Width,now15,head4,x1.At,x1.Width,x1.Rune,x1.Broken,open5,acc4,rr4) ⟨fun post2 e2=>(by have e9:=zfl hxs1 e2; subst e9; subst hag1; exact h),hx4⟩ (zae [0,1,2,3,4,5] kr rfl)
      refine zyG (zah (k:=3) zhb rfl dc rfl rfl rfl (zaQ rfl zbF (zyR 1 rfl ?_)))
      refine zyS (s:=41) rfl h (fun h => ?_) (fun h => ?_)
      ·
       refine zah (k:=3) zhb rfl dc rfl rfl rfl (zaQ rfl zbF (zyR 2 rfl ?_))
       refine zyS (s:=45) rfl h (fun h => ?_) (fun h => ?_)
       ·
        refine zah (k:=3) zhb rfl dc rfl rfl rfl (zaQ rfl zbF (zyR 2 rfl ?_))
        refine zyS (s:=49) rfl h (fun h => ?_) (fun h => ?_)
        ·
         refine zah (k:=3) zhb rfl dc rfl rfl rfl (zbf (k:=4) (cs:=[zI last13,zI last14,.int .i32 last15,.bool last16]) zdT rfl dc rfl rfl rfl rfl (zbf (k:=6) (cs:=(zr1 x1)) zdT rfl dc rfl rfl rfl rfl ?_))
         obtain ⟨r2,hq3,h⟩:=zbT h
         refine zbb (v:=.bool r2) (vs:=[zI head4,.agg #[zI last13,zI last14,.int .i32 last15,.bool last16],.agg (zr1 x1).toArray]) rfl dc rfl rfl rfl zoL (zfc (behind1:=(⟨last13,last14,last15,last16⟩:Gapi_Piece)) (p1:=x1) hq3) (zyR 2 rfl (zyN ?_))
         refine zyB rfl h (fun h => ?_) (fun h => ?_)
         ·
          refine zyG (zac zgv rfl dc rfl (show _=0 from rfl) (zah (k:=6) za5 rfl dc rfl rfl rfl (zac zhI rfl dc rfl (show _=1 from rfl) (zah (k:=6) za5 rfl dc rfl rfl rfl ?_))))
          obtain ⟨hg3,h⟩:=zbM h
          refine zaQ rfl (zaW (r:=x1.At+x1.Width) (IntWalk.i64_in _ hg3)) (zac zfE rfl dc rfl (show _=0 from rfl) (zac zez rfl dc rfl (show _=1 from rfl) ?_))
          refine zbu (k:=2) (l':=[zI now13,zI (x1.At+x1.Width),zI now15]) zhs rfl rfl rfl rfl rfl (fun _ _=>rfl) rfl ?_
          refine zyN (zaF ?_)
          obtain ⟨r3,hq4,h⟩:=zbT h
          refine zaN 4 [(0,62,.pointer (some ⟨b4,2,none⟩)),(1,63,zI now15),(2,64,.agg (zr1 x1).toArray),(3,65,zI r3)] mixed kr kr dc (by rfl) kr kr (zaa ?_ (zaa ?_ (zaa ?_ (zaa ?_ DrawPre.nil)))) ?_
          · exact fun D n d c u i=>zac zgz rfl dc (zaD (by rfl) rfl) (show _=2 from rfl) (zad 0 u i rfl)
          · exact fun D n d c u i=>zah (k:=2) za5 rfl dc (zab (m:=0) u rfl (d 0 dc)) rfl rfl (zad 1 u i rfl)
          · exact fun D n d c u i=>zbf (k:=6) (cs:=(zr1 x1)) zdT rfl dc (zaD (by rfl) rfl) rfl rfl rfl (zad 2 u i rfl)
          · exact fun D n d c u i=>zbb (v:=zI r3) (vs:=[.agg (zr1 x1).toArray]) rfl dc rfl (evL.cons (zab (m:=2) u rfl (d 2 dc)) evL.nil) rfl znl (zdO (p1:=x1) hq4) (zad 3 u i rfl)
          refine zjO rfl dc rfl rfl (zac zgz rfl dc rfl (show _=2 from rfl) ?_)
          refine zbu (k:=2) (l':=[zI now13,zI (x1.At+x1.Width),zI (max now15 r3)]) zhs rfl rfl rfl rfl rfl (fun _ _=>rfl) rfl ?_
          refine zyH (zbf (k:=6) (cs:=(zr1 x1)) zdT rfl dc rfl rfl rfl rfl (za6 (k:=4) (vs:=(zr1 x1)) (l':=(zr1 x1)) zgg rfl rfl rfl rfl rfl (show _≤_ by simp) rfl rfl (zyN (zbc (zbX dc (zap (zaw ?_)))))))
          exact zgK (now13,x1.At+x1.Width,max now15 r3,head4,x1.At,x1.Width,x1.Rune,x1.Broken,open5,acc4,rr4) ⟨fun post2 e2=>(by have e9:=zfl hxs1 e2; subst e9; subst hag1; exact h),hx4⟩ (zae [0,1,2,3,4,5] kr rfl)
         refine zyG (zah (k:=1) zgj rfl dc rfl rfl rfl (zbf (k:=2) (cs:=[zI now13,zI now14,zI now15]) zfN rfl dc rfl rfl rfl rfl ?_))
         obtain ⟨rr6,hr1,h⟩:=ziK h
         have hx6:xs=acc4++(⟨now13,now14,now15⟩:Gapi_Cell)::rr6:=by rw [hx4,hr1]
         refine zd4 hy rfl dc rfl hx6 rfl (k:=0) rfl ?_ ?_
         ·
          have hx7:xs=(acc4++[(⟨now13,now14,now15⟩:Gapi_Cell)])++rr6:=by rw [hx6]; simp
          refine zdg rfl dc rfl zch (zyN (zaP rfl (zar (zal ?_))))
          exact zai (acc4++[(⟨now13,now14,now15⟩:Gapi_Cell)],rr6) ⟨h,hx7⟩ rfl (za1 rfl) (zae [0,1,2,3,4,5,6] kr rfl)
         refine zdg rfl dc rfl zch (zyN (zbg rfl (zax (zaj (zag (zaj ?_))))))
         exact zdf (acc4,(⟨now13,now14,now15⟩:Gapi_Cell),rr6) (show _∧_ from ⟨rfl,hx6⟩) (zae [0] kr rfl)
        refine zyR 6 rfl (zyN (zaP rfl (zyG (zah (k:=1) zgj rfl dc rfl rfl rfl (zbf (k:=2) (cs:=[zI now13,zI now14,zI now15]) zfN rfl dc rfl rfl rfl rfl ?_)))))
        obtain ⟨rr7,hr2,h⟩:=ziK h
        have hx8:xs=acc4++(⟨now13,now14,now15⟩:Gapi_Cell)::rr7:=by rw [hx4,hr2]
        refine zd4 hy rfl dc rfl hx8 rfl (k:=0) rfl ?_ ?_
        ·
         have hx9:xs=(acc4++[(⟨now13,now14,now15⟩:Gapi_Cell)])++rr7:=by rw [hx8]; simp
         refine zdg rfl dc rfl zch (zyN (zaP rfl (zar (zal ?_))))
         exact zai (acc4++[(⟨now13,now14,now15⟩:Gapi_Cell)],rr7) ⟨h,hx9⟩ rfl (za1 rfl) (zae [0,1,2,3,4,5,6] kr rfl)
        refine zdg rfl dc rfl zch (zyN (zbg rfl (zax (zaj (zag (zaj ?_))))))
        exact zdf (acc4,(⟨now13,now14,now15⟩:Gapi_Cell),rr7) (show _∧_ from ⟨rfl,hx8⟩) (zae [0] kr rfl)
       refine zyR 10 rfl (zyN (zaP rfl (zaF ?_)))
       refine zaG (zah (k:=1) zgj rfl dc rfl rfl rfl (zbf (k:=2) (cs:=[zI now13,zI now14,zI now15]) zfN rfl dc rfl rfl rfl rfl ?_))
       obtain ⟨rr8,hr3,h⟩:=ziK h
       have hx10:xs=acc4++(⟨now13,now14,now15⟩:Gapi_Cell)::rr8:=by rw [hx4,hr3]
       refine zd4 hy rfl dc rfl hx10 rfl (k:=0) rfl ?_ ?_
       ·
        have hx11:xs=(acc4++[(⟨now13,now14,now15⟩:Gapi_Cell)])++rr8:=by rw [hx10]; simp
        refine zdg rfl dc rfl zch (zyN (zaP rfl (zar (zal ?_))))
        exact zai (acc4++[(⟨now13,now14,now15⟩:Gapi_Cell)],rr8) ⟨h,hx11⟩ rfl (za1 rfl) (zae [0,1,2,3,4,5,6] kr rfl)
       refine zdg rfl dc rfl zch (zyN (zbg rfl (zax (zaj (zag (zaj ?_))))))
       exact zdf (acc4,(⟨now13,now14,now15⟩:Gapi_Cell),rr8) (show _∧_ from ⟨rfl,hx10⟩) (zae [0] kr rfl)
      refine zyR 14 rfl ?_
      refine zyN (zaP rfl (zyG (zah (k:=1) zgj rfl dc rfl rfl rfl (zbf (k:=2) (cs:=[zI now13,zI now14,zI now15]) zfN rfl dc rfl rfl rfl rfl ?_))))
      obtain ⟨rr9,hr4,h⟩:=ziK h
      have hx12:xs=acc4++(⟨now13,now14,now15⟩:Gapi_Cell)::rr9:=by rw [hx4,hr4]
      refine zd4 hy rfl dc rfl hx12 rfl (k:=0) rfl ?_ ?_
      ·
       have hx13:xs=(acc4++[(⟨now13,now14,now15⟩:Gapi_Cell)])++rr9:=by rw [hx12]; simp
       refine zdg rfl dc rfl zch (zyN (zaP rfl (zar (zal ?_))))
       exact zai (acc4++[(⟨now13,now14,now15⟩:Gapi_Cell)],rr9) ⟨h,hx13⟩ rfl (za1 rfl) (zae [0,1,2,3,4,5,6] kr rfl)
      refine zdg rfl dc rfl zch (zyN (zbg rfl (zax (zaj (zag (zaj ?_))))))
      exact zdf (acc4,(⟨now13,now14,now15⟩:Gapi_Cell),rr9) (show _∧_ from ⟨rfl,hx12⟩) (zae [0] kr rfl)
     refine zyR 5 rfl (zyN (zaP rfl (zyG (zah (k:=3) zhb rfl dc rfl rfl rfl (zaQ rfl zbF (zyR 1 rfl ?_))))))
     refine zyS (s:=41) rfl h (fun h => ?_) (fun h => ?_)
     ·
      refine zah (k:=3) zhb rfl dc rfl rfl rfl (zaQ rfl zbF (zyR 2 rfl ?_))
      refine zyS (s:=45) rfl h (fun h => ?_) (fun h => ?_)
      ·
       refine zah (k:=3) zhb rfl dc rfl rfl rfl (zaQ rfl zbF (zyR 2 rfl ?_))
       refine zyS (s:=49) rfl h (fun h => ?_) (fun h => ?_)
       ·
        refine zah (k:=3) zhb rfl dc rfl rfl rfl (zbf (k:=4) (cs:=[zI last13,zI last14,.int .i32 last15,.bool last16]) zdT rfl dc rfl rfl rfl rfl (zbf (k:=6) (cs:=(zr1 x1)) zdT rfl dc rfl rfl rfl rfl ?_))
        obtain ⟨r4,hq5,h⟩:=zbT h
        refine zbb (v:=.bool r4) (vs:=[zI head4,.agg #[zI last13,zI last14,.int .i32 last15,.bool last16],.agg (zr1 x1).toArray]) rfl dc rfl rfl rfl zoL (zfc (behind1:=(⟨last13,last14,last15,last16⟩:Gapi_Piece)) (p1:=x1) hq5) (zyR 2 rfl (zyN ?_))
        refine zyB rfl h (fun h => ?_) (fun h => ?_)
        ·
         refine zyG (zac zgv rfl dc rfl (show _=0 from rfl) (zah (k:=6) za5 rfl dc rfl rfl rfl (zac zhI rfl dc rfl (show _=1 from rfl) (zah (k:=6) za5 rfl dc rfl rfl rfl ?_))))
         obtain ⟨hg4,h⟩:=zbM h
         refine zaQ rfl (zaW (r:=x1.At+x1.Width) (IntWalk.i64_in _ hg4)) (zac zfE rfl dc rfl (show _=0 from rfl) (zac zez rfl dc rfl (show _=1 from rfl) ?_))
         refine zbu (k:=2) (l':=[zI now13,zI (x1.At+x1.Width),zI now15]) zhs rfl rfl rfl rfl rfl (fun _ _=>rfl) rfl ?_
         refine zyN (zaF ?_)
         obtain ⟨r5,hq6,h⟩:=zbT h
         refine zaN 4 [(0,62,.pointer (some ⟨b4,2,none⟩)),(1,63,zI now15),(2,64,.agg (zr1 x1).toArray),(3,65,zI r5)] mixed kr kr dc (by rfl) kr kr (zaa ?_ (zaa ?_ (zaa ?_ (zaa ?_ DrawPre.nil)))) ?_
         · exact fun D n d c u i=>zac zgz rfl dc (zaD (by rfl) rfl) (show _=2 from rfl) (zad 0 u i rfl)
         · exact fun D n d c u i=>zah (k:=2) za5 rfl dc (zab (m:=0) u rfl (d 0 dc)) rfl rfl (zad 1 u i rfl)
         · exact fun D n d c u i=>zbf (k:=6) (cs:=(zr1 x1)) zdT rfl dc (zaD (by rfl) rfl) rfl rfl rfl (zad 2 u i rfl)
         · exact fun D n d c u i=>zbb (v:=zI r5) (vs:=[.agg (zr1 x1).toArray]) rfl dc rfl (evL.cons (zab (m:=2) u rfl (d 2 dc)) evL.nil) rfl znl (zdO (p1:=x1) hq6) (zad 3 u i rfl)
         refine zjO rfl dc rfl rfl (zac zgz rfl dc rfl (show _=2 from rfl) ?_)
         refine zbu (k:=2) (l':=[zI now13,zI (x1.At+x1.Width),zI (max now15 r5)]) zhs rfl rfl rfl rfl rfl (fun _ _=>rfl) rfl ?_
         refine zyH (zbf (k:=6) (cs:=(zr1 x1)) zdT rfl dc rfl rfl rfl rfl (za6 (k:=4) (vs:=(zr1 x1)) (l':=(zr1 x1)) zgg rfl rfl rfl rfl rfl (show _≤_ by simp) rfl rfl (zyN (zbc (zbX dc (zap (zaw ?_)))))))
         exact zgK (now13,x1.At+x1.Width,max now15 r5,head4,x1.At,x1.Width,x1.Rune,x1.Broken,open5,acc4,rr4) ⟨fun post2 e2=>(by have e9:=zfl hxs1 e2; subst e9; subst hag1; exact h),hx4⟩ (zae [0,1,2,3,4,5] kr rfl)
        refine zyG (zah (k:=1) zgj rfl dc rfl rfl rfl (zbf (k:=2) (cs:=[zI now13,zI now14,zI now15]) zfN rfl dc rfl rfl rfl rfl ?_))
        obtain ⟨rr10,hr5,h⟩:=ziK h
        have hx14:xs=acc4++(⟨now13,now14,now15⟩:Gapi_Cell)::rr10:=by rw [hx4,hr5]
        refine zd4 hy rfl dc rfl hx14 rfl (k:=0) rfl ?_ ?_
        ·
         have hx15:xs=(acc4++[(⟨now13,now14,now15⟩:Gapi_Cell)])++rr10:=by rw [hx14]; simp
         refine zdg rfl dc rfl zch (zyN (zaP rfl (zar (zal ?_))))
         exact zai (acc4++[(⟨now13,now14,now15⟩:Gapi_Cell)],rr10) ⟨h,hx15⟩ rfl (za1 rfl) (zae [0,1,2,3,4,5,6] kr rfl)
        refine zdg rfl dc rfl zch (zyN (zbg rfl (zax (zaj (zag (zaj ?_))))))
        exact zdf (acc4,(⟨now13,now14,now15⟩:Gapi_Cell),rr10) (show _∧_ from ⟨rfl,hx14⟩) (zae [0] kr rfl)
       refine zyR 6 rfl (zyN (zaP rfl (zyG (zah (k:=1) zgj rfl dc rfl rfl rfl (zbf (k:=2) (cs:=[zI now13,zI now14,zI now15]) zfN rfl dc rfl rfl rfl rfl ?_)))))
       obtain ⟨rr11,hr6,h⟩:=ziK h
       have hx16:xs=acc4++(⟨now13,now14,now15⟩:Gapi_Cell)::rr11:=by rw [hx4,hr6]
       refine zd4 hy rfl dc rfl hx16 rfl (k:=0) rfl ?_ ?_
       ·
        have hx17:xs=(acc4++[(⟨now13,now14,now15⟩:Gapi_Cell)])++rr11:=by rw [hx16]; simp
        refine zdg rfl dc rfl zch (zyN (zaP rfl (zar (zal ?_))))
        exact zai (acc4++[(⟨now13,now14,now15⟩:Gapi_Cell)],rr11) ⟨h,hx17⟩ rfl (za1 rfl) (zae [0,1,2,3,4,5,6] kr rfl)
       refine zdg rfl dc rfl zch (zyN (zbg rfl (zax (zaj (zag (zaj ?_))))))
       exact zdf (acc4,(⟨now13,now14,now15⟩:Gapi_Cell),rr11) (show _∧_ from ⟨rfl,hx16⟩) (zae [0] kr rfl)
      refine zyR 10 rfl (zyN (zaP rfl (zaF ?_)))
      refine zaG (zah (k:=1) zgj rfl dc rfl rfl rfl (zbf (k:=2) (cs:=[zI now13,zI now14,zI now15]) zfN rfl dc rfl rfl rfl rfl ?_))
      obtain ⟨rr12,hr7,h⟩:=ziK h
      have hx18:xs=acc4++(⟨now13,now14,now15⟩:Gapi_Cell)::rr12:=by rw [hx4,hr7]
      refine zd4 hy rfl dc rfl hx18 rfl (k:=0) rfl ?_ ?_
      ·
       have hx19:xs=(acc4++[(⟨now13,now14,now15⟩:Gapi_Cell)])++rr12:=by rw [hx18]; simp
       refine zdg rfl dc rfl zch (zyN (zaP rfl (zar (zal ?_))))
       exact zai (acc4++[(⟨now13,now14,now15⟩:Gapi_Cell)],rr12) ⟨h,hx19⟩ rfl (za1 rfl) (zae [0,1,2,3,4,5,6] kr rfl)
      refine zdg rfl dc rfl zch (zyN (zbg rfl (zax (zaj (zag (zaj ?_))))))
      exact zdf (acc4,(⟨now13,now14,now15⟩:Gapi_Cell),rr12) (show _∧_ from ⟨rfl,hx18⟩) (zae [0] kr rfl)
     refine zyR 14 rfl ?_
     refine zyN (zaP rfl (zyG (zah (k:=1) zgj rfl dc rfl rfl rfl (zbf (k:=2) (cs:=[zI now13,zI now14,zI now15]) zfN rfl dc rfl rfl rfl rfl ?_))))
     obtain ⟨rr13,hr8,h⟩:=ziK h
     have hx20:xs=acc4++(⟨now13,now14,now15⟩:Gapi_Cell)::rr13:=by rw [hx4,hr8]
     refine zd4 hy rfl dc rfl hx20 rfl (k:=0) rfl ?_ ?_
     ·
      have hx21:xs=(acc4++[(⟨now13,now14,now15⟩:Gapi_Cell)])++rr13:=by rw [hx20]; simp
      refine zdg rfl dc rfl zch (zyN (zaP rfl (zar (zal ?_))))
      exact zai (acc4++[(⟨now13,now14,now15⟩:Gapi_Cell)],rr13) ⟨h,hx21⟩ rfl (za1 rfl) (zae [0,1,2,3,4,5,6] kr rfl)
     refine zdg rfl dc rfl zch (zyN (zbg rfl (zax (zaj (zag (zaj ?_))))))
     exact zdf (acc4,(⟨now13,now14,now15⟩:Gapi_Cell),rr13) (show _∧_ from ⟨rfl,hx20⟩) (zae [0] kr rfl)
    rintro ⟨acc5,rr5⟩ ⟨h,hx5⟩
    rw [hj2] at h
    refine zaF ?_
    refine let vals1:(Unit)→List (Nat×Nat×Value):=fun b=>[(0,69,zI (zc0 x1.Broken x1.Rune)),(1,70,.agg (zr1 x1).toArray)]; let LL1:(Nat→Prop)→(Unit)→List Asn:=fun D b=>[I acc5,cells b1 [.func (.yield l) #[] #[]] 184,cells b4 [zI now13,zI now14,zI now15] 106,eD D (cells b5 [zI head4] 185) [(3,cells b5 [zI (zc0 x1.Broken x1.Rune)] 185)],cells b6 [zI last13,zI last14,.int .i32 last15,.bool last16] 187,eD D (cells b7 [.bool open5] 4) [(2,cells b7 [.bool true] 4)],cells jb1 (zr1 x1) 187]; ?_
    have zhq:zyQ [2,3] LL1:=fun i h D b=>zaf rfl (zaf rfl (zaf rfl (zaf (zmd rfl h) (zaf rfl (zaf (zmd rfl h) rfl)))))
    refine zdS (β:=Unit) 4 () vals1 LL1 mixed kr kr dc (fun _=>rfl) (zbZ (zaf zcz (zaf rfl (zaf zcz rfl)))) (znC zhq (fun _=>rfl) (fun _=>rfl) 1 0 (fun _=>rfl) rfl (zho zhq rfl (fun _=>rfl) (fun _=>rfl) ?_ (zay ?_ (zay ?_ DrawG.nil)))) ?_
    · exact fun D b n d c u i=>⟨_,(zqF rfl),zbf (k:=6) (cs:=(zr1 x1)) zdT rfl dc (zaD (by rfl) rfl) rfl rfl rfl (zad 1 u i rfl)⟩
    ·
     intro D b hn hd hcl
     refine zaO (zbZ (zaf (zao (fun hD=>hn (hcl 3 _ rfl hD 2 dc)) zas) (zaf rfl (zaf (zao hn zas) rfl)))) ?_
     refine zbu (k:=5) (l':=[.bool true]) zsi rfl (zaD (by rfl) rfl) rfl rfl rfl (fun _ _=>rfl) rfl ?_
     exact zlD (b:=b) () (by rfl) (zqS rfl) (zbZ (zaf ((zaB (by rfl)).trans (zao (fun hD=>hn (hcl 3 _ rfl hD 2 dc)) zas)) (zaf rfl (zaf (zba (Or.inr rfl) rfl) rfl))))
    ·
     intro D b hn hd hcl
     refine zaO (zbZ (zaf (zao hn zas) (zaf rfl (zaf (zba (hd 2 dc) rfl) rfl)))) ?_
     refine zbu (k:=3) (l':=[zI (zc0 x1.Broken x1.Rune)]) zpN rfl (zaD (by rfl) rfl) (zab (m:=0) rfl rfl (hd 0 dc)) rfl rfl (fun _ _=>rfl) rfl ?_
     exact zlD (b:=b) () (by rfl) (zqS rfl) (zbZ (zaf (zba (Or.inr rfl) rfl) (zaf rfl (zaf ((zaB (by rfl)).trans (zba (hd 2 dc) rfl)) rfl))))
    intro D b hall
    refine zaO (zbZ (zaf (zba (hall 3 dc) rfl) (zaf rfl (zaf (zba (hall 2 dc) rfl) rfl)))) (za6 (k:=4) (vs:=(zr1 x1)) (l':=(zr1 x1)) zgg rfl rfl rfl rfl rfl (show _≤_ by simp) rfl rfl (zyN ?_))
    obtain ⟨hg5,h⟩:=zbM h
    obtain ⟨r6,hq7,h⟩:=zbT h
    refine zaN 10 [(0,71,zP jb1),(1,72,zI x1.At),(2,73,zP jb1),(3,74,zI x1.At),(4,75,.pointer (some ⟨jb1,1,none⟩)),(5,76,zI x1.Width),(6,77,zI (x1.At+x1.Width)),(7,78,.agg #[zI x1.At,zI (x1.At+x1.Width)]),(8,79,.agg (zr1 x1).toArray),(9,80,zI r6)] mixed kr kr dc (by rfl) kr kr (zaa ?_ (zaa ?_ (zaa ?_ (zaa ?_ (zaa ?_ (zaa ?_ (zaa ?_ (zaa ?_ (zaa ?_ (zaa ?_ DrawPre.nil)))))))))) ?_
    · exact fun D n d c u i=>zac zgv rfl dc (zaD (by rfl) rfl) (show _=0 from rfl) (zad 0 u i rfl)
    · exact fun D n d c u i=>zah (k:=6) za5 rfl dc (zab (m:=0) u rfl (d 0 dc)) rfl rfl (zad 1 u i rfl)
    · exact fun D n d c u i=>zac zgv rfl dc (zaD (by rfl) rfl) (show _=0 from rfl) (zad 2 u i rfl)
    · exact fun D n d c u i=>zah (k:=6) za5 rfl dc (zab (m:=2) u rfl (d 2 dc)) rfl rfl (zad 3 u i rfl)
    · exact fun D n d c u i=>zac zhI rfl dc (zaD (by rfl) rfl) (show _=1 from rfl) (zad 4 u i rfl)
    · exact fun D n d c u i=>zah (k:=6) za5 rfl dc (zab (m:=4) u rfl (d 4 dc)) rfl rfl (zad 5 u i rfl)
    · exact fun D n d c u i=>zaM rfl dc (zab (m:=3) u rfl (d 3 dc)) (zab (m:=5) u rfl (d 5 dc)) (zaW (r:=x1.At+x1.Width) (IntWalk.i64_in _ hg5)) (zad 6 u i rfl)
    · exact fun D n d c u i=>zbJ (v:=.agg #[zI x1.At,zI (x1.At+x1.Width)]) (ps:=[(0,.tmp 72),(1,.tmp 77)]) rfl dc (evP.cons (zab (m:=1) u rfl (d 1 dc)) (evP.cons (zab (m:=6) u rfl (d 6 dc)) evP.nil)) (fun _=>by kernel_rfl) (zad 7 u i rfl)
    · exact fun D n d c u i=>zbf (k:=6) (cs:=(zr1 x1)) zdT rfl dc (zaD (by rfl) rfl) rfl rfl rfl (zad 8 u i rfl)
    · exact fun D n d c u i=>zbb (v:=zI r6) (vs:=[.agg (zr1 x1).toArray]) rfl dc rfl (evL.cons (zab (m:=8) u rfl (d 8 dc)) evL.nil) rfl znl (zdO (p1:=x1) hq7) (zad 9 u i rfl)
    refine zbJ (v:=.agg #[zI x1.At,zI (x1.At+x1.Width),zI r6]) (ps:=[(0,.tmp 78),(1,.tmp 80)]) rfl dc rfl (fun _=>by kernel_rfl) ?_
    refine za6 (k:=2) (vs:=[zI x1.At,zI (x1.At+x1.Width),zI r6]) (l':=[zI x1.At,zI (x1.At+x1.Width),zI r6]) zjT rfl rfl rfl rfl rfl (show _≤_ by simp) rfl rfl ?_
    refine zaK (zal ?_)
    exact zgK (x1.At,x1.At+x1.Width,r6,zc0 x1.Broken x1.Rune,x1.At,x1.Width,x1.Rune,x1.Broken,true,acc5,rr5) ⟨fun post2 e2=>(by have e9:=zfl hxs1 e2; subst e9; subst hag1; exact h),hx5⟩ (zae [0,1,2,3,4,5] kr rfl)
   ·
    rintro dm1 ⟨now13,now14,now15,head4,last13,last14,last15,last16,open5,acc4,rr4⟩ hinv
    obtain ⟨hinv,hx4⟩:=hinv
    have h:dn1 now13 now14 now15 head4 last13 last14 last15 last16 open5=some rr4:=hinv [] (List.append_nil _).symm
    rw [hdn1] at h
    refine zit (k:=14) (j:=1) rfl rfl dc ?_
    refine zal ?_
    exact zai (now13,now14,now15,open5,acc4,rr4,b4,b7,dm1::([]:List Nat)) ⟨h,hx4⟩ rfl (za1 rfl) (zae [8,9,10,13,1] kr rfl)
   rintro dm1 c pre x1 post g hxs hX
   obtain ⟨ta1,tq1,tr1⟩:=g
   obtain ⟨rfl,hx22⟩:=(show _∧_ from hX)
   refine zld (k:=9) (j:=1) rfl rfl dc ?_
   refine zax (zaj (zag (zbG (by simp) ?_)))
   exact zk8 (ds:=(dm1::([]:List Nat))) ta1 tq1 tr1 hx22 (.inl rfl) (zeb (k:=1) rfl) Tryd.results98 (zae [8] kr rfl)
  rintro ⟨now1,now2,now3,zb4,acc1,rr1,b2,b3,ds1⟩ ⟨h,hx1⟩
  rw [hj1] at h
  refine zyG (zah (k:=3) zq3 rfl dc rfl rfl rfl (zyN ?_))
  refine zyB rfl h (fun h => ?_) (fun h => ?_)
  ·
   refine zaG (zah (k:=1) zgj rfl dc rfl rfl rfl (zbf (k:=2) (cs:=[zI now1,zI now2,zI now3]) zfN rfl dc rfl rfl rfl rfl ?_))
   obtain ⟨rr14,hr9,h⟩:=ziK h
   have hx23:xs=acc1++(⟨now1,now2,now3⟩:Gapi_Cell)::rr14:=by rw [hx1,hr9]
   refine zd4 hy rfl dc rfl hx23 rfl (k:=0) rfl ?_ ?_
   ·
    have hx24:xs=(acc1++[(⟨now1,now2,now3⟩:Gapi_Cell)])++rr14:=by rw [hx23]; simp
    refine zaK (zbG (by simp) ?_)
    cases h
    exact zk7 (ds:=ds1) (.inr rfl) (zeb (k:=4) rfl) Tryd.results98 (congrArg I (hx24.trans (List.append_nil _))) (zae [0] kr rfl)
   refine zaK (zbG (by simp) ?_)
   exact zk8 (ds:=ds1) acc1 (⟨now1,now2,now3⟩:Gapi_Cell) rr14 hx23 (.inr rfl) (zeb (k:=4) rfl) Tryd.results98 (zae [0] kr rfl)
  refine zar (zbG (by simp) ?_)
  cases h
  exact zk7 (ds:=ds1) (.inr rfl) (zeb (k:=4) rfl) Tryd.results98 (congrArg I (hx1.trans (List.append_nil _))) (zae [0] kr rfl)
 exact fun b hb=>hb.elim
def zeQ (s1:ByteArray):Option ByteArray :=
some s1
theorem zir {s1:ByteArray} {r:ByteArray} (h:zeQ s1=some r):Fn Tryd.prog 79 [.string s1] [] (fun v0:Nat=>.func (.func 98) #[] #[zP v0]) (fun v0=>[cells v0 [.string r] 9]):=by
 unfold zeQ at h
 refine Fn.intro Tryd.func79 rfl Tryd.ntmps79 (by simp) ?_
 intro w0 K
 refine zyG ?_
 refine zeC rfl dc rfl (fun b1 => ?_)
 refine zyR 1 rfl (zyH (ziu (x1:=[]) (x2:=[.tmp 1]) rfl dc rfl rfl (zyR 1 rfl (zyN (zax ?_)))))
 cases h
 exact zaC (rs:=[.tmp 2]) b1 (.inl rfl) Tryd.results79 (.cons (.tmp rfl) .nil) rfl (zae [0] kr rfl)
end Go.Proofs.YtbempdelckaccaaDoor

namespace Go.Proofs.YtbempdelckaccaaDoor
open Go.RowKit Go.Lib
set_option linter.unusedVariables false
set_option linter.unusedSimpArgs false
def zoX (r:Int):Bool→List Int→Bool
 | _,[]=>false
 | false,e::es=>if r<e then false else zoX r true es
 | true,e::es=>if r≤e then true else zoX r false es
def zpH:List Int:=(pcs (⟨#[225,132,128,225,133,159,226,186,128,227,128,190,227,129,129,228,182,191,228,184,128,234,147,143,234,176,128,237,158,163,239,164,128,239,171,191,239,184,176,239,185,175,239,188,128,239,189,160,239,191,160,239,191,166,240,159,140,128,240,159,153,143,240,159,164,128,240,159,167,191,240,160,128,128,240,191,191,189]⟩:ByteArray).data.toList).map fun p=>(p.r:Int)
def zqY (r:Int):Bool:=zoX r false zpH
def kdP (x:Gapi_Piece):Int:=zc0 x.Broken x.Rune
def zqK (x:Gapi_Piece):Int:=if kdP x=11 then 1 else if kdP x=2∨kdP x=4∨kdP x=9 then 0 else if zqY x.Rune=true then 2 else 1
def zri (head behind:Int) (x:Gapi_Piece):Bool:=if x.Broken then false else if kdP x=2 then true else if x.Rune=8205 then true else if head=10 then (if kdP x=10 then decide (behind=8205) else false) else false
def zpK (head last:Int) (x:Gapi_Piece):Bool:=head != 11&&(head != 4&&(head != 9&&zri head last x))
def zlA:Gapi_Cell→Int→Int→List Gapi_Piece→List Gapi_Cell
 | c,_,_,[]=>[c]
 | c,head,last,x::xs =>
  if last=13∧x.Rune=10 then zlA ⟨c.Span_From,x.At+x.Width,c.Columns⟩ head x.Rune xs
  else if zpK head last x=true then zlA ⟨c.Span_From,x.At+x.Width,max c.Columns (zqK x)⟩ head x.Rune xs
  else c::zlA ⟨x.At,x.At+x.Width,zqK x⟩ (kdP x) x.Rune xs
def zqv:List Gapi_Piece→List Gapi_Cell
 | []=>[]
 | x::xs=>zlA ⟨x.At,x.At+x.Width,zqK x⟩ (kdP x) x.Rune xs
def zi3 (s:ByteArray):List Gapi_Cell:=zqv ((pcs s.data.toList).map pcG)
def Cov:Int→List Gapi_Cell→Int→Prop
 | a,[],b=>a=b
 | a,c::cs,b=>c.Span_From=a∧a<c.Span_To∧(0≤c.Columns∧c.Columns≤2)∧Cov c.Span_To cs b
end Go.Proofs.YtbempdelckaccaaDoor

namespace Go.Proofs.YtbempdelckaccaaDoor
open Go.RowKit Go.Lib
set_option linter.unusedVariables false
set_option linter.unusedSimpArgs false
def zgV (l1:Gapi_Layout):Option Bool :=
zam (decide ((8:Int)≤l1.Width)) (
zam (decide ((l1.Width:Int)≤256)) (
zam (decide ((4:Int)≤l1.Height)) (
zam (decide ((l1.Height:Int)≤200)) (
zam (decide ((0:Int)≤l1.Turn)) (
zam (decide ((l1.Turn:Int)≤7)) (
zam (decide ((0:Int)≤l1.Every)) (
some (decide ((l1.Every:Int)≤512))
) (
some false
)
) (
some false
)
) (
some false
)
) (
some false
)
) (
some false
)
) (
some false
)
) (
some false
)
theorem zkX {l1:Gapi_Layout} {r:Bool} (h:zgV l1=some r):FnP Tryd.prog 29 [.agg (zr3 l1).toArray] (.bool r):=by
 unfold zgV at h
 refine FnP.intro Tryd.func29 rfl Tryd.ntmps29 (by simp) ?_
 intro w0 K
 refine zyG ?_
 refine zeC rfl dc rfl (fun b1 => ?_)
 refine zyR 1 rfl (zyH (zac zjx rfl dc rfl (show _=0 from rfl) (zah (k:=0) za5 rfl dc rfl rfl rfl (zaQ rfl zeB (zyR 1 rfl ?_)))))
 refine zyS (s:=6) rfl h (fun h => ?_) (fun h => ?_)
 ·
  refine zac zjx rfl dc rfl (show _=0 from rfl) (zah (k:=0) za5 rfl dc rfl rfl rfl (zaQ rfl zd1 (zyR 2 rfl ?_)))
  refine zyS (s:=11) rfl h (fun h => ?_) (fun h => ?_)
  ·
   refine zac znf rfl dc rfl (show _=1 from rfl) (zah (k:=0) za5 rfl dc rfl rfl rfl (zaQ rfl zeB (zyR 2 rfl ?_)))
   refine zyS (s:=16) rfl h (fun h => ?_) (fun h => ?_)
   ·
    refine zac znf rfl dc rfl (show _=1 from rfl) (zah (k:=0) za5 rfl dc rfl rfl rfl (zaQ rfl zd1 (zyR 2 rfl ?_)))
    refine zyS (s:=21) rfl h (fun h => ?_) (fun h => ?_)
    ·
     refine zac zk2 rfl dc rfl (show _=2 from rfl) (zah (k:=0) za5 rfl dc rfl rfl rfl (zaQ rfl zeB (zyR 2 rfl ?_)))
     refine zyS (s:=26) rfl h (fun h => ?_) (fun h => ?_)
     ·
      refine zac zk2 rfl dc rfl (show _=2 from rfl) (zah (k:=0) za5 rfl dc rfl rfl rfl (zaQ rfl zd1 (zyR 2 rfl ?_)))
      refine zyS (s:=31) rfl h (fun h => ?_) (fun h => ?_)
      ·
       refine zac zne rfl dc rfl (show _=3 from rfl) (zah (k:=0) za5 rfl dc rfl rfl rfl (zaQ rfl zeB (zyR 2 rfl ?_)))
       refine zyS (s:=36) rfl h (fun h => ?_) (fun h => ?_)
       ·
        refine zac zne rfl dc rfl (show _=3 from rfl) (zah (k:=0) za5 rfl dc rfl rfl rfl (zaQ rfl zd1 (zyR 2 rfl (zyN (zax ?_)))))
        cases h
        exact zaC (rs:=[.tmp 2]) () (.inl rfl) Tryd.results29 (.cons (.tmp rfl) .nil) rfl Splits.nil
       refine zyR 5 rfl (zyN (zax ?_))
       cases h
       exact zaC (rs:=[.tmp 2]) () (.inl rfl) Tryd.results29 (.cons (.tmp rfl) .nil) rfl Splits.nil
      refine zyR 10 rfl (zyN (zax ?_))
      cases h
      exact zaC (rs:=[.tmp 2]) () (.inl rfl) Tryd.results29 (.cons (.tmp rfl) .nil) rfl Splits.nil
     refine zyR 14 rfl ?_
     refine zyR 1 rfl (zyN (zax ?_))
     cases h
     exact zaC (rs:=[.tmp 2]) () (.inl rfl) Tryd.results29 (.cons (.tmp rfl) .nil) rfl Splits.nil
    refine zyR 14 rfl ?_
    refine zyR 6 rfl (zyN (zax ?_))
    cases h
    exact zaC (rs:=[.tmp 2]) () (.inl rfl) Tryd.results29 (.cons (.tmp rfl) .nil) rfl Splits.nil
   refine zyR 14 rfl ?_
   refine zyR 11 rfl (zyN (zax ?_))
   cases h
   exact zaC (rs:=[.tmp 2]) () (.inl rfl) Tryd.results29 (.cons (.tmp rfl) .nil) rfl Splits.nil
  refine zyR 14 rfl ?_
  refine zyR 14 rfl ?_
  refine zyR 2 rfl (zyN (zax ?_))
  cases h
  exact zaC (rs:=[.tmp 2]) () (.inl rfl) Tryd.results29 (.cons (.tmp rfl) .nil) rfl Splits.nil
 refine zyR 14 rfl ?_
 refine zyR 14 rfl ?_
 refine zyR 7 rfl (zyN (zax ?_))
 cases h
 exact zaC (rs:=[.tmp 2]) () (.inl rfl) Tryd.results29 (.cons (.tmp rfl) .nil) rfl Splits.nil
def zcv (t1:Gpage_turner) (k1:Int):Option Bool :=
zan (zcI t1.cells k1) fun (q1:Gapi_Cell) =>
grd (I64 (q1.Span_From+1)) <|
zam ((q1.Span_To:Int)==(q1.Span_From+1)) (
zan (zfg t1.s q1.Span_From) fun (c1:Int) =>
some ((c1:Int)==32)
) (
some false
)
theorem zdp {bt1:Nat} {t1:Gpage_turner} {t1_h0 t1_h1 t1_h2:Hd} {k1:Int} {r:Bool} (h:zcv t1 k1=some r):FnR Tryd.prog 80 [zP bt1,zI k1] [cells bt1 [.string t1.s,t1_h0.v,t1_h1.v,t1_h2.v,zI t1.first,zI t1.rest] 163,zv3 t1_h0.v t1.cells,zv0 t1_h1.v t1.wide,zv0 t1_h2.v t1.ends] [] (fun _:Unit=>(.bool r)) (fun _=>[]):=by
 unfold zcv at h
 refine FnR.intro Tryd.func80 rfl Tryd.ntmps80 (by simp) ?_
 intro w0 K hrd
 refine zyG (zyR 1 rfl (zyH (zyR 1 rfl (zat rfl dc rfl (zac ze7 rfl dc rfl (show _=1 from rfl) (zbs (i:=0) hrd rfl ziV rfl dc rfl rfl (zyR 1 rfl ?_)))))))
 obtain ⟨q1,hq1,h⟩:=zbT h
 refine zbx (hrd.vw (i:=1) rfl) hq1 Tryd.underlying100 zjT rfl dc rfl rfl rfl (zac zfE rfl dc rfl (show _=(0+(k1:Int).toNat)*3 from rfl) (zdQ (m:=0+(k1:Int).toNat) (j:=0) (i:=1) (q:=q1) (cs:=[zI q1.Span_From,zI q1.Span_To]) hrd rfl zlO zdn rfl dc rfl (Vw.get (hrd.vw (i:=1) rfl) hq1) rfl rfl rfl ?_))
 refine zbY zoW rfl dc (fun b1 => ?_)
 refine za6 (k:=0) (vs:=[zI q1.Span_From,zI q1.Span_To]) (l':=[zI q1.Span_From,zI q1.Span_To]) zlM rfl rfl rfl rfl rfl (show _≤_ by simp) rfl rfl ?_
 refine zyN (zaF ?_)
 obtain ⟨hg1,h⟩:=zbM h
 refine zbd (b:=(q1.Span_To:Int)==(q1.Span_From+1)) (fun hb1 => ?_) (fun hb1 => ?_)
 ·
  have h:=zc1 hb1 h
  obtain ⟨c1,hq2,h⟩:=zbT h
  refine zaN 13 [(0,14,.pointer (some ⟨b1,1,none⟩)),(1,15,zI q1.Span_To),(2,16,zP b1),(3,17,zI q1.Span_From),(4,18,zI (q1.Span_From+1)),(5,19,.bool true),(6,20,.bool true),(7,21,zP bt1),(8,22,zP bt1),(9,23,zP bt1),(10,24,.string t1.s),(11,25,zP b1),(12,26,zI q1.Span_From)] mixed kr kr dc (by rfl) kr kr (zaa ?_ (zaa ?_ (zaa ?_ (zaa ?_ (zaa ?_ (zaa ?_ (zyP 2 6 rfl (zaa ?_ (zaa ?_ (zaa ?_ (zaa ?_ (zaa ?_ DrawPre.nil)))))))))))) ?_
  · exact fun D n d c u i=>zac zez rfl dc (zaD (by rfl) rfl) (show _=1 from rfl) (zad 0 u i rfl)
  · exact fun D n d c u i=>zah (k:=0) za5 rfl dc (zab (m:=0) u rfl (d 0 dc)) rfl rfl (zad 1 u i rfl)
  · exact fun D n d c u i=>zac zeO rfl dc (zaD (by rfl) rfl) (show _=0 from rfl) (zad 2 u i rfl)
  · exact fun D n d c u i=>zah (k:=0) za5 rfl dc (zab (m:=2) u rfl (d 2 dc)) rfl rfl (zad 3 u i rfl)
  · exact fun D n d c u i=>zaM rfl dc (zab (m:=3) u rfl (d 3 dc)) rfl (zaW (r:=q1.Span_From+1) (IntWalk.i64_in _ hg1)) (zad 4 u i rfl)
  · exact fun D n d c u i=>zaM rfl dc (zab (m:=1) u rfl (d 1 dc)) (zab (m:=4) u rfl (d 4 dc)) zaq (zaR (show Value.bool ((q1.Span_To:Int)==(q1.Span_From+1))=Value.bool true from congrArg Value.bool hb1) (zad 5 u i rfl))
  · exact fun D n d c u i=>zat (zbD rfl (zab (m:=6) u rfl (d 6 dc))) dc (zab (m:=7) u rfl (d 7 dc)) (zad 8 u i rfl)
  · exact fun D n d c u i=>zac zlt (zbD rfl (zab (m:=6) u rfl (d 6 dc))) dc (zab (m:=8) u rfl (d 8 dc)) (show _=0 from rfl) (zad 9 u i rfl)
  · exact fun D n d c u i=>zbs (i:=0) hrd rfl zht (zbD rfl (zab (m:=6) u rfl (d 6 dc))) dc (zab (m:=9) u rfl (d 9 dc)) rfl (zad 10 u i rfl)
  · exact fun D n d c u i=>zac zeO (zbD rfl (zab (m:=6) u rfl (d 6 dc))) dc (zaD (by rfl) rfl) (show _=0 from rfl) (zad 11 u i rfl)
  · exact fun D n d c u i=>zah (k:=0) za5 (zbD rfl (zab (m:=6) u rfl (d 6 dc))) dc (zab (m:=11) u rfl (d 11 dc)) rfl rfl (zad 12 u i rfl)
  refine zcH rfl dc rfl rfl (zbl Tryd.underlying9 hq2) (zaQ rfl zaq (zyR 2 rfl (zyN (zax ?_))))
  cases h
  exact zaC (rs:=[.tmp 4]) () (.inl rfl) Tryd.results80 (.cons (.tmp rfl) .nil) rfl Splits.nil
 have h:=zc2 hb1 h
 refine zaN 13 [(0,14,.pointer (some ⟨b1,1,none⟩)),(1,15,zI q1.Span_To),(2,16,zP b1),(3,17,zI q1.Span_From),(4,18,zI (q1.Span_From+1)),(5,19,.bool false),(6,20,.bool false),(7,21,undef),(8,22,undef),(9,23,undef),(10,24,undef),(11,25,undef),(12,26,undef)] mixed kr kr dc (by rfl) kr kr (zaa ?_ (zaa ?_ (zaa ?_ (zaa ?_ (zaa ?_ (zaa ?_ (zyP 7 6 rfl DrawPre.nil))))))) ?_
 · exact fun D n d c u i=>zac zez rfl dc (zaD (by rfl) rfl) (show _=1 from rfl) (zad 0 u i rfl)
 · exact fun D n d c u i=>zah (k:=0) za5 rfl dc (zab (m:=0) u rfl (d 0 dc)) rfl rfl (zad 1 u i rfl)
 · exact fun D n d c u i=>zac zeO rfl dc (zaD (by rfl) rfl) (show _=0 from rfl) (zad 2 u i rfl)
 · exact fun D n d c u i=>zah (k:=0) za5 rfl dc (zab (m:=2) u rfl (d 2 dc)) rfl rfl (zad 3 u i rfl)
 · exact fun D n d c u i=>zaM rfl dc (zab (m:=3) u rfl (d 3 dc)) rfl (zaW (r:=q1.Span_From+1) (IntWalk.i64_in _ hg1)) (zad 4 u i rfl)
 · exact fun D n d c u i=>zaM rfl dc (zab (m:=1) u rfl (d 1 dc)) (zab (m:=4) u rfl (d 4 dc)) zaq (zaR (show Value.bool ((q1.Span_To:Int)==(q1.Span_From+1))=Value.bool false from congrArg Value.bool hb1) (zad 5 u i rfl))
 refine zyR 4 rfl (zyN (zax ?_))
 cases h
 exact zaC (rs:=[.tmp 4]) () (.inl rfl) Tryd.results80 (.cons (.tmp rfl) .nil) rfl Splits.nil
def zcj (t1:Gpage_turner) (from1:Int) (to1:Int):Option Int :=
zan (zcI t1.ends to1) fun (q1:Int) =>
zan (zcI t1.wide (max from1 q1)) fun (q2:Int) =>
zan (zcI t1.wide from1) fun (q3:Int) =>
grd (I64 (q2 - q3)) <|
some (q2 - q3)
theorem zc6 {bt1:Nat} {t1:Gpage_turner} {t1_h0 t1_h1 t1_h2:Hd} {from1:Int} {to1:Int} {r:Int} (h:zcj t1 from1 to1=some r):FnR Tryd.prog 82 [zP bt1,zI from1,zI to1] [cells bt1 [.string t1.s,t1_h0.v,t1_h1.v,t1_h2.v,zI t1.first,zI t1.rest] 163,zv3 t1_h0.v t1.cells,zv0 t1_h1.v t1.wide,zv0 t1_h2.v t1.ends] [] (fun _:Unit=>(zI r)) (fun _=>[]):=by
 unfold zcj at h
 refine FnR.intro Tryd.func82 rfl Tryd.ntmps82 (by simp) ?_
 intro w0 K hrd
 refine zyG (zyR 1 rfl (zyH (zyR 2 rfl (zat rfl dc rfl (zac zgw rfl dc rfl (show _=3 from rfl) (zbs (i:=0) hrd rfl zj4 rfl dc rfl rfl (zyR 1 rfl ?_)))))))
 obtain ⟨q1,hq1,h⟩:=zbT h
 refine zbx (hrd.vw (i:=3) rfl) hq1 Tryd.underlying24 zhs rfl dc rfl rfl rfl (zcT (n:=0+(to1:Int).toNat) (j:=0) (i:=3) (q:=q1) hrd rfl za5 zc9 rfl dc rfl (Vw.get (hrd.vw (i:=3) rfl) hq1) rfl dc rfl (zjO rfl dc rfl rfl (zyR 1 rfl (zyN (zaF ?_)))))
 obtain ⟨q2,hq2,h⟩:=zbT h
 obtain ⟨q3,hq3,h⟩:=zbT h
 obtain ⟨hg1,h⟩:=zbM h
 refine zaN 14 [(0,16,zP bt1),(1,17,zP bt1),(2,18,.pointer (some ⟨bt1,2,none⟩)),(3,19,t1_h1.v),(4,20,zI (max from1 q1)),(5,21,.pointer (some ⟨zc7 t1_h1.v,(0+(max from1 q1:Int).toNat)*1,none⟩)),(6,22,zI q2),(7,23,zP bt1),(8,24,zP bt1),(9,25,.pointer (some ⟨bt1,2,none⟩)),(10,26,t1_h1.v),(11,27,zI from1),(12,28,.pointer (some ⟨zc7 t1_h1.v,(0+(from1:Int).toNat)*1,none⟩)),(13,29,zI q3)] mixed kr kr dc (by rfl) kr kr (zyP 1 0 rfl (zaa ?_ (zaa ?_ (zaa ?_ (zyP 1 4 rfl (zaa ?_ (zaa ?_ (zyP 1 7 rfl (zaa ?_ (zaa ?_ (zaa ?_ (zyP 1 11 rfl (zaa ?_ (zaa ?_ DrawPre.nil)))))))))))))) ?_
 · exact fun D n d c u i=>zat rfl dc (zab (m:=0) u rfl (d 0 dc)) (zad 1 u i rfl)
 · exact fun D n d c u i=>zac zgx rfl dc (zab (m:=1) u rfl (d 1 dc)) (show _=2 from rfl) (zad 2 u i rfl)
 · exact fun D n d c u i=>zbs (i:=0) hrd rfl zj4 rfl dc (zab (m:=2) u rfl (d 2 dc)) rfl (zad 3 u i rfl)
 · exact fun D n d c u i=>zbx (hrd.vw (i:=2) rfl) hq2 Tryd.underlying24 zhs rfl dc (zab (m:=3) u rfl (d 3 dc)) (zab (m:=4) u rfl (d 4 dc)) rfl (zad 5 u i rfl)
 · exact fun D n d c u i=>zcT (n:=0+(max from1 q1:Int).toNat) (j:=0) (i:=2) (q:=q2) hrd rfl za5 zc9 rfl dc (zab (m:=5) u rfl (d 5 dc)) (Vw.get (hrd.vw (i:=2) rfl) hq2) rfl dc rfl (zad 6 u i rfl)
 · exact fun D n d c u i=>zat rfl dc (zab (m:=7) u rfl (d 7 dc)) (zad 8 u i rfl)
 · exact fun D n d c u i=>zac zgx rfl dc (zab (m:=8) u rfl (d 8 dc)) (show _=2 from rfl) (zad 9 u i rfl)
 · exact fun D n d c u i=>zbs (i:=0) hrd rfl zj4 rfl dc (zab (m:=9) u rfl (d 9 dc)) rfl (zad 10 u i rfl)
 · exact fun D n d c u i=>zbx (hrd.vw (i:=2) rfl) hq3 Tryd.underlying24 zhs rfl dc (zab (m:=10) u rfl (d 10 dc)) (zab (m:=11) u rfl (d 11 dc)) rfl (zad 12 u i rfl)
 · exact fun D n d c u i=>zcT (n:=0+(from1:Int).toNat) (j:=0) (i:=2) (q:=q3) hrd rfl za5 zc9 rfl dc (zab (m:=12) u rfl (d 12 dc)) (Vw.get (hrd.vw (i:=2) rfl) hq3) rfl dc rfl (zad 13 u i rfl)
 refine zaQ rfl (zcc (r:=q2 - q3) (IntWalk.i64_in _ hg1)) (zyR 1 rfl (zyN (zax ?_)))
 cases h
 exact zaC (rs:=[.tmp 6]) () (.inl rfl) Tryd.results82 (.cons (.tmp rfl) .nil) rfl Splits.nil
def zcF (t1:Gpage_turner) (from1:Int):Option Int :=
zam ((from1:Int)==0) (
some t1.first
) (
some t1.rest
)
theorem zdt {bt1:Nat} {t1:Gpage_turner} {t1_h0 t1_h1 t1_h2:Hd} {from1:Int} {r:Int} (h:zcF t1 from1=some r):FnR Tryd.prog 83 [zP bt1,zI from1] [cells bt1 [.string t1.s,t1_h0.v,t1_h1.v,t1_h2.v,zI t1.first,zI t1.rest] 163,zv3 t1_h0.v t1.cells,zv0 t1_h1.v t1.wide,zv0 t1_h2.v t1.ends] [] (fun _:Unit=>(zI r)) (fun _=>[]):=by
 unfold zcF at h
 refine FnR.intro Tryd.func83 rfl Tryd.ntmps83 (by simp) ?_
 intro w0 K hrd
 refine zyG (zyR 1 rfl (zyN (zaF (zyG (zyR 1 rfl (zaQ rfl zaq (zyN ?_)))))))
 refine zyB rfl h (fun h => ?_) (fun h => ?_)
 ·
  refine zyG (zyR 1 rfl (zat rfl dc rfl (zac zob rfl dc rfl (show _=4 from rfl) (zbs (i:=0) hrd rfl za5 rfl dc rfl rfl (zyR 1 rfl (zyN (zax (zag ?_))))))))
  cases h
  exact zaC (rs:=[.tmp 4]) () (.inl rfl) Tryd.results83 (.cons (.tmp rfl) .nil) rfl Splits.nil
 refine zar (zaH (zyG (zyR 1 rfl (zat rfl dc rfl (zac zoa rfl dc rfl (show _=5 from rfl) (zbs (i:=0) hrd rfl za5 rfl dc rfl rfl (zyR 1 rfl (zyN (zax ?_)))))))))
 cases h
 exact zaC (rs:=[.tmp 4]) () (.inl rfl) Tryd.results83 (.cons (.tmp rfl) .nil) rfl Splits.nil
def zdX (t1:Gpage_turner) (from1:Int) (to1:Int):Option Bool :=
zbk (fun (j1:Option Bool) =>
zam (decide ((0:Int)<from1)) (
zan (zcv t1 from1) fun (r1:Bool) =>
zam (r1) (
some false
) (
j1
)
) (
j1
)
) (
zan (zcj t1 from1 to1) fun (r2:Int) =>
zan (zcF t1 from1) fun (r3:Int) =>
zam (decide ((r2:Int)≤r3)) (
some true
) (
zan (zcI t1.ends to1) fun (q1:Int) =>
grd (I64 (from1+1)) <|
some (decide ((q1:Int)≤(from1+1)))
)
)
theorem zgq {bt1:Nat} {t1:Gpage_turner} {t1_h0 t1_h1 t1_h2:Hd} {from1:Int} {to1:Int} {r:Bool} (h:zdX t1 from1 to1=some r):FnR Tryd.prog 81 [zP bt1,zI from1,zI to1] [cells bt1 [.string t1.s,t1_h0.v,t1_h1.v,t1_h2.v,zI t1.first,zI t1.rest] 163,zv3 t1_h0.v t1.cells,zv0 t1_h1.v t1.wide,zv0 t1_h2.v t1.ends] [] (fun _:Unit=>(.bool r)) (fun _=>[]):=by
 unfold zdX at h
 refine FnR.intro Tryd.func81 rfl Tryd.ntmps81 (by simp) ?_
 intro w0 K hrd
 obtain ⟨j1,hj1,h⟩:=zbU h
 refine zaZ (β:=Unit) 1 rfl (fun b=>j1=some r) (fun b=>[]) (fun b=>[(0,zP bt1),(1,zI from1),(2,zI to1)]) (fun b=>[]) (fun cut => ?_) ?_
 ·
  refine zyG (zyR 1 rfl (zyN (cut (zyG (zyR 1 rfl (zaQ rfl zcQ (zyR 1 rfl ?_)))))))
  refine zyS (s:=9) rfl h (fun h => ?_) (fun h => ?_)
  ·
   refine zyR 2 rfl ?_
   obtain ⟨r1,hq1,h⟩:=zbT h
   refine zco (v:=.bool r1) (vs:=[zP bt1,zI from1]) hrd rfl dc rfl rfl rfl zpc (zdp (bt1:=bt1) (t1:=t1) (t1_h0:=t1_h0) (t1_h1:=t1_h1) (t1_h2:=t1_h2) hq1) (.ro 0 rfl (.ro 1 rfl (.ro 2 rfl (.ro 3 rfl .nil)))) (zyR 1 rfl (zyN ?_))
   refine zyB rfl h (fun h => ?_) (fun h => ?_)
   ·
    refine zyG (zyR 1 rfl (zyN (zax (zag ?_))))
    cases h
    exact zaC (rs:=[.tmp 6]) () (.inl rfl) Tryd.results81 (.cons (.tmp rfl) .nil) rfl Splits.nil
   refine zar ?_
   exact zai () h rfl (za1 rfl) Splits.nil
  refine zyR 4 rfl (zyN (zaP rfl (zar ?_)))
  exact zai () h rfl (za1 rfl) Splits.nil
 rintro _ h
 rw [hj1] at h
 refine zyG (zyR 3 rfl ?_)
 obtain ⟨r2,hq2,h⟩:=zbT h
 refine zco (v:=zI r2) (vs:=[zP bt1,zI from1,zI to1]) hrd rfl dc rfl rfl rfl zpb (zc6 (bt1:=bt1) (t1:=t1) (t1_h0:=t1_h0) (t1_h1:=t1_h1) (t1_h2:=t1_h2) hq2) (.ro 0 rfl (.ro 1 rfl (.ro 2 rfl (.ro 3 rfl .nil)))) (zyR 2 rfl ?_)
 obtain ⟨r3,hq3,h⟩:=zbT h
 refine zco (v:=zI r3) (vs:=[zP bt1,zI from1]) hrd rfl dc rfl rfl rfl zpa (zdt (bt1:=bt1) (t1:=t1) (t1_h0:=t1_h0) (t1_h1:=t1_h1) (t1_h2:=t1_h2) hq3) (.ro 0 rfl (.ro 1 rfl (.ro 2 rfl (.ro 3 rfl .nil)))) (zaQ rfl zd1 (zyR 1 rfl ?_))
 refine zyS (s:=22) rfl h (fun h => ?_) (fun h => ?_)
 ·
  refine zyR 12 rfl (zyN ?_)
  refine zax ?_
  cases h
  exact zaC (rs:=[.tmp 6]) () (.inl rfl) Tryd.results81 (.cons (.tmp rfl) .nil) rfl Splits.nil
 refine zyR 1 rfl (zat rfl dc rfl (zac zgw rfl dc rfl (show _=3 from rfl) (zbs (i:=0) hrd rfl zj4 rfl dc rfl rfl (zyR 1 rfl ?_))))
 obtain ⟨q1,hq4,h⟩:=zbT h
 refine zbx (hrd.vw (i:=3) rfl) hq4 Tryd.underlying24 zhs rfl dc rfl rfl rfl (zcT (n:=0+(to1:Int).toNat) (j:=0) (i:=3) (q:=q1) hrd rfl za5 zc9 rfl dc rfl (Vw.get (hrd.vw (i:=3) rfl) hq4) rfl dc rfl (zyR 1 rfl ?_))
 obtain ⟨hg1,h⟩:=zbM h
 refine zaQ rfl (zaW (r:=from1+1) (IntWalk.i64_in _ hg1)) (zaQ rfl zd1 (zyR 2 rfl (zyN (zax ?_))))
 cases h
 exact zaC (rs:=[.tmp 6]) () (.inl rfl) Tryd.results81 (.cons (.tmp rfl) .nil) rfl Splits.nil
def zdI (t1:Gpage_turner) (from1:Int) (to1:Int):Option Int :=
zbk (fun (j1:Int→Option Int) =>
zan (zcF t1 from1) fun (r1:Int) =>
zan (zcj t1 from1 to1) fun (r2:Int) =>
grd (I64 (r1 - r2)) <|
zam (decide ((0:Int)<(r1 - r2))) (
grd (I64 ((r1 - r2)*(r1 - r2))) <|
j1 ((r1 - r2)*(r1 - r2))
) (
j1 0
)
) (fun (n1:Int) =>
zbk (fun (j2:Int→Option Int) =>
grd (I64 (to1 - 1)) <|
zan (zcv t1 (to1 - 1)) fun (r3:Bool) =>
zam (!r3) (
grd (I64 (n1+1000)) <|
j2 (n1+1000)
) (
j2 n1
)
) (fun (n2:Int) =>
some n2
)
)
theorem zf1 {bt1:Nat} {t1:Gpage_turner} {t1_h0 t1_h1 t1_h2:Hd} {from1:Int} {to1:Int} {r:Int} (h:zdI t1 from1 to1=some r):FnR Tryd.prog 84 [zP bt1,zI from1,zI to1] [cells bt1 [.string t1.s,t1_h0.v,t1_h1.v,t1_h2.v,zI t1.first,zI t1.rest] 163,zv3 t1_h0.v t1.cells,zv0 t1_h1.v t1.wide,zv0 t1_h2.v t1.ends] [] (fun _:Unit=>(zI r)) (fun _=>[]):=by
 unfold zdI at h
 refine FnR.intro Tryd.func84 rfl Tryd.ntmps84 (by simp) ?_
 intro w0 K hrd
 obtain ⟨j1,hj1,h⟩:=zbU h
 refine zaZ (β:=Int) 2 rfl (fun b=>j1 b=some r) (fun b=>[]) (fun b=>[(0,zP bt1),(2,zI to1),(7,zI b)]) (fun b=>[]) (fun cut => ?_) ?_
 ·
  refine zyG (zyR 1 rfl (zyH (zyR 1 rfl (zyN (cut (zyG (zyR 1 rfl ?_)))))))
  refine zyR 1 rfl ?_
  obtain ⟨r1,hq1,h⟩:=zbT h
  refine zco (v:=zI r1) (vs:=[zP bt1,zI from1]) hrd rfl dc rfl rfl rfl zpa (zdt (bt1:=bt1) (t1:=t1) (t1_h0:=t1_h0) (t1_h1:=t1_h1) (t1_h2:=t1_h2) hq1) (.ro 0 rfl (.ro 1 rfl (.ro 2 rfl (.ro 3 rfl .nil)))) (zyR 3 rfl ?_)
  obtain ⟨r2,hq2,h⟩:=zbT h
  refine zco (v:=zI r2) (vs:=[zP bt1,zI from1,zI to1]) hrd rfl dc rfl rfl rfl zpb (zc6 (bt1:=bt1) (t1:=t1) (t1_h0:=t1_h0) (t1_h1:=t1_h1) (t1_h2:=t1_h2) hq2) (.ro 0 rfl (.ro 1 rfl (.ro 2 rfl (.ro 3 rfl .nil)))) ?_
  obtain ⟨hg1,h⟩:=zbM h
  refine zaQ rfl (zcc (r:=r1 - r2) (IntWalk.i64_in _ hg1)) (zyR 1 rfl (zyH (zyR 1 rfl (zaQ rfl zcQ (zyN ?_)))))
  refine zyB rfl h (fun h => ?_) (fun h => ?_)
  ·
   refine zaG (zyR 2 rfl ?_)
   obtain ⟨hg2,h⟩:=zbM h
   refine zaQ rfl (zpk (r:=(r1 - r2)*(r1 - r2)) (IntWalk.i64_in _ hg2)) (zyR 1 rfl (zaK ?_))
   exact zai ((r1 - r2)*(r1 - r2)) h rfl (za1 rfl) Splits.nil
  refine zar ?_
  exact zai 0 h rfl (za1 rfl) Splits.nil
 rintro n1 h
 rw [hj1] at h
 obtain ⟨j2,hj2,h⟩:=zbU h
 refine zaZ (β:=Int) 0 rfl (fun b=>j2 b=some r) (fun b=>[]) (fun b=>[(7,zI b)]) (fun b=>[]) (fun cut => ?_) ?_
 ·
  refine cut (zyG (zyR 2 rfl ?_))
  obtain ⟨hg3,h⟩:=zbM h
  refine zaQ rfl (zcc (r:=to1 - 1) (IntWalk.i64_in _ hg3)) ?_
  obtain ⟨r3,hq3,h⟩:=zbT h
  refine zco (v:=.bool r3) (vs:=[zP bt1,zI (to1 - 1)]) hrd rfl dc rfl rfl rfl zpc (zdp (bt1:=bt1) (t1:=t1) (t1_h0:=t1_h0) (t1_h1:=t1_h1) (t1_h2:=t1_h2) hq3) (.ro 0 rfl (.ro 1 rfl (.ro 2 rfl (.ro 3 rfl .nil)))) (zdg rfl dc rfl zch (zyN ?_))
  refine zyB rfl h (fun h => ?_) (fun h => ?_)
  ·
   refine zaG (zyR 1 rfl ?_)
   obtain ⟨hg4,h⟩:=zbM h
   refine zaQ rfl (zaW (r:=n1+1000) (IntWalk.i64_in _ hg4)) (zyR 1 rfl (zaK ?_))
   exact zai (n1+1000) h rfl (za1 rfl) Splits.nil
  refine zar ?_
  exact zai n1 h rfl (za1 rfl) Splits.nil
 rintro n2 h
 rw [hj2] at h
 refine zyG (zyR 2 rfl (zyN (zax ?_)))
 cases h
 exact zaC (rs:=[.tmp 6]) () (.inl rfl) Tryd.results84 (.cons (.tmp rfl) .nil) rfl Splits.nil
def zcx (t1:Gpage_turner) (from3:Int) (j2:(List Gpage_best)→Option ((List Int)×Int)) (ag2:(List Gpage_best)→Int→Option ((List Int)×Int)) (all8:List Gpage_best) (to3:Int):Option ((List Int)×Int) :=
zam (decide ((to3:Int)≤(t1.cells.length:Int))) (
zbk (fun (j3:(List Gpage_best)→Option ((List Int)×Int)) =>
zan (zdX t1 from3 to3) fun (r1:Bool) =>
zam (!r1) (
zan (zcj t1 from3 to3) fun (r2:Int) =>
zan (zcF t1 from3) fun (r3:Int) =>
zam (decide ((r3:Int)<r2)) (
j2 all8
) (
j3 all8
)
) (
zbk (fun (j4:Int→Int→Option ((List Int)×Int)) =>
zam (decide ((to3:Int)<(t1.cells.length:Int))) (
zan (zcI all8 to3) fun (q2:Gpage_best) =>
zam (decide ((q2.rows:Int)<0)) (
j3 all8
) (
zan (zdI t1 from3 to3) fun (r4:Int) =>
zan (zcI all8 to3) fun (q3:Gpage_best) =>
grd (I64 (r4+q3.cost)) <|
grd (I64 (q3.rows+1)) <|
j4 (r4+q3.cost) (q3.rows+1)
)
) (
j4 0 1
)
) (fun (b2:Int) (b3:Int) =>
zan (zcI all8 from3) fun (q4:Gpage_best) =>
zam (decide ((q4.rows:Int)<0)) (
zan (zcI all8 from3) fun (q5:Gpage_best) =>
j3 (all8.set (from3:Int).toNat (⟨b2,b3,to3⟩:Gpage_best))
) (
zam (decide ((b2:Int)<q4.cost)) (
zan (zcI all8 from3) fun (q6:Gpage_best) =>
j3 (all8.set (from3:Int).toNat (⟨b2,b3,to3⟩:Gpage_best))
) (
zam ((b2:Int)==q4.cost) (
zam (decide ((b3:Int)≤q4.rows)) (
zan (zcI all8 from3) fun (q7:Gpage_best) =>
j3 (all8.set (from3:Int).toNat (⟨b2,b3,to3⟩:Gpage_best))
) (
j3 all8
)
) (
j3 all8
)
)
)
)
)
) (fun (all9:List Gpage_best) =>
grd (I64 (to3+1)) <|
ag2 all9 (to3+1)
)
) (
j2 all8
)
def zcy (t1:Gpage_turner) (j1:(List Gpage_best)→Option ((List Int)×Int)) (ag1:(List Gpage_best)→Int→Option ((List Int)×Int)) (all4:List Gpage_best) (from3:Int):Option ((List Int)×Int) :=
zam (decide ((0:Int)≤from3)) (
zbk (fun (j2:(List Gpage_best)→Option ((List Int)×Int)) =>
zan (zcI all4 from3) fun (q1:Gpage_best) =>
grd (I64 (from3+1)) <|
zaT (fun _ _=>none) (zcx t1 from3 j2) zb8 (all4.set (from3:Int).toNat (⟨q1.cost,(-1),q1.to_⟩:Gpage_best)) (from3+1)
) (fun (all5:List Gpage_best) =>
grd (I64 (from3 - 1)) <|
ag1 all5 (from3 - 1)
)
) (
j1 all4
)
def zcw (t1:Gpage_turner) (all1:List Gpage_best) (j5:(List Int)→Option ((List Int)×Int)) (ag3:(List Int)→Int→Option ((List Int)×Int)) (out4:List Int) (from6:Int):Option ((List Int)×Int) :=
zam (decide ((from6:Int)<(t1.cells.length:Int))) (
zan (zcI all1 from6) fun (q8:Gpage_best) =>
grd (out4.length+1≤2147483648) <|
zan (zcI all1 from6) fun (q9:Gpage_best) =>
ag3 (out4++[q8.to_]) q9.to_
) (
j5 out4
)
def zdH (t1:Gpage_turner):Option ((List Int)×Int) :=
zbk (fun (j1:(List Gpage_best)→Option ((List Int)×Int)) =>
grd (I64 ((t1.cells.length:Int)+1)) <|
grd (0≤((t1.cells.length:Int)+1)∧((t1.cells.length:Int)+1)≤2147483648) <|
grd (I64 ((t1.cells.length:Int) - 1)) <|
zaT (fun _ _=>none) (zcy t1 j1) zb8 (List.replicate ((t1.cells.length:Int)+1:Int).toNat (⟨0,0,0⟩:Gpage_best):List Gpage_best) ((t1.cells.length:Int) - 1)
) (fun (all1:List Gpage_best) =>
zbk (fun (j5:(List Int)→Option ((List Int)×Int)) =>
zaT (fun _ _=>none) (zcw t1 all1 j5) zb8 ([]:List Int) 0
) (fun (out1:List Int) =>
zan (zcI all1 0) fun (q10:Gpage_best) =>
some (out1,q10.cost)
)
)
theorem zf0 {bt1:Nat} {t1:Gpage_turner} {t1_h0 t1_h1 t1_h2:Hd} {r:((List Int)×Int)} (h:zdH t1=some r):FnR Tryd.prog 54 [zP bt1] [cells bt1 [.string t1.s,t1_h0.v,t1_h1.v,t1_h2.v,zI t1.first,zI t1.rest] 163,zv3 t1_h0.v t1.cells,zv0 t1_h1.v t1.wide,zv0 t1_h2.v t1.ends] [] (fun v0:Value=>.tuple #[v0,zI r.2]) (fun v0=>[zv0 v0 r.1]):=by
 unfold zdH at h
 refine FnR.intro Tryd.func54 rfl Tryd.ntmps54 (by simp) ?_
 intro w0 K hrd
 obtain ⟨j1,hj1,h⟩:=zbU h
 refine zaZ (β:=(List Gpage_best)×Value) 3 rfl (fun b=>j1 b.1=some r) (fun b=>[]) (fun b=>[(4,zI (t1.cells.length:Int)),(5,b.2)]) (fun b=>[zv7 b.2 b.1]) (fun cut => ?_) ?_
 ·
  refine zyG (zyR 2 rfl (zyH (zyR 1 rfl (zat rfl dc rfl (zac ze7 rfl dc rfl (show _=1 from rfl) (zbs (i:=0) hrd rfl ziV rfl dc rfl rfl (zdR (hrd.vw (i:=1) rfl) rfl dc rfl Tryd.underlying100 (zyR 1 rfl ?_))))))))
  refine zyH (zyR 1 rfl ?_)
  obtain ⟨hg1,h⟩:=zbM h
  refine zaQ rfl (zaW (r:=(t1.cells.length:Int)+1) (IntWalk.i64_in _ hg1)) ?_
  obtain ⟨hg2,h⟩:=zbM h
  refine zi7 (z:=(⟨0,0,0⟩:Gpage_best)) Tryd.underlying136 zqs zmm zbe rfl dc rfl hg2 (fun v2 => ?_)
  refine zyR 1 rfl (zyN (cut (zyG (zyR 1 rfl ?_))))
  obtain ⟨hg3,h⟩:=zbM h
  refine zaQ rfl (zcc (r:=(t1.cells.length:Int) - 1) (IntWalk.i64_in _ hg3)) (zyR 1 rfl (zyN (zaL ?_)))
  refine zbK (β:=Nat×(List Gpage_best)×Int) (fun b=>zaT (fun _ _=>none) (zcy t1 j1) b.1 b.2.1 b.2.2=some r) (fun b=>[]) (fun b=>[(0,zP bt1),(4,zI (t1.cells.length:Int)),(5,v2),(6,zI b.2.2)]) (fun b=>[zv7 v2 b.2.1]) (fun b=>b.1) (zb8,(List.replicate ((t1.cells.length:Int)+1:Int).toNat (⟨0,0,0⟩:Gpage_best):List Gpage_best),(t1.cells.length:Int) - 1) h rfl (za1 rfl) (zae [0] kr rfl) ?_
  rintro ⟨n1,all4,from3⟩ h
  cases n1 with
  | zero=>exact zdu h
  | succ n1 =>
   obtain ⟨ag1,hag1⟩:∃ ag,ag=zaT (fun _ _=>none) (zcy t1 j1) n1:=⟨_,rfl⟩
   have h:zcy t1 j1 ag1 all4 from3=some r:=by rw [hag1]; exact h
   unfold zcy at h
   refine zaF (zyG (zyR 1 rfl (zaQ rfl zeB (zyN ?_))))
   refine zyB rfl h (fun h => ?_) (fun h => ?_)
   ·
    refine zar (zaH ?_)
    obtain ⟨j2,hj2,h⟩:=zbU h
    refine zaZ (β:=(List Gpage_best)) 0 rfl (fun b=>j2 b=some r) (fun b=>[]) (fun b=>[(0,zP bt1),(4,zI (t1.cells.length:Int)),(5,v2),(6,zI from3)]) (fun b=>[zv7 v2 b]) (fun cut => ?_) ?_
    ·
     refine cut (zaL ?_)
     refine zeI (β:=Unit) (l:=0) (fun _=>False) (fun _=>[]) (fun _=>[]) rfl ?_ ?_
     ·
      refine zyG (zyR 2 rfl ?_)
      obtain ⟨q1,hq1,h⟩:=zbT h
      refine zaX (k:=0) hq1 Tryd.underlying136 zd7 rfl dc rfl rfl rfl rfl (zac zfC rfl dc rfl (show _=((from3:Int).toNat)*3+1 from rfl) ?_)
      refine zdw (i:=(from3:Int).toNat) (j:=1) (k:=0) (q:=q1) (q':=(⟨q1.cost,(-1),q1.to_⟩:Gpage_best)) zhs zbe rfl rfl rfl rfl (zaV hq1) rfl dc rfl (fun _ _=>rfl) ?_
      refine zyN (zaF (zhM (zaH (zyG (zyR 1 rfl ?_)))))
      obtain ⟨hg4,h⟩:=zbM h
      refine zaQ rfl (zaW (r:=from3+1) (IntWalk.i64_in _ hg4)) (zyR 1 rfl (zyN (zaL ?_)))
      refine zbK (β:=Nat×(List Gpage_best)×Int) (fun b=>zaT (fun _ _=>none) (zcx t1 from3 j2) b.1 b.2.1 b.2.2=some r) (fun b=>[]) (fun b=>[(0,zP bt1),(4,zI (t1.cells.length:Int)),(5,v2),(6,zI from3),(7,zI b.2.2)]) (fun b=>[zv7 v2 b.2.1]) (fun b=>b.1) (zb8,all4.set (from3:Int).toNat (⟨q1.cost,(-1),q1.to_⟩:Gpage_best),from3+1) h rfl (za1 rfl) (zae [0] kr rfl) ?_
      rintro ⟨n2,all8,to3⟩ h
      cases n2 with
      | zero=>exact zdu h
      | succ n2 =>
       obtain ⟨ag2,hag2⟩:∃ ag,ag=zaT (fun _ _=>none) (zcx t1 from3 j2) n2:=⟨_,rfl⟩
       have h:zcx t1 from3 j2 ag2 all8 to3=some r:=by rw [hag2]; exact h
       unfold zcx at h
       refine zaF (zyG (zyR 2 rfl (zaQ rfl zd1 (zyN ?_))))
       refine zyB rfl h (fun h => ?_) (fun h => ?_)
       ·
        refine zar (zaH ?_)
        obtain ⟨j3,hj3,h⟩:=zbU h
        refine zaZ (β:=(List Gpage_best)) 0 rfl (fun b=>j3 b=some r) (fun b=>[]) (fun b=>[(0,zP bt1),(4,zI (t1.cells.length:Int)),(5,v2),(6,zI from3),(7,zI to3)]) (fun b=>[zv7 v2 b]) (fun cut => ?_) ?_
        ·
         refine cut (zaL (zaF (zyG (zyR 3 rfl ?_))))
         obtain ⟨r1,hq2,h⟩:=zbT h
         refine zco (v:=.bool r1) (vs:=[zP bt1,zI from3,zI to3]) hrd rfl dc rfl rfl rfl zrq (zgq (bt1:=bt1) (t1:=t1) (t1_h0:=t1_h0) (t1_h1:=t1_h1) (t1_h2:=t1_h2) hq2) (.ro 0 rfl (.ro 1 rfl (.ro 2 rfl (.ro 3 rfl .nil)))) (zdg rfl dc rfl zch (zyN ?_))
         refine zyB rfl h (fun h => ?_) (fun h => ?_)
         ·
          refine zaF (zyG (zyR 3 rfl ?_))
          obtain ⟨r2,hq3,h⟩:=zbT h
          refine zco (v:=zI r2) (vs:=[zP bt1,zI from3,zI to3]) hrd rfl dc rfl rfl rfl zpb (zc6 (bt1:=bt1) (t1:=t1) (t1_h0:=t1_h0) (t1_h1:=t1_h1) (t1_h2:=t1_h2) hq3) (.ro 0 rfl (.ro 1 rfl (.ro 2 rfl (.ro 3 rfl .nil)))) (zyR 2 rfl ?_)
          obtain ⟨r3,hq4,h⟩:=zbT h
          refine zco (v:=zI r3) (vs:=[zP bt1,zI from3]) hrd rfl dc rfl rfl rfl zpa (zdt (bt1:=bt1) (t1:=t1) (t1_h0:=t1_h0) (t1_h1:=t1_h1) (t1_h2:=t1_h2) hq4) (.ro 0 rfl (.ro 1 rfl (.ro 2 rfl (.ro 3 rfl .nil)))) (zaQ rfl zcQ (zyN ?_))
          refine zyB rfl h (fun h => ?_) (fun h => ?_)
          ·
           refine zbc (zap (zap (zbX dc (zap (zap (zaw (zbG (by simp) (zal ?_))))))))
           exact zai all8 h rfl (za1 rfl) (zae [0] kr rfl)
          refine zar (zaH (zbc (zap (zaw ?_))))
          exact zai all8 h rfl (za1 rfl) (zae [0] kr rfl)
         refine zar (zaH ?_)
         obtain ⟨j4,hj4,h⟩:=zbU h
         refine zaZ (β:=Int×Int×Nat) 1 rfl (fun b=>j4 b.1 b.2.1=some r) (fun b=>[]) (fun b=>[(0,zP bt1),(4,zI (t1.cells.length:Int)),(5,v2),(6,zI from3),(7,zI to3),(8,zP b.2.2)]) (fun b=>[zv7 v2 all8,cells b.2.2 [zI b.1,zI b.2.1,zI to3] 138]) (fun cut => ?_) ?_
         ·
          refine zyG (zyR 1 rfl ?_)
          refine zbJ (v:=.agg #[zI 0,zI 1,zI to3]) (ps:=[(1,.const (zI 1)),(2,.tmp 50)]) rfl dc rfl (fun _=>by kernel_rfl) ?_
          refine zbY zmm rfl dc (fun b4 => ?_)
          refine za6 (k:=1) (vs:=[zI 0,zI 1,zI to3]) (l':=[zI 0,zI 1,zI to3]) zd7 rfl rfl rfl rfl rfl (show _≤_ by simp) rfl rfl ?_
          refine zyN (cut (zyG (zyR 2 rfl (zaQ rfl zbV (zyN ?_)))))
          refine zyB rfl h (fun h => ?_) (fun h => ?_)
          ·
           refine zaF (zyG (zyR 2 rfl ?_))
           obtain ⟨q2,hq5,h⟩:=zbT h
           refine zaX (k:=0) hq5 Tryd.underlying136 zd7 rfl dc rfl rfl rfl rfl (zac zfC rfl dc rfl (show _=((to3:Int).toNat)*3+1 from rfl) (zbA (i:=(to3:Int).toNat) (j:=1) (k:=0) (q:=q2) za5 zbe rfl dc rfl rfl (zaV hq5) rfl dc rfl (zaQ rfl zbV (zyN ?_))))
           refine zyB rfl h (fun h => ?_) (fun h => ?_)
           ·
            refine zbc (zap (zap (zaw ?_)))
            exact zai all8 h rfl (za1 rfl) (zae [0] kr rfl)
           refine zar (zaH ?_)
           obtain ⟨r4,hq6,h⟩:=zbT h
           obtain ⟨q3,hq7,h⟩:=zbT h
           obtain ⟨hg5,h⟩:=zbM h
           obtain ⟨hg6,h⟩:=zbM h
           refine zaN 17 [(0,61,zP bt1),(1,62,zI from3),(2,63,zI to3),(3,64,zI r4),(4,65,v2),(5,66,zI to3),(6,67,.pointer (some ⟨zc7 v2,(to3:Int).toNat*3,none⟩)),(7,68,.pointer (some ⟨zc7 v2,((to3:Int).toNat)*3,none⟩)),(8,69,zI q3.cost),(9,70,zI (r4+q3.cost)),(10,71,v2),(11,72,zI to3),(12,73,.pointer (some ⟨zc7 v2,(to3:Int).toNat*3,none⟩)),(13,74,.pointer (some ⟨zc7 v2,((to3:Int).toNat)*3+1,none⟩)),(14,75,zI q3.rows),(15,76,zI (q3.rows+1)),(16,77,zI to3)] mixed kr kr dc (by rfl) kr kr (zyP 3 0 rfl (zaa ?_ (zyP 2 4 rfl (zaa ?_ (zaa ?_ (zaa ?_ (zaa ?_ (zyP 2 10 rfl (zaa ?_ (zaa ?_ (zaa ?_ (zaa ?_ (zyP 1 16 rfl DrawPre.nil))))))))))))) ?_
           · exact fun D n d c u i=>zco (v:=zI r4) (vs:=[zP bt1,zI from3,zI to3]) hrd rfl dc rfl (evL.cons (zab (m:=0) u rfl (d 0 dc)) (evL.cons (zab (m:=1) u rfl (d 1 dc)) (evL.cons (zab (m:=2) u rfl (d 2 dc)) evL.nil))) rfl zrp (zf1 (bt1:=bt1) (t1:=t1) (t1_h0:=t1_h0) (t1_h1:=t1_h1) (t1_h2:=t1_h2) hq6) (.ro 0 rfl (.ro 1 rfl (.ro 2 rfl (.ro 3 rfl .nil)))) (zad 3 u i rfl)
           · exact fun D n d c u i=>zaX (k:=0) hq7 Tryd.underlying136 zd7 rfl dc (zab (m:=4) u rfl (d 4 dc)) (zab (m:=5) u rfl (d 5 dc)) rfl rfl (zad 6 u i rfl)
           · exact fun D n d c u i=>zac zfD rfl dc (zab (m:=6) u rfl (d 6 dc)) (show _=((to3:Int).toNat)*3 from rfl) (zad 7 u i rfl)
           · exact fun D n d c u i=>zbA (i:=(to3:Int).toNat) (j:=0) (k:=0) (q:=q3) za5 zbe rfl dc (zab (m:=7) u rfl (d 7 dc)) rfl (zaV hq7) rfl dc rfl (zad 8 u i rfl)
           · exact fun D n d c u i=>zaM rfl dc (zab (m:=3) u rfl (d 3 dc)) (zab (m:=8) u rfl (d 8 dc)) (zaW (r:=r4+q3.cost) (IntWalk.i64_in _ hg5)) (zad 9 u i rfl)
           · exact fun D n d c u i=>zaX (k:=0) hq7 Tryd.underlying136 zd7 rfl dc (zab (m:=10) u rfl (d 10 dc)) (zab (m:=11) u rfl (d 11 dc)) rfl rfl (zad 12 u i rfl)
           · exact fun D n d c u i=>zac zfC rfl dc (zab (m:=12) u rfl (d 12 dc)) (show _=((to3:Int).toNat)*3+1 from rfl) (zad 13 u i rfl)
           · exact fun D n d c u i=>zbA (i:=(to3:Int).toNat) (j:=1) (k:=0) (q:=q3) za5 zbe rfl dc (zab (m:=13) u rfl (d 13 dc)) rfl (zaV hq7) rfl dc rfl (zad 14 u i rfl)
           · exact fun D n d c u i=>zaM rfl dc (zab (m:=14) u rfl (d 14 dc)) rfl (zaW (r:=q3.rows+1) (IntWalk.i64_in _ hg6)) (zad 15 u i rfl)
           refine zbJ (v:=.agg #[zI (r4+q3.cost),zI (q3.rows+1),zI to3]) (ps:=[(0,.tmp 70),(1,.tmp 76),(2,.tmp 77)]) rfl dc rfl (fun _=>by kernel_rfl) ?_
           refine za6 (k:=1) (vs:=[zI (r4+q3.cost),zI (q3.rows+1),zI to3]) (l':=[zI (r4+q3.cost),zI (q3.rows+1),zI to3]) zd7 rfl rfl rfl rfl rfl (show _≤_ by simp) rfl rfl (zaK ?_)
           exact zai (r4+q3.cost,q3.rows+1,b4) h rfl (za1 rfl) (zae [0,1] kr rfl)
          refine zar ?_
          exact zai (0,1,b4) h rfl (za1 rfl) (zae [0,1] kr rfl)
         rintro ⟨b2,b3,b1⟩ h
         rw [hj4] at h
         refine zyG (zyR 2 rfl ?_)
         obtain ⟨q4,hq8,h⟩:=zbT h
         refine zaX (k:=0) hq8 Tryd.underlying136 zd7 rfl dc rfl rfl rfl rfl (zla (i:=(from3:Int).toNat) (j:=0) (k:=0) (q:=q4) (cs:=[zI q4.cost,zI q4.rows,zI q4.to_]) zln zbe rfl dc rfl rfl (zaV hq8) rfl rfl rfl ?_)
         refine zbY zmm rfl dc (fun b5 => ?_)
         refine za6 (k:=2) (vs:=[zI q4.cost,zI q4.rows,zI q4.to_]) (l':=[zI q4.cost,zI q4.rows,zI q4.to_]) zd7 rfl rfl rfl rfl rfl (show _≤_ by simp) rfl rfl ?_
         refine zyH (zac zfC rfl dc rfl (show _=1 from rfl) (zah (k:=2) za5 rfl dc rfl rfl rfl (zaQ rfl zbV (zyR 1 rfl ?_))))
         refine zyS (s:=86) rfl h (fun h => ?_) (fun h => ?_)
         ·
          refine zyR 14 rfl ?_
          refine zyR 6 rfl (zyN (zbg rfl (zaG (zyR 2 rfl (zbf (k:=1) (cs:=[zI b2,zI b3,zI to3]) zln rfl dc rfl rfl rfl rfl ?_)))))
          obtain ⟨q5,hq9,h⟩:=zbT h
          refine zaX (k:=0) hq9 Tryd.underlying136 zd7 rfl dc rfl rfl rfl rfl ?_
          refine zfx (i:=(from3:Int).toNat) (j:=0) (k:=0) (q:=q5) (q':=(⟨b2,b3,to3⟩:Gpage_best)) (vs:=[zI b2,zI b3,zI to3]) zd7 zbe rfl rfl rfl rfl (zaV hq9) rfl dc rfl rfl (fun m=>[q5,(⟨b2,q5.rows,q5.to_⟩:Gpage_best),(⟨b2,b3,q5.to_⟩:Gpage_best),(⟨b2,b3,to3⟩:Gpage_best)].getD m q5) rfl rfl (by intro m hm; rcases m with _ | _ | _ | m <;> first | rfl | (exfalso; omega)) ?_
          refine zaK (zal ?_)
          exact zai (all8.set (from3:Int).toNat (⟨b2,b3,to3⟩:Gpage_best)) h rfl (za1 rfl) (zae [0] kr rfl)
         refine zac zfD rfl dc rfl (show _=0 from rfl) (zah (k:=1) za5 rfl dc rfl rfl rfl (zac zfD rfl dc rfl (show _=0 from rfl) (zah (k:=2) za5 rfl dc rfl rfl rfl (zaQ rfl zbV (zyR 2 rfl ?_)))))
         refine zyS (s:=93) rfl h (fun h => ?_) (fun h => ?_)
         ·
          refine zyR 13 rfl (zaK ?_)
          refine zaH (zbg rfl (zaG (zyR 2 rfl (zbf (k:=1) (cs:=[zI b2,zI b3,zI to3]) zln rfl dc rfl rfl rfl rfl ?_))))
          obtain ⟨q6,hq10,h⟩:=zbT h
          refine zaX (k:=0) hq10 Tryd.underlying136 zd7 rfl dc rfl rfl rfl rfl ?_
          refine zfx (i:=(from3:Int).toNat) (j:=0) (k:=0) (q:=q6) (q':=(⟨b2,b3,to3⟩:Gpage_best)) (vs:=[zI b2,zI b3,zI to3]) zd7 zbe rfl rfl rfl rfl (zaV hq10) rfl dc rfl rfl (fun m=>[q6,(⟨b2,q6.rows,q6.to_⟩:Gpage_best),(⟨b2,b3,q6.to_⟩:Gpage_best),(⟨b2,b3,to3⟩:Gpage_best)].getD m q6) rfl rfl (by intro m hm; rcases m with _ | _ | _ | m <;> first | rfl | (exfalso; omega)) ?_
          refine zaK (zal ?_)
          exact zai (all8.set (from3:Int).toNat (⟨b2,b3,to3⟩:Gpage_best)) h rfl (za1 rfl) (zae [0] kr rfl)
         refine zac zfD rfl dc rfl (show _=0 from rfl) (zah (k:=1) za5 rfl dc rfl rfl rfl (zac zfD rfl dc rfl (show _=0 from rfl) (zah (k:=2) za5 rfl dc rfl rfl rfl (zaQ rfl zaq (zyR 1 rfl ?_)))))
         refine zyS (s:=99) rfl h (fun h => ?_) (fun h => ?_)
         ·
          refine zac zfC rfl dc rfl (show _=1 from rfl) (zah (k:=1) za5 rfl dc rfl rfl rfl (zac zfC rfl dc rfl (show _=1 from rfl) (zah (k:=2) za5 rfl dc rfl rfl rfl (zaQ rfl zd1 (zyR 2 rfl (zyN ?_))))))
          refine zyB rfl h (fun h => ?_) (fun h => ?_)
          ·
           refine zaG (zyR 2 rfl (zbf (k:=1) (cs:=[zI b2,zI b3,zI to3]) zln rfl dc rfl rfl rfl rfl ?_))
           obtain ⟨q7,hq11,h⟩:=zbT h
           refine zaX (k:=0) hq11 Tryd.underlying136 zd7 rfl dc rfl rfl rfl rfl ?_
           refine zfx (i:=(from3:Int).toNat) (j:=0) (k:=0) (q:=q7) (q':=(⟨b2,b3,to3⟩:Gpage_best)) (vs:=[zI b2,zI b3,zI to3]) zd7 zbe rfl rfl rfl rfl (zaV hq11) rfl dc rfl rfl (fun m=>[q7,(⟨b2,q7.rows,q7.to_⟩:Gpage_best),(⟨b2,b3,q7.to_⟩:Gpage_best),(⟨b2,b3,to3⟩:Gpage_best)].getD m q7) rfl rfl (by intro m hm; rcases m with _ | _ | _ | m <;> first | rfl | (exfalso; omega)) ?_
           refine zaK (zal ?_)
           exact zai (all8.set (from3:Int).toNat (⟨b2,b3,to3⟩:Gpage_best)) h rfl (za1 rfl) (zae [0] kr rfl)
          refine zar (zal ?_)
          exact zai all8 h rfl (za1 rfl) (zae [0] kr rfl)
         refine zyR 7 rfl (zyN (zaP rfl (zar (zal ?_))))
         exact zai all8 h rfl (za1 rfl) (zae [0] kr rfl)
        rintro all9 h
        rw [hj3] at h
        refine zaG (zyR 1 rfl ?_)
        obtain ⟨hg7,h⟩:=zbM h
        refine zaQ rfl (zaW (r:=to3+1) (IntWalk.i64_in _ hg7)) (zyR 1 rfl (zaK ?_))
        subst hag2
        exact za8 (n2,all9,to3+1) h (Nat.lt_succ_self _) rfl (za1 rfl) (zae [0] kr rfl)
       refine zbc (zap (zap (zaw (zbG (by simp) (zal ?_)))))
       exact zai all8 h rfl (za1 rfl) (zae [0] kr rfl)
     exact fun b hb=>hb.elim
    rintro all5 h
    rw [hj2] at h
    refine zaG (zyR 1 rfl ?_)
    obtain ⟨hg8,h⟩:=zbM h
    refine zaQ rfl (zcc (r:=from3 - 1) (IntWalk.i64_in _ hg8)) (zyR 1 rfl (zaK ?_))
    subst hag1
    exact za8 (n1,all5,from3 - 1) h (Nat.lt_succ_self _) rfl (za1 rfl) (zae [0] kr rfl)
   refine zbc (zap (zap (zaw ?_)))
   exact zai (all4,v2) h rfl (za1 rfl) (zae [0] kr rfl)
 rintro ⟨all1,v1⟩ h
 rw [hj1] at h
 obtain ⟨j5,hj5,h⟩:=zbU h
 refine zaZ (β:=(List Int)×Hd) 1 rfl (fun b=>j5 b.1=some r) (fun b=>[]) (fun b=>[(5,v1),(10,b.2.v)]) (fun b=>[zv7 v1 all1,zv0 b.2.v b.1]) (fun cut => ?_) ?_
 ·
  refine zyG (zyR 1 rfl (zyN (cut (zyG (zyR 1 rfl (zyN (zaL (zeD (enc:=(zmg (.i64))) (e:=3) (size:=1) ?_))))))))
  refine zbK (β:=Nat×(List Int)×Int×Hd) (fun b=>zaT (fun _ _=>none) (zcw t1 all1 j5) b.1 b.2.1 b.2.2.1=some r) (fun b=>[]) (fun b=>[(4,zI (t1.cells.length:Int)),(5,v1),(10,b.2.2.2.v),(11,zI b.2.2.1)]) (fun b=>[zv7 v1 all1,zv0 b.2.2.2.v b.2.1]) (fun b=>b.1) (zb8,([]:List Int),0,Hd.nil) h rfl (za1 rfl) (zae [0,1] kr rfl) ?_
  rintro ⟨n3,out4,from6,hd4⟩ h
  cases n3 with
  | zero=>exact zdu h
  | succ n3 =>
   obtain ⟨ag3,hag3⟩:∃ ag,ag=zaT (fun _ _=>none) (zcw t1 all1 j5) n3:=⟨_,rfl⟩
   have h:zcw t1 all1 j5 ag3 out4 from6=some r:=by rw [hag3]; exact h
   unfold zcw at h
   refine zaF (zyG (zyR 2 rfl (zaQ rfl zbV (zyN ?_))))
   refine zyB rfl h (fun h => ?_) (fun h => ?_)
   ·
    refine zar (zaH (zaF (zaL (zaG (zyR 3 rfl ?_)))))
    obtain ⟨q8,hq12,h⟩:=zbT h
    refine zaX (k:=0) hq12 Tryd.underlying136 zd7 rfl dc rfl rfl rfl rfl (zac zlu rfl dc rfl (show _=((from6:Int).toNat)*3+2 from rfl) (zbA (i:=(from6:Int).toNat) (j:=2) (k:=0) (q:=q8) za5 zbe rfl dc rfl rfl (zaV hq12) rfl dc rfl ?_))
    refine zbn (cs:=[zI q8.to_]) (te:=3) (ps:=[(0,.tmp 124)]) rfl dc rfl (fun _=>by kernel_rfl) (fun b6 => ?_)
    obtain ⟨hg9,h⟩:=zbM h
    refine zbH (k:=1) (k2:=2) (ys:=[q8.to_]) Tryd.underlying24 zrV zc9 zjD rfl dc rfl rfl rfl rfl rfl rfl hg9 (fun v3 => ?_)
    refine zcn (k:=1) rfl (fun hd5 he1 => ?_)
    subst he1
    refine zyR 1 rfl (zaK (zal (zaH (zaG (zyR 2 rfl ?_)))))
    obtain ⟨q9,hq13,h⟩:=zbT h
    refine zaX (k:=0) hq13 Tryd.underlying136 zd7 rfl dc rfl rfl rfl rfl (zac zlu rfl dc rfl (show _=((from6:Int).toNat)*3+2 from rfl) (zbA (i:=(from6:Int).toNat) (j:=2) (k:=0) (q:=q9) za5 zbe rfl dc rfl rfl (zaV hq13) rfl dc rfl (zyR 1 rfl (zaK ?_))))
    subst hag3
    exact za8 (n3,out4++[q8.to_],q9.to_,hd5) h (Nat.lt_succ_self _) rfl (za1 rfl) (zae [0,1] kr rfl)
   refine zbc (zap (zap (zaw ?_)))
   exact zai (out4,hd4) h rfl (za1 rfl) (zae [0,1] kr rfl)
 rintro ⟨out1,hd1⟩ h
 rw [hj5] at h
 refine zaF ?_
 obtain ⟨q10,hq14,h⟩:=zbT h
 refine zaN 6 [(0,127,hd1.v),(1,128,v1),(2,129,.pointer (some ⟨zc7 v1,(0:Int).toNat*3,none⟩)),(3,130,.pointer (some ⟨zc7 v1,((0:Int).toNat)*3,none⟩)),(4,131,zI q10.cost),(5,2,hd1.v)] mixed kr kr dc (by rfl) kr kr (zyP 2 0 rfl (zaa ?_ (zaa ?_ (zaa ?_ (zyP 1 5 rfl DrawPre.nil))))) ?_
 · exact fun D n d c u i=>zaX (k:=0) hq14 Tryd.underlying136 zd7 rfl dc (zab (m:=1) u rfl (d 1 dc)) rfl rfl rfl (zad 2 u i rfl)
 · exact fun D n d c u i=>zac zfD rfl dc (zab (m:=2) u rfl (d 2 dc)) (show _=((0:Int).toNat)*3 from rfl) (zad 3 u i rfl)
 · exact fun D n d c u i=>zbA (i:=(0:Int).toNat) (j:=0) (k:=0) (q:=q10) za5 zbe rfl dc (zab (m:=3) u rfl (d 3 dc)) rfl (zaV hq14) rfl dc rfl (zad 4 u i rfl)
 refine zyR 1 rfl (zyN (zax ?_))
 cases h
 exact zaC (rs:=[.tmp 2,.tmp 3]) hd1.v (.inl rfl) Tryd.results54 (.cons (.tmp rfl) (.cons (.tmp rfl) .nil)) rfl (zae [1] kr rfl)
def zdG (t1:Gpage_turner) (from1:Int) (to1:Int):Option ByteArray :=
zan (zcI t1.cells from1) fun (q1:Gapi_Cell) =>
grd (I64 (to1 - 1)) <|
zan (zcI t1.cells (to1 - 1)) fun (q2:Gapi_Cell) =>
grd (0≤(q1.Span_From:Int)∧(q1.Span_From:Int)≤q2.Span_To∧(q2.Span_To:Int)≤(t1.s.size:Int)) <|
some (zcu t1.s q1.Span_From q2.Span_To)
theorem zfZ {bt1:Nat} {t1:Gpage_turner} {t1_h0 t1_h1 t1_h2:Hd} {from1:Int} {to1:Int} {r:ByteArray} (h:zdG t1 from1 to1=some r):FnR Tryd.prog 55 [zP bt1,zI from1,zI to1] [cells bt1 [.string t1.s,t1_h0.v,t1_h1.v,t1_h2.v,zI t1.first,zI t1.rest] 163,zv3 t1_h0.v t1.cells,zv0 t1_h1.v t1.wide,zv0 t1_h2.v t1.ends] [] (fun _:Unit=>(.string r)) (fun _=>[]):=by
 unfold zdG at h
 refine FnR.intro Tryd.func55 rfl Tryd.ntmps55 (by simp) ?_
 intro w0 K hrd
 refine zyG (zyR 1 rfl (zyN (zaF ?_)))
 obtain ⟨q1,hq1,h⟩:=zbT h
 obtain ⟨hg1,h⟩:=zbM h
 obtain ⟨q2,hq2,h⟩:=zbT h
 obtain ⟨hg2,h⟩:=zbM h
 refine zaN 23 [(0,7,zP bt1),(1,8,zP bt1),(2,9,zP bt1),(3,10,.string t1.s),(4,11,zP bt1),(5,12,zP bt1),(6,13,.pointer (some ⟨bt1,1,none⟩)),(7,14,t1_h0.v),(8,15,zI from1),(9,16,.pointer (some ⟨zc7 t1_h0.v,(0+(from1:Int).toNat)*3,none⟩)),(10,17,.pointer (some ⟨zc7 t1_h0.v,(0+(from1:Int).toNat)*3,none⟩)),(11,18,.pointer (some ⟨zc7 t1_h0.v,(0+(from1:Int).toNat)*3,none⟩)),(12,19,zI q1.Span_From),(13,20,zP bt1),(14,21,zP bt1),(15,22,.pointer (some ⟨bt1,1,none⟩)),(16,23,t1_h0.v),(17,24,zI to1),(18,25,zI (to1 - 1)),(19,26,.pointer (some ⟨zc7 t1_h0.v,(0+(to1 - 1:Int).toNat)*3,none⟩)),(20,27,.pointer (some ⟨zc7 t1_h0.v,(0+(to1 - 1:Int).toNat)*3,none⟩)),(21,28,.pointer (some ⟨zc7 t1_h0.v,(0+(to1 - 1:Int).toNat)*3+1,none⟩)),(22,29,zI q2.Span_To)] mixed kr kr dc (by rfl) kr kr (zyP 1 0 rfl (zaa ?_ (zaa ?_ (zaa ?_ (zyP 1 4 rfl (zaa ?_ (zaa ?_ (zaa ?_ (zyP 1 8 rfl (zaa ?_ (zaa ?_ (zaa ?_ (zaa ?_ (zyP 1 13 rfl (zaa ?_ (zaa ?_ (zaa ?_ (zyP 1 17 rfl (zaa ?_ (zaa ?_ (zaa ?_ (zaa ?_ (zaa ?_ DrawPre.nil))))))))))))))))))))))) ?_
 · exact fun D n d c u i=>zat rfl dc (zab (m:=0) u rfl (d 0 dc)) (zad 1 u i rfl)
 · exact fun D n d c u i=>zac zlt rfl dc (zab (m:=1) u rfl (d 1 dc)) (show _=0 from rfl) (zad 2 u i rfl)
 · exact fun D n d c u i=>zbs (i:=0) hrd rfl zht rfl dc (zab (m:=2) u rfl (d 2 dc)) rfl (zad 3 u i rfl)
 · exact fun D n d c u i=>zat rfl dc (zab (m:=4) u rfl (d 4 dc)) (zad 5 u i rfl)
 · exact fun D n d c u i=>zac ze7 rfl dc (zab (m:=5) u rfl (d 5 dc)) (show _=1 from rfl) (zad 6 u i rfl)
 · exact fun D n d c u i=>zbs (i:=0) hrd rfl ziV rfl dc (zab (m:=6) u rfl (d 6 dc)) rfl (zad 7 u i rfl)
 · exact fun D n d c u i=>zbx (hrd.vw (i:=1) rfl) hq1 Tryd.underlying100 zjT rfl dc (zab (m:=7) u rfl (d 7 dc)) (zab (m:=8) u rfl (d 8 dc)) rfl (zad 9 u i rfl)
 · exact fun D n d c u i=>zac zfE rfl dc (zab (m:=9) u rfl (d 9 dc)) (show _=(0+(from1:Int).toNat)*3 from rfl) (zad 10 u i rfl)
 · exact fun D n d c u i=>zac zeO rfl dc (zab (m:=10) u rfl (d 10 dc)) (show _=(0+(from1:Int).toNat)*3 from rfl) (zad 11 u i rfl)
 · exact fun D n d c u i=>zcT (n:=0+(from1:Int).toNat) (j:=0) (i:=1) (q:=q1) hrd rfl za5 zdn rfl dc (zab (m:=11) u rfl (d 11 dc)) (Vw.get (hrd.vw (i:=1) rfl) hq1) rfl dc rfl (zad 12 u i rfl)
 · exact fun D n d c u i=>zat rfl dc (zab (m:=13) u rfl (d 13 dc)) (zad 14 u i rfl)
 · exact fun D n d c u i=>zac ze7 rfl dc (zab (m:=14) u rfl (d 14 dc)) (show _=1 from rfl) (zad 15 u i rfl)
 · exact fun D n d c u i=>zbs (i:=0) hrd rfl ziV rfl dc (zab (m:=15) u rfl (d 15 dc)) rfl (zad 16 u i rfl)
 · exact fun D n d c u i=>zaM rfl dc (zab (m:=17) u rfl (d 17 dc)) rfl (zcc (r:=to1 - 1) (IntWalk.i64_in _ hg1)) (zad 18 u i rfl)
 · exact fun D n d c u i=>zbx (hrd.vw (i:=1) rfl) hq2 Tryd.underlying100 zjT rfl dc (zab (m:=16) u rfl (d 16 dc)) (zab (m:=18) u rfl (d 18 dc)) rfl (zad 19 u i rfl)
 · exact fun D n d c u i=>zac zfE rfl dc (zab (m:=19) u rfl (d 19 dc)) (show _=(0+(to1 - 1:Int).toNat)*3 from rfl) (zad 20 u i rfl)
 · exact fun D n d c u i=>zac zez rfl dc (zab (m:=20) u rfl (d 20 dc)) (show _=(0+(to1 - 1:Int).toNat)*3+1 from rfl) (zad 21 u i rfl)
 · exact fun D n d c u i=>zcT (n:=0+(to1 - 1:Int).toNat) (j:=1) (i:=1) (q:=q2) hrd rfl za5 zdn rfl dc (zab (m:=21) u rfl (d 21 dc)) (Vw.get (hrd.vw (i:=1) rfl) hq2) rfl dc rfl (zad 22 u i rfl)
 refine zd5 rfl dc rfl rfl rfl (zcf (i:=q1.Span_From) (j:=q2.Span_To) Tryd.underlying9 (.inr rfl) (.inr rfl) hg2) (zyR 1 rfl (zyN (zax ?_)))
 cases h
 exact zaC (rs:=[.tmp 6]) () (.inl rfl) Tryd.results55 (.cons (.tmp rfl) .nil) rfl Splits.nil
def zcN (s1:ByteArray) (indent1:Int) (l1:Gapi_Layout) (x1:Gapi_Cell) (ag1:(List Gapi_Cell)→(List Int)→(List Int)→Option Gpage_turner) (t10:List Gapi_Cell) (t11:List Int) (t12:List Int):Option Gpage_turner :=
zbk (fun (j2:(List Int)→Int→Option Gpage_turner) =>
grd (t10.length+1≤2147483648) <|
grd (I64 (((t10++[x1]).length:Int) - 1)) <|
zan (zcI t11 (((t10++[x1]).length:Int) - 1)) fun (q1:Int) =>
grd (I64 (q1+x1.Columns)) <|
grd (t11.length+1≤2147483648) <|
grd (I64 ((((t10++[x1]).length:Int) - 1)+1)) <|
zan (zcv (⟨s1,t10++[x1],t11++[q1+x1.Columns],t12,max 1 (l1.Width - indent1),l1.Width - l1.Turn⟩:Gpage_turner) (((t10++[x1]).length:Int) - 1)) fun (r2:Bool) =>
zam (r2) (
zan (zcI t12 (((t10++[x1]).length:Int) - 1)) fun (q2:Int) =>
j2 (t11++[q1+x1.Columns]) q2
) (
j2 (t11++[q1+x1.Columns]) ((((t10++[x1]).length:Int) - 1)+1)
)
) (fun (t13:List Int) (end1:Int) =>
grd (t12.length+1≤2147483648) <|
ag1 (t10++[x1]) t13 (t12++[end1])
)
def zee (s1:ByteArray) (indent1:Int) (l1:Gapi_Layout):Option Gpage_turner :=
zbk (fun (j1:(List Gapi_Cell)→(List Int)→(List Int)→Option Gpage_turner) =>
grd (I64 (l1.Width - indent1)) <|
grd (I64 (l1.Width - l1.Turn)) <|
zan (zeQ s1) fun (r1:ByteArray) =>
zan (zeg r1) fun (its1:(List Gapi_Cell)) =>
zbk (fun (dn1:(List Gapi_Cell)→(List Int)→(List Int)→Option Gpage_turner) =>
zh1 dn1 (zcN s1 indent1 l1) its1 ([]:List Gapi_Cell) ([0]:List Int) ([0]:List Int)
) (fun (t10:List Gapi_Cell) (t11:List Int) (t12:List Int) =>
j1 t10 t11 t12
)
) (fun (t1:List Gapi_Cell) (t2:List Int) (t3:List Int) =>
some (⟨s1,t1,t2,t3,max 1 (l1.Width - indent1),l1.Width - l1.Turn⟩:Gpage_turner)
)
theorem zgU {s1:ByteArray} {indent1:Int} {l1:Gapi_Layout} {r:Gpage_turner} (h:zee s1 indent1 l1=some r):Fn Tryd.prog 53 [.string s1,zI indent1,.agg (zr3 l1).toArray] [] (fun b:Nat×Hd×Hd×Hd=>zP b.1) (fun b=>[cells b.1 [.string r.s,b.2.1.v,b.2.2.1.v,b.2.2.2.v,zI r.first,zI r.rest] 163,zv3 b.2.1.v r.cells,zv0 b.2.2.1.v r.wide,zv0 b.2.2.2.v r.ends]):=by
 unfold zee at h
 refine Fn.intro Tryd.func53 rfl Tryd.ntmps53 (by simp) ?_
 intro w0 K
 refine zlF ?_
 obtain ⟨j1,hj1,h⟩:=zbU h
 refine zaZ (β:=(List Gapi_Cell)×(List Int)×(List Int)×Nat×Nat×Hd×Hd×Hd×(List Nat)) 2 rfl (fun b=>j1 b.1 b.2.1 b.2.2.1=some r) (fun b=>zf5 b.2.2.2.2.2.2.2.2) (fun b=>[(7,zP b.2.2.2.1)]) (fun b=>[cells b.2.2.2.1 [zP b.2.2.2.2.1] 121,cells b.2.2.2.2.1 [.string s1,b.2.2.2.2.2.1.v,b.2.2.2.2.2.2.1.v,b.2.2.2.2.2.2.2.1.v,zI (max 1 (l1.Width - indent1)),zI (l1.Width - l1.Turn)] 163,zv3 b.2.2.2.2.2.1.v b.1,zv0 b.2.2.2.2.2.2.1.v b.2.1,zv0 b.2.2.2.2.2.2.2.1.v b.2.2.1,ziS ((b.2.2.2.2.2.2.2.2:List Nat).map znE)]) (fun cut => ?_) ?_
 ·
  refine zyG ?_
  refine zeC rfl dc rfl (fun b3 => ?_)
  refine zyR 1 rfl (zyH (zyR 1 rfl ?_))
  refine zbn (cs:=[zI 0]) (te:=3) (ps:=[(0,.const (zI 0))]) rfl dc rfl (fun _=>by kernel_rfl) (fun b4 => ?_)
  refine zbn (cs:=[zI 0]) (te:=3) (ps:=[(0,.const (zI 0))]) rfl dc rfl (fun _=>by kernel_rfl) (fun b5 => ?_)
  refine zac zjx rfl dc rfl (show _=0 from rfl) (zah (k:=1) za5 rfl dc rfl rfl rfl (zyR 1 rfl ?_))
  obtain ⟨hg1,h⟩:=zbM h
  refine zaQ rfl (zcc (r:=l1.Width - indent1) (IntWalk.i64_in _ hg1)) (zjO rfl dc rfl rfl (zac zjx rfl dc rfl (show _=0 from rfl) (zah (k:=1) za5 rfl dc rfl rfl rfl (zac zk2 rfl dc rfl (show _=2 from rfl) (zah (k:=1) za5 rfl dc rfl rfl rfl ?_)))))
  obtain ⟨hg2,h⟩:=zbM h
  refine zaQ rfl (zcc (r:=l1.Width - l1.Turn) (IntWalk.i64_in _ hg2)) ?_
  refine zbJ (v:=.agg #[.string s1,.slice none 0 0,.slice (some ⟨b4,0,none⟩) 1 1,.slice (some ⟨b5,0,none⟩) 1 1,zI (max 1 (l1.Width - indent1)),zI (l1.Width - l1.Turn)]) (ps:=[(0,.tmp 11),(2,.tmp 12),(3,.tmp 13),(4,.tmp 18),(5,.tmp 23)]) rfl dc rfl (fun _=>by kernel_rfl) ?_
  refine zlE ([0]:List Int) (k:=2) rfl zc9 rfl (show 1≤maxLen by decide) ?_
  refine zlE ([0]:List Int) (k:=3) rfl zc9 rfl (show 1≤maxLen by decide) ?_
  refine zeC rfl dc rfl (fun b6 => ?_)
  refine zbY zpF rfl dc (fun b7 => ?_)
  refine zbu (k:=5) (l':=[zP b6]) zpP rfl rfl rfl rfl rfl (fun _ _=>rfl) rfl ?_
  refine zyN (cut (zyG (zyR 1 rfl ?_)))
  obtain ⟨r1,hq1,h⟩:=zbT h
  refine zeh (vs:=[.string s1]) rfl dc rfl rfl rfl zrr (zir hq1) Splits.nil ?_
  rintro b8
  refine zc5 (L':=[ziS ((([]:List Nat):List Nat).map znE),cells b3 (zr3 l1) 23,zv0 (.slice (some ⟨b4,0,none⟩) 1 1) ([0]:List Int),zv0 (.slice (some ⟨b5,0,none⟩) 1 1) ([0]:List Int),cells b6 [.string s1,.slice none 0 0,(.slice (some ⟨b4,0,none⟩) 1 1),(.slice (some ⟨b5,0,none⟩) 1 1),zI (max 1 (l1.Width - indent1)),zI (l1.Width - l1.Turn)] 163,cells b7 [zP b6] 121,cells b8 [.string r1] 9]) (zae [0,1,2,3,4,5,6] kr rfl) (zyN (zaL ?_))
  obtain ⟨its1,hq2,h⟩:=zbT h
  refine zeD (enc:=zdL) (e:=106) (size:=3) ?_
  obtain ⟨dn1,hdn1,h⟩:=zbU h
  refine zlG (α:=Gapi_Cell) (β:=(List Gapi_Cell)×(List Int)×(List Int)×Hd×Hd×Hd) (γ:=Unit) (δ:=Nat) (ps:=[28]) Ro.nil rfl zrm (zgI hq2) (fun pre b=>∀ post,its1=pre++post→zh1 dn1 (zcN s1 indent1 l1) post b.1 b.2.1 b.2.2.1=some r) (fun pre b=>[cells b7 [zP b6] 121,cells b6 [.string s1,b.2.2.2.1.v,b.2.2.2.2.1.v,b.2.2.2.2.2.v,zI (max 1 (l1.Width - indent1)),zI (l1.Width - l1.Turn)] 163,zv3 b.2.2.2.1.v b.1,zv0 b.2.2.2.2.1.v b.2.1,zv0 b.2.2.2.2.2.v b.2.2.1]) (fun c pre g=>False) (fun c pre g=>[]) (fun pre x b j=>[(6,.pointer none),(7,zP b7),(27,.func (.func 98) #[] #[zP b8]),(8,zP j)]) (fun pre x b j=>[cells b7 [zP b6] 121,cells b6 [.string s1,b.2.2.2.1.v,b.2.2.2.2.1.v,b.2.2.2.2.2.v,zI (max 1 (l1.Width - indent1)),zI (l1.Width - l1.Turn)] 163,zv3 b.2.2.2.1.v b.1,zv0 b.2.2.2.2.1.v b.2.1,zv0 b.2.2.2.2.2.v b.2.2.1,cells j (zr0 x) 106]) (([]:List Gapi_Cell),([0]:List Int),([0]:List Int),Hd.nil,(⟨some ⟨b4,0,none⟩,1,1⟩:Hd),(⟨some ⟨b5,0,none⟩,1,1⟩:Hd)) (fun post e=>by rw [List.nil_append] at e; subst e; exact h) (zae [5,4,7,2,3] kr rfl) ⟨.inl ⟨6,rfl⟩,trivial⟩ (fun _=>rfl) dc ?_ ?_ ?_ ?_
  ·
   rintro lp rc pre x1 post ⟨t10,t11,t12,hd10,hd11,hd12⟩ w1 K1 hxs1 hext hro hinv
   refine zaG ?_
   refine zbY zos rfl dc (fun b9 => ?_)
   refine za6 (k:=5) (vs:=(zr0 x1)) (l':=(zr0 x1)) zjT rfl rfl rfl rfl rfl (show _≤_ by simp) rfl rfl ?_
   refine zaK ?_
   exact fun a w ha hw=>⟨b9,(za1 rfl) _ _ _ ha,hw.weaken (zae [0,1,2,3,4,5] kr rfl)⟩
  ·
   rintro lp rc pre x1 post1 ⟨t10,t11,t12,hd10,hd11,hd12⟩ jb1 w1 K1 hxs1 hext hro hinv
   have h:=hinv (x1::post1) hxs1
   obtain ⟨ag1,hag1⟩:∃ ag,ag=zh1 dn1 (zcN s1 indent1 l1) post1:=⟨_,rfl⟩
   have h:zcN s1 indent1 l1 x1 ag1 t10 t11 t12=some r:=by rw [hag1]; exact h
   unfold zcN at h
   refine zaL ?_
   obtain ⟨j2,hj2,h⟩:=zbU h
   refine zaZ (β:=(List Int)×Int×Hd×Hd) 4 rfl (fun b=>j2 b.1 b.2.1=some r) (fun b=>[]) (fun b=>[(6,.pointer none),(7,zP b7),(10,zI b.2.1),(27,.func (.func 98) #[] #[zP b8])]) (fun b=>[cells b7 [zP b6] 121,cells b6 [.string s1,b.2.2.1.v,b.2.2.2.v,hd12.v,zI (max 1 (l1.Width - indent1)),zI (l1.Width - l1.Turn)] 163,zv3 b.2.2.1.v (t10++[x1]),zv0 b.2.2.2.v b.1,zv0 hd12.v t12]) (fun cut => ?_) ?_
   ·
    refine zaF ?_
    obtain ⟨hg3,h⟩:=zbM h
    refine zfU 1 ?_
    refine let vals1:(Nat×Hd)→List (Nat×Nat×Value):=fun b=>[(0,29,zP b6),(1,30,zP b6),(2,31,zP b6),(3,32,.pointer (some ⟨b6,1,none⟩)),(4,33,hd10.v),(5,34,.agg (zr0 x1).toArray),(6,35,.slice (some ⟨b.1,0,none⟩) 1 1),(7,36,b.2.v)]; let LL1:(Nat→Prop)→(Nat×Hd)→List Asn:=fun D b=>[cells b7 [zP b6] 121,cells b6 [.string s1,hd10.v,hd11.v,hd12.v,zI (max 1 (l1.Width - indent1)),zI (l1.Width - l1.Turn)] 163,eD D (zv3 hd10.v t10) [(7,zv3 b.2.v (t10++[x1]))],zv0 hd11.v t11,zv0 hd12.v t12,cells jb1 (zr0 x1) 106,eD D emp [(6,cells b.1 (zr0 x1) 106)]]; ?_
    have zhq:zyQ [6,7] LL1:=fun i h D b=>zaf rfl (zaf rfl (zaf (zmd rfl h) (zaf rfl (zaf rfl (zaf rfl (zaf (zmd rfl h) rfl))))))
    refine zdS (β:=Nat×Hd) 8 ((0:Nat),Hd.nil) vals1 LL1 mixed kr kr dc (fun _=>rfl) (zdU (zaf zcz (zbZ (zaf zcz rfl)))) (zho zhq rfl (fun _=>rfl) (fun _=>rfl) ?_ (zho zhq rfl (fun _=>rfl) (fun _=>rfl) ?_ (zyq zhq rfl (fun _=>rfl) (fun _=>rfl) ?_ (zyq zhq rfl (fun _=>rfl) (fun _=>rfl) ?_ (zho zhq rfl (fun _=>rfl) (fun _=>rfl) ?_ (zho zhq rfl (fun _=>rfl) (fun _=>rfl) ?_ (zay ?_ (zay ?_ DrawG.nil)))))))) ?_
    · exact fun D ⟨b10,hd15⟩ n d c u i=>⟨_,(zqF rfl),zah (k:=0) zfm rfl dc (zaD (by rfl) rfl) rfl rfl (zad 0 u i rfl)⟩
    · exact fun D ⟨b10,hd15⟩ n d c u i=>⟨_,(zdU (zaf (zao (fun hD=>n (c 2 _ rfl (c 3 _ rfl (c 4 _ rfl (c 7 _ rfl hD 4 dc) 3 dc) 2 dc) 1 dc)) zas) (zdr rfl))),zah (k:=0) zfm rfl dc (zaD (by rfl) rfl) rfl rfl (zad 1 u i rfl)⟩
    · exact fun D ⟨b10,hd15⟩ n d c u i=>zat rfl dc (zab (m:=1) u rfl (d 1 dc)) (zad 2 u i rfl)
    · exact fun D ⟨b10,hd15⟩ n d c u i=>zac ze7 rfl dc (zab (m:=2) u rfl (d 2 dc)) (show _=1 from rfl) (zad 3 u i rfl)
    · exact fun D ⟨b10,hd15⟩ n d c u i=>⟨_,(zdU (zaf (zao (fun hD=>n (c 7 _ rfl hD 4 dc)) zas) (zdr rfl))),zah (k:=1) ziV rfl dc (zab (m:=3) u rfl (d 3 dc)) rfl rfl (zad 4 u i rfl)⟩
    · exact fun D ⟨b10,hd15⟩ n d c u i=>⟨_,(zdU (zaf (zao (fun hD=>n (c 6 _ rfl (c 7 _ rfl hD 6 dc) 5 dc)) zas) (zbZ (zaf (zao (fun hD=>n (c 6 _ rfl hD 5 dc)) zas) rfl)))),zbf (k:=5) (cs:=(zr0 x1)) zfN rfl dc (zaD (by rfl) rfl) rfl rfl rfl (zad 5 u i rfl)⟩
    ·
     intro D b hn hd hcl
     obtain ⟨zb0,hd15⟩:=b
     refine zaO (zdU (zaf (zao (fun hD=>hn (hcl 7 _ rfl hD 6 dc)) zas) (zbZ (zaf (zao hn zas) rfl)))) ?_
     refine zbn (cs:=(zr0 x1)) (te:=106) (ps:=[(0,.tmp 34)]) rfl dc (evP.cons (zab (m:=5) rfl rfl (hd 5 dc)) evP.nil) (fun _=>by kernel_rfl) (fun b10 => ?_)
     refine zd6 6 rfl rfl ?_
     exact za0 (b:=(zb0,hd15)) (b10,hd15) 6 (by rfl) (by rfl) rfl (zpt (zak (fun hD=>absurd hD hn) (zak (fun _=>rfl) rfl))) (zdU (zaf ((zaB (by rfl)).trans (zao (fun hD=>hn (hcl 7 _ rfl hD 6 dc)) zas)) (zbZ (zaf (zba (Or.inr rfl) rfl) rfl))))
    ·
     intro D b hn hd hcl
     obtain ⟨b10,zb1⟩:=b
     refine zaO (zdU (zaf (zao hn zas) (zbZ (zaf (zba (hd 6 dc) rfl) rfl)))) ?_
     refine zbH (k:=2) (k2:=6) (ys:=[x1]) Tryd.underlying100 zqt zdn zg3 rfl dc (zab (m:=4) rfl rfl (hd 4 dc)) (zab (m:=6) rfl rfl (hd 6 dc)) rfl rfl rfl rfl hg3 (fun v1 => ?_)
     refine zcn (k:=2) rfl (fun hd15 he1 => ?_)
     subst he1
     exact za0 (b:=(b10,zb1)) (b10,hd15) 7 (by rfl) (by rfl) rfl (zoU (zak (fun hD=>absurd hD hn) rfl)) (zdU (zaf (zba (Or.inr rfl) rfl) (zbZ (zaf ((zaB (by rfl)).trans (zba (hd 6 dc) rfl)) rfl))))
    intro D b hall
    obtain ⟨b10,hd15⟩:=b
    refine zaO (zdU (zaf (zba (hall 7 dc) rfl) (zbZ (zaf (zba (hall 6 dc) rfl) rfl)))) (zat rfl dc rfl (zac ze7 rfl dc rfl (show _=1 from rfl) ?_))
    refine zbu (k:=1) (l':=[.string s1,hd15.v,hd11.v,hd12.v,zI (max 1 (l1.Width - indent1)),zI (l1.Width - l1.Turn)]) zpQ rfl rfl rfl rfl rfl (fun _ _=>rfl) rfl ?_
    refine zyH (zah (k:=0) zfm rfl dc rfl rfl rfl (zat rfl dc rfl (zac ze7 rfl dc rfl (show _=1 from rfl) (zah (k:=1) ziV rfl dc rfl rfl rfl (zdj (k:=2) rfl dc rfl rfl Tryd.underlying100 ?_)))))
    obtain ⟨hg4,h⟩:=zbM h
    refine zaQ rfl (zcc (r:=((t10++[x1]).length:Int) - 1) (IntWalk.i64_in _ hg4)) (zyR 1 rfl (zyN (zaF ?_)))
    obtain ⟨q1,hq3,h⟩:=zbT h
    obtain ⟨hg5,h⟩:=zbM h
    obtain ⟨hg6,h⟩:=zbM h
    refine zfU 1 ?_
    refine let vals2:(Nat×Hd)→List (Nat×Nat×Value):=fun b=>[(0,45,zP b6),(1,46,zP b6),(2,47,zP b6),(3,48,.pointer (some ⟨b6,2,none⟩)),(4,49,hd11.v),(5,50,zP b6),(6,51,zP b6),(7,52,.pointer (some ⟨b6,2,none⟩)),(8,53,hd11.v),(9,54,zI (((t10++[x1]).length:Int) - 1)),(10,55,.pointer (some ⟨zc7 hd11.v,(((t10++[x1]).length:Int) - 1:Int).toNat*1,none⟩)),(11,56,zI q1),(12,57,.pointer (some ⟨jb1,2,none⟩)),(13,58,zI x1.Columns),(14,59,zI (q1+x1.Columns)),(15,60,.slice (some ⟨b.1,0,none⟩) 1 1),(16,61,b.2.v)]; let LL2:(Nat→Prop)→(Nat×Hd)→List Asn:=fun D b=>[cells b7 [zP b6] 121,cells b6 [.string s1,hd15.v,hd11.v,hd12.v,zI (max 1 (l1.Width - indent1)),zI (l1.Width - l1.Turn)] 163,zv3 hd15.v (t10++[x1]),eD D (zv0 hd11.v t11) [(16,zv0 b.2.v (t11++[q1+x1.Columns]))],zv0 hd12.v t12,cells jb1 (zr0 x1) 106,cells b10 (zr0 x1) 106,eD D emp [(15,cells b.1 [zI (q1+x1.Columns)] 3)]]; ?_
    refine zdS (β:=Nat×Hd) 17 ((0:Nat),Hd.nil) vals2 LL2 mixed kr kr dc (fun _=>rfl) (zbZ (zaf zcz (zbZ (zaf zcz rfl)))) (zay ?_ (zay ?_ (zay ?_ (zay ?_ (zay ?_ (zay ?_ (zay ?_ (zay ?_ (zay ?_ (zay ?_ (zay ?_ (zay ?_ (zay ?_ (zay ?_ (zay ?_ (zay ?_ (zay ?_ DrawG.nil))))))))))))))))) ?_
    ·
     intro D b hn hd hcl
     obtain ⟨b11,hd16⟩:=b
     refine zaO (zsq rfl) (zah (k:=0) zfm rfl dc (zaD (by rfl) rfl) rfl rfl ?_)
     exact za0 (b:=(b11,hd16)) (b11,hd16) 0 (by rfl) (by rfl) rfl (zkL (zeu rfl)) (zbZ (zaf (zaB (by rfl)) (zbZ (zaf (zaB (by rfl)) rfl))))
    ·
     intro D b hn hd hcl
     obtain ⟨b11,hd16⟩:=b
     refine zaO (zbZ (zaf (zao (fun hD=>hn (hcl 2 _ rfl (hcl 3 _ rfl (hcl 4 _ rfl (hcl 16 _ rfl hD 4 dc) 3 dc) 2 dc) 1 dc)) zas) (zdr rfl))) ?_
     refine zah (k:=0) zfm rfl dc (zaD (by rfl) rfl) rfl rfl ?_
     exact za0 (b:=(b11,hd16)) (b11,hd16) 1 (by rfl) (by rfl) rfl (zkL (zeu rfl)) (zbZ (zaf ((zaB (by rfl)).trans (zao (fun hD=>hn (hcl 2 _ rfl (hcl 3 _ rfl (hcl 4 _ rfl (hcl 16 _ rfl hD 4 dc) 3 dc) 2 dc) 1 dc)) zas)) (zbZ (zaf (zaB (by rfl)) rfl))))
    ·
     intro D b hn hd hcl
     obtain ⟨b11,hd16⟩:=b
     refine zaO (zbZ (zaf (zao (fun hD=>hn (hcl 3 _ rfl (hcl 4 _ rfl (hcl 16 _ rfl hD 4 dc) 3 dc) 2 dc)) zas) (zdr rfl))) ?_
     refine zat rfl dc (zab (m:=1) rfl rfl (hd 1 dc)) ?_
     exact za0 (b:=(b11,hd16)) (b11,hd16) 2 (by rfl) (by rfl) rfl (zkL (zeu rfl)) (zbZ (zaf ((zaB (by rfl)).trans (zao (fun hD=>hn (hcl 3 _ rfl (hcl 4 _ rfl (hcl 16 _ rfl hD 4 dc) 3 dc) 2 dc)) zas)) (zbZ (zaf (zaB (by rfl)) rfl))))
    ·
     intro D b hn hd hcl
     obtain ⟨b11,hd16⟩:=b
     refine zaO (zbZ (zaf (zao (fun hD=>hn (hcl 4 _ rfl (hcl 16 _ rfl hD 4 dc) 3 dc)) zas) (zdr rfl))) ?_
     refine zac zgx rfl dc (zab (m:=2) rfl rfl (hd 2 dc)) (show _=2 from rfl) ?_
     exact za0 (b:=(b11,hd16)) (b11,hd16) 3 (by rfl) (by rfl) rfl (zkL (zeu rfl)) (zbZ (zaf ((zaB (by rfl)).trans (zao (fun hD=>hn (hcl 4 _ rfl (hcl 16 _ rfl hD 4 dc) 3 dc)) zas)) (zbZ (zaf (zaB (by rfl)) rfl))))
    ·
     intro D b hn hd hcl
     obtain ⟨b11,hd16⟩:=b
     refine zaO (zbZ (zaf (zao (fun hD=>hn (hcl 16 _ rfl hD 4 dc)) zas) (zdr rfl))) ?_
     refine zah (k:=1) zj4 rfl dc (zab (m:=3) rfl rfl (hd 3 dc)) rfl rfl ?_
     exact za0 (b:=(b11,hd16)) (b11,hd16) 4 (by rfl) (by rfl) rfl (zkL (zeu rfl)) (zbZ (zaf ((zaB (by rfl)).trans (zao (fun hD=>hn (hcl 16 _ rfl hD 4 dc)) zas)) (zbZ (zaf (zaB (by rfl)) rfl))))
    ·
     intro D b hn hd hcl
     obtain ⟨b11,hd16⟩:=b
     refine zaO (zbZ (zaf (zao (fun hD=>hn (hcl 6 _ rfl (hcl 7 _ rfl (hcl 8 _ rfl (hcl 10 _ rfl (hcl 11 _ rfl (hcl 14 _ rfl (hcl 15 _ rfl (hcl 16 _ rfl hD 15 dc) 14 dc) 11 dc) 10 dc) 8 dc) 7 dc) 6 dc) 5 dc)) zas) (zbZ (zaf (zao (fun hD=>hn (hcl 6 _ rfl (hcl 7 _ rfl (hcl 8 _ rfl (hcl 10 _ rfl (hcl 11 _ rfl (hcl 14 _ rfl (hcl 15 _ rfl hD 14 dc) 11 dc) 10 dc) 8 dc) 7 dc) 6 dc) 5 dc)) zas) rfl)))) ?_
     refine zah (k:=0) zfm rfl dc (zaD (by rfl) rfl) rfl rfl ?_
     exact za0 (b:=(b11,hd16)) (b11,hd16) 5 (by rfl) (by rfl) rfl (zkL (zeu rfl)) (zbZ (zaf ((zaB (by rfl)).trans (zao (fun hD=>hn (hcl 6 _ rfl (hcl 7 _ rfl (hcl 8 _ rfl (hcl 10 _ rfl (hcl 11 _ rfl (hcl 14 _ rfl (hcl 15 _ rfl (hcl 16 _ rfl hD 15 dc) 14 dc) 11 dc) 10 dc) 8 dc) 7 dc) 6 dc) 5 dc)) zas)) (zbZ (zaf ((zaB (by rfl)).trans (zao (fun hD=>hn (hcl 6 _ rfl (hcl 7 _ rfl (hcl 8 _ rfl (hcl 10 _ rfl (hcl 11 _ rfl (hcl 14 _ rfl (hcl 15 _ rfl hD 14 dc) 11 dc) 10 dc) 8 dc) 7 dc) 6 dc) 5 dc)) zas)) rfl))))
    ·
     intro D b hn hd hcl
     obtain ⟨b11,hd16⟩:=b
     refine zaO (zbZ (zaf (zao (fun hD=>hn (hcl 7 _ rfl (hcl 8 _ rfl (hcl 10 _ rfl (hcl 11 _ rfl (hcl 14 _ rfl (hcl 15 _ rfl (hcl 16 _ rfl hD 15 dc) 14 dc) 11 dc) 10 dc) 8 dc) 7 dc) 6 dc)) zas) (zbZ (zaf (zao (fun hD=>hn (hcl 7 _ rfl (hcl 8 _ rfl (hcl 10 _ rfl (hcl 11 _ rfl (hcl 14 _ rfl (hcl 15 _ rfl hD 14 dc) 11 dc) 10 dc) 8 dc) 7 dc) 6 dc)) zas) rfl)))) ?_
     refine zat rfl dc (zab (m:=5) rfl rfl (hd 5 dc)) ?_
     exact za0 (b:=(b11,hd16)) (b11,hd16) 6 (by rfl) (by rfl) rfl (zkL (zeu rfl)) (zbZ (zaf ((zaB (by rfl)).trans (zao (fun hD=>hn (hcl 7 _ rfl (hcl 8 _ rfl (hcl 10 _ rfl (hcl 11 _ rfl (hcl 14 _ rfl (hcl 15 _ rfl (hcl 16 _ rfl hD 15 dc) 14 dc) 11 dc) 10 dc) 8 dc) 7 dc) 6 dc)) zas)) (zbZ (zaf ((zaB (by rfl)).trans (zao (fun hD=>hn (hcl 7 _ rfl (hcl 8 _ rfl (hcl 10 _ rfl (hcl 11 _ rfl (hcl 14 _ rfl (hcl 15 _ rfl hD 14 dc) 11 dc) 10 dc) 8 dc) 7 dc) 6 dc)) zas)) rfl))))
    ·
     intro D b hn hd hcl
     obtain ⟨b11,hd16⟩:=b
     refine zaO (zbZ (zaf (zao (fun hD=>hn (hcl 8 _ rfl (hcl 10 _ rfl (hcl 11 _ rfl (hcl 14 _ rfl (hcl 15 _ rfl (hcl 16 _ rfl hD 15 dc) 14 dc) 11 dc) 10 dc) 8 dc) 7 dc)) zas) (zbZ (zaf (zao (fun hD=>hn (hcl 8 _ rfl (hcl 10 _ rfl (hcl 11 _ rfl (hcl 14 _ rfl (hcl 15 _ rfl hD 14 dc) 11 dc) 10 dc) 8 dc) 7 dc)) zas) rfl)))) ?_
     refine zac zgx rfl dc (zab (m:=6) rfl rfl (hd 6 dc)) (show _=2 from rfl) ?_
     exact za0 (b:=(b11,hd16)) (b11,hd16) 7 (by rfl) (by rfl) rfl (zkL (zeu rfl)) (zbZ (zaf ((zaB (by rfl)).trans (zao (fun hD=>hn (hcl 8 _ rfl (hcl 10 _ rfl (hcl 11 _ rfl (hcl 14 _ rfl (hcl 15 _ rfl (hcl 16 _ rfl hD 15 dc) 14 dc) 11 dc) 10 dc) 8 dc) 7 dc)) zas)) (zbZ (zaf ((zaB (by rfl)).trans (zao (fun hD=>hn (hcl 8 _ rfl (hcl 10 _ rfl (hcl 11 _ rfl (hcl 14 _ rfl (hcl 15 _ rfl hD 14 dc) 11 dc) 10 dc) 8 dc) 7 dc)) zas)) rfl))))
    ·
     intro D b hn hd hcl
     obtain ⟨b11,hd16⟩:=b
     refine zaO (zbZ (zaf (zao (fun hD=>hn (hcl 10 _ rfl (hcl 11 _ rfl (hcl 14 _ rfl (hcl 15 _ rfl (hcl 16 _ rfl hD 15 dc) 14 dc) 11 dc) 10 dc) 8 dc)) zas) (zbZ (zaf (zao (fun hD=>hn (hcl 10 _ rfl (hcl 11 _ rfl (hcl 14 _ rfl (hcl 15 _ rfl hD 14 dc) 11 dc) 10 dc) 8 dc)) zas) rfl)))) ?_
     refine zah (k:=1) zj4 rfl dc (zab (m:=7) rfl rfl (hd 7 dc)) rfl rfl ?_
     exact za0 (b:=(b11,hd16)) (b11,hd16) 8 (by rfl) (by rfl) rfl (zkL (zeu rfl)) (zbZ (zaf ((zaB (by rfl)).trans (zao (fun hD=>hn (hcl 10 _ rfl (hcl 11 _ rfl (hcl 14 _ rfl (hcl 15 _ rfl (hcl 16 _ rfl hD 15 dc) 14 dc) 11 dc) 10 dc) 8 dc)) zas)) (zbZ (zaf ((zaB (by rfl)).trans (zao (fun hD=>hn (hcl 10 _ rfl (hcl 11 _ rfl (hcl 14 _ rfl (hcl 15 _ rfl hD 14 dc) 11 dc) 10 dc) 8 dc)) zas)) rfl))))
    ·
     intro D b hn hd hcl
     obtain ⟨b11,hd16⟩:=b
     refine zaO (zbZ (zaf (zao (fun hD=>hn (hcl 10 _ rfl (hcl 11 _ rfl (hcl 14 _ rfl (hcl 15 _ rfl (hcl 16 _ rfl hD 15 dc) 14 dc) 11 dc) 10 dc) 9 dc)) zas) (zbZ (zaf (zao (fun hD=>hn (hcl 10 _ rfl (hcl 11 _ rfl (hcl 14 _ rfl (hcl 15 _ rfl hD 14 dc) 11 dc) 10 dc) 9 dc)) zas) rfl)))) ?_
     refine zfb rfl dc (zaD (by rfl) rfl) ?_
     exact za0 (b:=(b11,hd16)) (b11,hd16) 9 (by rfl) (by rfl) rfl (zkL (zeu rfl)) (zbZ (zaf ((zaB (by rfl)).trans (zao (fun hD=>hn (hcl 10 _ rfl (hcl 11 _ rfl (hcl 14 _ rfl (hcl 15 _ rfl (hcl 16 _ rfl hD 15 dc) 14 dc) 11 dc) 10 dc) 9 dc)) zas)) (zbZ (zaf ((zaB (by rfl)).trans (zao (fun hD=>hn (hcl 10 _ rfl (hcl 11 _ rfl (hcl 14 _ rfl (hcl 15 _ rfl hD 14 dc) 11 dc) 10 dc) 9 dc)) zas)) rfl))))
    ·
     intro D b hn hd hcl
     obtain ⟨b11,hd16⟩:=b
     refine zaO (zbZ (zaf (zao (fun hD=>hn (hcl 11 _ rfl (hcl 14 _ rfl (hcl 15 _ rfl (hcl 16 _ rfl hD 15 dc) 14 dc) 11 dc) 10 dc)) zas) (zbZ (zaf (zao (fun hD=>hn (hcl 11 _ rfl (hcl 14 _ rfl (hcl 15 _ rfl hD 14 dc) 11 dc) 10 dc)) zas) rfl)))) ?_
     refine zaX (k:=3) hq3 Tryd.underlying24 zhs rfl dc (zab (m:=8) rfl rfl (hd 8 dc)) (zab (m:=9) rfl rfl (hd 9 dc)) rfl rfl ?_
     exact za0 (b:=(b11,hd16)) (b11,hd16) 10 (by rfl) (by rfl) rfl (zkL (zeu rfl)) (zbZ (zaf ((zaB (by rfl)).trans (zao (fun hD=>hn (hcl 11 _ rfl (hcl 14 _ rfl (hcl 15 _ rfl (hcl 16 _ rfl hD 15 dc) 14 dc) 11 dc) 10 dc)) zas)) (zbZ (zaf ((zaB (by rfl)).trans (zao (fun hD=>hn (hcl 11 _ rfl (hcl 14 _ rfl (hcl 15 _ rfl hD 14 dc) 11 dc) 10 dc)) zas)) rfl))))
    ·
     intro D b hn hd hcl
     obtain ⟨b11,hd16⟩:=b
     refine zaO (zbZ (zaf (zao (fun hD=>hn (hcl 14 _ rfl (hcl 15 _ rfl (hcl 16 _ rfl hD 15 dc) 14 dc) 11 dc)) zas) (zbZ (zaf (zao (fun hD=>hn (hcl 14 _ rfl (hcl 15 _ rfl hD 14 dc) 11 dc)) zas) rfl)))) ?_
     refine zbA (i:=(((t10++[x1]).length:Int) - 1:Int).toNat) (j:=0) (k:=3) (q:=q1) za5 zc9 rfl dc (zab (m:=10) rfl rfl (hd 10 dc)) rfl (zaV hq3) rfl dc rfl ?_
     exact za0 (b:=(b11,hd16)) (b11,hd16) 11 (by rfl) (by rfl) rfl (zkL (zeu rfl)) (zbZ (zaf ((zaB (by rfl)).trans (zao (fun hD=>hn (hcl 14 _ rfl (hcl 15 _ rfl (hcl 16 _ rfl hD 15 dc) 14 dc) 11 dc)) zas)) (zbZ (zaf ((zaB (by rfl)).trans (zao (fun hD=>hn (hcl 14 _ rfl (hcl 15 _ rfl hD 14 dc) 11 dc)) zas)) rfl))))
    ·
     intro D b hn hd hcl
     obtain ⟨b11,hd16⟩:=b
     refine zaO (zbZ (zaf (zao (fun hD=>hn (hcl 13 _ rfl (hcl 14 _ rfl (hcl 15 _ rfl (hcl 16 _ rfl hD 15 dc) 14 dc) 13 dc) 12 dc)) zas) (zbZ (zaf (zao (fun hD=>hn (hcl 13 _ rfl (hcl 14 _ rfl (hcl 15 _ rfl hD 14 dc) 13 dc) 12 dc)) zas) rfl)))) ?_
     refine zac zgz rfl dc (zaD (by rfl) rfl) (show _=2 from rfl) ?_
     exact za0 (b:=(b11,hd16)) (b11,hd16) 12 (by rfl) (by rfl) rfl (zkL (zeu rfl)) (zbZ (zaf ((zaB (by rfl)).trans (zao (fun hD=>hn (hcl 13 _ rfl (hcl 14 _ rfl (hcl 15 _ rfl (hcl 16 _ rfl hD 15 dc) 14 dc) 13 dc) 12 dc)) zas)) (zbZ (zaf ((zaB (by rfl)).trans (zao (fun hD=>hn (hcl 13 _ rfl (hcl 14 _ rfl (hcl 15 _ rfl hD 14 dc) 13 dc) 12 dc)) zas)) rfl))))
    ·
     intro D b hn hd hcl
     obtain ⟨b11,hd16⟩:=b
     refine zaO (zbZ (zaf (zao (fun hD=>hn (hcl 14 _ rfl (hcl 15 _ rfl (hcl 16 _ rfl hD 15 dc) 14 dc) 13 dc)) zas) (zbZ (zaf (zao (fun hD=>hn (hcl 14 _ rfl (hcl 15 _ rfl hD 14 dc) 13 dc)) zas) rfl)))) ?_
     refine zah (k:=5) za5 rfl dc (zab (m:=12) rfl rfl (hd 12 dc)) rfl rfl ?_
     exact za0 (b:=(b11,hd16)) (b11,hd16) 13 (by rfl) (by rfl) rfl (zkL (zeu rfl)) (zbZ (zaf ((zaB (by rfl)).trans (zao (fun hD=>hn (hcl 14 _ rfl (hcl 15 _ rfl (hcl 16 _ rfl hD 15 dc) 14 dc) 13 dc)) zas)) (zbZ (zaf ((zaB (by rfl)).trans (zao (fun hD=>hn (hcl 14 _ rfl (hcl 15 _ rfl hD 14 dc) 13 dc)) zas)) rfl))))
    ·
     intro D b hn hd hcl
     obtain ⟨b11,hd16⟩:=b
     refine zaO (zbZ (zaf (zao (fun hD=>hn (hcl 15 _ rfl (hcl 16 _ rfl hD 15 dc) 14 dc)) zas) (zbZ (zaf (zao (fun hD=>hn (hcl 15 _ rfl hD 14 dc)) zas) rfl)))) ?_
     refine zaM rfl dc (zab (m:=11) rfl rfl (hd 11 dc)) (zab (m:=13) rfl rfl (hd 13 dc)) (zaW (r:=q1+x1.Columns) (IntWalk.i64_in _ hg5)) ?_
     exact za0 (b:=(b11,hd16)) (b11,hd16) 14 (by rfl) (by rfl) rfl (zkL (zeu rfl)) (zbZ (zaf ((zaB (by rfl)).trans (zao (fun hD=>hn (hcl 15 _ rfl (hcl 16 _ rfl hD 15 dc) 14 dc)) zas)) (zbZ (zaf ((zaB (by rfl)).trans (zao (fun hD=>hn (hcl 15 _ rfl hD 14 dc)) zas)) rfl))))
    ·
     intro D b hn hd hcl
     obtain ⟨zb0,hd16⟩:=b
     refine zaO (zbZ (zaf (zao (fun hD=>hn (hcl 16 _ rfl hD 15 dc)) zas) (zbZ (zaf (zao hn zas) rfl)))) ?_
     refine zbn (cs:=[zI (q1+x1.Columns)]) (te:=3) (ps:=[(0,.tmp 59)]) rfl dc (evP.cons (zab (m:=14) rfl rfl (hd 14 dc)) evP.nil) (fun _=>by kernel_rfl) (fun b11 => ?_)
     refine zd6 7 rfl rfl ?_
     exact za0 (b:=(zb0,hd16)) (b11,hd16) 15 (by rfl) (by rfl) rfl (zsf (zeu (zak (fun hD=>absurd hD hn) (zak (fun _=>rfl) rfl)))) (zbZ (zaf ((zaB (by rfl)).trans (zao (fun hD=>hn (hcl 16 _ rfl hD 15 dc)) zas)) (zbZ (zaf (zba (Or.inr rfl) rfl) rfl))))
    ·
     intro D b hn hd hcl
     obtain ⟨b11,zb1⟩:=b
     refine zaO (zbZ (zaf (zao hn zas) (zbZ (zaf (zba (hd 15 dc) rfl) rfl)))) ?_
     refine zbH (k:=3) (k2:=7) (ys:=[q1+x1.Columns]) Tryd.underlying24 zrV zc9 zjD rfl dc (zab (m:=4) rfl rfl (hd 4 dc)) (zab (m:=15) rfl rfl (hd 15 dc)) rfl rfl rfl rfl hg6 (fun v2 => ?_)
     refine zcn (k:=3) rfl (fun hd16 he2 => ?_)
     subst he2
     exact za0 (b:=(b11,zb1)) (b11,hd16) 16 (by rfl) (by rfl) rfl (zsu (zeu (zak (fun hD=>absurd hD hn) rfl))) (zbZ (zaf (zba (Or.inr rfl) rfl) (zbZ (zaf ((zaB (by rfl)).trans (zba (hd 15 dc) rfl)) rfl))))
    intro D b hall
    obtain ⟨b11,hd16⟩:=b
    refine zaO (zbZ (zaf (zba (hall 16 dc) rfl) (zbZ (zaf (zba (hall 15 dc) rfl) rfl)))) (zat rfl dc rfl (zac zgx rfl dc rfl (show _=2 from rfl) ?_))
    refine zbu (k:=1) (l':=[.string s1,hd15.v,hd16.v,hd12.v,zI (max 1 (l1.Width - indent1)),zI (l1.Width - l1.Turn)]) zpM rfl rfl rfl rfl rfl (fun _ _=>rfl) rfl ?_
    refine zyH (zyR 1 rfl ?_)
    obtain ⟨hg7,h⟩:=zbM h
    refine zaQ rfl (zaW (r:=(((t10++[x1]).length:Int) - 1)+1) (IntWalk.i64_in _ hg7)) (zyR 1 rfl (zyN (cut (zyG (zah (k:=0) zfm rfl dc rfl rfl rfl (zyR 1 rfl ?_))))))
    obtain ⟨r2,hq4,h⟩:=zbT h
    refine zco (v:=.bool r2) (vs:=[zP b6,zI (((t10++[x1]).length:Int) - 1)]) (Rd.nil:Rd _ _ []) rfl dc rfl rfl rfl zpc (zdp (bt1:=b6) (t1:=(⟨s1,t10++[x1],t11++[q1+x1.Columns],t12,max 1 (l1.Width - indent1),l1.Width - l1.Turn⟩:Gpage_turner)) (t1_h0:=hd15) (t1_h1:=hd16) (t1_h2:=hd12) hq4) (.own (zae [1] (by kernel_rfl) rfl) (fun _ _ h=>sepL.one1.1 h) (.own (zae [2] (by kernel_rfl) rfl) (fun _ _ h=>sepL.one1.1 h) (.own (zae [3] (by kernel_rfl) rfl) (fun _ _ h=>sepL.one1.1 h) (.own (zae [4] (by kernel_rfl) rfl) (fun _ _ h=>sepL.one1.1 h) .nil)))) ?_
    refine zyN ?_
    refine zyB rfl h (fun h => ?_) (fun h => ?_)
    ·
     refine zaG (zah (k:=0) zfm rfl dc rfl rfl rfl (zat rfl dc rfl (zac zgw rfl dc rfl (show _=3 from rfl) (zah (k:=1) zj4 rfl dc rfl rfl rfl (zyR 1 rfl ?_)))))
     obtain ⟨q2,hq5,h⟩:=zbT h
     refine zaX (k:=4) hq5 Tryd.underlying24 zhs rfl dc rfl rfl rfl rfl (zbA (i:=(((t10++[x1]).length:Int) - 1:Int).toNat) (j:=0) (k:=4) (q:=q2) za5 zc9 rfl dc rfl rfl (zaV hq5) rfl dc rfl (zyR 1 rfl (zaK ?_)))
     exact zai (t11++[q1+x1.Columns],q2,hd15,hd16) h rfl (za1 rfl) (zae [0,1,2,3,4] kr rfl)
    refine zar ?_
    exact zai (t11++[q1+x1.Columns],(((t10++[x1]).length:Int) - 1)+1,hd15,hd16) h rfl (za1 rfl) (zae [0,1,2,3,4] kr rfl)
   rintro ⟨t13,end1,hd13,hd14⟩ h
   rw [hj2] at h
   obtain ⟨hg8,h⟩:=zbM h
   refine zfU 1 ?_
   refine let vals3:(Nat×Hd)→List (Nat×Nat×Value):=fun b=>[(0,76,zP b6),(1,77,zP b6),(2,78,zP b6),(3,79,.pointer (some ⟨b6,3,none⟩)),(4,80,hd12.v),(5,81,zI end1),(6,82,.slice (some ⟨b.1,0,none⟩) 1 1),(7,83,b.2.v)]; let LL3:(Nat→Prop)→(Nat×Hd)→List Asn:=fun D b=>[cells b7 [zP b6] 121,cells b6 [.string s1,hd13.v,hd14.v,hd12.v,zI (max 1 (l1.Width - indent1)),zI (l1.Width - l1.Turn)] 163,zv3 hd13.v (t10++[x1]),zv0 hd14.v t13,eD D (zv0 hd12.v t12) [(7,zv0 b.2.v (t12++[end1]))],eD D emp [(6,cells b.1 [zI end1] 3)]]; ?_
   refine zdS (β:=Nat×Hd) 8 ((0:Nat),Hd.nil) vals3 LL3 mixed kr kr dc (fun _=>rfl) (zdr (zaf zcz (zaf zcz rfl))) (zay ?_ (zay ?_ (zay ?_ (zay ?_ (zay ?_ (zay ?_ (zay ?_ (zay ?_ DrawG.nil)))))))) ?_
   ·
    intro D b hn hd hcl
    obtain ⟨b12,hd17⟩:=b
    refine zaO (zqR rfl) (zah (k:=0) zfm rfl dc (zaD (by rfl) rfl) rfl rfl ?_)
    exact za0 (b:=(b12,hd17)) (b12,hd17) 0 (by rfl) (by rfl) rfl (zhp rfl) (zdr (zaf (zaB (by rfl)) (zaf (zaB (by rfl)) rfl)))
   ·
    intro D b hn hd hcl
    obtain ⟨b12,hd17⟩:=b
    refine zaO (zdr (zaf (zao (fun hD=>hn (hcl 2 _ rfl (hcl 3 _ rfl (hcl 4 _ rfl (hcl 7 _ rfl hD 4 dc) 3 dc) 2 dc) 1 dc)) zas) rfl)) ?_
    refine zah (k:=0) zfm rfl dc (zaD (by rfl) rfl) rfl rfl ?_
    exact za0 (b:=(b12,hd17)) (b12,hd17) 1 (by rfl) (by rfl) rfl (zhp rfl) (zdr (zaf ((zaB (by rfl)).trans (zao (fun hD=>hn (hcl 2 _ rfl (hcl 3 _ rfl (hcl 4 _ rfl (hcl 7 _ rfl hD 4 dc) 3 dc) 2 dc) 1 dc)) zas)) (zaf (zaB (by rfl)) rfl)))
   ·
    intro D b hn hd hcl
    obtain ⟨b12,hd17⟩:=b
    refine zaO (zdr (zaf (zao (fun hD=>hn (hcl 3 _ rfl (hcl 4 _ rfl (hcl 7 _ rfl hD 4 dc) 3 dc) 2 dc)) zas) rfl)) ?_
    refine zat rfl dc (zab (m:=1) rfl rfl (hd 1 dc)) ?_
    exact za0 (b:=(b12,hd17)) (b12,hd17) 2 (by rfl) (by rfl) rfl (zhp rfl) (zdr (zaf ((zaB (by rfl)).trans (zao (fun hD=>hn (hcl 3 _ rfl (hcl 4 _ rfl (hcl 7 _ rfl hD 4 dc) 3 dc) 2 dc)) zas)) (zaf (zaB (by rfl)) rfl)))
   ·
    intro D b hn hd hcl
    obtain ⟨b12,hd17⟩:=b
    refine zaO (zdr (zaf (zao (fun hD=>hn (hcl 4 _ rfl (hcl 7 _ rfl hD 4 dc) 3 dc)) zas) rfl)) ?_
    refine zac zgw rfl dc (zab (m:=2) rfl rfl (hd 2 dc)) (show _=3 from rfl) ?_
    exact za0 (b:=(b12,hd17)) (b12,hd17) 3 (by rfl) (by rfl) rfl (zhp rfl) (zdr (zaf ((zaB (by rfl)).trans (zao (fun hD=>hn (hcl 4 _ rfl (hcl 7 _ rfl hD 4 dc) 3 dc)) zas)) (zaf (zaB (by rfl)) rfl)))
   ·
    intro D b hn hd hcl
    obtain ⟨b12,hd17⟩:=b
    refine zaO (zdr (zaf (zao (fun hD=>hn (hcl 7 _ rfl hD 4 dc)) zas) rfl)) ?_
    refine zah (k:=1) zj4 rfl dc (zab (m:=3) rfl rfl (hd 3 dc)) rfl rfl ?_
    exact za0 (b:=(b12,hd17)) (b12,hd17) 4 (by rfl) (by rfl) rfl (zhp rfl) (zdr (zaf ((zaB (by rfl)).trans (zao (fun hD=>hn (hcl 7 _ rfl hD 4 dc)) zas)) (zaf (zaB (by rfl)) rfl)))
   ·
    intro D b hn hd hcl
    obtain ⟨b12,hd17⟩:=b
    refine zaO (zdr (zaf (zao (fun hD=>hn (hcl 6 _ rfl (hcl 7 _ rfl hD 6 dc) 5 dc)) zas) (zaf (zao (fun hD=>hn (hcl 6 _ rfl hD 5 dc)) zas) rfl))) ?_
    refine zfb rfl dc (zaD (by rfl) rfl) ?_
    exact za0 (b:=(b12,hd17)) (b12,hd17) 5 (by rfl) (by rfl) rfl (zhp rfl) (zdr (zaf ((zaB (by rfl)).trans (zao (fun hD=>hn (hcl 6 _ rfl (hcl 7 _ rfl hD 6 dc) 5 dc)) zas)) (zaf ((zaB (by rfl)).trans (zao (fun hD=>hn (hcl 6 _ rfl hD 5 dc)) zas)) rfl)))
   ·
    intro D b hn hd hcl
    obtain ⟨zb0,hd17⟩:=b
    refine zaO (zdr (zaf (zao (fun hD=>hn (hcl 7 _ rfl hD 6 dc)) zas) (zaf (zao hn zas) rfl))) ?_
    refine zbn (cs:=[zI end1]) (te:=3) (ps:=[(0,.tmp 81)]) rfl dc (evP.cons (zab (m:=5) rfl rfl (hd 5 dc)) evP.nil) (fun _=>by kernel_rfl) (fun b12 => ?_)
    refine zd6 5 rfl rfl ?_
    exact za0 (b:=(zb0,hd17)) (b12,hd17) 6 (by rfl) (by rfl) rfl (zpt (zak (fun hD=>absurd hD hn) (zak (fun _=>rfl) rfl))) (zdr (zaf ((zaB (by rfl)).trans (zao (fun hD=>hn (hcl 7 _ rfl hD 6 dc)) zas)) (zaf (zba (Or.inr rfl) rfl) rfl)))
   ·
    intro D b hn hd hcl
    obtain ⟨b12,zb1⟩:=b
    refine zaO (zdr (zaf (zao hn zas) (zaf (zba (hd 6 dc) rfl) rfl))) ?_
    refine zbH (k:=4) (k2:=5) (ys:=[end1]) Tryd.underlying24 zrV zc9 zjD rfl dc (zab (m:=4) rfl rfl (hd 4 dc)) (zab (m:=6) rfl rfl (hd 6 dc)) rfl rfl rfl rfl hg8 (fun v3 => ?_)
    refine zcn (k:=4) rfl (fun hd17 he3 => ?_)
    subst he3
    exact za0 (b:=(b12,zb1)) (b12,hd17) 7 (by rfl) (by rfl) rfl (zoU (zak (fun hD=>absurd hD hn) rfl)) (zdr (zaf (zba (Or.inr rfl) rfl) (zaf ((zaB (by rfl)).trans (zba (hd 6 dc) rfl)) rfl)))
   intro D b hall
   obtain ⟨b12,hd17⟩:=b
   refine zaO (zdr (zaf (zba (hall 7 dc) rfl) (zaf (zba (hall 6 dc) rfl) rfl))) (zat rfl dc rfl (zac zgw rfl dc rfl (show _=3 from rfl) ?_))
   refine zbu (k:=1) (l':=[.string s1,hd13.v,hd14.v,hd17.v,zI (max 1 (l1.Width - indent1)),zI (l1.Width - l1.Turn)]) zpM rfl rfl rfl rfl rfl (fun _ _=>rfl) rfl ?_
   refine zaK (zal ?_)
   exact zgK (t10++[x1],t13,t12++[end1],hd13,hd14,hd17) (fun post2 e2=>by have e9:=zfl hxs1 e2; subst e9; subst hag1; exact h) (zae [0,1,2,3,4] kr rfl)
  ·
   rintro dm1 ⟨t10,t11,t12,hd10,hd11,hd12⟩ hinv
   have h:dn1 t10 t11 t12=some r:=hinv [] (List.append_nil _).symm
   rw [hdn1] at h
   refine zit (k:=13) (j:=0) rfl rfl dc ?_
   refine zal ?_
   exact zai (t10,t11,t12,b7,b6,hd10,hd11,hd12,dm1::([]:List Nat)) h rfl (za1 rfl) (zae [8,9,10,11,12,0] kr rfl)
  rintro dm1 c pre x1 post g hxs hX
  exact (show False from hX).elim
 rintro ⟨t1,t2,t3,b1,b2,hd1,hd2,hd3,ds1⟩ h
 rw [hj1] at h
 refine zyG (zah (k:=0) zfm rfl dc rfl rfl rfl (zyR 1 rfl (zyN (zax ?_))))
 cases h
 exact zpn (rs:=[.tmp 6]) ds1 (b2,hd1,hd2,hd3) (.inl rfl) (zeb (k:=5) rfl) Tryd.results53 (.cons (.tmp rfl) .nil) rfl (zae [1,2,3,4] kr rfl)
def zd9 (j1:Int→(List ByteArray)→Option ((List ByteArray)×Int)) (r1:Gpage_turner) (r2:((List Int)×Int)) (ag1:(List ByteArray)→Int→Int→Option ((List ByteArray)×Int)) (out4:List ByteArray) (from3:Int) (x3:Int):Option ((List ByteArray)×Int) :=
zam (decide ((x3:Int)<(r2.1.length:Int))) (
zan (zcI r2.1 x3) fun (q1:Int) =>
zan (zdG r1 from3 q1) fun (r3:ByteArray) =>
grd (out4.length+1≤2147483648) <|
grd (I64 (x3+1)) <|
ag1 (out4++[r3]) q1 (x3+1)
) (
j1 r2.2 out4
)
def zf2 (s1:ByteArray) (indent1:Int) (l1:Gapi_Layout):Option ((List ByteArray)×Int) :=
zbk (fun (j1:Int→(List ByteArray)→Option ((List ByteArray)×Int)) =>
zan (zee s1 indent1 l1) fun (r1:Gpage_turner) =>
zan (zdH r1) fun (r2:((List Int)×Int)) =>
zaT (fun _ _ _=>none) (zd9 j1 r1 r2) zb8 ([]:List ByteArray) 0 0
) (fun (cost1:Int) (out1:List ByteArray) =>
some (out1,cost1)
)
theorem zkd {s1:ByteArray} {indent1:Int} {l1:Gapi_Layout} {r:((List ByteArray)×Int)} (h:zf2 s1 indent1 l1=some r):Fn Tryd.prog 30 [.string s1,zI indent1,.agg (zr3 l1).toArray] [] (fun v0:Value=>.tuple #[v0,zI r.2]) (fun v0=>[zv4 v0 r.1]):=by
 unfold zf2 at h
 refine Fn.intro Tryd.func30 rfl Tryd.ntmps30 (by simp) ?_
 intro w0 K
 obtain ⟨j1,hj1,h⟩:=zbU h
 refine zaZ (β:=Int×(List ByteArray)×Hd) 5 rfl (fun b=>j1 b.1 b.2.1=some r) (fun b=>[]) (fun b=>[(10,zI b.1),(11,b.2.2.v)]) (fun b=>[zv4 b.2.2.v b.2.1]) (fun cut => ?_) ?_
 ·
  refine zyG ?_
  refine zeC rfl dc rfl (fun b1 => ?_)
  refine zyR 2 rfl (zyH (zyR 2 rfl (zbf (k:=0) (cs:=(zr3 l1)) zo0 rfl dc rfl rfl rfl rfl ?_)))
  obtain ⟨r1,hq1,h⟩:=zbT h
  refine zeh (vs:=[.string s1,zI indent1,.agg (zr3 l1).toArray]) rfl dc rfl rfl rfl zrw (zgU (l1:=l1) hq1) Splits.nil ?_
  rintro ⟨b2,hd2,hd3,hd4⟩
  refine zc5 (L':=[cells b1 (zr3 l1) 23,cells b2 [.string r1.s,hd2.v,hd3.v,hd4.v,zI r1.first,zI r1.rest] 163,zv3 hd2.v r1.cells,zv0 hd3.v r1.wide,zv0 hd4.v r1.ends]) (zae [0,1,2,3,4] kr rfl) (zyR 1 rfl (zyH (zyR 1 rfl ?_)))
  obtain ⟨r2,hq2,h⟩:=zbT h
  refine zfK (vs:=[zP b2]) (Rd.nil:Rd _ _ []) rfl dc rfl rfl rfl zrv (zf0 (bt1:=b2) (t1:=r1) (t1_h0:=hd2) (t1_h1:=hd3) (t1_h2:=hd4) hq2) Splits.nil (.own (zae [1] (by kernel_rfl) rfl) (fun _ _ h=>sepL.one1.1 h) (.own (zae [2] (by kernel_rfl) rfl) (fun _ _ h=>sepL.one1.1 h) (.own (zae [3] (by kernel_rfl) rfl) (fun _ _ h=>sepL.one1.1 h) (.own (zae [4] (by kernel_rfl) rfl) (fun _ _ h=>sepL.one1.1 h) .nil)))) ?_
  rintro v1
  refine zcn (k:=5) rfl (fun hd5 he1 => ?_)
  subst he1
  refine zyR 1 rfl (zaE rfl dc rfl rfl (zaE rfl dc rfl rfl (zyR 2 rfl (zyH (zyR 1 rfl (zyH ?_))))))
  refine zyR 1 rfl (zyN (cut (zyG (zyR 1 rfl (zdj (k:=5) rfl dc rfl rfl Tryd.underlying24 (zyR 1 rfl (zyN (zaL (zeD (enc:=zhx) (e:=9) (size:=1) ?_)))))))))
  refine zbK (β:=Nat×(List ByteArray)×Int×Int×Hd) (fun b=>zaT (fun _ _ _=>none) (zd9 j1 r1 r2) b.1 b.2.1 b.2.2.1 b.2.2.2.1=some r) (fun b=>[]) (fun b=>[(8,zP b2),(10,zI r2.2),(11,b.2.2.2.2.v),(12,zI b.2.2.1),(24,hd5.v),(25,zI (r2.1.length:Int)),(26,zI b.2.2.2.1)]) (fun b=>[cells b2 [.string r1.s,hd2.v,hd3.v,hd4.v,zI r1.first,zI r1.rest] 163,zv3 hd2.v r1.cells,zv0 hd3.v r1.wide,zv0 hd4.v r1.ends,zv4 b.2.2.2.2.v b.2.1,zv0 hd5.v r2.1]) (fun b=>b.1) (zb8,([]:List ByteArray),0,0,Hd.nil) h rfl (za1 rfl) (zae [1,2,3,4,6,5] kr rfl) ?_
  rintro ⟨n1,out4,from3,x3,hd8⟩ h
  cases n1 with
  | zero=>exact zdu h
  | succ n1 =>
   obtain ⟨ag1,hag1⟩:∃ ag,ag=zaT (fun _ _ _=>none) (zd9 j1 r1 r2) n1:=⟨_,rfl⟩
   have h:zd9 j1 r1 r2 ag1 out4 from3 x3=some r:=by rw [hag1]; exact h
   unfold zd9 at h
   refine zyG (zaQ rfl zbV (zyN (zaF ?_)))
   refine zyB rfl h (fun h => ?_) (fun h => ?_)
   ·
    refine zar (zaH (zaF (zaL (zyG ?_))))
    obtain ⟨q1,hq3,h⟩:=zbT h
    refine zaX (k:=5) hq3 Tryd.underlying24 zhs rfl dc rfl rfl rfl rfl (zbA (i:=(x3:Int).toNat) (j:=0) (k:=5) (q:=q1) za5 zc9 rfl dc rfl rfl (zaV hq3) rfl dc rfl (zyR 1 rfl (zyH (zyR 4 rfl ?_))))
    obtain ⟨r3,hq4,h⟩:=zbT h
    refine zco (v:=.string r3) (vs:=[zP b2,zI from3,zI q1]) (Rd.nil:Rd _ _ []) rfl dc rfl rfl rfl zru (zfZ (bt1:=b2) (t1:=r1) (t1_h0:=hd2) (t1_h1:=hd3) (t1_h2:=hd4) hq4) (.own (zae [0] (by kernel_rfl) rfl) (fun _ _ h=>sepL.one1.1 h) (.own (zae [1] (by kernel_rfl) rfl) (fun _ _ h=>sepL.one1.1 h) (.own (zae [2] (by kernel_rfl) rfl) (fun _ _ h=>sepL.one1.1 h) (.own (zae [3] (by kernel_rfl) rfl) (fun _ _ h=>sepL.one1.1 h) .nil)))) ?_
    refine zbn (cs:=[.string r3]) (te:=9) (ps:=[(0,.tmp 34)]) rfl dc rfl (fun _=>by kernel_rfl) (fun b3 => ?_)
    obtain ⟨hg1,h⟩:=zbM h
    refine zbH (k:=4) (k2:=6) (ys:=[r3]) Tryd.underlying49 zrS zeo zjC rfl dc rfl rfl rfl rfl rfl rfl hg1 (fun v2 => ?_)
    refine zcn (k:=4) rfl (fun hd9 he2 => ?_)
    subst he2
    refine zyR 1 rfl (zyN (zaG (zyR 2 rfl (zaK (zal (zaH (zaG ?_)))))))
    obtain ⟨hg2,h⟩:=zbM h
    refine zaQ rfl (zaW (r:=x3+1) (IntWalk.i64_in _ hg2)) (zyR 1 rfl (zaK ?_))
    subst hag1
    exact za8 (n1,out4++[r3],q1,x3+1,hd9) h (Nat.lt_succ_self _) rfl (za1 rfl) (zae [0,1,2,3,4,5] kr rfl)
   refine zbc (zap (zap (zaw ?_)))
   exact zai (r2.2,out4,hd8) h rfl (za1 rfl) (zae [4] kr rfl)
 rintro ⟨cost1,out1,hd1⟩ h
 rw [hj1] at h
 refine zyG (zyR 4 rfl (zyN (zax ?_)))
 cases h
 exact zaC (rs:=[.tmp 6,.tmp 7]) hd1.v (.inl rfl) Tryd.results30 (.cons (.tmp rfl) (.cons (.tmp rfl) .nil)) rfl (zae [0] kr rfl)
def zf3 (text1:ByteArray) (indent1:Int) (l1:Gapi_Layout):Option ((List ByteArray)×Int×Int) :=
zan (zgV l1) fun (r1:Bool) =>
zam (!r1) (
some (([]:List ByteArray),0,2)
) (
zam (decide ((indent1:Int)<0)) (
some (([]:List ByteArray),0,2)
) (
zam (decide ((1024:Int)<indent1)) (
some (([]:List ByteArray),0,2)
) (
zam (decide ((1024:Int)<(text1.size:Int))) (
some (([]:List ByteArray),0,2)
) (
zan (zf2 text1 indent1 l1) fun (r2:((List ByteArray)×Int)) =>
some (r2.1,r2.2,0)
)
)
)
)
theorem zke {text1:ByteArray} {indent1:Int} {l1:Gapi_Layout} {r:((List ByteArray)×Int×Int)} (h:zf3 text1 indent1 l1=some r):Fn Tryd.prog 16 [.string text1,zI indent1,.agg (zr3 l1).toArray] [] (fun v0:Value=>.tuple #[v0,zI r.2.1,zI r.2.2]) (fun v0=>[zv4 v0 r.1]):=by
 unfold zf3 at h
 refine Fn.intro Tryd.func16 rfl Tryd.ntmps16 (by simp) ?_
 intro w0 K
 refine zyG ?_
 refine zeC rfl dc rfl (fun b1 => ?_)
 refine zyR 3 rfl (zyN (zaF (zyG (zbf (k:=0) (cs:=(zr3 l1)) zo0 rfl dc rfl rfl rfl rfl ?_))))
 obtain ⟨r1,hq1,h⟩:=zbT h
 refine zbb (v:=.bool r1) (vs:=[.agg (zr3 l1).toArray]) rfl dc rfl rfl rfl zrI (zkX (l1:=l1) hq1) (zdg rfl dc rfl zch (zyR 1 rfl ?_))
 refine zyS (s:=14) rfl h (fun h => ?_) (fun h => ?_)
 ·
  refine zyR 12 rfl (zyN ?_)
  refine zbg rfl (zyG (zyR 3 rfl (zyN (zax (zag (zgL (enc:=zhx) (e:=9) (size:=1) ?_))))))
  cases h
  exact zaC (rs:=[.tmp 6,.tmp 7,.tmp 8]) (.slice none 0 0) (.inl rfl) Tryd.results16 (.cons (.tmp rfl) (.cons (.tmp rfl) (.cons (.tmp rfl) .nil))) rfl (zae [1] kr rfl)
 refine zyR 1 rfl (zaQ rfl zbV (zyR 2 rfl ?_))
 refine zyS (s:=18) rfl h (fun h => ?_) (fun h => ?_)
 ·
  refine zyR 8 rfl (zyN (zbg rfl (zyG (zyR 1 rfl ?_))))
  refine zyR 2 rfl (zyN (zax (zag (zgL (enc:=zhx) (e:=9) (size:=1) ?_))))
  cases h
  exact zaC (rs:=[.tmp 6,.tmp 7,.tmp 8]) (.slice none 0 0) (.inl rfl) Tryd.results16 (.cons (.tmp rfl) (.cons (.tmp rfl) (.cons (.tmp rfl) .nil))) rfl (zae [1] kr rfl)
 refine zyR 1 rfl (zaQ rfl zcQ (zyR 2 rfl ?_))
 refine zyS (s:=22) rfl h (fun h => ?_) (fun h => ?_)
 ·
  refine zyR 4 rfl (zyN (zbg rfl (zyG (zyR 3 rfl (zyN ?_)))))
  refine zax (zag (zgL (enc:=zhx) (e:=9) (size:=1) ?_))
  cases h
  exact zaC (rs:=[.tmp 6,.tmp 7,.tmp 8]) (.slice none 0 0) (.inl rfl) Tryd.results16 (.cons (.tmp rfl) (.cons (.tmp rfl) (.cons (.tmp rfl) .nil))) rfl (zae [1] kr rfl)
 refine zyR 1 rfl (zbt rfl dc rfl Tryd.underlying9 (zaQ rfl zcQ (zyR 1 rfl (zyN ?_))))
 refine zyB rfl h (fun h => ?_) (fun h => ?_)
 ·
  refine zyG (zyR 3 rfl (zyN (zax (zag (zgL (enc:=zhx) (e:=9) (size:=1) ?_)))))
  cases h
  exact zaC (rs:=[.tmp 6,.tmp 7,.tmp 8]) (.slice none 0 0) (.inl rfl) Tryd.results16 (.cons (.tmp rfl) (.cons (.tmp rfl) (.cons (.tmp rfl) .nil))) rfl (zae [1] kr rfl)
 refine zar (zaH (zyG (zyR 2 rfl (zbf (k:=0) (cs:=(zr3 l1)) zo0 rfl dc rfl rfl rfl rfl ?_))))
 obtain ⟨r2,hq2,h⟩:=zbT h
 refine zeh (vs:=[.string text1,zI indent1,.agg (zr3 l1).toArray]) rfl dc rfl rfl rfl zrH (zkd (l1:=l1) hq2) Splits.nil ?_
 rintro v1
 refine zyR 1 rfl (zaE rfl dc rfl rfl (zaE rfl dc rfl rfl (zyR 2 rfl (zyH (zyR 5 rfl ?_)))))
 refine zyN (zax ?_)
 cases h
 exact zaC (rs:=[.tmp 6,.tmp 7,.tmp 8]) v1 (.inl rfl) Tryd.results16 (.cons (.tmp rfl) (.cons (.tmp rfl) (.cons (.tmp rfl) .nil))) rfl (zae [1] kr rfl)
end Go.Proofs.YtbempdelckaccaaDoor

namespace Go.Proofs.YtbempdelckaccaaDoor
open Go.RowKit Go.Lib
set_option linter.unusedVariables false
set_option linter.unusedSimpArgs false
abbrev zkK:=Gapi_Cell
def spB (s:ByteArray) (c:zkK):Bool:=if c.Span_To=c.Span_From+1 then zfg s c.Span_From==some 32 else false
def zoO (l:List zkK):Int:=(l.map (·.Columns)).sum
def eN (sp:zkK→Bool) (l:List zkK):Nat:=(l.reverse.dropWhile sp).length
def el (sp:zkK→Bool) (P:List zkK):List Int:=(List.range (P.length+1)).map fun k=>((eN sp (P.take k):Nat):Int)
theorem Cov.mem:∀ {cs:List zkK} {a b:Int},Cov a cs b→∀ c∈cs,a≤c.Span_From∧c.Span_From<c.Span_To∧c.Span_To≤b∧0≤c.Columns∧c.Columns≤2
 | [],a,b,_,c,hc=>by cases hc
 | d::cs,a,b,h,c,hc=>by
  obtain ⟨h1,h2,h3,h4⟩:=h
  have hle:∀ (cs:List zkK) (a b:Int),Cov a cs b→a≤b:=by
   intro cs
   induction cs with
   | nil=>intro a b h; have:a=b:=h; omega
   | cons e es ih=>intro a b h; have:=ih _ _ h.2.2.2; have:=h.2.1; omega
  have:=hle _ _ _ h4
  rcases List.mem_cons.1 hc with rfl | hc
  ·exact ⟨by omega,by omega,this,h3.1,h3.2⟩
  ·have:=Cov.mem h4 c hc; omega
def zqL (sp:zkK→Bool) (C:List zkK) (f t:Nat):Int:=zoO (C.take (max f (eN sp (C.take t)))) - zoO (C.take f)
def znT (a b:Int) (f:Nat):Int:=if f=0 then a else b
def zsj (sp:zkK→Bool) (C:List zkK) (k:Nat):Bool:=match C[k]? with | some c=>sp c | none=>false
def zsz (sp:zkK→Bool) (C:List zkK) (a b:Int) (f t:Nat):Bool:=!(decide (0<f)&&zsj sp C f)&&(decide (zqL sp C f t≤znT a b f)||decide (eN sp (C.take t)≤f+1))
def zrW (sp:zkK→Bool) (C:List zkK) (a b:Int) (f t:Nat):Int:=(if 0<znT a b f - zqL sp C f t then (znT a b f - zqL sp C f t)*(znT a b f - zqL sp C f t) else 0)+(if zsj sp C (t - 1) then 0 else 1000)
section
variable {s:ByteArray} {a b:Int} (hs:s.size≤100000) (ha:0≤a∧a≤1000000) (hb:0≤b∧b≤1000000)
include hs
include ha hb
end
end Go.Proofs.YtbempdelckaccaaDoor

namespace Go.Proofs.YtbempdelckaccaaDoor
open Go.RowKit Go.Lib
set_option linter.unusedVariables false
set_option linter.unusedSimpArgs false
abbrev Bst:=Gpage_best
def b0:Bst:=⟨0,0,0⟩
def bm:Bst:=⟨0,-1,0⟩
section
variable (R:Nat→Nat→Bool) (K:Nat→Nat→Int) (n:Nat)
def zsI (T:Nat→Bst) (f t:Nat):Option Bst :=
 if R f t then (if t<n then (if (T t).rows<0 then none else some ⟨K f t+(T t).cost,(T t).rows+1,(t:Int)⟩) else some ⟨0,1,(t:Int)⟩) else none
def zsx (x:Bst):Option Bst→Bst
 | none=>x
 | some y=>if x.rows<0∨y.cost<x.cost∨(y.cost=x.cost∧y.rows≤x.rows) then y else x
def zqd (T:Nat→Bst) (f:Nat):Nat→Nat→Bst→Bst
 | 0,_,x=>x
 | d+1,t,x=>zqd T f d (t+1) (zsx x (zsI R K n T f t))
def Bf:Nat→Nat→Bst
 | 0,_=>b0
 | k+1,f=>if f+(k+1)=n then zqd R K n (Bf k) f (n - f) (f+1) bm else Bf k f
end
section
variable {R:Nat→Nat→Bool} {K:Nat→Nat→Int} {n:Nat}
def BB (R:Nat→Nat→Bool) (K:Nat→Nat→Int) (n:Nat):Nat→Bst:=Bf R K n n
end
section
variable {s:ByteArray} {a b:Int} (hs:s.size≤100000) (ha:0≤a∧a≤1000000) (hb:0≤b∧b≤1000000)
abbrev Rs (s:ByteArray) (a b:Int):Nat→Nat→Bool:=zsz (spB s) (zi3 s) a b
abbrev Ks (s:ByteArray) (a b:Int):Nat→Nat→Int:=zrW (spB s) (zi3 s) a b
include hs ha hb
end
end Go.Proofs.YtbempdelckaccaaDoor

namespace Go.Proofs.YtbempdelckaccaaDoor
open Go.RowKit Go.Lib
set_option linter.unusedVariables false
set_option linter.unusedSimpArgs false
section
variable {s:ByteArray} {a b:Int} (hs:s.size≤100000) (ha:0≤a∧a≤1000000) (hb:0≤b∧b≤1000000)
abbrev TT (s:ByteArray) (a b:Int):Nat→Bst:=BB (Rs s a b) (Ks s a b) (zi3 s).length
def zqf (s:ByteArray) (a b:Int):Nat→Nat→List Nat
 | 0,_=>[]
 | m+1,f=>if f<(zi3 s).length then (TT s a b f).to_.toNat::zqf s a b m (TT s a b f).to_.toNat else []
include hs ha hb
abbrev zrk (s:ByteArray) (a b:Int):List Nat:=zqf s a b (zi3 s).length 0
end
def stN (s:ByteArray) (k:Nat):Int:=match (zi3 s)[k]? with | some c=>c.Span_From | none=>(s.size:Int)
def zqZ (s:ByteArray) (f t:Nat):ByteArray:=zcu s (stN s f) (stN s t)
def zow (s:ByteArray):Nat→List Nat→List ByteArray
 | _,[]=>[]
 | f,t::ts=>zqZ s f t::zow s t ts
section
variable {s:ByteArray} {a b:Int} (hs:s.size≤100000) (ha:0≤a∧a≤1000000) (hb:0≤b∧b≤1000000)
include hs ha hb
end
end Go.Proofs.YtbempdelckaccaaDoor

namespace Go.Proofs.YtbempdelckaccaaDoor
open Go.RowKit Go.Lib
set_option linter.unusedVariables false
set_option linter.unusedSimpArgs false
section
variable {s:ByteArray} {a b:Int} (hs:s.size≤100000) (ha:0≤a∧a≤1000000) (hb:0≤b∧b≤1000000)
include hs ha hb
end
end Go.Proofs.YtbempdelckaccaaDoor

namespace Go.Proofs.YtbempdelckaccaaDoor
open Go.RowKit Go.Lib
set_option linter.unusedVariables false
set_option linter.unusedSimpArgs false
end Go.Proofs.YtbempdelckaccaaDoor

namespace Go.Proofs.YtbempdelckaccaaDoor
open Go.RowKit Go.Lib
set_option linter.unusedVariables false
set_option linter.unusedSimpArgs false
end Go.Proofs.YtbempdelckaccaaDoor

namespace Go.Proofs.YtbempdelckaccaaDoor
open Go.RowKit Go.Lib
set_option linter.unusedVariables false
set_option linter.unusedSimpArgs false
def zeF  : Option Bool :=
zan (zf3 (⟨#[111,110,101,32,116,119,111,32,116,104,114,101,101]⟩:ByteArray) 0 (⟨8,4,2,0⟩:Gapi_Layout)) fun (r1:((List ByteArray)×Int×Int)) =>
zam (((r1.1.length:Int):Int)==2) (
zan (zcI r1.1 0) fun (q1:ByteArray) =>
zam (decide (q1=(⟨#[111,110,101,32,116,119,111,32]⟩:ByteArray))) (
zam ((r1.2.1:Int)==1) (
some ((r1.2.2:Int)==0)
) (
some false
)
) (
some false
)
) (
some false
)
theorem zjr  {r:Bool} (h:zeF=some r):FnP Tryd.prog 5 [] (.bool r):=by
 unfold zeF at h
 refine FnP.intro Tryd.func5 rfl Tryd.ntmps5 (by simp) ?_
 intro w0 K
 refine zyG (zyR 1 rfl (zyH ?_))
 refine zbJ (v:=.agg #[zI 8,zI 4,zI 2,zI 0]) (ps:=[(0,.const (zI 8)),(1,.const (zI 4)),(2,.const (zI 2))]) rfl dc rfl (fun _=>by kernel_rfl) ?_
 obtain ⟨r1,hq1,h⟩:=zbT h
 refine zeh (vs:=[.string (⟨#[111,110,101,32,116,119,111,32,116,104,114,101,101]⟩:ByteArray),zI 0,.agg #[zI 8,zI 4,zI 2,zI 0]]) rfl dc rfl rfl rfl zrO (zke (l1:=(⟨8,4,2,0⟩:Gapi_Layout)) hq1) Splits.nil ?_
 rintro v1
 refine zyR 1 rfl (zaE rfl dc rfl rfl (zaE rfl dc rfl rfl (zaE rfl dc rfl rfl (zyR 3 rfl (zyH (zyR 1 rfl (zdj (k:=0) rfl dc rfl rfl Tryd.underlying49 (zaQ rfl zaq ?_))))))))
 refine zyR 1 rfl ?_
 refine zyS (s:=13) rfl h (fun h => ?_) (fun h => ?_)
 ·
  refine zyR 1 rfl ?_
  obtain ⟨q1,hq2,h⟩:=zbT h
  refine zaX (k:=0) hq2 Tryd.underlying49 zmt rfl dc rfl rfl rfl rfl (zbA (i:=(0:Int).toNat) (j:=0) (k:=0) (q:=q1) zht zeo rfl dc rfl rfl (zaV hq2) rfl dc rfl (zaQ rfl zfG (zyR 2 rfl ?_)))
  refine zyS (s:=19) rfl h (fun h => ?_) (fun h => ?_)
  ·
   refine zyR 1 rfl (zaQ rfl zaq (zyR 2 rfl ?_))
   refine zyS (s:=23) rfl h (fun h => ?_) (fun h => ?_)
   ·
    refine zyR 1 rfl (zaQ rfl zaq (zyR 2 rfl (zyN (zax ?_))))
    cases h
    exact zaC (rs:=[.tmp 0]) () (.inl rfl) Tryd.results5 (.cons (.tmp rfl) .nil) rfl Splits.nil
   refine zyR 4 rfl (zyN (zax ?_))
   cases h
   exact zaC (rs:=[.tmp 0]) () (.inl rfl) Tryd.results5 (.cons (.tmp rfl) .nil) rfl Splits.nil
  refine zyR 8 rfl (zyN (zax ?_))
  cases h
  exact zaC (rs:=[.tmp 0]) () (.inl rfl) Tryd.results5 (.cons (.tmp rfl) .nil) rfl Splits.nil
 refine zyR 14 rfl ?_
 refine zyN (zax ?_)
 cases h
 exact zaC (rs:=[.tmp 0]) () (.inl rfl) Tryd.results5 (.cons (.tmp rfl) .nil) rfl Splits.nil
end Go.Proofs.YtbempdelckaccaaDoor

namespace Go.Proofs.YtbempdelckaccaaDoor
open Go.RowKit Go.Lib
set_option linter.unusedVariables false
set_option linter.unusedSimpArgs false
def zsB (l:Gapi_Layout):Bool:=decide ((8:Int)≤l.Width)&&(decide ((l.Width:Int)≤256)&&(decide ((4:Int)≤l.Height)&&(decide ((l.Height:Int)≤200)&&(decide ((0:Int)≤l.Turn)&&(decide ((l.Turn:Int)≤7)&&(decide ((0:Int)≤l.Every)&&decide ((l.Every:Int)≤512)))))))
abbrev zsD (i:Int) (l:Gapi_Layout):Int:=max 1 (l.Width - i)
abbrev zsA (l:Gapi_Layout):Int:=l.Width - l.Turn
abbrev zsy (s:ByteArray) (i:Int) (l:Gapi_Layout):List ByteArray:=zow s 0 (zrk s (zsD i l) (zsA l))
theorem zp9:zeF=some true:=by decide +kernel
end Go.Proofs.YtbempdelckaccaaDoor

namespace Go.Proofs.YtbempdelckaccaaDoor
open Go.RowKit Go.Lib
set_option linter.unusedVariables false
set_option linter.unusedSimpArgs false
def p2 (p:Pc):Gref02_Piece:=⟨p.i,p.w,p.r⟩
end Go.Proofs.YtbempdelckaccaaDoor

namespace Go.Proofs.YtbempdelckaccaaDoor
open Go.RowKit Go.Lib
set_option linter.unusedVariables false
set_option linter.unusedSimpArgs false
abbrev jnP (p:Pc):Bool:=!p.broken&&decide ((p.r:Int)=8205)
def p5 (p:Pc):Gref05_Piece:=⟨p.i,(p.i:Int)+(p.w:Int),kdP (pcG p),jnP p,zqK (pcG p)⟩
end Go.Proofs.YtbempdelckaccaaDoor

namespace Go.Proofs.YtbempdelckaccaaDoor
open Go.RowKit Go.Lib
set_option linter.unusedVariables false
set_option linter.unusedSimpArgs false
def zpS (h:Int):Prop:=h=11∨h=4∨h=9
instance (h:Int):Decidable (zpS h):=by unfold zpS; infer_instance
end Go.Proofs.YtbempdelckaccaaDoor

namespace Go.Proofs.YtbempdelckaccaaDoor
open Go.RowKit Go.Lib
set_option linter.unusedVariables false
set_option linter.unusedSimpArgs false
section
variable {s:ByteArray} (hs:s.size≤100000)
include hs
end
end Go.Proofs.YtbempdelckaccaaDoor

namespace Go.Proofs.YtbempdelckaccaaDoor
open Go.RowKit Go.Lib
set_option linter.unusedVariables false
set_option linter.unusedSimpArgs false
section
variable {R:Nat→Nat→Bool} {K:Nat→Nat→Int} {n:Nat}
end
section
variable {s:ByteArray} {a b:Int} (hs:s.size≤100000) (ha:0≤a∧a≤1000000) (hb:0≤b∧b≤1000000)
include hs ha hb
end
end Go.Proofs.YtbempdelckaccaaDoor

namespace Go.Proofs.YtbempdelckaccaaDoor
open Go.RowKit Go.Lib
set_option linter.unusedVariables false
set_option linter.unusedSimpArgs false
section
variable {R:Nat→Nat→Bool} {K:Nat→Nat→Int} {n:Nat} (hK:∀ f t,0≤K f t∧K f t≤2000000000000) (h1:∀ f,f<n→R f (f+1)=true)
include hK h1
end
def zqg (T:Nat→Bst) (n:Nat):Nat→Nat→List Nat
 | 0,_=>[]
 | m+1,f=>if f<n then (T f).to_.toNat::zqg T n m (T f).to_.toNat else []
end Go.Proofs.YtbempdelckaccaaDoor

namespace Go.Proofs.YtbempdelckaccaaDoor
open Go.RowKit Go.Lib
set_option linter.unusedVariables false
set_option linter.unusedSimpArgs false
section
variable {s:ByteArray} {a b:Int} (hs:s.size≤100000) (ha:0≤a∧a≤1000000) (hb:0≤b∧b≤1000000)
include hs ha hb
end
section
variable {s:ByteArray} {a b:Int} (hs:s.size≤100000) (ha:0≤a∧a≤1000000) (hb:0≤b∧b≤1000000)
include hs ha hb
end
end Go.Proofs.YtbempdelckaccaaDoor

namespace Go.Proofs.YtbempdelckaccaaDoor
open Go.RowKit Go.Lib
set_option linter.unusedVariables false
set_option linter.unusedSimpArgs false
end Go.Proofs.YtbempdelckaccaaDoor

namespace Go.Proofs.YtbempdelckaccaaDoor
open Go.RowKit Go.Lib
set_option linter.unusedVariables false
set_option linter.unusedSimpArgs false
end Go.Proofs.YtbempdelckaccaaDoor

namespace Go.Proofs.YtbempdelckaccaaDoor
open Go.RowKit Go.Lib
set_option linter.unusedVariables false
set_option linter.unusedSimpArgs false
structure OkV (v:Gapi_Verse):Prop where
 sz:v.Text.size≤1024
 ne:0<v.Text.size
 i0:0≤v.Indent∧v.Indent≤1024
section
variable {l:Gapi_Layout} (hm:zsB l=true)
include hm
end
def Stp:Int→List Gapi_Verse→Prop
 | _,[]=>True
 | c,v::vs=>(v.Stanza=c∨(0<c∧v.Stanza=c - 1))∧Stp (v.Stanza+1) vs
def flS:Int→List Int×List Int→List Gapi_Verse→List Int×List Int
 | _,a,[]=>a
 | k,a,v::vs=>flS (k+1) (if v.Stanza=(a.1.length:Int) then (a.1++[k],a.2++[k]) else (a.1,a.2.set v.Stanza.toNat k)) vs
end Go.Proofs.YtbempdelckaccaaDoor

namespace Go.Proofs.YtbempdelckaccaaDoor
open Go.RowKit Go.Lib
set_option linter.unusedVariables false
set_option linter.unusedSimpArgs false
theorem zdJ {α:Type} {l:List α} {x y:α} {i:Nat} (h:(l++[x])[i]?=some y):l[i]?=some y∨(i=l.length∧y=x):=by
 rcases Nat.lt_or_ge i l.length with hi | hi
 ·rw [List.getElem?_append_left hi] at h; exact .inl h
 ·rw [List.getElem?_append_right hi] at h
  rcases Nat.eq_zero_or_pos (i - l.length) with e | e
  ·rw [e] at h
   exact .inr ⟨by omega,(Option.some.inj h).symm⟩
  ·rw [List.getElem?_eq_none (by simp; omega)] at h; cases h
theorem zie {α:Type} {l:List α} {x:α} {i:Nat} (h:l[i]?=some x):i<l.length:=(List.getElem?_eq_some_iff.1 h).1
structure FL (pre:List Gapi_Verse) (F L:List Int):Prop where
 len:L.length=F.length
 fst:∀ (s:Nat) (f:Int),F[s]?=some f→∃ j:Nat,f=j∧(∃ v:Gapi_Verse,pre[j]?=some v∧v.Stanza=(s:Int))∧∀ (i:Nat) (w:Gapi_Verse),pre[i]?=some w→w.Stanza=(s:Int)→j≤i
 lst:∀ (s:Nat) (f:Int),L[s]?=some f→∃ j:Nat,f=j∧(∃ v:Gapi_Verse,pre[j]?=some v∧v.Stanza=(s:Int))∧∀ (i:Nat) (w:Gapi_Verse),pre[i]?=some w→w.Stanza=(s:Int)→i≤j
 all:∀ (i:Nat) (w:Gapi_Verse),pre[i]?=some w→0≤w.Stanza∧w.Stanza<F.length
theorem FL.new {pre:List Gapi_Verse} {F L:List Int} (h:FL pre F L) {v:Gapi_Verse} (hv:v.Stanza=F.length):FL (pre++[v]) (F++[(pre.length:Int)]) (L++[(pre.length:Int)]):=by
 have hlast:(pre++[v])[pre.length]?=some v:=by simp
 have hle:∀ {i:Nat} {w:Gapi_Verse},pre[i]?=some w→(pre++[v])[i]?=some w:=fun h=>by rw [List.getElem?_append_left (zie h)]; exact h
 refine ⟨by simp [h.len],fun s f hs => ?_,fun s f hs => ?_,fun i w hw => ?_⟩
 ·rcases zdJ hs with hs | ⟨rfl,rfl⟩
  ·obtain ⟨j,e,⟨u,hu,hus⟩,hm⟩:=h.fst s f hs
   refine ⟨j,e,⟨u,hle hu,hus⟩,fun i w hw hws => ?_⟩
   rcases zdJ hw with hw | ⟨rfl,rfl⟩
   ·exact hm i w hw hws
   ·have:=zie hu; omega
  ·refine ⟨pre.length,rfl,⟨v,hlast,hv⟩,fun i w hw hws => ?_⟩
   rcases zdJ hw with hw | ⟨rfl,rfl⟩
   ·have:=(h.all i w hw).2; omega
   ·exact Nat.le_refl _
 ·rcases zdJ hs with hs | ⟨e0,rfl⟩
  ·obtain ⟨j,e,⟨u,hu,hus⟩,hm⟩:=h.lst s f hs
   refine ⟨j,e,⟨u,hle hu,hus⟩,fun i w hw hws => ?_⟩
   rcases zdJ hw with hw | ⟨rfl,rfl⟩
   ·exact hm i w hw hws
   ·have:=zie hs; have:=h.len; omega
  ·refine ⟨pre.length,rfl,⟨v,hlast,by have:=h.len; omega⟩,fun i w hw hws => ?_⟩
   rcases zdJ hw with hw | ⟨rfl,rfl⟩
   ·have:=zie hw; omega
   ·exact Nat.le_refl _
 ·rw [List.length_append,List.length_singleton]; push_cast
  rcases zdJ hw with hw | ⟨rfl,rfl⟩
  ·have:=h.all i w hw; omega
  ·omega
theorem FL.old {pre:List Gapi_Verse} {F L:List Int} (h:FL pre F L) {v:Gapi_Verse} (h0:0<F.length) (hv:v.Stanza=(F.length:Int) - 1):FL (pre++[v]) F (L.set v.Stanza.toNat (pre.length:Int)):=by
 have hlast:(pre++[v])[pre.length]?=some v:=by simp
 have hle:∀ {i:Nat} {w:Gapi_Verse},pre[i]?=some w→(pre++[v])[i]?=some w:=fun h=>by rw [List.getElem?_append_left (zie h)]; exact h
 refine ⟨by simp [h.len],fun s f hs => ?_,fun s f hs => ?_,fun i w hw => ?_⟩
 ·obtain ⟨j,e,⟨u,hu,hus⟩,hm⟩:=h.fst s f hs
  refine ⟨j,e,⟨u,hle hu,hus⟩,fun i w hw hws => ?_⟩
  rcases zdJ hw with hw | ⟨rfl,rfl⟩
  ·exact hm i w hw hws
  ·have:=zie hu; omega
 ·by_cases e:v.Stanza.toNat=s
  ·subst e
   rw [List.getElem?_set_self (by have:=h.len; omega)] at hs
   obtain rfl:=Option.some.inj hs
   refine ⟨pre.length,rfl,⟨v,hlast,by omega⟩,fun i w hw hws => ?_⟩
   rcases zdJ hw with hw | ⟨rfl,rfl⟩
   ·have:=zie hw; omega
   ·exact Nat.le_refl _
  ·rw [List.getElem?_set_ne e] at hs
   obtain ⟨j,e,⟨u,hu,hus⟩,hm⟩:=h.lst s f hs
   refine ⟨j,e,⟨u,hle hu,hus⟩,fun i w hw hws => ?_⟩
   rcases zdJ hw with hw | ⟨rfl,rfl⟩
   ·exact hm i w hw hws
   ·omega
 ·rcases zdJ hw with hw | ⟨rfl,rfl⟩
  ·exact h.all i w hw
  ·omega
theorem FL.fold:∀ (vs pre:List Gapi_Verse) (F L:List Int),FL pre F L→Stp F.length vs→FL (pre++vs) (flS (pre.length:Int) (F,L) vs).1 (flS (pre.length:Int) (F,L) vs).2
 | [],pre,F,L,h,_=>by rw [List.append_nil]; exact h
 | v::vs,pre,F,L,h,hs=>by
  obtain ⟨s1,s2⟩:=hs
  have e:pre++v::vs=(pre++[v])++vs:=by simp
  have e1:(((pre++[v]).length:Nat):Int)=(pre.length:Int)+1:=by simp
  have e2:flS (pre.length:Int) (F,L) (v::vs)=flS ((pre.length:Int)+1) (if v.Stanza=(F.length:Int) then (F++[(pre.length:Int)],L++[(pre.length:Int)]) else (F,L.set v.Stanza.toNat (pre.length:Int))) vs:=rfl
  rw [e,e2,← e1]
  rcases s1 with s1 | ⟨s1,s3⟩
  ·rw [if_pos s1]
   exact FL.fold vs (pre++[v]) _ _ (h.new s1) (by rw [List.length_append,List.length_singleton]; rw [s1] at s2; push_cast; exact s2)
  ·rw [if_neg (by omega)]
   refine FL.fold vs (pre++[v]) _ _ (h.old (by omega) s3) ?_
   rw [s3,show (F.length:Int) - 1+1=F.length by omega] at s2
   exact s2
theorem FL.nil:FL [] [] []:=⟨rfl,fun s f h=>by simp at h,fun s f h=>by simp at h,fun i w h=>by simp at h⟩
def RCh:Int→List Gapi_Row→Prop
 | _,[]=>True
 | s,r::rs=>(r.Stanza=s∨r.Stanza=s+1)∧RCh r.Stanza rs
theorem RCh.step:∀ {rs:List Gapi_Row} {s:Int} {i:Nat} {a b:Gapi_Row},RCh s rs→rs[i]?=some a→rs[i+1]?=some b→b.Stanza=a.Stanza∨b.Stanza=a.Stanza+1
 | [],_,_,_,_,_,h,_=>by simp at h
 | r::rs,s,0,a,b,⟨h1,h2⟩,ha,hb=>by
  obtain rfl:=Option.some.inj ha
  cases rs with
  | nil=>simp at hb
  | cons q qs=>obtain rfl:=Option.some.inj hb; exact h2.1
 | r::rs,s,i+1,a,b,⟨h1,h2⟩,ha,hb=>h2.step ha hb
structure RowsOk (rows:List Gapi_Row) (F L:List Int):Prop where
 n:rows.length≤1000000
 ch:∀ (i:Nat) (a b:Gapi_Row),rows[i]?=some a→rows[i+1]?=some b→b.Stanza=a.Stanza∨b.Stanza=a.Stanza+1
 rg:∀ r∈rows,0≤r.Stanza∧r.Stanza≤1000000
 fst:∀ r∈rows,∃ f,F[r.Stanza.toNat]?=some f∧(r.Line=f↔∀ x∈rows,x.Stanza=r.Stanza→r.Line≤x.Line)
 lst:∀ r∈rows,∃ f,L[r.Stanza.toNat]?=some f∧(r.Line=f↔∀ x∈rows,x.Stanza=r.Stanza→x.Line≤r.Line)
def stz (rows:List Gapi_Row) (i:Nat):Int:=match rows[i]? with | some r=>r.Stanza | none=>0
def zn4 (rows:List Gapi_Row) (f t:Nat):Int:=((t:Int) - f)+stz rows (t - 1) - stz rows f
section
variable {rows:List Gapi_Row} {F L:List Int} (hR:RowsOk rows F L)
include hR
end
def zsH (rows:List Gapi_Row) (k:Nat):Int :=
 match rows[k - 1]?,rows[k]? with
 | some a,some b=>if a.Stanza≠b.Stanza then 0 else if a.Line=b.Line then 100 else if (rows.all fun r=>!(r.Stanza==a.Stanza&&decide (r.Line<a.Line)))=true∨(rows.all fun r=>!(r.Stanza==a.Stanza&&decide (b.Line<r.Line)))=true then 50 else 10
 | _,_=>0
end Go.Proofs.YtbempdelckaccaaDoor

namespace Go.Proofs.YtbempdelckaccaaDoor
open Go.RowKit Go.Lib
set_option linter.unusedVariables false
set_option linter.unusedSimpArgs false
def Rp (rows:List Gapi_Row) (H:Int) (f t:Nat):Bool:=decide (zn4 rows f t≤H)
def Kp (rows:List Gapi_Row) (H:Int) (f t:Nat):Int:=if f<t∧t<rows.length∧zn4 rows f t≤H then (H - zn4 rows f t)*(H - zn4 rows f t)+zsH rows t else 0
abbrev Tp (rows:List Gapi_Row) (H:Int) (k:Nat):Nat→Bst:=Bf (Rp rows H) (Kp rows H) rows.length k
abbrev Tt (rows:List Gapi_Row) (H:Int):Nat→Bst:=BB (Rp rows H) (Kp rows H) rows.length
abbrev zsE (rows:List Gapi_Row) (H:Int):List Nat:=zqg (Tt rows H) rows.length rows.length 0
section
variable {rows:List Gapi_Row} {F L:List Int} {H:Int} (hR:RowsOk rows F L) (hH:4≤H∧H≤200)
include hR hH
end
end Go.Proofs.YtbempdelckaccaaDoor

namespace Go.Proofs.YtbempdelckaccaaDoor
open Go.RowKit Go.Lib
set_option linter.unusedVariables false
set_option linter.unusedSimpArgs false
end Go.Proofs.YtbempdelckaccaaDoor

namespace Go.Proofs.YtbempdelckaccaaDoor
open Go.RowKit Go.Lib
set_option linter.unusedVariables false
set_option linter.unusedSimpArgs false
end Go.Proofs.YtbempdelckaccaaDoor

namespace Go.Proofs.YtbempdelckaccaaDoor
open Go.RowKit Go.Lib
set_option linter.unusedVariables false
set_option linter.unusedSimpArgs false
theorem zoz {z:List Row} {k:Nat} (ih:∀ vs:List Gapi_Verse,vs.map zmf=(zen (k+1) z).map zjQ→Stp ((k+1:Nat):Int) vs):∀ (r:Row) (j:Nat) (vs:List Gapi_Verse),vs.map zmf=((zfe j r).map (fun p=>(k,p))++zen (k+1) z).map zjQ→Stp ((k+1:Nat):Int) vs
 | [],j,vs,h=>ih vs h
 | x::r,j,[],h=>trivial
 | x::r,j,v::vs,h=>by
  obtain ⟨h1,h2⟩:=List.cons.inj (show zmf v::vs.map zmf=zjQ (k,j,x)::((zfe (j+1) r).map (fun p=>(k,p))++zen (k+1) z).map zjQ from h)
  have hs:v.Stanza=(k:Int):=congrArg (fun q=>q.2.2.1) h1
  refine ⟨.inr ⟨by omega,by omega⟩,?_⟩
  rw [hs,show (k:Int)+1=((k+1:Nat):Int) by omega]
  exact zoz ih r (j+1) vs h2
theorem zlm:∀ (z:List Row) (k:Nat) (vs:List Gapi_Verse),(∀ r∈z,r≠[])→vs.map zmf=(zen k z).map zjQ→Stp (k:Int) vs
 | [],k,vs,_,h=>by
  have:vs=[]:=by simpa [zen] using h
  rw [this]; trivial
 | []::z,k,vs,hne,h=>absurd rfl (hne [] (List.mem_cons_self ..))
 | (x::r)::z,k,[],hne,h=>trivial
 | (x::r)::z,k,v::vs,hne,h=>by
  obtain ⟨h1,h2⟩:=List.cons.inj (show zmf v::vs.map zmf=zjQ (k,0,x)::((zfe 1 r).map (fun p=>(k,p))++zen (k+1) z).map zjQ from h)
  have hs:v.Stanza=(k:Int):=congrArg (fun q=>q.2.2.1) h1
  refine ⟨.inl hs,?_⟩
  rw [hs,show (k:Int)+1=((k+1:Nat):Int) by omega]
  exact zoz (fun vs h=>zlm z (k+1) vs (fun r hr=>hne r (List.mem_cons_of_mem _ hr)) h) r 1 vs h2
theorem zse {p:Gpoem_Poem} {t:List UInt8} {z:List Row} (h:OkP p t z):Stp 0 p.told_lines:=zlm z 0 p.told_lines h.ne h.vok
structure PgOk (vs:List Gapi_Verse):Prop where
 ok:∀ v∈vs,OkV v
 len:vs.length≤60
 stp:Stp 0 vs
 sz:∀ v∈vs,v.Text.size≤200
end Go.Proofs.YtbempdelckaccaaDoor

namespace Go.Proofs.YtbempdelckaccaaDoor
open Go.RowKit Go.Lib
set_option linter.unusedVariables false
set_option linter.unusedSimpArgs false
def zcg (a1:Gapi_Row) (b1:Gapi_Row) (first1:Bool):Option Bool :=
zam (first1) (
zam ((b1.Line:Int)==0) (
zam ((b1.Stanza:Int)==0) (
some ((b1.Part:Int)==0)
) (
some false
)
) (
some false
)
) (
zam ((b1.Line:Int)==a1.Line) (
zam ((b1.Stanza:Int)==a1.Stanza) (
grd (I64 (a1.Part+1)) <|
some ((b1.Part:Int)==(a1.Part+1))
) (
some false
)
) (
grd (I64 (a1.Line+1)) <|
zam ((b1.Line:Int)==(a1.Line+1)) (
zam ((b1.Part:Int)==0) (
zam ((b1.Stanza:Int)==a1.Stanza) (
some true
) (
grd (I64 (a1.Stanza+1)) <|
some ((b1.Stanza:Int)==(a1.Stanza+1))
)
) (
some false
)
) (
some false
)
)
)
theorem zh5 {a1:Gapi_Row} {b1:Gapi_Row} {first1:Bool} {r:Bool} (h:zcg a1 b1 first1=some r):FnP Tryd.prog 22 [.agg (zr2 a1).toArray,.agg (zr2 b1).toArray,.bool first1] (.bool r):=by
 unfold zcg at h
 refine FnP.intro Tryd.func22 rfl Tryd.ntmps22 (by simp) ?_
 intro w0 K
 refine zyG ?_
 refine zeC rfl dc rfl (fun b2 => ?_)
 refine zeC rfl dc rfl (fun b3 => ?_)
 refine zyR 1 rfl (zyN (zaF (zaL (zyG (zyR 2 rfl (zyN ?_))))))
 refine zyB rfl h (fun h => ?_) (fun h => ?_)
 ·
  refine zyG (zac zaU rfl dc rfl (show _=0 from rfl) (zah (k:=1) za5 rfl dc rfl rfl rfl (zaQ rfl zaq (zyR 1 rfl ?_))))
  refine zyS (s:=12) rfl h (fun h => ?_) (fun h => ?_)
  ·
   refine zac zbr rfl dc rfl (show _=1 from rfl) (zah (k:=1) za5 rfl dc rfl rfl rfl (zaQ rfl zaq (zyR 2 rfl ?_)))
   refine zyS (s:=17) rfl h (fun h => ?_) (fun h => ?_)
   ·
    refine zac zbE rfl dc rfl (show _=2 from rfl) (zah (k:=1) za5 rfl dc rfl rfl rfl (zaQ rfl zaq (zyR 2 rfl (zyN (zax (zaj (zag ?_)))))))
    cases h
    exact zaC (rs:=[.tmp 6]) () (.inl rfl) Tryd.results22 (.cons (.tmp rfl) .nil) rfl Splits.nil
   refine zyR 5 rfl (zyN (zax (zaj (zag ?_))))
   cases h
   exact zaC (rs:=[.tmp 6]) () (.inl rfl) Tryd.results22 (.cons (.tmp rfl) .nil) rfl Splits.nil
  refine zyR 10 rfl (zyN (zax (zaj ?_)))
  refine zag ?_
  cases h
  exact zaC (rs:=[.tmp 6]) () (.inl rfl) Tryd.results22 (.cons (.tmp rfl) .nil) rfl Splits.nil
 refine zyG (zac zaU rfl dc rfl (show _=0 from rfl) (zah (k:=1) za5 rfl dc rfl rfl rfl (zac zaU rfl dc rfl (show _=0 from rfl) (zah (k:=0) za5 rfl dc rfl rfl rfl (zaQ rfl zaq (zyR 1 rfl (zyN ?_)))))))
 refine zyB rfl h (fun h => ?_) (fun h => ?_)
 ·
  refine zyG (zac zbr rfl dc rfl (show _=1 from rfl) (zah (k:=1) za5 rfl dc rfl rfl rfl (zac zbr rfl dc rfl (show _=1 from rfl) (zah (k:=0) za5 rfl dc rfl rfl rfl (zaQ rfl zaq (zyR 1 rfl ?_))))))
  refine zyS (s:=33) rfl h (fun h => ?_) (fun h => ?_)
  ·
   refine zac zbE rfl dc rfl (show _=2 from rfl) (zah (k:=1) za5 rfl dc rfl rfl rfl (zac zbE rfl dc rfl (show _=2 from rfl) (zah (k:=0) za5 rfl dc rfl rfl rfl ?_)))
   obtain ⟨hg1,h⟩:=zbM h
   refine zaQ rfl (zaW (r:=a1.Part+1) (IntWalk.i64_in _ hg1)) (zaQ rfl zaq (zyR 2 rfl (zyN (zax (zaj (zag ?_))))))
   cases h
   exact zaC (rs:=[.tmp 6]) () (.inl rfl) Tryd.results22 (.cons (.tmp rfl) .nil) rfl Splits.nil
  refine zyR 8 rfl (zyN (zax (zaj (zag ?_))))
  cases h
  exact zaC (rs:=[.tmp 6]) () (.inl rfl) Tryd.results22 (.cons (.tmp rfl) .nil) rfl Splits.nil
 refine zar (zal (zaH (zyG (zac zaU rfl dc rfl (show _=0 from rfl) (zah (k:=1) za5 rfl dc rfl rfl rfl (zac zaU rfl dc rfl (show _=0 from rfl) (zah (k:=0) za5 rfl dc rfl rfl rfl ?_)))))))
 obtain ⟨hg2,h⟩:=zbM h
 refine zaQ rfl (zaW (r:=a1.Line+1) (IntWalk.i64_in _ hg2)) (zaQ rfl zaq (zyR 1 rfl ?_))
 refine zyS (s:=47) rfl h (fun h => ?_) (fun h => ?_)
 ·
  refine zac zbE rfl dc rfl (show _=2 from rfl) (zah (k:=1) za5 rfl dc rfl rfl rfl (zaQ rfl zaq (zyR 2 rfl ?_)))
  refine zyS (s:=52) rfl h (fun h => ?_) (fun h => ?_)
  ·
   refine zac zbr rfl dc rfl (show _=1 from rfl) (zah (k:=1) za5 rfl dc rfl rfl rfl (zac zbr rfl dc rfl (show _=1 from rfl) (zah (k:=0) za5 rfl dc rfl rfl rfl (zaQ rfl zaq (zyR 1 rfl ?_)))))
   refine zyS (s:=58) rfl h (fun h => ?_) (fun h => ?_)
   ·
    refine zyR 9 rfl (zyN (zax ?_))
    cases h
    exact zaC (rs:=[.tmp 6]) () (.inl rfl) Tryd.results22 (.cons (.tmp rfl) .nil) rfl Splits.nil
   refine zac zbr rfl dc rfl (show _=1 from rfl) (zah (k:=1) za5 rfl dc rfl rfl rfl (zac zbr rfl dc rfl (show _=1 from rfl) (zah (k:=0) za5 rfl dc rfl rfl rfl ?_)))
   obtain ⟨hg3,h⟩:=zbM h
   refine zaQ rfl (zaW (r:=a1.Stanza+1) (IntWalk.i64_in _ hg3)) (zaQ rfl zaq (zyR 3 rfl (zyN (zax ?_))))
   cases h
   exact zaC (rs:=[.tmp 6]) () (.inl rfl) Tryd.results22 (.cons (.tmp rfl) .nil) rfl Splits.nil
  refine zyR 14 rfl ?_
  refine zyR 1 rfl (zyN (zax ?_))
  cases h
  exact zaC (rs:=[.tmp 6]) () (.inl rfl) Tryd.results22 (.cons (.tmp rfl) .nil) rfl Splits.nil
 refine zyR 14 rfl ?_
 refine zyR 6 rfl (zyN (zax ?_))
 cases h
 exact zaC (rs:=[.tmp 6]) () (.inl rfl) Tryd.results22 (.cons (.tmp rfl) .nil) rfl Splits.nil
def zbi (rows1:List Gapi_Row) (j1:(List (List ByteArray))→Option ((Option Gpoem_Poem)×Int)) (ag1:(List (List ByteArray))→Int→Int→Int→Int→Int→ByteArray→Int→Option ((Option Gpoem_Poem)×Int)) (stanzas4:List (List ByteArray)) (last13:Int) (last14:Int) (last15:Int) (last16:Int) (last17:Int) (last18:ByteArray) (x3:Int):Option ((Option Gpoem_Poem)×Int) :=
zam (decide ((x3:Int)<(rows1.length:Int))) (
zbk (fun (j2:(List (List ByteArray))→Int→Int→Int→Int→Int→ByteArray→Option ((Option Gpoem_Poem)×Int)) =>
zan (zcI rows1 x3) fun (q1:Gapi_Row) =>
zam ((q1.Line:Int)==(-1)) (
j2 stanzas4 last13 last14 last15 last16 last17 last18
) (
zbk (fun (j3:Bool→Bool→Option ((Option Gpoem_Poem)×Int)) =>
zan (zcg (⟨last13,last14,last15,last16,last17,last18⟩:Gapi_Row) q1 (((stanzas4.length:Int):Int)==0)) fun (r1:Bool) =>
zam (!r1) (
some (none,300)
) (
zam ((q1.Part:Int)==0) (
zam (decide ((q1.Indent:Int)<0)) (
some (none,300)
) (
zam (decide ((1024:Int)<q1.Indent)) (
some (none,300)
) (
zan (zbh q1.Text (⟨#[32]⟩:ByteArray)) fun (r2:Bool) =>
zam (r2) (
some (none,300)
) (
j3 true r2
)
)
)
) (
j3 false false
)
)
) (fun (x4:Bool) (x5:Bool) =>
zbk (fun (j4:(List (List ByteArray))→Option ((Option Gpoem_Poem)×Int)) =>
zam ((q1.Stanza:Int)==(stanzas4.length:Int)) (
grd (stanzas4.length+1≤2147483648) <|
j4 (stanzas4++[([]:List ByteArray)])
) (
j4 stanzas4
)
) (fun (stanzas6:List (List ByteArray)) =>
zan (zcI stanzas6 q1.Stanza) fun (x6:List ByteArray) =>
zbk (fun (j5:(List (List ByteArray))→Option ((Option Gpoem_Poem)×Int)) =>
zam ((q1.Part:Int)==0) (
grd (0≤q1.Indent∧q1.Indent≤140737488355328) <|
grd ((zb7 q1.Indent).size+q1.Text.size≤9223372036854775807) <|
grd (x6.length+1≤2147483648) <|
j5 (stanzas6.set (q1.Stanza:Int).toNat (x6++[(zb7 q1.Indent)++q1.Text]))
) (
grd (I64 ((x6.length:Int) - 1)) <|
zan (zcI x6 ((x6.length:Int) - 1)) fun (q2:ByteArray) =>
grd (q2.size+q1.Text.size≤9223372036854775807) <|
j5 (stanzas6.set ((q1.Stanza:Int).toNat) (x6.set ((x6.length:Int) - 1:Int).toNat (q2++q1.Text)))
)
) (fun (stanzas7:List (List ByteArray)) =>
j2 stanzas7 q1.Line q1.Stanza q1.Part q1.Indent q1.Number q1.Text
)
)
)
)
) (fun (stanzas5:List (List ByteArray)) (last19:Int) (last20:Int) (last21:Int) (last22:Int) (last23:Int) (last24:ByteArray) =>
grd (I64 (x3+1)) <|
ag1 stanzas5 last19 last20 last21 last22 last23 last24 (x3+1)
)
) (
j1 stanzas4
)
def zdY (title1:ByteArray) (rows1:List Gapi_Row):Option ((Option Gpoem_Poem)×Int) :=
zbk (fun (j1:(List (List ByteArray))→Option ((Option Gpoem_Poem)×Int)) =>
zaT (fun _ _ _ _ _ _ _ _=>none) (zbi rows1 j1) zb8 ([]:List (List ByteArray)) 0 0 0 0 0 ByteArray.empty 0
) (fun (stanzas1:List (List ByteArray)) =>
zan (zcW title1 stanzas1) fun (r3:((Option Gpoem_Poem)×Int)) =>
some (r3.1,r3.2)
)
theorem zkf {title1:ByteArray} {vvrows1 vrows1:Value} {orows1:Nat} {rows1:List Gapi_Row} (hwrows1:VwO vvrows1 orows1 vrows1 rows1) {r:((Option Gpoem_Poem)×Int)} (h:zdY title1 rows1=some r):FnR Tryd.prog 12 [.string title1,vrows1] [zhd enc_Gapi_Row 6 vvrows1 orows1 rows1] [] (fun v0:Value=>.tuple #[v0,zI r.2]) (fun v0=>[zhG zaJ zaI 81 v0 r.1]):=by
 unfold zdY at h
 refine FnR.intro Tryd.func12 rfl Tryd.ntmps12 (by simp) ?_
 intro w0 K hrd
 obtain ⟨j1,hj1,h⟩:=zbU h
 refine zaZ (β:=(List (List ByteArray))×Hd) 3 rfl (fun b=>j1 b.1=some r) (fun b=>[]) (fun b=>[(0,.string title1),(6,b.2.v)]) (fun b=>[zfV zau zaz 49 1 b.2.v b.1]) (fun cut => ?_) ?_
 ·
  refine zyG (zyR 2 rfl (zyH (zyR 1 rfl (zyH ?_))))
  refine zbY znI rfl dc (fun b1 => ?_)
  refine zyN (cut (zyG (zyR 1 rfl (ziw hwrows1 rfl dc rfl Tryd.underlying30 (zyR 1 rfl (zyN (zaL (znA (enc:=zau) (nest:=zaz) (e:=49) (size:=1) ?_))))))))
  refine zbK (β:=Nat×(List (List ByteArray))×Int×Int×Int×Int×Int×ByteArray×Int×Hd) (fun b=>zaT (fun _ _ _ _ _ _ _ _=>none) (zbi rows1 j1) b.1 b.2.1 b.2.2.1 b.2.2.2.1 b.2.2.2.2.1 b.2.2.2.2.2.1 b.2.2.2.2.2.2.1 b.2.2.2.2.2.2.2.1 b.2.2.2.2.2.2.2.2.1=some r) (fun b=>[]) (fun b=>[(0,.string title1),(6,b.2.2.2.2.2.2.2.2.2.v),(7,zP b1),(11,vrows1),(12,zI (rows1.length:Int)),(13,zI b.2.2.2.2.2.2.2.2.1)]) (fun b=>[zfV zau zaz 49 1 b.2.2.2.2.2.2.2.2.2.v b.2.1,cells b1 [zI b.2.2.1,zI b.2.2.2.1,zI b.2.2.2.2.1,zI b.2.2.2.2.2.1,zI b.2.2.2.2.2.2.1,.string b.2.2.2.2.2.2.2.1] 38]) (fun b=>b.1) (zb8,([]:List (List ByteArray)),0,0,0,0,0,ByteArray.empty,0,Hd.nil) h rfl (za1 rfl) (zae [1,0] kr rfl) ?_
  rintro ⟨n1,stanzas4,last13,last14,last15,last16,last17,last18,x3,hd4⟩ h
  cases n1 with
  | zero=>exact zdu h
  | succ n1 =>
   obtain ⟨ag1,hag1⟩:∃ ag,ag=zaT (fun _ _ _ _ _ _ _ _=>none) (zbi rows1 j1) n1:=⟨_,rfl⟩
   have h:zbi rows1 j1 ag1 stanzas4 last13 last14 last15 last16 last17 last18 x3=some r:=by rw [hag1]; exact h
   unfold zbi at h
   refine zyG (zaQ rfl zbV (zyN (zaF ?_)))
   refine zyB rfl h (fun h => ?_) (fun h => ?_)
   ·
    refine zar (zaH ?_)
    obtain ⟨j2,hj2,h⟩:=zbU h
    refine zaZ (β:=(List (List ByteArray))×Int×Int×Int×Int×Int×ByteArray×Hd) 0 rfl (fun b=>j2 b.1 b.2.1 b.2.2.1 b.2.2.2.1 b.2.2.2.2.1 b.2.2.2.2.2.1 b.2.2.2.2.2.2.1=some r) (fun b=>[]) (fun b=>[(0,.string title1),(6,b.2.2.2.2.2.2.2.v),(7,zP b1),(11,vrows1),(12,zI (rows1.length:Int)),(13,zI x3)]) (fun b=>[zfV zau zaz 49 1 b.2.2.2.2.2.2.2.v b.1,cells b1 [zI b.2.1,zI b.2.2.1,zI b.2.2.2.1,zI b.2.2.2.2.1,zI b.2.2.2.2.2.1,.string b.2.2.2.2.2.2.1] 38]) (fun cut => ?_) ?_
    ·
     refine cut (zaL (zyG ?_))
     obtain ⟨q1,hq1,h⟩:=zbT h
     refine zd2 hwrows1 hq1 Tryd.underlying30 zhS rfl dc rfl rfl rfl (zfT (m:=(x3:Int).toNat) (j:=0) (i:=0) (q:=q1) (cs:=(zr2 q1)) hrd rfl zlP rfl dc rfl (zaV hq1) rfl rfl rfl ?_)
     refine zbY znI rfl dc (fun b2 => ?_)
     refine za6 (k:=2) (vs:=(zr2 q1)) (l':=(zr2 q1)) zhS rfl rfl rfl rfl rfl (show _≤_ by simp) rfl rfl ?_
     refine zyN (zaF (zyG (zac zaU rfl dc rfl (show _=0 from rfl) (zah (k:=2) za5 rfl dc rfl rfl rfl (zaQ rfl zaq (zyN ?_))))))
     refine zyB rfl h (fun h => ?_) (fun h => ?_)
     ·
      refine zbc (zap (zaw ?_))
      exact zai (stanzas4,last13,last14,last15,last16,last17,last18,hd4) h rfl (za1 rfl) (zae [0,1] kr rfl)
     refine zar (zaH ?_)
     obtain ⟨j3,hj3,h⟩:=zbU h
     refine zaZ (β:=Bool×Bool) 0 rfl (fun b=>j3 b.1 b.2=some r) (fun b=>[]) (fun b=>[(0,.string title1),(6,hd4.v),(7,zP b1),(9,zP b2),(11,vrows1),(12,zI (rows1.length:Int)),(13,zI x3),(28,.pointer (some ⟨b2,2,none⟩)),(29,zI q1.Part),(30,.bool ((q1.Part:Int)==0)),(31,.bool b.1),(45,.bool b.2)]) (fun b=>[zfV zau zaz 49 1 hd4.v stanzas4,cells b1 [zI last13,zI last14,zI last15,zI last16,zI last17,.string last18] 38,cells b2 (zr2 q1) 38]) (fun cut => ?_) ?_
     ·
      refine cut (zyG (zbf (k:=1) (cs:=[zI last13,zI last14,zI last15,zI last16,zI last17,.string last18]) zlP rfl dc rfl rfl rfl rfl (zbf (k:=2) (cs:=(zr2 q1)) zlP rfl dc rfl rfl rfl rfl (zyR 1 rfl (zg7 (k:=0) rfl dc rfl rfl Tryd.underlying43 (zaQ rfl zaq ?_))))))
      obtain ⟨r1,hq2,h⟩:=zbT h
      refine zbb (v:=.bool r1) (vs:=[.agg #[zI last13,zI last14,zI last15,zI last16,zI last17,.string last18],.agg (zr2 q1).toArray,.bool (((stanzas4.length:Int):Int)==0)]) rfl dc rfl rfl rfl zrM (zh5 (a1:=(⟨last13,last14,last15,last16,last17,last18⟩:Gapi_Row)) (b1:=q1) hq2) (zdg rfl dc rfl zch (zyR 1 rfl ?_))
      refine zyS (s:=27) rfl h (fun h => ?_) (fun h => ?_)
      ·
       refine zyR 14 rfl ?_
       refine zyR 5 rfl (zyN (zbg rfl (zyG (zyR 2 rfl (zyN ?_)))))
       refine zax (zag (zaj (zag (zag (zaj (zag (zcA zaJ zaI 81 ?_)))))))
       cases h
       exact zaC (rs:=[.tmp 4,.tmp 5]) (.pointer none) (.inl rfl) Tryd.results12 (.cons (.tmp rfl) (.cons (.tmp rfl) .nil)) rfl (zae [3] kr rfl)
      refine zac zbE rfl dc rfl (show _=2 from rfl) (zah (k:=2) za5 rfl dc rfl rfl rfl (zaQ rfl zaq (zyR 1 rfl ?_)))
      refine zyS (s:=31) rfl h (fun h => ?_) (fun h => ?_)
      ·
       refine zac ze6 rfl dc rfl (show _=3 from rfl) (zah (k:=2) za5 rfl dc rfl rfl rfl (zaQ rfl zbV (zyR 1 rfl ?_)))
       refine zyS (s:=35) rfl h (fun h => ?_) (fun h => ?_)
       ·
        refine zyR 11 rfl (zyN (zbg rfl ?_))
        refine zyG (zyR 2 rfl (zyN (zax (zag (zaj (zag (zag (zaj (zag (zcA zaJ zaI 81 ?_))))))))))
        cases h
        exact zaC (rs:=[.tmp 4,.tmp 5]) (.pointer none) (.inl rfl) Tryd.results12 (.cons (.tmp rfl) (.cons (.tmp rfl) .nil)) rfl (zae [3] kr rfl)
       refine zac ze6 rfl dc rfl (show _=3 from rfl) (zah (k:=2) za5 rfl dc rfl rfl rfl (zaQ rfl zcQ (zyR 2 rfl ?_)))
       refine zyS (s:=40) rfl h (fun h => ?_) (fun h => ?_)
       ·
        refine zyR 6 rfl (zyN (zbg rfl (zyG (zyR 2 rfl (zaK ?_)))))
        refine zaH (zax (zag (zaj (zag (zag (zaj (zag (zcA zaJ zaI 81 ?_))))))))
        cases h
        exact zaC (rs:=[.tmp 4,.tmp 5]) (.pointer none) (.inl rfl) Tryd.results12 (.cons (.tmp rfl) (.cons (.tmp rfl) .nil)) rfl (zae [3] kr rfl)
       refine zac zft rfl dc rfl (show _=5 from rfl) (zah (k:=2) zht rfl dc rfl rfl rfl ?_)
       obtain ⟨r2,hq3,h⟩:=zbT h
       refine zbb (v:=.bool r2) (vs:=[.string q1.Text,.string (⟨#[32]⟩:ByteArray)]) rfl dc rfl rfl rfl zql (zei hq3) (zyR 3 rfl (zyN ?_))
       refine zyB rfl h (fun h => ?_) (fun h => ?_)
       ·
        refine zyG (zyR 2 rfl (zyN (zax (zag (zaj (zag (zag (zaj (zag (zcA zaJ zaI 81 ?_))))))))))
        cases h
        exact zaC (rs:=[.tmp 4,.tmp 5]) (.pointer none) (.inl rfl) Tryd.results12 (.cons (.tmp rfl) (.cons (.tmp rfl) .nil)) rfl (zae [3] kr rfl)
       refine zar ?_
       exact zai (true,r2) h rfl (za1 rfl) (zae [0,1,2] kr rfl)
      refine zyR 14 rfl ?_
      refine zyR 1 rfl (zyN (zaP rfl (zar ?_)))
      exact zai (false,false) h rfl (za1 rfl) (zae [0,1,2] kr rfl)
     rintro ⟨x4,x5⟩ h
     rw [hj3] at h
     obtain ⟨j4,hj4,h⟩:=zbU h
     refine zaZ (β:=(List (List ByteArray))×Hd) 0 rfl (fun b=>j4 b.1=some r) (fun b=>[]) (fun b=>[(0,.string title1),(6,b.2.v),(7,zP b1),(9,zP b2),(11,vrows1),(12,zI (rows1.length:Int)),(13,zI x3),(28,.pointer (some ⟨b2,2,none⟩)),(29,zI q1.Part),(30,.bool ((q1.Part:Int)==0)),(31,.bool x4),(45,.bool x5)]) (fun b=>[zfV zau zaz 49 1 b.2.v b.1,cells b1 [zI last13,zI last14,zI last15,zI last16,zI last17,.string last18] 38,cells b2 (zr2 q1) 38]) (fun cut => ?_) ?_
     ·
      refine cut (zyG (zac zbr rfl dc rfl (show _=1 from rfl) (zah (k:=2) za5 rfl dc rfl rfl rfl (zyR 1 rfl (zg7 (k:=0) rfl dc rfl rfl Tryd.underlying43 (zaQ rfl zaq (zyN ?_)))))))
      refine zyB rfl h (fun h => ?_) (fun h => ?_)
      ·
       refine zaG (zyR 1 rfl ?_)
       refine zbn (cs:=[.slice none 0 0]) (te:=49) (ps:=[(0,.const (.slice none 0 0))]) rfl dc rfl (fun _=>by kernel_rfl) (fun b3 => ?_)
       refine zkI (enc:=zhx) (e:=9) (size:=1) ?_
       refine zeX (k:=0) rfl zlX (fun zs1 hz1 => ?_)
       obtain ⟨hg1,h⟩:=zbM h
       refine zbH (k:=0) (k2:=3) (ys:=[(([]:List ByteArray),Hd.nil)]) Tryd.underlying43 zqr za4 zeW rfl dc rfl rfl rfl rfl rfl rfl (by rw [zqX hz1]; exact hg1) (fun v1 => ?_)
       refine zcn (k:=0) rfl (fun hd7 he1 => ?_)
       subst he1
       refine zfJ (k:=5) rfl (zae [4] kr rfl) rfl (zoE (nest:=zaz) (zs:=zs1) (z:=(([]:List ByteArray),Hd.nil))) ?_
       refine zfJ (k:=0) rfl (zae [5] kr rfl) rfl (zi2 (enc:=zau) (nest:=zaz) (zsg hz1)) ?_
       refine zc5 (L':=[zfV zau zaz 49 1 hd7.v (stanzas4++[([]:List ByteArray)]),cells b1 [zI last13,zI last14,zI last15,zI last16,zI last17,.string last18] 38,cells b2 (zr2 q1) 38,cells b3 [.slice none 0 0] 49]) (zae [0,1,2,3] kr rfl) (zyR 1 rfl (zaK ?_))
       exact zai (stanzas4++[([]:List ByteArray)],hd7) h rfl (za1 rfl) (zae [0,1,2] kr rfl)
      refine zar ?_
      exact zai (stanzas4,hd4) h rfl (za1 rfl) (zae [0,1,2] kr rfl)
     rintro ⟨stanzas6,hd6⟩ h
     rw [hj4] at h
     refine zyG (zyR 1 rfl (zac zbr rfl dc rfl (show _=1 from rfl) (zah (k:=2) za5 rfl dc rfl rfl rfl ?_)))
     refine zeX (k:=0) rfl zlX (fun zs2 hz2 => ?_)
     obtain ⟨x6,hq4,h⟩:=zbT h
     obtain ⟨eh1,eq1⟩:=zhh hz2 hq4
     refine zaX (k:=0) eq1 Tryd.underlying43 zhr rfl dc rfl rfl rfl rfl (zyR 1 rfl (zyN ?_))
     obtain ⟨j5,hj5,h⟩:=zbU h
     refine zaZ (β:=(List (List ByteArray))) 0 rfl (fun b=>j5 b=some r) (fun b=>[]) (fun b=>[(0,.string title1),(6,hd6.v),(7,zP b1),(9,zP b2),(11,vrows1),(12,zI (rows1.length:Int)),(13,zI x3),(28,.pointer (some ⟨b2,2,none⟩)),(29,zI q1.Part),(30,.bool ((q1.Part:Int)==0)),(31,.bool x4),(45,.bool x5)]) (fun b=>[zfV zau zaz 49 1 hd6.v b,cells b1 [zI last13,zI last14,zI last15,zI last16,zI last17,.string last18] 38,cells b2 (zr2 q1) 38]) (fun cut => ?_) ?_
     ·
      refine cut (zyG (zac zbE rfl dc rfl (show _=2 from rfl) (zah (k:=2) za5 rfl dc rfl rfl rfl (zaQ rfl zaq (zyN ?_)))))
      refine zyB rfl h (fun h => ?_) (fun h => ?_)
      ·
       obtain ⟨hg2,h⟩:=zbM h
       obtain ⟨hg3,h⟩:=zbM h
       obtain ⟨hg4,h⟩:=zbM h
       refine zeY (k:=3) rfl (zmM (zaV eq1)) (fun _ _ => ?_)
       refine zfU 1 ?_
       refine let vals1:(Nat×Hd)→List (Nat×Nat×Value):=fun b=>[(0,62,.pointer (some ⟨zc7 hd6.v,(q1.Stanza:Int).toNat*1,none⟩)),(1,63,.pointer (some ⟨zc7 hd6.v,(q1.Stanza:Int).toNat*1,none⟩)),(2,64,.pointer (some ⟨zc7 hd6.v,(q1.Stanza:Int).toNat*1,none⟩)),(3,65,eh1.v),(4,66,.pointer (some ⟨b2,3,none⟩)),(5,67,zI q1.Indent),(6,68,.string (zb7 q1.Indent)),(7,69,.pointer (some ⟨b2,5,none⟩)),(8,70,.string q1.Text),(9,71,.string ((zb7 q1.Indent)++q1.Text)),(10,72,.slice (some ⟨b.1,0,none⟩) 1 1),(11,73,b.2.v)]; let LL1:(Nat→Prop)→(Nat×Hd)→List Asn:=fun D b=>[zv8 hd6.v zs2,cells b1 [zI last13,zI last14,zI last15,zI last16,zI last17,.string last18] 38,cells b2 (zr2 q1) 38,own zaz (zs2.eraseIdx ((q1.Stanza:Int).toNat)),eD D (zv4 eh1.v x6) [(11,zv4 b.2.v (x6++[(zb7 q1.Indent)++q1.Text]))],eD D emp [(10,cells b.1 [.string ((zb7 q1.Indent)++q1.Text)] 9)]]; ?_
       have zhq:zyQ [10,11] LL1:=fun i h D b=>zaf rfl (zaf rfl (zaf rfl (zaf rfl (zaf (zmd rfl h) (zaf (zmd rfl h) rfl)))))
       refine zdS (β:=Nat×Hd) 12 ((0:Nat),Hd.nil) vals1 LL1 mixed kr kr dc (fun _=>rfl) (zdr (zaf zcz (zaf zcz rfl))) (znC zhq (fun _=>rfl) (fun _=>rfl) 2 0 (fun _=>rfl) rfl (zyq zhq rfl (fun _=>rfl) (fun _=>rfl) ?_ (zho zhq rfl (fun _=>rfl) (fun _=>rfl) ?_ (zyq zhq rfl (fun _=>rfl) (fun _=>rfl) ?_ (zho zhq rfl (fun _=>rfl) (fun _=>rfl) ?_ (zho zhq rfl (fun _=>rfl) (fun _=>rfl) ?_ (zyq zhq rfl (fun _=>rfl) (fun _=>rfl) ?_ (zho zhq rfl (fun _=>rfl) (fun _=>rfl) ?_ (zyq zhq rfl (fun _=>rfl) (fun _=>rfl) ?_ (zay ?_ (zay ?_ DrawG.nil))))))))))) ?_
       · exact fun D ⟨b4,hd8⟩ n d c u i=>zat rfl dc (zab (m:=1) u rfl (d 1 dc)) (zad 2 u i rfl)
       · exact fun D ⟨b4,hd8⟩ n d c u i=>⟨_,(zdr (zaf (zao (fun hD=>n (c 11 _ rfl hD 3 dc)) zas) rfl)),zbA (i:=(q1.Stanza:Int).toNat) (j:=0) (k:=0) (q:=(x6,eh1)) zhV za4 rfl dc (zab (m:=2) u rfl (d 2 dc)) rfl (zaV eq1) rfl dc rfl (zad 3 u i rfl)⟩
       · exact fun D ⟨b4,hd8⟩ n d c u i=>zac ze6 rfl dc (zaD (by rfl) rfl) (show _=3 from rfl) (zad 4 u i rfl)
       · exact fun D ⟨b4,hd8⟩ n d c u i=>⟨_,(zdr (zaf (zao (fun hD=>n (c 6 _ rfl (c 11 _ rfl hD 6 dc) 5 dc)) zas) (zaf (zao (fun hD=>n (c 6 _ rfl (c 9 _ rfl (c 10 _ rfl hD 9 dc) 6 dc) 5 dc)) zas) rfl))),zah (k:=2) za5 rfl dc (zab (m:=4) u rfl (d 4 dc)) rfl rfl (zad 5 u i rfl)⟩
       · exact fun D ⟨b4,hd8⟩ n d c u i=>⟨_,(zdr (zaf (zao (fun hD=>n (c 11 _ rfl hD 6 dc)) zas) (zaf (zao (fun hD=>n (c 9 _ rfl (c 10 _ rfl hD 9 dc) 6 dc)) zas) rfl))),zbb (v:=.string (zb7 q1.Indent)) (vs:=[.string (⟨#[32]⟩:ByteArray),zI q1.Indent]) rfl dc rfl (evL.cons rfl (evL.cons (zab (m:=5) u rfl (d 5 dc)) evL.nil)) rfl zrL (znN q1.Indent hg2) (zad 6 u i rfl)⟩
       · exact fun D ⟨b4,hd8⟩ n d c u i=>zac zft rfl dc (zaD (by rfl) rfl) (show _=5 from rfl) (zad 7 u i rfl)
       · exact fun D ⟨b4,hd8⟩ n d c u i=>⟨_,(zdr (zaf (zao (fun hD=>n (c 9 _ rfl (c 10 _ rfl (c 11 _ rfl hD 10 dc) 9 dc) 8 dc)) zas) (zaf (zao (fun hD=>n (c 9 _ rfl (c 10 _ rfl hD 9 dc) 8 dc)) zas) rfl))),zah (k:=2) zht rfl dc (zab (m:=7) u rfl (d 7 dc)) rfl rfl (zad 8 u i rfl)⟩
       · exact fun D ⟨b4,hd8⟩ n d c u i=>zaM rfl dc (zab (m:=6) u rfl (d 6 dc)) (zab (m:=8) u rfl (d 8 dc)) (zer hg3) (zad 9 u i rfl)
       ·
        intro D b hn hd hcl
        obtain ⟨zb0,hd8⟩:=b
        refine zaO (zdr (zaf (zao (fun hD=>hn (hcl 11 _ rfl hD 10 dc)) zas) (zaf (zao hn zas) rfl))) ?_
        refine zbn (cs:=[.string ((zb7 q1.Indent)++q1.Text)]) (te:=9) (ps:=[(0,.tmp 71)]) rfl dc (evP.cons (zab (m:=9) rfl rfl (hd 9 dc)) evP.nil) (fun _=>by kernel_rfl) (fun b4 => ?_)
        refine zd6 5 rfl rfl ?_
        exact za0 (b:=(zb0,hd8)) (b4,hd8) 10 (by rfl) (by rfl) rfl (zqU (zak (fun hD=>absurd hD hn) (zak (fun _=>rfl) rfl))) (zdr (zaf ((zaB (by rfl)).trans (zao (fun hD=>hn (hcl 11 _ rfl hD 10 dc)) zas)) (zaf (zba (Or.inr rfl) rfl) rfl)))
       ·
        intro D b hn hd hcl
        obtain ⟨b4,zb1⟩:=b
        refine zaO (zdr (zaf (zao hn zas) (zaf (zba (hd 10 dc) rfl) rfl))) ?_
        refine zbH (k:=4) (k2:=5) (ys:=[(zb7 q1.Indent)++q1.Text]) Tryd.underlying49 zrS zeo zjC rfl dc (zab (m:=3) rfl rfl (hd 3 dc)) (zab (m:=10) rfl rfl (hd 10 dc)) rfl rfl rfl rfl hg4 (fun v2 => ?_)
        refine zcn (k:=4) rfl (fun hd8 he2 => ?_)
        subst he2
        exact za0 (b:=(b4,zb1)) (b4,hd8) 11 (by rfl) (by rfl) rfl (zqT (zak (fun hD=>absurd hD hn) rfl)) (zdr (zaf (zba (Or.inr rfl) rfl) (zaf ((zaB (by rfl)).trans (zba (hd 10 dc) rfl)) rfl)))
       intro D b hall
       obtain ⟨b4,hd8⟩:=b
       refine zaO (zdr (zaf (zba (hall 11 dc) rfl) (zaf (zba (hall 10 dc) rfl) rfl))) (zat rfl dc rfl ?_)
       refine zdw (i:=(q1.Stanza:Int).toNat) (j:=0) (k:=0) (q:=(x6,eh1)) (q':=(x6++[(zb7 q1.Indent)++q1.Text],hd8)) zhr za4 rfl rfl rfl rfl (zaV eq1) rfl dc rfl (fun _ _=>rfl) ?_
       refine zfJ (k:=3) rfl (zae [4] kr rfl) rfl (zmL (nest:=zaz) (zs:=zs2) (z:=(x6++[(zb7 q1.Indent)++q1.Text],hd8)) (zjk (zaV eq1)) zgi) ?_
       refine zaK (zfI (k:=0) rfl (zae [3] kr rfl) rfl (zi2 (enc:=zau) (nest:=zaz) (zqH hz2)) ?_)
       exact zai (stanzas6.set (q1.Stanza:Int).toNat (x6++[(zb7 q1.Indent)++q1.Text])) h rfl (za1 rfl) (zae [0,1,2] kr rfl)
      obtain ⟨hg5,h⟩:=zbM h
      obtain ⟨q2,hq5,h⟩:=zbT h
      obtain ⟨hg6,h⟩:=zbM h
      refine zeY (k:=3) rfl (zmM (zaV eq1)) (fun _ _ => ?_)
      refine zaN 12 [(0,75,.pointer (some ⟨zc7 hd6.v,(q1.Stanza:Int).toNat*1,none⟩)),(1,76,.pointer (some ⟨zc7 hd6.v,(q1.Stanza:Int).toNat*1,none⟩)),(2,77,eh1.v),(3,78,.pointer (some ⟨zc7 hd6.v,(q1.Stanza:Int).toNat*1,none⟩)),(4,79,.pointer (some ⟨zc7 hd6.v,(q1.Stanza:Int).toNat*1,none⟩)),(5,80,eh1.v),(6,81,zI (x6.length:Int)),(7,82,zI ((x6.length:Int) - 1)),(8,83,.pointer (some ⟨zc7 eh1.v,((x6.length:Int) - 1:Int).toNat*1,none⟩)),(9,84,.string q2),(10,85,.pointer (some ⟨b2,5,none⟩)),(11,86,.string q1.Text)] mixed kr kr dc (by rfl) kr kr (zyP 1 0 rfl (zaa ?_ (zaa ?_ (zyP 1 3 rfl (zaa ?_ (zaa ?_ (zaa ?_ (zaa ?_ (zaa ?_ (zaa ?_ (zaa ?_ (zaa ?_ DrawPre.nil)))))))))))) ?_
      · exact fun D n d c u i=>zat rfl dc (zab (m:=0) u rfl (d 0 dc)) (zad 1 u i rfl)
      · exact fun D n d c u i=>zbA (i:=(q1.Stanza:Int).toNat) (j:=0) (k:=0) (q:=(x6,eh1)) zhV za4 rfl dc (zab (m:=1) u rfl (d 1 dc)) rfl (zaV eq1) rfl dc rfl (zad 2 u i rfl)
      · exact fun D n d c u i=>zat rfl dc (zab (m:=3) u rfl (d 3 dc)) (zad 4 u i rfl)
      · exact fun D n d c u i=>zbA (i:=(q1.Stanza:Int).toNat) (j:=0) (k:=0) (q:=(x6,eh1)) zhV za4 rfl dc (zab (m:=4) u rfl (d 4 dc)) rfl (zaV eq1) rfl dc rfl (zad 5 u i rfl)
      · exact fun D n d c u i=>zdj (k:=4) rfl dc (zab (m:=5) u rfl (d 5 dc)) rfl Tryd.underlying49 (zad 6 u i rfl)
      · exact fun D n d c u i=>zaM rfl dc (zab (m:=6) u rfl (d 6 dc)) rfl (zcc (r:=(x6.length:Int) - 1) (IntWalk.i64_in _ hg5)) (zad 7 u i rfl)
      · exact fun D n d c u i=>zaX (k:=4) hq5 Tryd.underlying49 zmt rfl dc (zab (m:=2) u rfl (d 2 dc)) (zab (m:=7) u rfl (d 7 dc)) rfl rfl (zad 8 u i rfl)
      · exact fun D n d c u i=>zbA (i:=((x6.length:Int) - 1:Int).toNat) (j:=0) (k:=4) (q:=q2) zht zeo rfl dc (zab (m:=8) u rfl (d 8 dc)) rfl (zaV hq5) rfl dc rfl (zad 9 u i rfl)
      · exact fun D n d c u i=>zac zft rfl dc (zaD (by rfl) rfl) (show _=5 from rfl) (zad 10 u i rfl)
      · exact fun D n d c u i=>zah (k:=2) zht rfl dc (zab (m:=10) u rfl (d 10 dc)) rfl rfl (zad 11 u i rfl)
      refine zaQ rfl (zer hg6) (zaX (k:=4) hq5 Tryd.underlying49 zmt rfl dc rfl rfl rfl rfl ?_)
      refine zdw (i:=((x6.length:Int) - 1:Int).toNat) (j:=0) (k:=4) (q:=q2) (q':=q2++q1.Text) zmt zeo rfl rfl rfl rfl (zaV hq5) rfl dc rfl (fun _ _=>rfl) ?_
      refine zaK (zoQ (k:=0) rfl (zlg (zmk (zaV eq1)).symm (q1:=(x6,eh1)) (q2:=(x6.set ((x6.length:Int) - 1:Int).toNat (q2++q1.Text),eh1)) za4 rfl) (zfI (k:=3) rfl (zae [4] kr rfl) rfl (zmL (nest:=zaz) (zs:=zs2) (z:=(x6.set ((x6.length:Int) - 1:Int).toNat (q2++q1.Text),eh1)) (zjk (zaV eq1)) zgi) ?_))
      refine zfI (k:=0) rfl (zae [3] kr rfl) rfl (zi2 (enc:=zau) (nest:=zaz) (zqH hz2)) ?_
      exact zai (stanzas6.set ((q1.Stanza:Int).toNat) (x6.set ((x6.length:Int) - 1:Int).toNat (q2++q1.Text))) h rfl (za1 rfl) (zae [0,1,2] kr rfl)
     rintro stanzas7 h
     rw [hj5] at h
     refine zaG (zbf (k:=2) (cs:=(zr2 q1)) zlP rfl dc rfl rfl rfl rfl (za6 (k:=1) (vs:=(zr2 q1)) (l':=(zr2 q1)) zhS rfl rfl rfl rfl rfl (show _≤_ by simp) rfl rfl (zaK (zal ?_))))
     exact zai (stanzas7,q1.Line,q1.Stanza,q1.Part,q1.Indent,q1.Number,q1.Text,hd6) h rfl (za1 rfl) (zae [0,1] kr rfl)
    rintro ⟨stanzas5,last19,last20,last21,last22,last23,last24,hd5⟩ h
    rw [hj2] at h
    refine zaG ?_
    obtain ⟨hg7,h⟩:=zbM h
    refine zaQ rfl (zaW (r:=x3+1) (IntWalk.i64_in _ hg7)) (zyR 1 rfl (zaK ?_))
    subst hag1
    exact za8 (n1,stanzas5,last19,last20,last21,last22,last23,last24,x3+1,hd5) h (Nat.lt_succ_self _) rfl (za1 rfl) (zae [0,1] kr rfl)
   refine zbc (zap (zap (zaw ?_)))
   exact zai (stanzas4,hd4) h rfl (za1 rfl) (zae [0] kr rfl)
 rintro ⟨stanzas1,hd1⟩ h
 rw [hj1] at h
 refine zyG (zyR 2 rfl ?_)
 obtain ⟨r3,hq6,h⟩:=zbT h
 refine zfK (vs:=[.string title1,hd1.v]) hrd rfl dc rfl rfl rfl zqm (zi9 (nest:=zaz) (e:=49) (v:=hd1.v) (xs:=stanzas1) (RD1:=[]) (RD2:=[]) za4 zfP (fun zs_c0 hz_c0 hV_c0=>(zhf (vstanzas1:=hd1) hV_c0 hz_c0 hq6))) Splits.nil (.own (zae [0] (by kernel_rfl) rfl) (fun _ _ h=>sepL.one1.1 h) .nil) ?_
 rintro v3
 refine zc5 (L':=[zfV zau zaz 49 1 hd1.v stanzas1,zhG zaJ zaI 81 v3 r3.1]) (zae [0,1] kr rfl) (zaE rfl dc rfl rfl (zaE rfl dc rfl rfl (zyR 2 rfl (zyN (zax ?_)))))
 cases h
 exact zaC (rs:=[.tmp 4,.tmp 5]) v3 (.inl rfl) Tryd.results12 (.cons (.tmp rfl) (.cons (.tmp rfl) .nil)) rfl (zae [1] kr rfl)
end Go.Proofs.YtbempdelckaccaaDoor
