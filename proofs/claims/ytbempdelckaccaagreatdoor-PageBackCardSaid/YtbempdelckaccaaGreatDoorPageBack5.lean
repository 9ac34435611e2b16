/-
  Texts laid together: LqH, PqF, PqG, PqH, PqI, LgC, LgA, PgB, PgC, PgD, LgB, LgD, PgE, PqJ, PqK, PgM. Nothing is assumed.
-/
import Derived.Test.YtbempdelckaccaaGreatDoorPageBack4
import Derived.Test.YtbempdelckaccaaGreatDoorPageBack2
import Derived.Test.YtbempdelckaccaaGreatDoorPageBack3
set_option maxRecDepth 100000
set_option maxHeartbeats 4000000

namespace Go.Proofs.YtbempdelckaccaaGreatDoor
open Go.RowKit Go.Lib
set_option linter.unusedVariables false
set_option linter.unusedSimpArgs false
def zc0 (j3:ByteArray→Option ByteArray) (x5:List ByteArray) (ag2:ByteArray→Int→Option ByteArray) (b12:ByteArray) (x8:Int):Option ByteArray :=
zax (decide ((x8:Int)<(x5.length:Int))) (
zak (zcN x5 x8) fun (q2:ByteArray) =>
grd (q2.size+(⟨#[10]⟩:ByteArray).size≤9223372036854775807) <|
grd (b12.size+(q2++(⟨#[10]⟩:ByteArray)).size≤140737488355328) <|
grd (I64 (x8+1)) <|
ag2 (b12++(q2++(⟨#[10]⟩:ByteArray))) (x8+1)
) (
j3 b12
)
def zch (stanzas1:List (List ByteArray)) (j2:ByteArray→Option ByteArray) (ag1:ByteArray→Int→Option ByteArray) (b7:ByteArray) (x4:Int):Option ByteArray :=
zax (decide ((x4:Int)<(stanzas1.length:Int))) (
zbr (fun (j3:ByteArray→Option ByteArray) =>
zak (zcN stanzas1 x4) fun (x5:List ByteArray) =>
zbr (fun (j4:ByteArray→Option ByteArray) =>
zax (decide ((0:Int)<(b7.size:Int))) (
grd (b7.size+(⟨#[10]⟩:ByteArray).size≤140737488355328) <|
j4 (b7++(⟨#[10]⟩:ByteArray))
) (
j4 b7
)
) (fun (b9:ByteArray) =>
zaM (fun _ _=>none) (zc0 j3 x5) zb4 b9 0
)
) (fun (b8:ByteArray) =>
grd (I64 (x4+1)) <|
ag1 b8 (x4+1)
)
) (
j2 b7
)
def zda (title1:ByteArray) (stanzas1:List (List ByteArray)):Option ByteArray :=
zbr (fun (j1:ByteArray→Option ByteArray) =>
zax (!decide (title1=(⟨#[]⟩:ByteArray))) (
grd ((⟨#[35,32]⟩:ByteArray).size+title1.size≤9223372036854775807) <|
grd (((⟨#[35,32]⟩:ByteArray)++title1).size+(⟨#[10]⟩:ByteArray).size≤9223372036854775807) <|
grd ((⟨#[]⟩:ByteArray).size+(((⟨#[35,32]⟩:ByteArray)++title1)++(⟨#[10]⟩:ByteArray)).size≤140737488355328) <|
j1 ((⟨#[]⟩:ByteArray)++(((⟨#[35,32]⟩:ByteArray)++title1)++(⟨#[10]⟩:ByteArray)))
) (
zax (decide ((0:Int)<(stanzas1.length:Int))) (
zak (zcN stanzas1 0) fun (x1:List ByteArray) =>
zak (zcN x1 0) fun (q1:ByteArray) =>
zak (zen q1) fun (r1:Bool) =>
zax (r1) (
grd ((⟨#[35,32]⟩:ByteArray).size+title1.size≤9223372036854775807) <|
grd (((⟨#[35,32]⟩:ByteArray)++title1).size+(⟨#[10]⟩:ByteArray).size≤9223372036854775807) <|
grd ((⟨#[]⟩:ByteArray).size+(((⟨#[35,32]⟩:ByteArray)++title1)++(⟨#[10]⟩:ByteArray)).size≤140737488355328) <|
j1 ((⟨#[]⟩:ByteArray)++(((⟨#[35,32]⟩:ByteArray)++title1)++(⟨#[10]⟩:ByteArray)))
) (
j1 (⟨#[]⟩:ByteArray)
)
) (
j1 (⟨#[]⟩:ByteArray)
)
)
) (fun (b2:ByteArray) =>
zbr (fun (j2:ByteArray→Option ByteArray) =>
zaM (fun _ _=>none) (zch stanzas1 j2) zb4 b2 0
) (fun (b4:ByteArray) =>
some b4
)
)
theorem zgX {title1:ByteArray} {vvstanzas1:Value} {vstanzas1:Hd} {Zstanzas1:List ((List ByteArray)×Hd)} {kstanzas1:Nat} {zstanzas1:List ((List ByteArray)×Hd)} {stanzas1:List (List ByteArray)} (hwstanzas1:Vw vvstanzas1 Zstanzas1 1 kstanzas1 vstanzas1.v zstanzas1) (hzstanzas1:zstanzas1.map Prod.fst=stanzas1) {r:ByteArray} (h:zda title1 stanzas1=some r):FnR Tryz.prog 56 [.string title1,vstanzas1.v] [zfe zaD 1 vvstanzas1 kstanzas1 Zstanzas1,zgI zb7 Zstanzas1] [] (fun _:Unit=>(.string r)) (fun _=>[]):=by
 unfold zda at h
 refine FnR.intro Tryz.func56 rfl Tryz.ntmps56 (by simp) ?_
 intro w0 K hrd
 obtain ⟨j1,hj1,h⟩:=zbO h
 refine zaY (β:=ByteArray×Nat) 2 rfl (fun b=>j1 b.1=some r) (fun b=>[]) (fun b=>[(1,vstanzas1.v),(5,zP b.2)]) (fun b=>[zpN b.2 b.1]) (fun cut => ?_) ?_
 ·
  refine zyG (zyR 1 rfl (zyH ?_))
  refine zbg zur rfl dc (fun b3 => ?_)
  refine zvw (k:=0) rfl zpK ?_
  refine zyN (cut (zyG (zyR 1 rfl (zaW rfl ziz (zyR 1 rfl ?_)))))
  refine zyS (s:=12) rfl h (fun h => ?_) (fun h => ?_)
  ·
   refine zyR 12 rfl (zyN ?_)
   refine zbd rfl (zaB (zyR 1 rfl ?_))
   obtain ⟨hg1,h⟩:=zbw h
   refine zaW rfl (zf3 hg1) ?_
   obtain ⟨hg2,h⟩:=zbw h
   refine zaW rfl (zf3 hg2) ?_
   obtain ⟨hg3,h⟩:=zbw h
   refine zdI (vs:=[zP b3,.string (((⟨#[35,32]⟩:ByteArray)++title1)++(⟨#[10]⟩:ByteArray))]) rfl dc rfl rfl rfl zsp (zlQ b3 (⟨#[]⟩:ByteArray) (((⟨#[35,32]⟩:ByteArray)++title1)++(⟨#[10]⟩:ByteArray)) hg3) (zad [0] kr rfl) ?_
   rintro u1
   refine zaX ?_
   exact zaq ((⟨#[]⟩:ByteArray)++(((⟨#[35,32]⟩:ByteArray)++title1)++(⟨#[10]⟩:ByteArray)),b3) h rfl (zba rfl) (zad [1] kr rfl)
  refine zyR 1 rfl (zhc hzstanzas1 hwstanzas1 rfl dc rfl Tryz.underlying112 (zaW rfl zcR (zyR 1 rfl ?_)))
  refine zyS (s:=16) rfl h (fun h => ?_) (fun h => ?_)
  ·
   refine zyR 1 rfl ?_
   obtain ⟨x1,hq1,h⟩:=zbx h
   obtain ⟨eh1,eq1⟩:=zic hzstanzas1 hq1
   have hrd:Rd _ _ [zfe zaD 1 vvstanzas1 kstanzas1 Zstanzas1,zgI zb7 Zstanzas1,zoF zjl 1 eh1 x1]:=hrd.openEl (i:=1) (z:=(x1,eh1)) rfl (Vw.get hwstanzas1 eq1)
   obtain ⟨vv1,k1,L1,hV1,hrd⟩:=hrd.openSl (i:=2) rfl
   replace hrd:Rd _ _ [zfe zaD 1 vvstanzas1 kstanzas1 Zstanzas1,zgI zb7 Zstanzas1,zoF zjl 1 eh1 x1,zfe zjl 1 vv1 k1 L1]:=hrd
   refine zbj hwstanzas1 eq1 Tryz.underlying112 zhV rfl dc rfl rfl rfl (zdU (n:=kstanzas1+(0:Int).toNat) (j:=0) (i:=0) (q:=(x1,eh1)) hrd rfl (by omega) zjX rfl dc rfl (Vw.get hwstanzas1 eq1) rfl rfl ?_)
   obtain ⟨q1,hq2,h⟩:=zbx h
   refine zbj hV1 hq2 Tryz.underlying70 zrz rfl dc rfl rfl rfl (zdU (n:=k1+(0:Int).toNat) (j:=0) (i:=3) (q:=q1) hrd rfl (by omega) zjc rfl dc rfl (Vw.get hV1 hq2) rfl rfl ?_)
   obtain ⟨r1,hq3,h⟩:=zbx h
   refine zbc (v:=.bool r1) (vs:=[.string q1]) rfl dc rfl rfl rfl zvb (zhv hq3) (zyR 2 rfl (zyN ?_))
   refine zyB rfl h (fun h => ?_) (fun h => ?_)
   ·
    refine zaB (zyR 1 rfl ?_)
    obtain ⟨hg4,h⟩:=zbw h
    refine zaW rfl (zf3 hg4) ?_
    obtain ⟨hg5,h⟩:=zbw h
    refine zaW rfl (zf3 hg5) ?_
    obtain ⟨hg6,h⟩:=zbw h
    refine zdI (vs:=[zP b3,.string (((⟨#[35,32]⟩:ByteArray)++title1)++(⟨#[10]⟩:ByteArray))]) rfl dc rfl rfl rfl zsp (zlQ b3 (⟨#[]⟩:ByteArray) (((⟨#[35,32]⟩:ByteArray)++title1)++(⟨#[10]⟩:ByteArray)) hg6) (zad [0] kr rfl) ?_
    rintro u2
    refine zaX ?_
    exact zaq ((⟨#[]⟩:ByteArray)++(((⟨#[35,32]⟩:ByteArray)++title1)++(⟨#[10]⟩:ByteArray)),b3) h rfl (zba rfl) (zad [1] kr rfl)
   refine zau ?_
   exact zaq ((⟨#[]⟩:ByteArray),b3) h rfl (zba rfl) (zad [0] kr rfl)
  refine zyR 8 rfl (zyN (zaT rfl (zau ?_)))
  exact zaq ((⟨#[]⟩:ByteArray),b3) h rfl (zba rfl) (zad [0] kr rfl)
 rintro ⟨b2,b1⟩ h
 rw [hj1] at h
 obtain ⟨j2,hj2,h⟩:=zbO h
 refine zaY (β:=ByteArray) 0 rfl (fun b=>j2 b=some r) (fun b=>[]) (fun b=>[(5,zP b1)]) (fun b=>[zpN b1 b]) (fun cut => ?_) ?_
 ·
  refine cut (zyG (zyR 1 rfl (zhc hzstanzas1 hwstanzas1 rfl dc rfl Tryz.underlying112 (zyR 1 rfl (zyN (zaG ?_))))))
  refine zbt (β:=Nat×ByteArray×Int) (fun b=>zaM (fun _ _=>none) (zch stanzas1 j2) b.1 b.2.1 b.2.2=some r) (fun b=>[]) (fun b=>[(5,zP b1),(29,vstanzas1.v),(30,zI (stanzas1.length:Int)),(31,zI b.2.2)]) (fun b=>[zpN b1 b.2.1]) (fun b=>b.1) (zb4,b2,0) h rfl (zba rfl) (zad [0] kr rfl) ?_
  rintro ⟨n1,b7,x4⟩ h
  cases n1 with
  | zero=>exact zdG h
  | succ n1 =>
   obtain ⟨ag1,hag1⟩:∃ ag,ag=zaM (fun _ _=>none) (zch stanzas1 j2) n1:=⟨_,rfl⟩
   have h:zch stanzas1 j2 ag1 b7 x4=some r:=by rw [hag1]; exact h
   unfold zch at h
   refine zyG (zaW rfl zbA (zyN (zaH ?_)))
   refine zyB rfl h (fun h => ?_) (fun h => ?_)
   ·
    refine zau (zaI ?_)
    obtain ⟨j3,hj3,h⟩:=zbO h
    refine zaY (β:=ByteArray) 0 rfl (fun b=>j3 b=some r) (fun b=>[]) (fun b=>[(5,zP b1),(29,vstanzas1.v),(30,zI (stanzas1.length:Int)),(31,zI x4)]) (fun b=>[zpN b1 b]) (fun cut => ?_) ?_
    ·
     refine cut (zaG (zyG ?_))
     obtain ⟨x5,hq4,h⟩:=zbx h
     obtain ⟨eh2,eq2⟩:=zic hzstanzas1 hq4
     have hrd:Rd _ _ [zfe zaD 1 vvstanzas1 kstanzas1 Zstanzas1,zgI zb7 Zstanzas1,zoF zjl 1 eh2 x5]:=hrd.openEl (i:=1) (z:=(x5,eh2)) rfl (Vw.get hwstanzas1 eq2)
     obtain ⟨vv2,k2,L2,hV2,hrd⟩:=hrd.openSl (i:=2) rfl
     replace hrd:Rd _ _ [zfe zaD 1 vvstanzas1 kstanzas1 Zstanzas1,zgI zb7 Zstanzas1,zoF zjl 1 eh2 x5,zfe zjl 1 vv2 k2 L2]:=hrd
     refine zbj hwstanzas1 eq2 Tryz.underlying112 zhV rfl dc rfl rfl rfl (zdU (n:=kstanzas1+(x4:Int).toNat) (j:=0) (i:=0) (q:=(x5,eh2)) hrd rfl (by omega) zjX rfl dc rfl (Vw.get hwstanzas1 eq2) rfl rfl (zyR 1 rfl (zyN ?_)))
     obtain ⟨j4,hj4,h⟩:=zbO h
     refine zaY (β:=ByteArray) 0 rfl (fun b=>j4 b=some r) (fun b=>[]) (fun b=>[(5,zP b1),(7,eh2.v),(29,vstanzas1.v),(30,zI (stanzas1.length:Int)),(31,zI x4)]) (fun b=>[zpN b1 b]) (fun cut => ?_) ?_
     ·
      refine cut (zyG (zsz (v:=zI (b7.size:Int)) (vs:=[zP b1]) rfl dc rfl rfl rfl zwr (ztZ b1 b7) [0] kr rfl (zaW rfl zcR (zyN ?_))))
      refine zyB rfl h (fun h => ?_) (fun h => ?_)
      ·
       refine zaB ?_
       obtain ⟨hg7,h⟩:=zbw h
       refine zdI (vs:=[zP b1,.string (⟨#[10]⟩:ByteArray)]) rfl dc rfl rfl rfl zsp (zlQ b1 b7 (⟨#[10]⟩:ByteArray) hg7) (zad [0] kr rfl) ?_
       rintro u3
       refine zaX ?_
       exact zaq (b7++(⟨#[10]⟩:ByteArray)) h rfl (zba rfl) (zad [1] kr rfl)
      refine zau ?_
      exact zaq b7 h rfl (zba rfl) (zad [0] kr rfl)
     rintro b9 h
     rw [hj4] at h
     refine zyG (zyR 1 rfl (zdA hV2 rfl dc rfl Tryz.underlying70 (zyR 1 rfl (zyN (zaG ?_)))))
     refine zbt (β:=Nat×ByteArray×Int) (fun b=>zaM (fun _ _=>none) (zc0 j3 x5) b.1 b.2.1 b.2.2=some r) (fun b=>[]) (fun b=>[(5,zP b1),(29,vstanzas1.v),(30,zI (stanzas1.length:Int)),(31,zI x4),(38,eh2.v),(39,zI (x5.length:Int)),(40,zI b.2.2)]) (fun b=>[zpN b1 b.2.1]) (fun b=>b.1) (zb4,b9,0) h rfl (zba rfl) (zad [0] kr rfl) ?_
     rintro ⟨n2,b12,x8⟩ h
     cases n2 with
     | zero=>exact zdG h
     | succ n2 =>
      obtain ⟨ag2,hag2⟩:∃ ag,ag=zaM (fun _ _=>none) (zc0 j3 x5) n2:=⟨_,rfl⟩
      have h:zc0 j3 x5 ag2 b12 x8=some r:=by rw [hag2]; exact h
      unfold zc0 at h
      refine zyG (zaW rfl zbA (zyN (zaH ?_)))
      refine zyB rfl h (fun h => ?_) (fun h => ?_)
      ·
       refine zau (zaI (zaH (zaG (zyG ?_))))
       obtain ⟨q2,hq5,h⟩:=zbx h
       refine zbj hV2 hq5 Tryz.underlying70 zrz rfl dc rfl rfl rfl (zdU (n:=k2+(x8:Int).toNat) (j:=0) (i:=3) (q:=q2) hrd rfl (by omega) zjc rfl dc rfl (Vw.get hV2 hq5) rfl rfl (zyR 1 rfl (zyN (zaB (zyR 1 rfl ?_)))))
       obtain ⟨hg8,h⟩:=zbw h
       refine zaW rfl (zf3 hg8) ?_
       obtain ⟨hg9,h⟩:=zbw h
       refine zdI (vs:=[zP b1,.string (q2++(⟨#[10]⟩:ByteArray))]) rfl dc rfl rfl rfl zsp (zlQ b1 b12 (q2++(⟨#[10]⟩:ByteArray)) hg9) (zad [0] kr rfl) ?_
       rintro u4
       refine zaX (zah (zaI (zaB ?_)))
       obtain ⟨hg10,h⟩:=zbw h
       refine zaW rfl (zaV (r:=x8+1) (IntWalk.i64_in _ hg10)) (zyR 1 rfl (zaX ?_))
       subst hag2
       exact za4 (n2,b12++(q2++(⟨#[10]⟩:ByteArray)),x8+1) h (Nat.lt_succ_self _) rfl (zba rfl) (zad [1] kr rfl)
      refine za9 (zap (zap (zaz (zah ?_))))
      exact zaq b12 h rfl (zba rfl) (zad [0] kr rfl)
    rintro b8 h
    rw [hj3] at h
    refine zaB ?_
    obtain ⟨hg11,h⟩:=zbw h
    refine zaW rfl (zaV (r:=x4+1) (IntWalk.i64_in _ hg11)) (zyR 1 rfl (zaX ?_))
    subst hag1
    exact za4 (n1,b8,x4+1) h (Nat.lt_succ_self _) rfl (zba rfl) (zad [0] kr rfl)
   refine za9 (zap (zap (zaz ?_)))
   exact zaq b7 h rfl (zba rfl) (zad [0] kr rfl)
 rintro b4 h
 rw [hj2] at h
 refine zyG (zdI (vs:=[zP b1]) rfl dc rfl rfl rfl zwA (ztW b1 b4) (zad [0] kr rfl) ?_)
 rintro _
 refine zyR 1 rfl (zyN (zaA ?_))
 cases h
 exact zaF (rs:=[.tmp 4]) () (.inl rfl) Tryz.results56 (.cons (.tmp rfl) .nil) rfl Splits.nil
def zcC (from1:Int) (to1:Int) (x1:Int×Gapi_Verse) (ag1:(List (List ByteArray))→Int→Option (List (List ByteArray))) (out4:List (List ByteArray)) (stanza3:Int):Option (List (List ByteArray)) :=
zax (decide ((x1.1:Int)<from1)) (
ag1 out4 stanza3
) (
zax (decide ((to1:Int)≤x1.1)) (
ag1 out4 stanza3
) (
zbr (fun (j2:(List (List ByteArray))→Int→Option (List (List ByteArray))) =>
zax ((x1.2.Stanza:Int) != stanza3) (
grd (out4.length+1≤2147483648) <|
j2 (out4++[([]:List ByteArray)]) x1.2.Stanza
) (
j2 out4 stanza3
)
) (fun (out5:List (List ByteArray)) (stanza4:Int) =>
grd (I64 ((out5.length:Int) - 1)) <|
zak (zcN out5 ((out5.length:Int) - 1)) fun (x2:List ByteArray) =>
grd (0≤x1.2.Indent∧x1.2.Indent≤140737488355328) <|
grd ((zbR x1.2.Indent).size+x1.2.Text.size≤9223372036854775807) <|
grd (x2.length+1≤2147483648) <|
ag1 (out5.set ((out5.length:Int) - 1:Int).toNat (x2++[(zbR x1.2.Indent)++x1.2.Text])) stanza4
)
)
)
def zdm (p1:Gpoem_Poem) (from1:Int) (to1:Int):Option (List (List ByteArray)) :=
zbr (fun (j1:(List (List ByteArray))→Option (List (List ByteArray))) =>
zak (zdX p1) fun (r1:Unit) =>
zak (zc4 p1) fun (its1:(List (Int×Gapi_Verse))) =>
zbr (fun (dn1:(List (List ByteArray))→Int→Option (List (List ByteArray))) =>
zdh dn1 (zcC from1 to1) its1 ([]:List (List ByteArray)) (-1)
) (fun (out4:List (List ByteArray)) (stanza3:Int) =>
j1 out4
)
) (fun (out1:List (List ByteArray)) =>
some out1
)
theorem ziK {bp1:Nat} {p1:Gpoem_Poem} {p1_h0 p1_h1:Hd} {from1:Int} {to1:Int} {r:(List (List ByteArray))} (h:zdm p1 from1 to1=some r):FnR Tryz.prog 57 [zP bp1,zI from1,zI to1] [cells bp1 [.string p1.told_title,p1_h0.v,p1_h1.v,.string p1.source] 106,zv2 p1_h0.v p1.told_lines,zv3 p1_h1.v p1.told_stanzas] [] (fun v0:Value=>v0) (fun v0=>[zfp zaD zaC 70 1 v0 r]):=by
 unfold zdm at h
 refine FnR.intro Tryz.func57 rfl Tryz.ntmps57 (by simp) ?_
 intro w0 K hrd
 refine ziE ?_
 obtain ⟨j1,hj1,h⟩:=zbO h
 refine zaY (β:=(List (List ByteArray))×Nat×Hd×(List Nat)) 3 rfl (fun b=>j1 b.1=some r) (fun b=>zfQ b.2.2.2) (fun b=>[(7,zP b.2.1)]) (fun b=>[cells b.2.1 [b.2.2.1.v] 112,zfp zaD zaC 70 1 b.2.2.1.v b.1,zhS ((b.2.2.2:List Nat).map zkT)]) (fun cut => ?_) ?_
 ·
  refine zyG ?_
  refine zdQ rfl dc rfl (fun b2 => ?_)
  refine zdQ rfl dc rfl (fun b3 => ?_)
  refine zyR 1 rfl (zyH ?_)
  refine zbg zus rfl dc (fun b4 => ?_)
  refine zyH ?_
  refine zbg zw7 rfl dc (fun b5 => ?_)
  refine zbe (k:=4) (l':=[zI (-1)]) zf9 rfl rfl rfl rfl rfl (fun _ _=>rfl) rfl ?_
  refine zyN (cut (zyG (zyR 1 rfl ?_)))
  obtain ⟨r1,hq1,h⟩:=zbx h
  refine zfa (vs:=[zP bp1]) hrd rfl dc rfl rfl rfl zu3 (zgc (bp1:=bp1) (p1:=p1) (p1_h0:=p1_h0) (p1_h1:=p1_h1) hq1) Splits.nil (.ro 0 rfl (.ro 1 rfl (.ro 2 rfl .nil))) ?_
  rintro b6
  refine zcu (L':=[zhS ((([]:List Nat):List Nat).map zkT),cells b2 [zI from1] 3,cells b3 [zI to1] 3,cells b4 [.slice none 0 0] 112,cells b5 [zI (-1)] 3,cells b6 [zP bp1] 58]) (zad [0,1,2,3,4,5] kr rfl) (zyN (zaG ?_))
  obtain ⟨its1,hq2,h⟩:=zbx h
  refine zmy (enc:=zaD) (nest:=zaC) (e:=70) (size:=1) ?_
  obtain ⟨dn1,hdn1,h⟩:=zbO h
  refine zkO (α:=Int×Gapi_Verse) (β:=(List (List ByteArray))×Int×Hd) (γ:=Unit) (δ:=Nat) (ps:=[14,15]) hrd Ro.nil rfl zsY (zfx hq2) (fun pre b=>∀ post,its1=pre++post→zdh dn1 (zcC from1 to1) post b.1 b.2.1=some r) (fun pre b=>[cells b2 [zI from1] 3,cells b3 [zI to1] 3,cells b4 [b.2.2.v] 112,zfp zaD zaC 70 1 b.2.2.v b.1,cells b5 [zI b.2.1] 3]) (fun c pre g=>False) (fun c pre g=>[]) (fun pre x b j=>[(4,zP b2),(5,zP b3),(6,.slice none 0 0),(7,zP b4),(8,zP b5),(13,.func (.func 115) #[] #[zP b6]),(9,zI x.1),(10,zP j)]) (fun pre x b j=>[cells b2 [zI from1] 3,cells b3 [zI to1] 3,cells b4 [b.2.2.v] 112,zfp zaD zaC 70 1 b.2.2.v b.1,cells b5 [zI b.2.1] 3,cells j (zr1 x.2) 76]) (([]:List (List ByteArray)),(-1),Hd.nil) (fun post e=>by rw [List.nil_append] at e; subst e; exact h) (zad [1,2,3,6,4] kr rfl) (.own (As:=[cells b6 [zP bp1] 58]) (zad [5] (by kernel_rfl) rfl) (fun _ _ h=>sepL.one1.1 h) (.ro 0 rfl (.ro 1 rfl (.ro 2 rfl .nil)))) (fun _=>rfl) dc ?_ ?_ ?_ ?_
  ·
   rintro lp rc pre x1 post ⟨out4,stanza3,hd4⟩ w1 K1 hxs1 hext hro hinv
   have hrd:=hrd.ext hext
   refine zyG (zyR 1 rfl (zyN (zaB ?_)))
   refine zbg zo9 rfl dc (fun b7 => ?_)
   refine zaU (k:=5) (vs:=(zr1 x1.2)) (l':=(zr1 x1.2)) zkX rfl rfl rfl rfl rfl (show _≤_ by simp) rfl rfl ?_
   refine zaX ?_
   exact fun a w ha hw=>⟨b7,(zba rfl) _ _ _ ha,hw.weaken (zad [0,1,2,3,4,5] kr rfl)⟩
  ·
   rintro lp rc pre x1 post1 ⟨out4,stanza3,hd4⟩ jb1 w1 K1 hxs1 hext hro hinv
   have hrd:=hrd.ext hext
   have h:=hinv (x1::post1) hxs1
   obtain ⟨ag1,hag1⟩:∃ ag,ag=zdh dn1 (zcC from1 to1) post1:=⟨_,rfl⟩
   have h:zcC from1 to1 x1 ag1 out4 stanza3=some r:=by rw [hag1]; exact h
   unfold zcC at h
   refine zaG (zaH (zyG (zyR 1 rfl (zan (k:=0) zbS rfl dc rfl rfl rfl (zaW rfl zbA (zyR 1 rfl ?_))))))
   refine zyS (s:=19) rfl h (fun h => ?_) (fun h => ?_)
   ·
    refine zyR 4 rfl (zyN (zbd rfl (za9 (zap (zaz ?_)))))
    exact zfm (out4,stanza3,hd4) (fun post2 e2=>by have e9:=zex hxs1 e2; subst e9; subst hag1; exact h) (zad [0,1,2,3,4] kr rfl)
   refine zyR 1 rfl (zan (k:=1) zbS rfl dc rfl rfl rfl (zaW rfl zeg (zyR 1 rfl (zyN ?_))))
   refine zyB rfl h (fun h => ?_) (fun h => ?_)
   ·
    refine za9 (zap (zaz ?_))
    exact zfm (out4,stanza3,hd4) (fun post2 e2=>by have e9:=zex hxs1 e2; subst e9; subst hag1; exact h) (zad [0,1,2,3,4] kr rfl)
   refine zau (zaI ?_)
   obtain ⟨j2,hj2,h⟩:=zbO h
   refine zaY (β:=(List (List ByteArray))×Int×Hd) 0 rfl (fun b=>j2 b.1 b.2.1=some r) (fun b=>[]) (fun b=>[(4,zP b2),(5,zP b3),(6,.slice none 0 0),(7,zP b4),(8,zP b5),(10,zP jb1),(13,.func (.func 115) #[] #[zP b6])]) (fun b=>[cells b2 [zI from1] 3,cells b3 [zI to1] 3,cells b4 [b.2.2.v] 112,zfp zaD zaC 70 1 b.2.2.v b.1,cells b5 [zI b.2.1] 3,cells jb1 (zr1 x1.2) 76]) (fun cut => ?_) ?_
   ·
    refine cut (zyG (zac zg4 rfl dc rfl (show _=2 from rfl) (zan (k:=5) zbS rfl dc rfl rfl rfl (zan (k:=4) zbS rfl dc rfl rfl rfl (zaW rfl zbP (zyN ?_))))))
    refine zyB rfl h (fun h => ?_) (fun h => ?_)
    ·
     refine zyG (zan (k:=2) zgU rfl dc rfl rfl rfl ?_)
     refine zaR (cs:=[.slice none 0 0]) (te:=70) (ps:=[(0,.const (.slice none 0 0))]) rfl dc rfl (fun _=>by kernel_rfl) (fun b8 => ?_)
     refine zfU (enc:=zjl) (e:=9) (size:=1) ?_
     refine zgh (k:=3) rfl zm5 (fun zs1 hz1 => ?_)
     obtain ⟨hg1,h⟩:=zbw h
     refine zaZ (k:=3) (k2:=6) (ys:=[(([]:List ByteArray),Hd.nil)]) Tryz.underlying112 ztQ zbf zfj rfl dc rfl rfl rfl rfl rfl rfl (by rw [zut hz1]; exact hg1) (fun v1 => ?_)
     refine zbo (k:=3) rfl (fun hd6 he1 => ?_)
     subst he1
     refine ze9 (k:=8) rfl (zad [7] kr rfl) rfl (zoH (nest:=zaC) (zs:=zs1) (z:=(([]:List ByteArray),Hd.nil))) ?_
     refine ze9 (k:=3) rfl (zad [8] kr rfl) rfl (zjm (enc:=zaD) (nest:=zaC) (zvI hz1)) ?_
     refine zcu (L':=[cells b2 [zI from1] 3,cells b3 [zI to1] 3,cells b4 [hd4.v] 112,zfp zaD zaC 70 1 hd6.v (out4++[([]:List ByteArray)]),cells b5 [zI stanza3] 3,cells jb1 (zr1 x1.2) 76,cells b8 [.slice none 0 0] 70]) (zad [0,1,2,3,4,5,6] kr rfl) ?_
     refine zbe (k:=2) (l':=[hd6.v]) zsJ rfl rfl rfl rfl rfl (fun _ _=>rfl) rfl ?_
     refine zyN (zaB (zac zg4 rfl dc rfl (show _=2 from rfl) (zan (k:=5) zbS rfl dc rfl rfl rfl ?_)))
     refine zbe (k:=4) (l':=[zI x1.2.Stanza]) zf9 rfl rfl rfl rfl rfl (fun _ _=>rfl) rfl ?_
     refine zaX ?_
     exact zaq (out4++[([]:List ByteArray)],x1.2.Stanza,hd6) h rfl (zba rfl) (zad [0,1,2,3,4,5] kr rfl)
    refine zau ?_
    exact zaq (out4,stanza3,hd4) h rfl (zba rfl) (zad [0,1,2,3,4,5] kr rfl)
   rintro ⟨out5,stanza4,hd5⟩ h
   rw [hj2] at h
   refine zyG (zan (k:=2) zgU rfl dc rfl rfl rfl (zhm (k:=3) rfl dc rfl rfl Tryz.underlying112 ?_))
   obtain ⟨hg2,h⟩:=zbw h
   refine zaW rfl (zcd (r:=(out5.length:Int) - 1) (IntWalk.i64_in _ hg2)) (zyR 1 rfl (zyN ?_))
   refine zfk (k:=3) rfl zm5 (fun zs2 hz2 => ?_)
   obtain ⟨x2,hq3,h⟩:=zbx h
   obtain ⟨eh1,eq1⟩:=zic hz2 hq3
   obtain ⟨hg3,h⟩:=zbw h
   obtain ⟨hg4,h⟩:=zbw h
   obtain ⟨hg5,h⟩:=zbw h
   refine zfk (k:=6) rfl (zqq (za0 eq1)) (fun _ _ => ?_)
   refine zfz 1 ?_
   refine let vals1:(Nat×Hd)→List (Nat×Nat×Value):=fun b=>[(0,36,hd5.v),(1,37,zI ((out5.length:Int) - 1)),(2,38,hd5.v),(3,39,zI ((out5.length:Int) - 1)),(4,40,.pointer (some ⟨zdK hd5.v,((out5.length:Int) - 1:Int).toNat*1,none⟩)),(5,41,eh1.v),(6,42,.pointer (some ⟨jb1,1,none⟩)),(7,43,zI x1.2.Indent),(8,44,.string (zbR x1.2.Indent)),(9,45,zP jb1),(10,46,.string x1.2.Text),(11,47,.string ((zbR x1.2.Indent)++x1.2.Text)),(12,48,.slice (some ⟨b.1,0,none⟩) 1 1),(13,49,b.2.v)]; let LL1:(Nat→Prop)→(Nat×Hd)→List Asn:=fun D b=>[cells b2 [zI from1] 3,cells b3 [zI to1] 3,cells b4 [hd5.v] 112,zv9 hd5.v zs2,cells b5 [zI stanza4] 3,cells jb1 (zr1 x1.2) 76,own zaC (zs2.eraseIdx (((out5.length:Int) - 1:Int).toNat)),eD D (zv7 eh1.v x2) [(13,zv7 b.2.v (x2++[(zbR x1.2.Indent)++x1.2.Text]))],eD D emp [(12,cells b.1 [.string ((zbR x1.2.Indent)++x1.2.Text)] 9)]]; ?_
   have zhq:zyQ [12,13] LL1:=fun i h D b=>zab rfl (zab rfl (zab rfl (zab rfl (zab rfl (zab rfl (zab rfl (zab (zja rfl h) (zab (zja rfl h) rfl))))))))
   refine zdB (β:=Nat×Hd) 14 ((0:Nat),Hd.nil) vals1 LL1 mixed kr kr dc (fun _=>rfl) (zhd (zab zbN (zab zbN rfl))) (zgj zhq rfl (fun _=>rfl) (fun _=>rfl) ?_ (zlc zhq (fun _=>rfl) (fun _=>rfl) 1 1 (fun _=>rfl) rfl (zgj zhq rfl (fun _=>rfl) (fun _=>rfl) ?_ (zlc zhq (fun _=>rfl) (fun _=>rfl) 1 3 (fun _=>rfl) rfl (zgj zhq rfl (fun _=>rfl) (fun _=>rfl) ?_ (zgj zhq rfl (fun _=>rfl) (fun _=>rfl) ?_ (zyq zhq rfl (fun _=>rfl) (fun _=>rfl) ?_ (zgj zhq rfl (fun _=>rfl) (fun _=>rfl) ?_ (zgj zhq rfl (fun _=>rfl) (fun _=>rfl) ?_ (zyq zhq rfl (fun _=>rfl) (fun _=>rfl) ?_ (zgj zhq rfl (fun _=>rfl) (fun _=>rfl) ?_ (zyq zhq rfl (fun _=>rfl) (fun _=>rfl) ?_ (zat ?_ (zat ?_ DrawG.nil)))))))))))))) ?_
   · exact fun D ⟨b9,hd7⟩ n d c u i=>⟨_,(zvF rfl),zan (k:=2) zgU rfl dc (za8 (by rfl) rfl) rfl rfl (zaf 0 u i rfl)⟩
   · exact fun D ⟨b9,hd7⟩ n d c u i=>⟨_,(zhd (zab (zag (fun hD=>n (c 4 _ rfl (c 5 _ rfl (c 13 _ rfl hD 5 dc) 4 dc) 2 dc)) zaj) rfl)),zan (k:=2) zgU rfl dc (za8 (by rfl) rfl) rfl rfl (zaf 2 u i rfl)⟩
   · exact fun D ⟨b9,hd7⟩ n d c u i=>⟨_,(zhd (zab (zag (fun hD=>n (c 5 _ rfl (c 13 _ rfl hD 5 dc) 4 dc)) zaj) rfl)),zaL (k:=3) eq1 Tryz.underlying112 zhV rfl dc (zaa (m:=2) u rfl (d 2 dc)) (zaa (m:=3) u rfl (d 3 dc)) rfl rfl (zaf 4 u i rfl)⟩
   · exact fun D ⟨b9,hd7⟩ n d c u i=>⟨_,(zhd (zab (zag (fun hD=>n (c 13 _ rfl hD 5 dc)) zaj) rfl)),zbk (i:=((out5.length:Int) - 1:Int).toNat) (j:=0) (k:=3) (q:=(x2,eh1)) zjX zbf rfl dc (zaa (m:=4) u rfl (d 4 dc)) rfl (za0 eq1) rfl dc rfl (zaf 5 u i rfl)⟩
   · exact fun D ⟨b9,hd7⟩ n d c u i=>zac zkw rfl dc (za8 (by rfl) rfl) (show _=1 from rfl) (zaf 6 u i rfl)
   · exact fun D ⟨b9,hd7⟩ n d c u i=>⟨_,(zhd (zab (zag (fun hD=>n (c 8 _ rfl (c 13 _ rfl hD 8 dc) 7 dc)) zaj) (zab (zag (fun hD=>n (c 8 _ rfl (c 11 _ rfl (c 12 _ rfl hD 11 dc) 8 dc) 7 dc)) zaj) rfl))),zan (k:=5) zbS rfl dc (zaa (m:=6) u rfl (d 6 dc)) rfl rfl (zaf 7 u i rfl)⟩
   · exact fun D ⟨b9,hd7⟩ n d c u i=>⟨_,(zhd (zab (zag (fun hD=>n (c 13 _ rfl hD 8 dc)) zaj) (zab (zag (fun hD=>n (c 11 _ rfl (c 12 _ rfl hD 11 dc) 8 dc)) zaj) rfl))),zbc (v:=.string (zbR x1.2.Indent)) (vs:=[.string (⟨#[32]⟩:ByteArray),zI x1.2.Indent]) rfl dc rfl (evL.cons rfl (evL.cons (zaa (m:=7) u rfl (d 7 dc)) evL.nil)) rfl zu9 (zox x1.2.Indent hg3) (zaf 8 u i rfl)⟩
   · exact fun D ⟨b9,hd7⟩ n d c u i=>zac zkx rfl dc (za8 (by rfl) rfl) (show _=0 from rfl) (zaf 9 u i rfl)
   · exact fun D ⟨b9,hd7⟩ n d c u i=>⟨_,(zhd (zab (zag (fun hD=>n (c 11 _ rfl (c 12 _ rfl (c 13 _ rfl hD 12 dc) 11 dc) 10 dc)) zaj) (zab (zag (fun hD=>n (c 11 _ rfl (c 12 _ rfl hD 11 dc) 10 dc)) zaj) rfl))),zan (k:=5) zjc rfl dc (zaa (m:=9) u rfl (d 9 dc)) rfl rfl (zaf 10 u i rfl)⟩
   · exact fun D ⟨b9,hd7⟩ n d c u i=>zcc rfl dc (zaa (m:=8) u rfl (d 8 dc)) (zaa (m:=10) u rfl (d 10 dc)) (zf3 hg4) (zaf 11 u i rfl)
   ·
    intro D b hn hd hcl
    obtain ⟨zb0,hd7⟩:=b
    refine zaK (zhd (zab (zag (fun hD=>hn (hcl 13 _ rfl hD 12 dc)) zaj) (zab (zag hn zaj) rfl))) ?_
    refine zaR (cs:=[.string ((zbR x1.2.Indent)++x1.2.Text)]) (te:=9) (ps:=[(0,.tmp 47)]) rfl dc (evP.cons (zaa (m:=11) rfl rfl (hd 11 dc)) evP.nil) (fun _=>by kernel_rfl) (fun b9 => ?_)
    refine zcS 8 rfl rfl ?_
    exact zaQ (b:=(zb0,hd7)) (b9,hd7) 12 (by rfl) (by rfl) rfl (zdg (zao (fun hD=>absurd hD hn) (zao (fun _=>rfl) rfl))) (zhd (zab ((zam (by rfl)).trans (zag (fun hD=>hn (hcl 13 _ rfl hD 12 dc)) zaj)) (zab (zaE (Or.inr rfl) rfl) rfl)))
   ·
    intro D b hn hd hcl
    obtain ⟨b9,zb1⟩:=b
    refine zaK (zhd (zab (zag hn zaj) (zab (zaE (hd 12 dc) rfl) rfl))) ?_
    refine zaZ (k:=7) (k2:=8) (ys:=[(zbR x1.2.Indent)++x1.2.Text]) Tryz.underlying70 zvM zfA zjK rfl dc (zaa (m:=5) rfl rfl (hd 5 dc)) (zaa (m:=12) rfl rfl (hd 12 dc)) rfl rfl rfl rfl hg5 (fun v2 => ?_)
    refine zbo (k:=7) rfl (fun hd7 he2 => ?_)
    subst he2
    exact zaQ (b:=(b9,zb1)) (b9,hd7) 13 (by rfl) (by rfl) rfl (zao (fun _=>rfl) (zdg (zao (fun hD=>absurd hD hn) rfl))) (zhd (zab (zaE (Or.inr rfl) rfl) (zab ((zam (by rfl)).trans (zaE (hd 12 dc) rfl)) rfl)))
   intro D b hall
   obtain ⟨b9,hd7⟩:=b
   refine zaK (zhd (zab (zaE (hall 13 dc) rfl) (zab (zaE (hall 12 dc) rfl) rfl))) (zaL (k:=3) eq1 Tryz.underlying112 zhV rfl dc rfl rfl rfl rfl ?_)
   refine zei (i:=((out5.length:Int) - 1:Int).toNat) (j:=0) (k:=3) (q:=(x2,eh1)) (q':=(x2++[(zbR x1.2.Indent)++x1.2.Text],hd7)) zhV zbf rfl rfl rfl rfl (za0 eq1) rfl dc rfl (fun _ _=>rfl) ?_
   refine ze9 (k:=6) rfl (zad [7] kr rfl) rfl (zqp (nest:=zaC) (zs:=zs2) (z:=(x2++[(zbR x1.2.Indent)++x1.2.Text],hd7)) (zl0 (za0 eq1)) zhZ) ?_
   refine zaX (zah (ziC (k:=3) rfl (zad [6] kr rfl) rfl (zjm (enc:=zaD) (nest:=zaC) (zvH hz2)) ?_))
   exact zfm (out5.set ((out5.length:Int) - 1:Int).toNat (x2++[(zbR x1.2.Indent)++x1.2.Text]),stanza4,hd5) (fun post2 e2=>by have e9:=zex hxs1 e2; subst e9; subst hag1; exact h) (zad [0,1,2,3,4] kr rfl)
  ·
   rintro dm1 ⟨out4,stanza3,hd4⟩ hinv
   have h:dn1 out4 stanza3=some r:=hinv [] (List.append_nil _).symm
   rw [hdn1] at h
   refine zfT (k:=12) (j:=0) rfl rfl dc ?_
   refine zah ?_
   exact zaq (out4,b4,hd4,dm1::([]:List Nat)) h rfl (zba rfl) (zad [9,10,0] kr rfl)
  rintro dm1 c pre x1 post g hxs hX
  exact (show False from hX).elim
 rintro ⟨out1,b1,hd1,ds1⟩ h
 rw [hj1] at h
 refine zyG (zan (k:=0) zgU rfl dc rfl rfl rfl (zyR 1 rfl (zyN (zaA ?_))))
 cases h
 exact zeO (rs:=[.tmp 6]) ds1 hd1.v (.inl rfl) (zbI (k:=2) rfl) Tryz.results57 (.cons (.tmp rfl) .nil) rfl (zad [1] kr rfl)
def zdS (stanzas1:List (List ByteArray)) (j1:Int→Option ((Option Gpoem_Poem)×Int)) (ag1:Int→Int→Option ((Option Gpoem_Poem)×Int)) (n4:Int) (x3:Int):Option ((Option Gpoem_Poem)×Int) :=
zax (decide ((x3:Int)<(stanzas1.length:Int))) (
zak (zcN stanzas1 x3) fun (x4:List ByteArray) =>
grd (I64 (n4+(x4.length:Int))) <|
grd (I64 (x3+1)) <|
ag1 (n4+(x4.length:Int)) (x3+1)
) (
j1 n4
)
def zdD (title1:ByteArray) (stanzas1:List (List ByteArray)):Option ((Option Gpoem_Poem)×Int) :=
zbr (fun (j1:Int→Option ((Option Gpoem_Poem)×Int)) =>
zaM (fun _ _=>none) (zdS stanzas1 j1) zb4 0 0
) (fun (n1:Int) =>
zak (zda title1 stanzas1) fun (r1:ByteArray) =>
zax (decide ((512:Int)<n1)) (
some (none,3)
) (
zax (decide ((65536:Int)<(r1.size:Int))) (
some (none,3)
) (
zak (zcT r1) fun (r2:((Option Gpoem_Poem)×Gapi_Spot)) =>
some (r2.1,0)
)
)
)
theorem zmX {title1:ByteArray} {vvstanzas1:Value} {vstanzas1:Hd} {Zstanzas1:List ((List ByteArray)×Hd)} {kstanzas1:Nat} {zstanzas1:List ((List ByteArray)×Hd)} {stanzas1:List (List ByteArray)} (hwstanzas1:Vw vvstanzas1 Zstanzas1 1 kstanzas1 vstanzas1.v zstanzas1) (hzstanzas1:zstanzas1.map Prod.fst=stanzas1) {r:((Option Gpoem_Poem)×Int)} (h:zdD title1 stanzas1=some r):FnR Tryz.prog 85 [.string title1,vstanzas1.v] [zfe zaD 1 vvstanzas1 kstanzas1 Zstanzas1,zgI zb7 Zstanzas1] [] (fun v0:Value=>.tuple #[v0,zI r.2]) (fun v0=>[zho zaP zaO 106 v0 r.1]):=by
 unfold zdD at h
 refine FnR.intro Tryz.func85 rfl Tryz.ntmps85 (by simp) ?_
 intro w0 K hrd
 obtain ⟨j1,hj1,h⟩:=zbO h
 refine zaY (β:=Int) 2 rfl (fun b=>j1 b=some r) (fun b=>[]) (fun b=>[(0,.string title1),(1,vstanzas1.v),(6,zI b)]) (fun b=>[]) (fun cut => ?_) ?_
 ·
  refine zyG (zyR 2 rfl (zyH (zyR 1 rfl (zyN (cut (zyG ?_))))))
  refine zyR 1 rfl (zhc hzstanzas1 hwstanzas1 rfl dc rfl Tryz.underlying112 (zyR 1 rfl (zyN (zaG ?_))))
  refine zbt (β:=Nat×Int×Int) (fun b=>zaM (fun _ _=>none) (zdS stanzas1 j1) b.1 b.2.1 b.2.2=some r) (fun b=>[]) (fun b=>[(0,.string title1),(1,vstanzas1.v),(6,zI b.2.1),(12,vstanzas1.v),(13,zI (stanzas1.length:Int)),(14,zI b.2.2)]) (fun b=>[]) (fun b=>b.1) (zb4,0,0) h rfl (zba rfl) Splits.nil ?_
  rintro ⟨n5,n4,x3⟩ h
  cases n5 with
  | zero=>exact zdG h
  | succ n5 =>
   obtain ⟨ag1,hag1⟩:∃ ag,ag=zaM (fun _ _=>none) (zdS stanzas1 j1) n5:=⟨_,rfl⟩
   have h:zdS stanzas1 j1 ag1 n4 x3=some r:=by rw [hag1]; exact h
   unfold zdS at h
   refine zyG (zaW rfl zbA (zyN (zaH ?_)))
   refine zyB rfl h (fun h => ?_) (fun h => ?_)
   ·
    refine zau (zaI (zaH (zaG (zyG ?_))))
    obtain ⟨x4,hq1,h⟩:=zbx h
    obtain ⟨eh1,eq1⟩:=zic hzstanzas1 hq1
    have hrd:Rd _ _ [zfe zaD 1 vvstanzas1 kstanzas1 Zstanzas1,zgI zb7 Zstanzas1,zoF zjl 1 eh1 x4]:=hrd.openEl (i:=1) (z:=(x4,eh1)) rfl (Vw.get hwstanzas1 eq1)
    obtain ⟨vv1,k1,L1,hV1,hrd⟩:=hrd.openSl (i:=2) rfl
    replace hrd:Rd _ _ [zfe zaD 1 vvstanzas1 kstanzas1 Zstanzas1,zgI zb7 Zstanzas1,zoF zjl 1 eh1 x4,zfe zjl 1 vv1 k1 L1]:=hrd
    refine zbj hwstanzas1 eq1 Tryz.underlying112 zhV rfl dc rfl rfl rfl (zdU (n:=kstanzas1+(x3:Int).toNat) (j:=0) (i:=0) (q:=(x4,eh1)) hrd rfl (by omega) zjX rfl dc rfl (Vw.get hwstanzas1 eq1) rfl rfl (zyR 1 rfl (zyN (zaB (zyR 2 rfl (zdA hV1 rfl dc rfl Tryz.underlying70 ?_))))))
    obtain ⟨hg1,h⟩:=zbw h
    refine zaW rfl (zaV (r:=n4+(x4.length:Int)) (IntWalk.i64_in _ hg1)) (zyR 1 rfl (zaX (zah (zaI (zaB ?_)))))
    obtain ⟨hg2,h⟩:=zbw h
    refine zaW rfl (zaV (r:=x3+1) (IntWalk.i64_in _ hg2)) (zyR 1 rfl (zaX ?_))
    subst hag1
    exact za4 (n5,n4+(x4.length:Int),x3+1) h (Nat.lt_succ_self _) rfl (zba rfl) Splits.nil
   refine za9 (zap (zap (zaz ?_)))
   exact zaq n4 h rfl (zba rfl) Splits.nil
 rintro n1 h
 rw [hj1] at h
 refine zyG (zyR 2 rfl ?_)
 obtain ⟨r1,hq2,h⟩:=zbx h
 refine zbZ (v:=.string r1) (vs:=[.string title1,vstanzas1.v]) hrd rfl dc rfl rfl rfl zu8 (zgX (vstanzas1:=vstanzas1) hwstanzas1 hzstanzas1 hq2) (.ro 0 rfl (.ro 1 rfl .nil)) (zyR 1 rfl (zyN (zaH (zyG (zyR 1 rfl (zaW rfl zcR (zyR 1 rfl ?_)))))))
 refine zyS (s:=28) rfl h (fun h => ?_) (fun h => ?_)
 ·
  refine zyR 4 rfl (zyN (zbd rfl (zyG (zyR 2 rfl (zyN (zaA ?_))))))
  refine zai (zck zaP zaO 106 ?_)
  cases h
  exact zaF (rs:=[.tmp 4,.tmp 5]) (.pointer none) (.inl rfl) Tryz.results85 (.cons (.tmp rfl) (.cons (.tmp rfl) .nil)) rfl (zad [0] kr rfl)
 refine zyR 1 rfl (zbl rfl dc rfl Tryz.underlying9 (zaW rfl zcR (zyR 1 rfl (zyN ?_))))
 refine zyB rfl h (fun h => ?_) (fun h => ?_)
 ·
  refine zyG (zyR 2 rfl (zyN (zaA (zai (zck zaP zaO 106 ?_)))))
  cases h
  exact zaF (rs:=[.tmp 4,.tmp 5]) (.pointer none) (.inl rfl) Tryz.results85 (.cons (.tmp rfl) (.cons (.tmp rfl) .nil)) rfl (zad [0] kr rfl)
 refine zau (zaI (zyG (zyR 1 rfl ?_)))
 obtain ⟨r2,hq3,h⟩:=zbx h
 refine zdI (vs:=[.string r1]) rfl dc rfl rfl rfl ztN (zgY hq3) Splits.nil ?_
 rintro v1
 refine zcu (L':=[zho zaP zaO 106 v1 r2.1]) (zad [0] kr rfl) (zyR 1 rfl (zaJ rfl dc rfl rfl (zaJ rfl dc rfl rfl ?_)))
 refine zbg zpa rfl dc (fun b1 => ?_)
 refine zyR 1 rfl (zaU (k:=1) (vs:=(zr6 r2.2)) (l':=(zr6 r2.2)) ziI rfl rfl rfl rfl rfl (show _≤_ by simp) rfl rfl ?_)
 refine zyH (zyR 3 rfl (zyN (zaA ?_)))
 cases h
 exact zaF (rs:=[.tmp 4,.tmp 5]) v1 (.inl rfl) Tryz.results85 (.cons (.tmp rfl) (.cons (.tmp rfl) .nil)) rfl (zad [0] kr rfl)
def zdT (j2:Option ((Option Gpoem_Poem)×Int)) (x4:List ByteArray) (ag2:Int→Option ((Option Gpoem_Poem)×Int)) (x7:Int):Option ((Option Gpoem_Poem)×Int) :=
zax (decide ((x7:Int)<(x4.length:Int))) (
zak (zcN x4 x7) fun (q1:ByteArray) =>
zax (!(zpL q1 1024)) (
some (none,170)
) (
zak (zd9 q1) fun (r1:Bool) =>
zax (r1) (
some (none,170)
) (
grd (I64 (x7+1)) <|
ag2 (x7+1)
)
)
) (
j2
)
def zdr (stanzas1:List (List ByteArray)) (j1:Option ((Option Gpoem_Poem)×Int)) (ag1:Int→Option ((Option Gpoem_Poem)×Int)) (x3:Int):Option ((Option Gpoem_Poem)×Int) :=
zax (decide ((x3:Int)<(stanzas1.length:Int))) (
zbr (fun (j2:Option ((Option Gpoem_Poem)×Int)) =>
zak (zcN stanzas1 x3) fun (x4:List ByteArray) =>
zax (((x4.length:Int):Int)==0) (
some (none,170)
) (
zaM (fun _=>none) (zdT j2 x4) zb4 0
)
) (
grd (I64 (x3+1)) <|
ag1 (x3+1)
)
) (
j1
)
def zeI (title1:ByteArray) (stanzas1:List (List ByteArray)):Option ((Option Gpoem_Poem)×Int) :=
zax (!(zpL title1 1022)) (
some (none,170)
) (
zbr (fun (j1:Option ((Option Gpoem_Poem)×Int)) =>
zaM (fun _=>none) (zdr stanzas1 j1) zb4 0
) (
zak (zdD title1 stanzas1) fun (r2:((Option Gpoem_Poem)×Int)) =>
some (r2.1,r2.2)
)
)
theorem zmY {title1:ByteArray} {vvstanzas1:Value} {vstanzas1:Hd} {Zstanzas1:List ((List ByteArray)×Hd)} {kstanzas1:Nat} {zstanzas1:List ((List ByteArray)×Hd)} {stanzas1:List (List ByteArray)} (hwstanzas1:Vw vvstanzas1 Zstanzas1 1 kstanzas1 vstanzas1.v zstanzas1) (hzstanzas1:zstanzas1.map Prod.fst=stanzas1) {r:((Option Gpoem_Poem)×Int)} (h:zeI title1 stanzas1=some r):FnR Tryz.prog 55 [.string title1,vstanzas1.v] [zfe zaD 1 vvstanzas1 kstanzas1 Zstanzas1,zgI zb7 Zstanzas1] [] (fun v0:Value=>.tuple #[v0,zI r.2]) (fun v0=>[zho zaP zaO 106 v0 r.1]):=by
 unfold zeI at h
 refine FnR.intro Tryz.func55 rfl Tryz.ntmps55 (by simp) ?_
 intro w0 K hrd
 refine zyG (zyR 2 rfl (zyN (zaH (zyG (zyR 1 rfl (zbc (v:=.bool (zpL title1 1022)) (vs:=[.string title1,zI 1022]) rfl dc rfl rfl rfl zu4 (zuS title1 1022 dc) (zdJ rfl dc rfl zcA (zyN ?_))))))))
 refine zyB rfl h (fun h => ?_) (fun h => ?_)
 ·
  refine zyG (zyR 2 rfl (zyN (zaA (zai (zck zaP zaO 106 ?_)))))
  cases h
  exact zaF (rs:=[.tmp 4,.tmp 5]) (.pointer none) (.inl rfl) Tryz.results55 (.cons (.tmp rfl) (.cons (.tmp rfl) .nil)) rfl (zad [0] kr rfl)
 refine zau (zaI ?_)
 obtain ⟨j1,hj1,h⟩:=zbO h
 refine zaY (β:=Unit) 0 rfl (fun b=>j1=some r) (fun b=>[]) (fun b=>[(0,.string title1),(1,vstanzas1.v)]) (fun b=>[]) (fun cut => ?_) ?_
 ·
  refine cut (zyG (zyR 1 rfl (zhc hzstanzas1 hwstanzas1 rfl dc rfl Tryz.underlying112 (zyR 1 rfl (zyN (zaG ?_))))))
  refine zbt (β:=Nat×Int) (fun b=>zaM (fun _=>none) (zdr stanzas1 j1) b.1 b.2=some r) (fun b=>[]) (fun b=>[(0,.string title1),(1,vstanzas1.v),(13,vstanzas1.v),(14,zI (stanzas1.length:Int)),(15,zI b.2)]) (fun b=>[]) (fun b=>b.1) (zb4,0) h rfl (zba rfl) Splits.nil ?_
  rintro ⟨n1,x3⟩ h
  cases n1 with
  | zero=>exact zdG h
  | succ n1 =>
   obtain ⟨ag1,hag1⟩:∃ ag,ag=zaM (fun _=>none) (zdr stanzas1 j1) n1:=⟨_,rfl⟩
   have h:zdr stanzas1 j1 ag1 x3=some r:=by rw [hag1]; exact h
   unfold zdr at h
   refine zyG (zaW rfl zbA (zyN (zaH ?_)))
   refine zyB rfl h (fun h => ?_) (fun h => ?_)
   ·
    refine zau (zaI ?_)
    obtain ⟨j2,hj2,h⟩:=zbO h
    refine zaY (β:=Unit) 0 rfl (fun b=>j2=some r) (fun b=>[]) (fun b=>[(0,.string title1),(1,vstanzas1.v),(13,vstanzas1.v),(14,zI (stanzas1.length:Int)),(15,zI x3)]) (fun b=>[]) (fun cut => ?_) ?_
    ·
     refine cut (zaG (zyG ?_))
     obtain ⟨x4,hq1,h⟩:=zbx h
     obtain ⟨eh1,eq1⟩:=zic hzstanzas1 hq1
     have hrd:Rd _ _ [zfe zaD 1 vvstanzas1 kstanzas1 Zstanzas1,zgI zb7 Zstanzas1,zoF zjl 1 eh1 x4]:=hrd.openEl (i:=1) (z:=(x4,eh1)) rfl (Vw.get hwstanzas1 eq1)
     obtain ⟨vv1,k1,L1,hV1,hrd⟩:=hrd.openSl (i:=2) rfl
     replace hrd:Rd _ _ [zfe zaD 1 vvstanzas1 kstanzas1 Zstanzas1,zgI zb7 Zstanzas1,zoF zjl 1 eh1 x4,zfe zjl 1 vv1 k1 L1]:=hrd
     refine zbj hwstanzas1 eq1 Tryz.underlying112 zhV rfl dc rfl rfl rfl (zdU (n:=kstanzas1+(x3:Int).toNat) (j:=0) (i:=0) (q:=(x4,eh1)) hrd rfl (by omega) zjX rfl dc rfl (Vw.get hwstanzas1 eq1) rfl rfl (zyR 1 rfl (zyN (zaH (zyG (zyR 1 rfl (zdA hV1 rfl dc rfl Tryz.underlying70 (zaW rfl za1 (zyN ?_)))))))))
     refine zyB rfl h (fun h => ?_) (fun h => ?_)
     ·
      refine zyG (zyR 2 rfl (zyN (zaA (zai (zal (zai (zai (zal (zai (zck zaP zaO 106 ?_))))))))))
      cases h
      exact zaF (rs:=[.tmp 4,.tmp 5]) (.pointer none) (.inl rfl) Tryz.results55 (.cons (.tmp rfl) (.cons (.tmp rfl) .nil)) rfl (zad [0] kr rfl)
     refine zau (zaI (zyG (zyR 1 rfl (zdA hV1 rfl dc rfl Tryz.underlying70 (zyR 1 rfl (zyN (zaG ?_)))))))
     refine zbt (β:=Nat×Int) (fun b=>zaM (fun _=>none) (zdT j2 x4) b.1 b.2=some r) (fun b=>[]) (fun b=>[(0,.string title1),(1,vstanzas1.v),(13,vstanzas1.v),(14,zI (stanzas1.length:Int)),(15,zI x3),(22,eh1.v),(23,zI (x4.length:Int)),(24,zI b.2)]) (fun b=>[]) (fun b=>b.1) (zb4,0) h rfl (zba rfl) Splits.nil ?_
     rintro ⟨n2,x7⟩ h
     cases n2 with
     | zero=>exact zdG h
     | succ n2 =>
      obtain ⟨ag2,hag2⟩:∃ ag,ag=zaM (fun _=>none) (zdT j2 x4) n2:=⟨_,rfl⟩
      have h:zdT j2 x4 ag2 x7=some r:=by rw [hag2]; exact h
      unfold zdT at h
      refine zyG (zaW rfl zbA (zyN (zaH ?_)))
      refine zyB rfl h (fun h => ?_) (fun h => ?_)
      ·
       refine zau (zaI (zaH (zaG (zyG ?_))))
       obtain ⟨q1,hq2,h⟩:=zbx h
       refine zbj hV1 hq2 Tryz.underlying70 zrz rfl dc rfl rfl rfl (zdU (n:=k1+(x7:Int).toNat) (j:=0) (i:=3) (q:=q1) hrd rfl (by omega) zjc rfl dc rfl (Vw.get hV1 hq2) rfl rfl (zyR 1 rfl (zyH (zyR 1 rfl (zbc (v:=.bool (zpL q1 1024)) (vs:=[.string q1,zI 1024]) rfl dc rfl rfl rfl zu4 (zuS q1 1024 dc) (zdJ rfl dc rfl zcA (zyR 1 rfl ?_)))))))
       refine zyS (s:=31) rfl h (fun h => ?_) (fun h => ?_)
       ·
        refine zyR 3 rfl (zyN (zbd rfl (zyG (zyR 2 rfl (zyN (zaA (zal ?_)))))))
        refine zai (zai (zal (zal (zai (zai (zal (zai (zck zaP zaO 106 ?_))))))))
        cases h
        exact zaF (rs:=[.tmp 4,.tmp 5]) (.pointer none) (.inl rfl) Tryz.results55 (.cons (.tmp rfl) (.cons (.tmp rfl) .nil)) rfl (zad [0] kr rfl)
       refine zyR 1 rfl ?_
       obtain ⟨r1,hq3,h⟩:=zbx h
       refine zbc (v:=.bool r1) (vs:=[.string q1]) rfl dc rfl rfl rfl zvc (zh4 hq3) (zyR 1 rfl (zyN ?_))
       refine zyB rfl h (fun h => ?_) (fun h => ?_)
       ·
        refine zyG (zyR 2 rfl (zyN (zaA (zal (zai (zai (zal (zal (zai (zai ?_))))))))))
        refine zal (zai (zck zaP zaO 106 ?_))
        cases h
        exact zaF (rs:=[.tmp 4,.tmp 5]) (.pointer none) (.inl rfl) Tryz.results55 (.cons (.tmp rfl) (.cons (.tmp rfl) .nil)) rfl (zad [0] kr rfl)
       refine zau (zah (zaI (zaB ?_)))
       obtain ⟨hg1,h⟩:=zbw h
       refine zaW rfl (zaV (r:=x7+1) (IntWalk.i64_in _ hg1)) (zyR 1 rfl (zaX ?_))
       subst hag2
       exact za4 (n2,x7+1) h (Nat.lt_succ_self _) rfl (zba rfl) Splits.nil
      refine za9 (zap (zap (zaz (zah ?_))))
      exact zaq () h rfl (zba rfl) Splits.nil
    rintro _ h
    rw [hj2] at h
    refine zaB ?_
    obtain ⟨hg2,h⟩:=zbw h
    refine zaW rfl (zaV (r:=x3+1) (IntWalk.i64_in _ hg2)) (zyR 1 rfl (zaX ?_))
    subst hag1
    exact za4 (n1,x3+1) h (Nat.lt_succ_self _) rfl (zba rfl) Splits.nil
   refine za9 (zap (zap (zaz ?_)))
   exact zaq () h rfl (zba rfl) Splits.nil
 rintro _ h
 rw [hj1] at h
 refine zyG (zyR 2 rfl ?_)
 obtain ⟨r2,hq4,h⟩:=zbx h
 refine zfa (vs:=[.string title1,vstanzas1.v]) hrd rfl dc rfl rfl rfl zwq (zmX (vstanzas1:=vstanzas1) hwstanzas1 hzstanzas1 hq4) Splits.nil (.ro 0 rfl (.ro 1 rfl .nil)) ?_
 rintro v1
 refine zcu (L':=[zho zaP zaO 106 v1 r2.1]) (zad [0] kr rfl) (zaJ rfl dc rfl rfl (zaJ rfl dc rfl rfl (zyR 2 rfl (zyN (zaA ?_)))))
 cases h
 exact zaF (rs:=[.tmp 4,.tmp 5]) v1 (.inl rfl) Tryz.results55 (.cons (.tmp rfl) (.cons (.tmp rfl) .nil)) rfl (zad [0] kr rfl)
def zcU (p1:Gpoem_Poem):Option ByteArray :=
zak (zdm p1 0 (p1.told_lines.length:Int)) fun (r1:(List (List ByteArray))) =>
zak (zda p1.told_title r1) fun (r2:ByteArray) =>
some r2
theorem ze2 {bp1:Nat} {p1:Gpoem_Poem} {p1_h0 p1_h1:Hd} {r:ByteArray} (h:zcU p1=some r):FnR Tryz.prog 25 [zP bp1] [cells bp1 [.string p1.told_title,p1_h0.v,p1_h1.v,.string p1.source] 106,zv2 p1_h0.v p1.told_lines,zv3 p1_h1.v p1.told_stanzas] [] (fun _:Unit=>(.string r)) (fun _=>[]):=by
 unfold zcU at h
 refine FnR.intro Tryz.func25 rfl Tryz.ntmps25 (by simp) ?_
 intro w0 K hrd
 refine zyG (zyR 1 rfl (zyN (zaH (zyG (zyR 1 rfl (zaW rfl (zcn Tryz.underlying58) (zyN (zaT rfl (zau ?_)))))))))
 refine zaI (zaH ?_)
 obtain ⟨r1,hq1,h⟩:=zbx h
 obtain ⟨r2,hq2,h⟩:=zbx h
 refine zmz (β:=Hd) 13 12 _ [(0,5,zP bp1),(1,6,zP bp1),(2,7,zP bp1),(3,8,zP bp1),(4,9,.string p1.told_title),(5,10,zP bp1),(6,11,zP bp1),(7,12,zP bp1),(8,13,zP bp1),(9,14,.pointer (some ⟨bp1,1,none⟩)),(10,15,p1_h0.v),(11,16,zI (p1.told_lines.length:Int))] (fun hd1=>[(17,hd1.v)]) (fun hd1=>[zfp zaD zaC 70 1 hd1.v r1]) mixed kr kr rfl dc dc (by rfl) kr kr (zyE 1 0 rfl (zas ?_ (zas ?_ (zas ?_ (zas ?_ (zyE 2 5 rfl (zas ?_ (zas ?_ (zas ?_ (zas ?_ (zas ?_ (zer DrawPreX.nil)))))))))))) (fun hd1=>(zyE 1 0 rfl (zas ?_ (zas ?_ (zas ?_ (zas ?_ (zyE 2 5 rfl (zas ?_ (zas ?_ (zas ?_ (zas ?_ (zas ?_ (zer DrawPreX.nil))))))))))))) ?_ ?_
 · exact fun D n d c u i=>zar rfl dc (zaa (m:=0) u rfl (d 0 dc)) (zaf 1 u i rfl)
 · exact fun D n d c u i=>zac zcz rfl dc (zaa (m:=1) u rfl (d 1 dc)) (show _=0 from rfl) (zaf 2 u i rfl)
 · exact fun D n d c u i=>zac zfY rfl dc (zaa (m:=2) u rfl (d 2 dc)) (show _=0 from rfl) (zaf 3 u i rfl)
 · exact fun D n d c u i=>za3 (i:=0) hrd rfl zjc rfl dc (zaa (m:=3) u rfl (d 3 dc)) rfl (zaf 4 u i rfl)
 · exact fun D n d c u i=>zar rfl dc (zaa (m:=6) u rfl (d 6 dc)) (zaf 7 u i rfl)
 · exact fun D n d c u i=>zac zcz rfl dc (zaa (m:=7) u rfl (d 7 dc)) (show _=0 from rfl) (zaf 8 u i rfl)
 · exact fun D n d c u i=>zac zeE rfl dc (zaa (m:=8) u rfl (d 8 dc)) (show _=1 from rfl) (zaf 9 u i rfl)
 · exact fun D n d c u i=>za3 (i:=0) hrd rfl zjZ rfl dc (zaa (m:=9) u rfl (d 9 dc)) rfl (zaf 10 u i rfl)
 · exact fun D n d c u i=>zdA (hrd.vw (i:=1) rfl) rfl dc (zaa (m:=10) u rfl (d 10 dc)) Tryz.underlying26 (zaf 11 u i rfl)
 · exact fun D n d c u i=>zar rfl dc (zaa (m:=0) u rfl (d 0 dc)) (zaf 1 u i rfl)
 · exact fun D n d c u i=>zac zcz rfl dc (zaa (m:=1) u rfl (d 1 dc)) (show _=0 from rfl) (zaf 2 u i rfl)
 · exact fun D n d c u i=>zac zfY rfl dc (zaa (m:=2) u rfl (d 2 dc)) (show _=0 from rfl) (zaf 3 u i rfl)
 · exact fun D n d c u i=>za3 (i:=0) hrd rfl zjc rfl dc (zaa (m:=3) u rfl (d 3 dc)) rfl (zaf 4 u i rfl)
 · exact fun D n d c u i=>zar rfl dc (zaa (m:=6) u rfl (d 6 dc)) (zaf 7 u i rfl)
 · exact fun D n d c u i=>zac zcz rfl dc (zaa (m:=7) u rfl (d 7 dc)) (show _=0 from rfl) (zaf 8 u i rfl)
 · exact fun D n d c u i=>zac zeE rfl dc (zaa (m:=8) u rfl (d 8 dc)) (show _=1 from rfl) (zaf 9 u i rfl)
 · exact fun D n d c u i=>za3 (i:=0) hrd rfl zjZ rfl dc (zaa (m:=9) u rfl (d 9 dc)) rfl (zaf 10 u i rfl)
 · exact fun D n d c u i=>zdA (hrd.vw (i:=1) rfl) rfl dc (zaa (m:=10) u rfl (d 10 dc)) Tryz.underlying26 (zaf 11 u i rfl)
 ·
  intro D hn hd hcl
  refine zfa (vs:=[zP bp1,zI 0,zI (p1.told_lines.length:Int)]) hrd rfl dc rfl (evL.cons (zaa (m:=5) kr rfl (hd 5 dc)) (evL.cons rfl (evL.cons (zaa (m:=11) kr rfl (hd 11 dc)) evL.nil))) rfl zwB (ziK (bp1:=bp1) (p1:=p1) (p1_h0:=p1_h0) (p1_h1:=p1_h1) hq1) Splits.nil (.ro 0 rfl (.ro 1 rfl (.ro 2 rfl .nil))) ?_
  rintro v1
  refine zpI (k:=0) rfl (fun hd1 he1 => ?_)
  subst he1
  exact fun a w ha hw=>⟨hd1,zru (by rfl) _ _ _ ha,hw⟩
 intro hd1
 refine zbZ (v:=.string r2) (vs:=[.string p1.told_title,hd1.v]) hrd rfl dc rfl rfl rfl zu8 (zlM (nest:=zaC) (e:=70) (v:=hd1.v) (xs:=r1) (RD1:=[]) (RD2:=[]) zbf zhw (fun zs_c0 hz_c0 hV_c0=>(zgX (vstanzas1:=hd1) hV_c0 hz_c0 hq2))) (.own (zad [0] (by kernel_rfl) rfl) (fun _ _ h=>sepL.one1.1 h) .nil) ?_
 refine zyR 1 rfl (zyN (zaA ?_))
 cases h
 exact zaF (rs:=[.tmp 2]) () (.inl rfl) Tryz.results25 (.cons (.tmp rfl) .nil) rfl Splits.nil
end Go.Proofs.YtbempdelckaccaaGreatDoor

namespace Go.Proofs.YtbempdelckaccaaGreatDoor
open Go.RowKit Go.Lib
set_option linter.unusedVariables false
set_option linter.unusedSimpArgs false
theorem zhI (a b:List UInt8):mkB a++mkB b=mkB (a++b):=by
 have h:∀ a b:ByteArray,a.data.toList=b.data.toList→a=b:=fun a b h=>by
  have:mkB a.data.toList=mkB b.data.toList:=by rw [h]
  exact this
 apply h
 rw [ByteArray.data_append,Array.toList_append]
 rfl
abbrev Row:=List (List UInt8)
def lnT (r:Row):List UInt8:=r.flatMap (· ++ [10])
def zqd (a:List UInt8):List UInt8:=if a=[] then a else a++[10]
def zke (t:List UInt8):List Row→Bool
 | (x::_)::_=>decide (t≠[])||zlT x
 | _=>decide (t≠[])
def znf (t:List UInt8) (z:List Row):List UInt8:=if zke t z then 35::32::t++[10] else []
def prF (a:List UInt8) (z:List Row):List UInt8:=z.foldl (fun a r=>zqd a++lnT r) a
def prT (t:List UInt8) (z:List Row):List UInt8:=prF (znf t z) z
def wtR (r:Row):Nat:=(r.map fun x=>x.length+1).sum
def wtZ (z:List Row):Nat:=(z.map fun r=>1+wtR r).sum
theorem zhf (x:List UInt8) (r:Row):wtR (x::r)=x.length+1+wtR r:=by unfold wtR; rw [List.map_cons,List.sum_cons]
theorem zjB (r:Row) (z:List Row):wtZ (r::z)=1+wtR r+wtZ z:=by unfold wtZ; rw [List.map_cons,List.sum_cons]
theorem zhh (x:List UInt8) (r:Row):lnT (x::r)=x++[10]++lnT r:=List.flatMap_cons
theorem zty (r:Row):(lnT r).length=wtR r:=by
 induction r with
 | nil=>rfl
 | cons x r ih=>rw [zhh,zhf,List.length_append,List.length_append,ih]; rfl
theorem znJ (r:Row):r.length≤wtR r:=by
 induction r with
 | nil=>exact Nat.le_refl _
 | cons x r ih=>rw [zhf,List.length_cons]; omega
theorem znI (z:List Row):z.length≤wtZ z:=by
 induction z with
 | nil=>exact Nat.le_refl _
 | cons r z ih=>rw [zjB,List.length_cons]; omega
theorem zrO (a:List UInt8):(zqd a).length≤a.length+1:=by
 unfold zqd; split
 ·omega
 ·rw [List.length_append]; simp
theorem zqM (t:List UInt8) (z:List Row):(znf t z).length≤t.length+3:=by
 unfold znf; split
 ·simp
 ·simp
theorem zpm (r:Row) (J:ByteArray→Option ByteArray) (a0:List UInt8) (hb:a0.length+wtR r≤140737488354000):∀ (n i:Nat) (a:List UInt8),i≤r.length→r.length - i<n→a.length+wtR (r.drop i)≤140737488354000 →
  zaM (fun _ _=>none) (zc0 J (r.map mkB)) n (mkB a) (i:Int)=J (mkB (a++lnT (r.drop i))):=by
 intro n
 induction n with
 | zero=>intro i a h1 h2; omega
 | succ n ih =>
  intro i a hi hn ha
  rw [zcf]
  obtain ⟨ag,hag⟩:∃ ag,ag=zaM (fun _ _=>none) (zc0 J (r.map mkB)) n:=⟨_,rfl⟩
  rw [← hag] at ih ⊢
  unfold zc0
  have hrl:=znJ r
  rcases Nat.lt_or_ge i r.length with h | h
  ·have hd:r.drop i=r[i]::r.drop (i+1):=List.drop_eq_getElem_cons h
   rw [hd,zhf] at ha
   have hg:zcN (r.map mkB) (i:Int)=some (mkB r[i]):=zcJ (by rw [List.getElem?_map,List.getElem?_eq_getElem h]; rfl)
   refine zay (decide_eq_true (by rw [List.length_map]; omega)) (zaN hg ?_)
   rw [show (⟨#[10]⟩:ByteArray)=mkB [10] from rfl,zhI,zhI]
   refine zbM (by rw [za6,za6]; simp only [List.length_singleton]; omega) (zbM (by rw [za6,za6,List.length_append]; simp only [List.length_singleton]; omega) (zbM ⟨by omega,by omega⟩ ?_))
   rw [show (i:Int)+1=((i+1:Nat):Int) by omega,ih (i+1) _ (by omega) (by omega) (by rw [List.length_append,List.length_append]; simp only [List.length_singleton]; omega),hd,zhh]
   simp only [List.append_assoc]
  ·rw [List.drop_eq_nil_of_le h]
   refine zaw (decide_eq_false (by rw [List.length_map]; omega)) ?_
   show J (mkB a)=J (mkB (a++[]))
   rw [List.append_nil]
theorem znU (z:List Row) (hz:z.length≤140737488354000) (J:ByteArray→Option ByteArray):∀ (n i:Nat) (a:List UInt8),i≤z.length→z.length - i<n→a.length+wtZ (z.drop i)≤140737488354000 →
  zaM (fun _ _=>none) (zch (mkZ z) J) n (mkB a) (i:Int)=J (mkB (prF a (z.drop i))):=by
 intro n
 induction n with
 | zero=>intro i a h1 h2; omega
 | succ n ih =>
  intro i a hi hn ha
  rw [zcf]
  obtain ⟨ag,hag⟩:∃ ag,ag=zaM (fun _ _=>none) (zch (mkZ z) J) n:=⟨_,rfl⟩
  rw [← hag] at ih ⊢
  unfold zch
  rcases Nat.lt_or_ge i z.length with h | h
  ·have hd:z.drop i=z[i]::z.drop (i+1):=List.drop_eq_getElem_cons h
   have hdl:=znI (z.drop i)
   rw [List.length_drop] at hdl
   rw [hd,zjB] at ha
   have hg:zcN (mkZ z) (i:Int)=some (z[i].map mkB):=zcJ (by unfold mkZ; rw [List.getElem?_map,List.getElem?_eq_getElem h]; rfl)
   have hsl:=zrO a
   refine zay (decide_eq_true (by rw [zec]; omega)) (zbF (zaN hg (zbF ?_)))
   have hin:=zpm z[i] (fun (b8:ByteArray)=>grd (I64 ((i:Int)+1))<|ag b8 ((i:Int)+1)) (zqd a) (by omega) zb4 0 (zqd a) (Nat.zero_le _) (by have:=znJ z[i]; unfold zb4; omega) (by rw [List.drop_zero]; omega)
   have fin:(grd (I64 ((i:Int)+1))<|ag (mkB (zqd a++lnT z[i])) ((i:Int)+1))=J (mkB (prF a (z.drop i))):=by
    rw [hd]
    refine zbM ⟨by omega,by omega⟩ ?_
    rw [show (i:Int)+1=((i+1:Nat):Int) by omega,ih (i+1) _ (by omega) (by omega) (by rw [List.length_append,zty]; omega)]
    rfl
   by_cases ha0:a=[]
   ·subst ha0
    refine zaw (decide_eq_false (by rw [za6]; simp)) ?_
    refine hin.trans ?_
    rw [List.drop_zero]; exact fin
   ·have hpos:0<a.length:=List.length_pos_iff.2 ha0
    refine zay (decide_eq_true (by rw [za6]; omega)) (zbM (by rw [za6]; show a.length+1≤_; omega) ?_)
    have e:zqd a=a++[10]:=if_neg ha0
    rw [show (⟨#[10]⟩:ByteArray)=mkB [10] from rfl,zhI,← e]
    refine hin.trans ?_
    rw [List.drop_zero]; exact fin
  ·rw [List.drop_eq_nil_of_le h]
   exact zaw (decide_eq_false (by rw [zec]; omega)) rfl
theorem zmW (t:List UInt8) (z:List Row) (hne:∀ r∈z,r≠[]) (hw:t.length+3+wtZ z≤140737488354000):zda (mkB t) (mkZ z)=some (mkB (prT t z)):=by
 have hzl:=znI z
 unfold zda
 refine zbF ?_
 have tail:∀ b:List UInt8,b=znf t z→(zbr (fun (j2:ByteArray→Option ByteArray)=>zaM (fun _ _=>none) (zch (mkZ z) j2) zb4 (mkB b) 0) (fun (b4:ByteArray)=>some b4))=some (mkB (prT t z)):=fun b hb=>by
  have hl:=zqM t z
  have:=znU z (by omega) (fun (b4:ByteArray)=>some b4) zb4 0 b (Nat.zero_le _) (by unfold zb4; omega) (by rw [List.drop_zero,hb]; omega)
  rw [List.drop_zero] at this
  refine zbF (this.trans ?_)
  rw [hb]; rfl
 have hd:(grd ((⟨#[35,32]⟩:ByteArray).size+(mkB t).size≤9223372036854775807)<|grd (((⟨#[35,32]⟩:ByteArray)++mkB t).size+(⟨#[10]⟩:ByteArray).size≤9223372036854775807) <|
   grd ((⟨#[]⟩:ByteArray).size+(((⟨#[35,32]⟩:ByteArray)++mkB t)++(⟨#[10]⟩:ByteArray)).size≤140737488355328) <|
   (zbr (fun (j2:ByteArray→Option ByteArray)=>zaM (fun _ _=>none) (zch (mkZ z) j2) zb4 ((⟨#[]⟩:ByteArray)++(((⟨#[35,32]⟩:ByteArray)++mkB t)++(⟨#[10]⟩:ByteArray))) 0) (fun (b4:ByteArray)=>some b4))) =
    (zbr (fun (j2:ByteArray→Option ByteArray)=>zaM (fun _ _=>none) (zch (mkZ z) j2) zb4 (mkB (35::32::t++[10])) 0) (fun (b4:ByteArray)=>some b4)):=by
  rw [show (⟨#[35,32]⟩:ByteArray)=mkB [35,32] from rfl,show (⟨#[10]⟩:ByteArray)=mkB [10] from rfl,show (⟨#[]⟩:ByteArray)=mkB [] from rfl,zhI,zhI,zhI]
  refine zbM ?_ (zbM ?_ (zbM ?_ rfl))
  ·rw [za6,za6]; simp only [List.length_cons,List.length_nil]; omega
  ·rw [za6,za6,List.length_append]; simp only [List.length_cons,List.length_nil]; omega
  ·rw [za6,za6,List.length_append,List.length_append]; simp only [List.length_cons,List.length_nil]; omega
 by_cases ht:t=[]
 ·subst ht
  refine zaw (by rw [show (⟨#[]⟩:ByteArray)=mkB [] from rfl]; simp) ?_
  cases z with
  | nil=>exact zaw (decide_eq_false (by simp [mkZ])) (tail [] rfl)
  | cons r z =>
   have hr:=hne r (by simp)
   obtain ⟨x,r',rfl⟩:=List.exists_cons_of_ne_nil hr
   refine zay (decide_eq_true (by rw [zec,List.length_cons]; omega)) (zaN (a:=(x::r').map mkB) rfl (zaN (a:=mkB x) rfl (zaN (zot x) ?_)))
   cases hti:zlT x with
   | true =>
    refine zay rfl (hd.trans (tail _ ?_))
    have:zke [] ((x::r')::z)=true:=by show (decide (([]:List UInt8)≠[])||zlT x)=true; rw [hti]; rfl
    unfold znf; rw [this]; rfl
   | false =>
    refine zaw rfl (tail [] ?_)
    have:zke [] ((x::r')::z)=false:=by show (decide (([]:List UInt8)≠[])||zlT x)=false; rw [hti]; rfl
    unfold znf; rw [this]; rfl
 ·refine zay (by rw [show (⟨#[]⟩:ByteArray)=mkB [] from rfl,decide_eq_false (fun e=>ht (zhH e))]; rfl) (hd.trans (tail _ ?_))
  unfold znf
  have:zke t z=true:=by
   unfold zke
   split <;> simp [ht]
  rw [this]; rfl
end Go.Proofs.YtbempdelckaccaaGreatDoor

namespace Go.Proofs.YtbempdelckaccaaGreatDoor
open Go.RowKit Go.Lib
set_option linter.unusedVariables false
set_option linter.unusedSimpArgs false
theorem zeA (r:Row) (z:List Row):tot (r::z)=r.length+tot z:=by unfold tot; rw [List.map_cons,List.sum_cons]
theorem zsG:∀ (z:List Row),tot z≤wtZ z
 | []=>Nat.le_refl _
 | r::z=>by have:=zsG z; have:=znJ r; rw [zeA,zjB]; omega
theorem zos:∀ (z:List Row) (i:Nat) (r:Row),z[i]?=some r→tot (z.take (i+1))=tot (z.take i)+r.length
 | [],i,r,h=>by simp at h
 | y::z,0,r,h=>by
  have:y=r:=by simpa using h
  subst this
  rw [List.take_succ_cons,List.take_zero,List.take_zero,zeA]; show y.length+0=0+y.length; omega
 | y::z,i+1,r,h=>by
  rw [List.take_succ_cons,List.take_succ_cons,zeA,zeA,zos z i r (by simpa using h)]; omega
theorem zjP:∀ (z:List Row) (i:Nat),tot (z.take i)≤tot z
 | [],i=>by simp
 | y::z,0=>by simp [tot]
 | y::z,i+1=>by rw [List.take_succ_cons,zeA,zeA]; have:=zjP z i; omega
theorem zpB {R:Type} {F:(Int→Int→Option R)→Int→Int→Option R} (z:List Row) (hz:tot z≤140737488354000) (hzl:z.length≤140737488354000) (J:Int→Option R)
  (hs:∀ ag (n i:Int) r,zcN (mkZ z) i=some r→(i:Int)<(z.length:Int)→I64 (n+(r.length:Int))→I64 (i+1)→F ag n i=ag (n+(r.length:Int)) (i+1)) (he:∀ ag n,F ag n (z.length:Int)=J n) :
  ∀ (n i:Nat),i≤z.length→z.length - i<n→zaM (fun _ _=>none) F n (tot (z.take i):Int) (i:Int)=J (tot z:Int):=by
 intro n
 induction n with
 | zero=>intro i h1 h2; omega
 | succ n ih =>
  intro i hi hn
  rw [zcf]
  rcases Nat.lt_or_ge i z.length with h | h
  ·have hg:zcN (mkZ z) (i:Int)=some (z[i].map mkB):=zcJ (by unfold mkZ; rw [List.getElem?_map,List.getElem?_eq_getElem h]; rfl)
   have h1:=zos z i z[i] (List.getElem?_eq_getElem h)
   have h2:=zjP z (i+1)
   rw [hs _ _ _ _ hg (by omega) (by rw [List.length_map]; exact ⟨by omega,by omega⟩) ⟨by omega,by omega⟩,List.length_map]
   rw [show (tot (z.take i):Int)+(z[i].length:Int)=(tot (z.take (i+1)):Int) by omega,show (i:Int)+1=((i+1:Nat):Int) by omega]
   exact ih (i+1) (by omega) (by omega)
  ·obtain rfl:i=z.length:=by omega
   rw [he,List.take_length]
theorem zsS (t:List UInt8) (z:List Row) (hne:∀ r∈z,r≠[]) (hw:t.length+3+wtZ z≤140737488354000):zdD (mkB t) (mkZ z) =
  if 512<tot z∨65536<(prT t z).length then some (none,3) else (zcT (mkB (prT t z))).bind fun r=>some (r.1,0):=by
 unfold zdD
 have h1:=zsG z
 have h2:=znI z
 have key:=zpB (F:=zdS (mkZ z) (fun (n1:Int)=>zak (zda (mkB t) (mkZ z)) fun (r1:ByteArray)=>zax (decide ((512:Int)<n1)) (some (none,3)) (zax (decide ((65536:Int)<(r1.size:Int))) (some (none,3)) (zak (zcT r1) fun (r2:((Option Gpoem_Poem)×Gapi_Spot))=>some (r2.1,0))))) z (by omega) (by omega)
  (fun (n1:Int)=>zak (zda (mkB t) (mkZ z)) fun (r1:ByteArray)=>zax (decide ((512:Int)<n1)) (some (none,3)) (zax (decide ((65536:Int)<(r1.size:Int))) (some (none,3)) (zak (zcT r1) fun (r2:((Option Gpoem_Poem)×Gapi_Spot))=>some (r2.1,0))))
  (fun ag n i r hg hi h1 h2=>by
   unfold zdS
   exact zay (decide_eq_true (by rw [zec]; exact hi)) (zaN hg (zbM h1 (zbM h2 rfl))))
  (fun ag n=>by
   unfold zdS
   exact zaw (decide_eq_false (by rw [zec]; omega)) rfl) zb4 0 (Nat.zero_le _) (by unfold zb4; omega)
 refine zbF (key.trans ?_)
 refine zaN (zmW t z hne hw) ?_
 by_cases h512:512<tot z
 ·rw [if_pos (.inl h512)]; exact zay (decide_eq_true (by omega)) rfl
 ·refine zaw (decide_eq_false (by omega)) ?_
  by_cases hl:65536<(prT t z).length
  ·rw [if_pos (.inr hl)]; exact zay (decide_eq_true (by rw [za6]; omega)) rfl
  ·rw [if_neg (by omega)]
   exact zaw (decide_eq_false (by rw [za6]; omega)) rfl
end Go.Proofs.YtbempdelckaccaaGreatDoor

namespace Go.Proofs.YtbempdelckaccaaGreatDoor
open Go.RowKit Go.Lib
set_option linter.unusedVariables false
set_option linter.unusedSimpArgs false
def noE (x:List UInt8):Prop:=∀ b∈x,isE b=false
structure GLn (x:List UInt8):Prop where
 bl:zgt x=false
 le:x.length≤1024
 ne:noE x
def zfu:Nat→Row→List (Nat×List UInt8)
 | _,[]=>[]
 | i,x::r=>(i,x)::zfu (i+1) r
def zee:Nat→List Row→List (Nat×Nat×List UInt8)
 | _,[]=>[]
 | k,r::z=>(zfu 0 r).map (fun p=>(k,p))++zee (k+1) z
def zki (v:Gapi_Verse):ByteArray×Int×Int×Int:=(v.Text,v.Indent,v.Stanza,v.In)
def ziP (p:Nat×Nat×List UInt8):ByteArray×Int×Int×Int:=(mkB (p.2.2.drop (ind p.2.2)),(ind p.2.2:Int),(p.1:Int),(p.2.1:Int))
def VOk (vs:List Gapi_Verse) (z:List Row):Prop:=vs.map zki=(zee 0 z).map ziP
theorem znl (x:List UInt8):∀ (r:Row) (i:Nat),zfu i (r++[x])=zfu i r++[(i+r.length,x)]
 | [],i=>rfl
 | y::r,i=>by
  show (i,y)::zfu (i+1) (r++[x])=_
  rw [znl x r (i+1),List.length_cons,show i+1+r.length=i+(r.length+1) by omega]; rfl
theorem zie:∀ (a b:List Row) (k:Nat),zee k (a++b)=zee k a++zee (k+a.length) b
 | [],b,k=>rfl
 | r::a,b,k=>by
  show _++zee (k+1) (a++b)=_
  rw [zie a b (k+1),List.length_cons,show k+1+a.length=k+(a.length+1) by omega,← List.append_assoc]; rfl
theorem zkr (r:Row) (k:Nat):zee k [r]=(zfu 0 r).map (fun p=>(k,p)):=List.append_nil _
structure PInv (st:RS):Prop extends RInv st where
 vok:VOk st.vs st.stz
 tE:noE st.t
 tL:st.t.length≤1022
 ln:∀ r∈st.stz,∀ x∈r,GLn x
 fr:∀ v∈st.vs,0≤v.Span_From
theorem zpy (st:RS):zee 0 (zcM st)=zee 0 st.stz:=by
 unfold zcM
 split
 ·rfl
 ·rw [zie,zkr]; exact List.append_nil _
theorem PInv.step {st st':RS} {x:Nat×List UInt8} (h:PInv st) (hx:noE x.2) (hs:zes st x=.ok st'):PInv st':=by
 refine ⟨h.toRInv.step hs,?_,?_,?_,?_,?_⟩ <;> unfold zes at hs
 all_goals
  split at hs
  ·cases hs; first | exact h.vok | exact h.tE | exact h.tL | exact h.ln | exact h.fr
  split at hs
  ·cases hs
  split at hs
 ·cases hs; exact h.vok
 ·split at hs
  ·cases hs
  ·cases hs
   obtain ⟨init,r,he,hl,hdl,htot,hsp⟩:=zme h.toRInv
   show (st.vs++[zgN x.1 x.2 (zcM st)]).map zki=(zee 0 ((zcM st).dropLast++[zft (zcM st)++[x.2]])).map ziP
   rw [hdl,hl,zie,zkr,znl,List.map_append,List.map_append,List.map_append,List.map_append,← List.append_assoc]
   have h2:zee 0 st.stz=zee 0 init++(zfu 0 r).map (fun p=>(init.length,p)):=by
    rw [← zpy,he,zie,zkr,Nat.zero_add]
   have h3:=h.vok
   unfold VOk at h3
   rw [h3,h2,List.map_append,Nat.zero_add]
   congr 1
   unfold zgN zki
   rw [hl,he]
   simp [ziP]
 ·rename_i ht
  cases hs
  intro b hb
  exact hx b (List.mem_of_mem_drop hb)
 ·split at hs
  ·cases hs
  ·cases hs; exact h.tE
 ·rename_i hl ht
  cases hs
  show (x.2.drop 2).length≤1022
  rw [List.length_drop]; omega
 ·split at hs
  ·cases hs
  ·cases hs; exact h.tL
 ·cases hs; exact h.ln
 ·rename_i hb hl ht
  split at hs
  ·cases hs
  ·cases hs
   obtain ⟨init,r,he,hl2,hdl,htot,hsp⟩:=zme h.toRInv
   intro r' hr' y hy
   have hold:∀ r∈zcM st,∀ x∈r,GLn x:=fun r hr x hx=>by
    unfold zcM at hr
    split at hr
    ·exact h.ln r hr x hx
    ·rcases List.mem_append.1 hr with hr | hr
     ·exact h.ln r hr x hx
     ·rw [List.mem_singleton] at hr; subst hr; cases hx
   have hr2:r'∈(zcM st).dropLast++[zft (zcM st)++[x.2]]:=hr'
   rw [hdl,hl2] at hr2
   rcases List.mem_append.1 hr2 with hr2 | hr2
   ·exact hold r' (by rw [he]; exact List.mem_append_left _ hr2) y hy
   ·rw [List.mem_singleton] at hr2
    subst hr2
    rcases List.mem_append.1 hy with hy | hy
    ·exact hold r (by rw [he]; simp) y hy
    ·rw [List.mem_singleton] at hy
     subst hy
     exact ⟨by simpa using hb,by omega,hx⟩
 ·cases hs; exact h.fr
 ·split at hs
  ·cases hs
  ·cases hs
   intro v hv
   rcases List.mem_append.1 (show v∈st.vs++[zgN x.1 x.2 (zcM st)] from hv) with hv | hv
   ·exact h.fr v hv
   ·rw [List.mem_singleton] at hv; subst hv
    show (0:Int)≤(x.1:Int)+(ind x.2:Int)
    omega
theorem zwd:PInv rs0:=⟨znQ,rfl,(fun b hb=>by cases hb),Nat.zero_le _,(fun r hr=>by cases hr),(fun v hv=>by cases hv)⟩
theorem PInv.fold:∀ {xs:List (Nat×List UInt8)} {st st':RS},PInv st→(∀ x∈xs,noE x.2)→zdq st xs=.ok st'→PInv st'
 | [],st,st',h,hx,hs=>by cases hs; exact h
 | x::xs,st,st',h,hx,hs=>by
  unfold zdq at hs
  cases he:zes st x with
  | ok s1=>rw [he] at hs; exact PInv.fold (h.step (hx x (by simp)) he) (fun y hy=>hx y (by simp [hy])) hs
  | error e=>rw [he] at hs; cases hs
theorem zqJ (T:List UInt8):∀ x∈zge T,noE x.2:=by
 intro x hx
 obtain ⟨y,hy,rfl⟩:=List.mem_map.1 hx
 exact (zlY T y hy).2.2
theorem zuP {T:List UInt8} {st:RS} (h:rd T=.ok st):PInv st∧T.length≤65536:=by
 unfold rd at h
 split at h
 ·cases h
 ·exact ⟨PInv.fold zwd (zqJ T) h,by omega⟩
def plL:Bool→List Row→Row
 | _,[]=>[]
 | a,r::z=>(if a then [[]] else [])++r++plL true z
def zpv (t:List UInt8) (z:List Row):Row:=if zke t z then [35::32::t] else []
theorem zn0 (a b:Row):lnT (a++b)=lnT a++lnT b:=List.flatMap_append
theorem zuV {r:Row} (h:r≠[]):lnT r≠[]:=by
 obtain ⟨x,r,rfl⟩:=List.exists_cons_of_ne_nil h
 rw [zhh]; simp
theorem zsQ:∀ (z:List Row) (a:List UInt8),(∀ r∈z,r≠[])→prF a z=a++lnT (plL (decide (a≠[])) z)
 | [],a,h=>(List.append_nil _).symm
 | r::z,a,h=>by
  show prF (zqd a++lnT r) z=_
  have hne:zqd a++lnT r≠[]:=by
   intro e
   exact zuV (h r (by simp)) (List.append_eq_nil_iff.1 e).2
  rw [zsQ z _ (fun y hy=>h y (by simp [hy])),decide_eq_true hne]
  show _=a++lnT ((if decide (a≠[])=true then [[]] else [])++r++plL true z)
  rw [zn0,zn0]
  by_cases ha:a=[]
  ·subst ha
   simp [zqd,lnT]
  ·have e:zqd a=a++[10]:=if_neg ha
   rw [decide_eq_true ha,if_pos rfl,e]
   show a++[10]++lnT r++_=a++([10]++lnT r++_)
   simp only [List.append_assoc]
def prL (t:List UInt8) (z:List Row):Row:=zpv t z++plL (zke t z) z
theorem zqr (t:List UInt8) (z:List Row) (h:∀ r∈z,r≠[]):prT t z=lnT (prL t z):=by
 unfold prT prL zpv znf
 rw [zsQ z _ h,zn0]
 cases zke t z with
 | true =>
  have e1:((if true=true then (35::32::t++[10]) else []):List UInt8)=35::32::t++[10]:=rfl
  have e2:decide ((35::32::t++[10]:List UInt8)≠[])=true:=decide_eq_true (by simp)
  rw [e1,e2]
  show _=lnT [35::32::t]++_
  rw [zhh]
  show _=35::32::t++[10]++[]++_
  rw [List.append_nil]
 | false=>rfl
def itL:Nat→Row→List (Nat×List UInt8)
 | _,[]=>[]
 | f,x::r=>(f,x)::itL (f+x.length+1) r
theorem zmf:∀ (a b:Row) (f:Nat),itL f (a++b)=itL f a++itL (f+wtR a) b
 | [],b,f=>rfl
 | x::a,b,f=>by
  show _::itL (f+x.length+1) (a++b)=_
  rw [zmf a b,zhf,show f+x.length+1+wtR a=f+(x.length+1+wtR a) by omega]; rfl
def zwb:Nat→Row→List (Nat×Nat)
 | f,[]=>[(f,f)]
 | f,x::r=>(f,f+x.length)::zwb (f+x.length+1) r
theorem zp5:∀ (x t:List UInt8) (f a:Nat),noE x→spP false f a (x++t)=spP false f (a+x.length) t
 | [],t,f,a,h=>rfl
 | b::x,t,f,a,h=>by
  have hb:=h b (by simp)
  have h13:b≠13:=fun e=>by rw [e] at hb; cases hb
  have h10:b≠10:=fun e=>by rw [e] at hb; cases hb
  rw [List.cons_append,spP,if_neg h13,if_neg h10,zp5 x t f (a+1) (fun y hy=>h y (by simp [hy])),List.length_cons,show a+1+x.length=a+(x.length+1) by omega]
theorem zmJ:∀ (r:Row) (f:Nat),(∀ x∈r,noE x)→spP false f f (lnT r)=zwb f r
 | [],f,h=>rfl
 | x::r,f,h=>by
  rw [zhh,List.append_assoc,zp5 x _ f f (h x (by simp))]
  show spP false f (f+x.length) (10::lnT r)=_
  rw [spP,if_neg (by decide),if_pos rfl,zmJ r _ (fun y hy=>h y (by simp [hy]))]
  rfl
theorem zkj:∀ (r:Row) (pre:List UInt8) (f:Nat),pre.length=f→(zwb f r).map (fun x=>(x.1,((pre++lnT r).drop x.1).take (x.2 - x.1)))=itL f r++[(f+wtR r,[])]
 | [],pre,f,h=>by
  show [(f,_)]=[(f+0,[])]
  rw [Nat.sub_self,List.take_zero]; rfl
 | x::r,pre,f,h=>by
  show (f,_)::_=(f,x)::_
  have h2:=zkj r (pre++(x++[10])) (f+x.length+1) (by rw [List.length_append,List.length_append]; simp; omega)
  rw [zhh]
  congr 1
  ·congr 1
   rw [← h,List.drop_left,show pre.length+x.length - pre.length=x.length by omega,List.append_assoc,List.take_left]
  ·rw [List.append_assoc] at h2
   rw [h2,zhf,show f+x.length+1+wtR r=f+(x.length+1+wtR r) by omega]
   rfl
theorem zsa (r:Row) (h:∀ x∈r,noE x):zge (lnT r)=itL 0 r++[(wtR r,[])]:=by
 unfold zge zcQ
 rw [zmJ r 0 h]
 have:=zkj r [] 0 rfl
 rw [Nat.zero_add] at this
 exact this
theorem zgW:∀ (xs ys:List (Nat×List UInt8)) (st st':RS),zdq st xs=.ok st'→zdq st (xs++ys)=zdq st' ys
 | [],ys,st,st',h=>by cases h; rfl
 | x::xs,ys,st,st',h=>by
  unfold zdq at h
  rw [List.cons_append]
  conv=>lhs; unfold zdq
  cases he:zes st x with
  | ok s1=>rw [he] at h; exact zgW xs ys s1 st' h
  | error e=>rw [he] at h; cases h
theorem zlm {st:RS} {f:Nat} {x:List UInt8} (hx:GLn x) (ht:¬ (st.first=true∧zlT x=true)) (hl:st.vs.length<512):zes st (f,x)=.ok (zkJ st f x):=by
 unfold zes
 rw [if_neg (by rw [hx.bl]; decide),if_neg (by have:=hx.le; show ¬ 1024<x.length; omega),if_neg ht,if_neg (by omega)]
theorem zoN:∀ (r:Row) (st:RS) (f:Nat) (init:List Row) (cur:Row),(∀ x∈r,GLn x)→st.row=true→st.first=false→st.stz=init++[cur]→st.vs.length+r.length≤512 →
  ∃ st',zdq st (itL f r)=.ok st'∧st'.t=st.t∧st'.stz=init++[cur++r]∧st'.row=true∧st'.first=false∧st'.vs.length=st.vs.length+r.length
 | [],st,f,init,cur,hg,hr,hf,hz,hl=>⟨st,rfl,rfl,by rw [hz,List.append_nil],hr,hf,rfl⟩
 | x::r,st,f,init,cur,hg,hr,hf,hz,hl=>by
  rw [List.length_cons] at hl
  have hs:zes st (f,x)=.ok (zkJ st f x):=zlm (hg x (by simp)) (by rw [hf]; simp) (by omega)
  have ho:zcM st=init++[cur]:=by unfold zcM; rw [hr,if_pos rfl,hz]
  have hz':(zkJ st f x).stz=init++[cur++[x]]:=by
   show (zcM st).dropLast++[zft (zcM st)++[x]]=_
   rw [ho,List.dropLast_concat]
   congr 2
   unfold zft; rw [List.getLastD_concat]
  obtain ⟨st',h1,h2,h3,h4,h5,h6⟩:=zoN r (zkJ st f x) (f+x.length+1) init (cur++[x]) (fun y hy=>hg y (by simp [hy])) rfl rfl hz' (by show (st.vs++[_]).length+r.length≤512; rw [List.length_append,List.length_singleton]; omega)
  refine ⟨st',?_,h2,by rw [h3,List.append_assoc]; rfl,h4,h5,?_⟩
  ·show zdq st ((f,x)::itL (f+x.length+1) r)=_
   unfold zdq
   rw [hs]; exact h1
  ·rw [h6]
   show (st.vs++[_]).length+_=_
   rw [List.length_append,List.length_singleton,List.length_cons]; omega
theorem zsj (r:Row) (st:RS) (f:Nat) (hg:∀ x∈r,GLn x) (hne:r≠[]) (hr:st.row=false) (hf:st.first=true→∀ x,r.head?=some x→zlT x=false) (hl:st.vs.length+r.length≤512) :
  ∃ st',zdq st (itL f r)=.ok st'∧st'.t=st.t∧st'.stz=st.stz++[r]∧st'.row=true∧st'.first=false∧st'.vs.length=st.vs.length+r.length:=by
 obtain ⟨x,r,rfl⟩:=List.exists_cons_of_ne_nil hne
 rw [List.length_cons] at hl
 have hs:zes st (f,x)=.ok (zkJ st f x):=zlm (hg x (by simp)) (fun ⟨a,b⟩=>by rw [hf a x rfl] at b; cases b) (by omega)
 have ho:zcM st=st.stz++[[]]:=by unfold zcM; rw [hr,if_neg (by decide)]
 have hz':(zkJ st f x).stz=st.stz++[[x]]:=by
  show (zcM st).dropLast++[zft (zcM st)++[x]]=_
  rw [ho,List.dropLast_concat]
  congr 2
  unfold zft; rw [List.getLastD_concat]; rfl
 obtain ⟨st',h1,h2,h3,h4,h5,h6⟩:=zoN r (zkJ st f x) (f+x.length+1) st.stz [x] (fun y hy=>hg y (by simp [hy])) rfl rfl hz' (by show (st.vs++[_]).length+r.length≤512; rw [List.length_append,List.length_singleton]; omega)
 refine ⟨st',?_,h2,h3,h4,h5,?_⟩
 ·show zdq st ((f,x)::itL (f+x.length+1) r)=_
  unfold zdq
  rw [hs]; exact h1
 ·rw [h6]
  show (st.vs++[_]).length+_=_
  rw [List.length_append,List.length_singleton,List.length_cons]; omega
theorem zqS:∀ (z:List Row) (a:Bool) (st:RS) (f:Nat),(∀ r∈z,r≠[])→(∀ r∈z,∀ x∈r,GLn x)→(a=false→st.row=false)→(st.first=true→∀ r x,z.head?=some r→r.head?=some x→zlT x=false)→st.vs.length+tot z≤512 →
  ∃ st',zdq st (itL f (plL a z))=.ok st'∧st'.t=st.t∧st'.stz=st.stz++z∧st'.vs.length=st.vs.length+tot z
 | [],a,st,f,hne,hg,hr,hf,hl=>⟨st,rfl,rfl,by rw [List.append_nil],rfl⟩
 | r::z,a,st,f,hne,hg,hr,hf,hl=>by
  rw [zeA] at hl
  have hb:∃ st1 f1,zdq st (itL f (if a then [[]] else []))=.ok st1∧f1=f+wtR (if a then [[]] else [])∧st1.row=false∧st1.t=st.t∧st1.stz=st.stz∧st1.vs=st.vs∧st1.first=st.first:=by
   cases a with
   | false=>exact ⟨st,_,rfl,rfl,hr rfl,rfl,rfl,rfl,rfl⟩
   | true=>exact ⟨{ st with row:=false },_,rfl,rfl,rfl,rfl,rfl,rfl,rfl⟩
  obtain ⟨st1,f1,e1,rfl,hr1,ht1,hz1,hv1,hf1⟩:=hb
  obtain ⟨st2,e2,ht2,hz2,hr2,hf2,hl2⟩:=zsj r st1 (f+wtR (if a then [[]] else [])) (hg r (by simp)) (hne r (by simp)) hr1 (fun h x hx=>hf (by rw [← hf1]; exact h) r x rfl hx) (by rw [hv1]; omega)
  obtain ⟨st3,e3,ht3,hz3,hl3⟩:=zqS z true st2 (f+wtR ((if a then [[]] else [])++r)) (fun y hy=>hne y (by simp [hy])) (fun y hy=>hg y (by simp [hy])) (fun h=>by cases h) (fun h=>by rw [hf2] at h; cases h) (by rw [hl2,hv1]; omega)
  refine ⟨st3,?_,by rw [ht3,ht2,ht1],by rw [hz3,hz2,hz1,List.append_assoc]; rfl,by rw [hl3,hl2,hv1,zeA]; omega⟩
  show zdq st (itL f ((if a then [[]] else [])++r++plL true z))=_
  rw [zmf,zmf,List.append_assoc,zgW _ _ _ _ e1,zgW _ _ _ _ e2]
  exact e3
structure GoodP (t:List UInt8) (z:List Row):Prop where
 tE:noE t
 tL:t.length≤1022
 ne:∀ r∈z,r≠[]
 ln:∀ r∈z,∀ x∈r,GLn x
theorem PInv.good {st:RS} (h:PInv st):GoodP st.t st.stz:=⟨h.tE,h.tL,h.ne,h.ln⟩
theorem zqs:∀ (z:List Row) (a:Bool),(∀ r∈z,∀ x∈r,GLn x)→∀ x∈plL a z,noE x
 | [],a,h,x,hx=>by cases hx
 | r::z,a,h,x,hx=>by
  have hx2:x∈(if a then [[]] else [])++r++plL true z:=hx
  rcases List.mem_append.1 hx2 with hx2 | hx2
  ·rcases List.mem_append.1 hx2 with hx2 | hx2
   ·cases a with
    | false=>cases hx2
    | true=>rw [if_pos rfl,List.mem_singleton] at hx2; subst hx2; intro b hb; cases hb
   ·exact (h r (by simp) x hx2).ne
  ·exact zqs z true (fun y hy=>h y (by simp [hy])) x hx2
theorem zrT {t:List UInt8} {z:List Row} (h:GoodP t z) (hn:tot z≤512) (hl:(prT t z).length≤65536):∃ st,rd (prT t z)=.ok st∧st.t=t∧st.stz=z:=by
 have htE:noE (35::32::t):=by
  intro b hb
  rcases List.mem_cons.1 hb with rfl | hb
  ·rfl
  ·rcases List.mem_cons.1 hb with rfl | hb
   ·rfl
   ·exact h.tE b hb
 have hno:∀ x∈prL t z,noE x:=by
  intro x hx
  rcases List.mem_append.1 hx with hx | hx
  ·unfold zpv at hx
   split at hx
   ·rw [List.mem_singleton] at hx; subst hx; exact htE
   ·cases hx
  ·exact zqs z _ h.ln x hx
 unfold rd
 rw [if_neg (by omega),zqr t z h.ne,zsa _ hno]
 have hh:∃ st1,zdq rs0 (itL 0 (zpv t z))=.ok st1∧st1.row=false∧st1.t=t∧st1.stz=[]∧st1.vs=[]∧(st1.first=true→∀ r x,z.head?=some r→r.head?=some x→zlT x=false):=by
  unfold zpv
  cases hn:zke t z with
  | true =>
   refine ⟨⟨t,[],[],false,false⟩,?_,rfl,rfl,rfl,rfl,fun h=>by cases h⟩
   rw [if_pos rfl]
   show zdq rs0 [(0,35::32::t)]=_
   unfold zdq
   have:zes rs0 (0,35::32::t)=.ok ⟨t,[],[],false,false⟩:=by
    unfold zes
    have hb:zgt (35::32::t)=false:=rfl
    have hti:zlT (35::32::t)=true:=rfl
    rw [if_neg (by rw [hb]; decide),if_neg (by have:=h.tL; show ¬ 1024<(35::32::t).length; rw [List.length_cons,List.length_cons]; omega),if_pos ⟨rfl,hti⟩]
    rfl
   rw [this]; rfl
  | false =>
   have ht:t=[]:=by
    unfold zke at hn
    split at hn
    ·rw [Bool.or_eq_false_iff] at hn; simpa using hn.1
    ·simpa using hn
   refine ⟨rs0,rfl,rfl,ht.symm,rfl,rfl,fun _ r x hr hx => ?_⟩
   cases z with
   | nil=>cases hr
   | cons r' z =>
    have e:r'=r:=Option.some.inj hr
    subst e
    cases r' with
    | nil=>cases hx
    | cons x' r' =>
     have e:x'=x:=Option.some.inj hx
     subst e
     have:(decide (t≠[])||zlT x')=false:=hn
     rw [Bool.or_eq_false_iff] at this
     exact this.2
 obtain ⟨st1,e1,hr1,ht1,hz1,hv1,hf1⟩:=hh
 obtain ⟨st2,e2,ht2,hz2,hl2⟩:=zqS z (zke t z) st1 (0+wtR (zpv t z)) h.ne h.ln (fun _=>hr1) hf1 (by rw [hv1]; show 0+_≤_; omega)
 refine ⟨{ st2 with row:=false },?_,ht2.trans ht1,by show st2.stz=z; rw [hz2,hz1]; rfl⟩
 unfold prL
 rw [zmf,List.append_assoc,zgW _ _ _ _ e1,zgW _ _ _ _ e2]
 rfl
end Go.Proofs.YtbempdelckaccaaGreatDoor

namespace Go.Proofs.YtbempdelckaccaaGreatDoor
open Go.RowKit Go.Lib
set_option linter.unusedVariables false
set_option linter.unusedSimpArgs false
theorem zj7 (n:Nat):Lib.repeatL [32] n=List.replicate n 32:=by
 induction n with
 | zero=>rfl
 | succ n ih=>rw [Lib.repeatL,ih,List.replicate_succ]; rfl
theorem zg0:∀ x:List UInt8,List.replicate (ind x) 32++x.drop (ind x)=x
 | []=>rfl
 | b::x=>by
  rw [zib]
  by_cases h:b=32
  ·rw [if_pos h,List.replicate_succ,List.drop_succ_cons,List.cons_append,zg0 x,h]
  ·rw [if_neg h]; rfl
theorem zoJ (x:List UInt8):zbR (ind x:Int)++mkB (x.drop (ind x))=mkB x:=by
 unfold zbR
 rw [Int.toNat_natCast,zj7]
 have:(⟨(List.replicate (ind x) (32:UInt8)).toArray⟩:ByteArray)=mkB (List.replicate (ind x) 32):=rfl
 rw [this,zhI,zg0]
def zk8:Nat→List Gapi_Verse→List (Int×Gapi_Verse)
 | _,[]=>[]
 | i,v::vs=>((i:Int),v)::zk8 (i+1) vs
theorem zqu (p:Gpoem_Poem) (h:p.told_lines.length≤4611686018427387904):zc4 p=some (zk8 0 p.told_lines):=by
 unfold zc4
 have key:∀ (n i:Nat),i≤p.told_lines.length→p.told_lines.length - i<n→zaM (fun _=>none) (zci p) n (i:Int)=some (zk8 i (p.told_lines.drop i)):=by
  intro n
  induction n with
  | zero=>intro i h1 h2; omega
  | succ n ih =>
   intro i hi hn
   rw [zcf]
   obtain ⟨ag,hag⟩:∃ ag,ag=zaM (fun _=>none) (zci p) n:=⟨_,rfl⟩
   rw [← hag] at ih ⊢
   unfold zci
   rcases Nat.lt_or_ge i p.told_lines.length with hl | hl
   ·have hd:=List.drop_eq_getElem_cons hl
    refine zay (decide_eq_true (by omega)) (zaN (zcJ (List.getElem?_eq_getElem hl)) ?_)
    have h1:(grd (I64 ((i:Int)+1))<|ag ((i:Int)+1))=some (zk8 (i+1) (p.told_lines.drop (i+1))):=zbM ⟨by omega,by omega⟩ (by rw [show (i:Int)+1=((i+1:Nat):Int) by omega]; exact ih (i+1) (by omega) (by omega))
    rw [h1,hd]; rfl
   ·rw [List.drop_eq_nil_of_le hl]
    exact zaw (decide_eq_false (by omega)) rfl
 have:=key zb4 0 (Nat.zero_le _) (by unfold zb4; omega)
 rw [List.drop_zero] at this
 exact this
abbrev LnE:=Nat×Nat×List UInt8
def zfq (from_ to_:Nat):Nat→List LnE→List Row×Int→List Row×Int
 | _,[],a=>a
 | i,p::L,a =>
  if i<from_∨to_≤i then zfq from_ to_ (i+1) L a
  else if (p.1:Int)≠a.2 then zfq from_ to_ (i+1) L (a.1++[[p.2.2]],(p.1:Int))
  else zfq from_ to_ (i+1) L (a.1.dropLast++[zft a.1++[p.2.2]],a.2)
theorem zqj (from_ to_:Nat) (d:(List (List ByteArray))→Int→Option (List (List ByteArray))):∀ (L:List LnE) (vs:List Gapi_Verse) (i:Nat) (out:List Row) (s:Int),vs.map zki=L.map ziP→(∀ p∈L,p.2.2.length≤1024)→i+L.length≤1000000 →
  out.length≤i→(∀ r∈out,r.length≤i)→(s≠-1→out≠[])→zdh d (zcC from_ to_) (zk8 i vs) (mkZ out) s=d (mkZ (zfq from_ to_ i L (out,s)).1) (zfq from_ to_ i L (out,s)).2
 | [],vs,i,out,s,hk,hx,hi,ho,hr,hs=>by
  have:vs=[]:=by cases vs with | nil=>rfl | cons v vs=>cases hk
  subst this; rfl
 | p::L,vs,i,out,s,hk,hx,hi,ho,hr,hs=>by
  cases vs with
  | nil=>cases hk
  | cons v vs =>
   rw [List.map_cons,List.map_cons] at hk
   obtain ⟨hv,hk⟩:=List.cons.inj hk
   rw [List.length_cons] at hi
   have hv1:v.Text=mkB (p.2.2.drop (ind p.2.2)):=congrArg (fun q=>q.1) hv
   have hv2:v.Indent=(ind p.2.2:Int):=congrArg (fun q=>q.2.1) hv
   have hv3:v.Stanza=(p.1:Int):=congrArg (fun q=>q.2.2.1) hv
   have hxl:=hx p (by simp)
   have hil:=zoL p.2.2
   show zdh d _ (((i:Int),v)::zk8 (i+1) vs) _ _=_
   rw [zgo]
   have ih:=fun out s h1 h2 h3=>zqj from_ to_ d L vs (i+1) out s hk (fun q hq=>hx q (by simp [hq])) (by omega) h1 h2 h3
   obtain ⟨ag,hag⟩:∃ ag,ag=zdh d (zcC from_ to_) (zk8 (i+1) vs):=⟨_,rfl⟩
   rw [← hag] at ih ⊢
   unfold zcC zfq
   by_cases h1:i<from_
   ·rw [if_pos (.inl h1)]
    exact zay (decide_eq_true (by show (i:Int)<_; omega)) (ih out s (by omega) (fun r h=>by have:=hr r h; omega) hs)
   ·refine zaw (decide_eq_false (by show ¬ (i:Int)<_; omega)) ?_
    by_cases h2:to_≤i
    ·rw [if_pos (.inr h2)]
     exact zay (decide_eq_true (by show _≤(i:Int); omega)) (ih out s (by omega) (fun r h=>by have:=hr r h; omega) hs)
    ·rw [if_neg (by omega)]
     refine zaw (decide_eq_false (by show ¬ _≤(i:Int); omega)) (zbF ?_)
     have tail:∀ (z:List Row) (s':Int),z≠[]→z.length≤i+1→(∀ r∈z,r.length≤i)→s'≠-1→(grd (I64 (((mkZ z).length:Int) - 1)) <|
       zak (zcN (mkZ z) (((mkZ z).length:Int) - 1)) fun (x2:List ByteArray) =>
       grd (0≤v.Indent∧v.Indent≤140737488355328) <|
       grd ((zbR v.Indent).size+v.Text.size≤9223372036854775807) <|
       grd (x2.length+1≤2147483648) <|
       ag ((mkZ z).set (((mkZ z).length:Int) - 1:Int).toNat (x2++[(zbR v.Indent)++v.Text])) s')=d (mkZ (zfq from_ to_ (i+1) L (z.dropLast++[zft z++[p.2.2]],s')).1) (zfq from_ to_ (i+1) L (z.dropLast++[zft z++[p.2.2]],s')).2:=fun z s' hz hzl hzr hs'=>by
      obtain ⟨w,r,rfl⟩:∃ w r,z=w++[r]:=⟨_,_,zkk hz⟩
      have hl9:zft (w++[r])=r:=by unfold zft; rw [List.getLastD_concat]
      rw [List.dropLast_concat,hl9]
      rw [List.length_append,List.length_singleton] at hzl
      have hlen:(mkZ (w++[r])).length=w.length+1:=by rw [zec,List.length_append,List.length_singleton]
      have hg:zcN (mkZ (w++[r])) (((mkZ (w++[r])).length:Int) - 1)=some (r.map mkB):=by
       refine zfi (n:=w.length) (by rw [hlen]; omega) ?_
       rw [zgZ,List.getElem?_append_right (by rw [zec]; exact Nat.le_refl _),zec,Nat.sub_self]; rfl
      have hll:r.length≤i:=hzr _ (by simp)
      refine zbM ⟨by omega,by rw [hlen]; omega⟩ (zaN hg (zbM ⟨by rw [hv2]; omega,by rw [hv2]; omega⟩ ?_))
      rw [hv1,hv2,zoJ]
      have hsz:(zbR (ind p.2.2:Int)).size+(mkB (p.2.2.drop (ind p.2.2))).size≤9223372036854775807:=by
       have:(zbR (ind p.2.2:Int)++mkB (p.2.2.drop (ind p.2.2))).size=(mkB p.2.2).size:=by rw [zoJ]
       rw [ByteArray.size_append,za6 p.2.2] at this
       omega
      refine zbM hsz (zbM (by rw [List.length_map]; omega) ?_)
      have es:(mkZ (w++[r])).set (((mkZ (w++[r])).length:Int) - 1:Int).toNat (r.map mkB++[mkB p.2.2])=mkZ (w++[r++[p.2.2]]):=by
       rw [show (((mkZ (w++[r])).length:Int) - 1:Int).toNat=(mkZ w).length by rw [hlen,zec]; omega,zgZ]
       show ((mkZ w++[r.map mkB]).set _ _)=_
       rw [zhY,zgZ]
       show _=_++[(r++[p.2.2]).map mkB]
       rw [List.map_append]; rfl
      rw [es]
      refine ih _ s' (by rw [List.length_append,List.length_singleton]; omega) (fun r' h => ?_) (fun _=>by simp)
      rcases List.mem_append.1 h with h | h
      ·have:=hzr r' (by simp [h]); omega
      ·rw [List.mem_singleton] at h; subst h; rw [List.length_append,List.length_singleton]; omega
     by_cases h3:(p.1:Int)=s
     ·rw [if_neg (by simpa using h3)]
      refine zaw (by rw [hv3,h3]; exact bne_self_eq_false _) ?_
      refine tail out s (hs (by omega)) (by omega) (fun r h=>by have:=hr r h; omega) (by omega)
     ·rw [if_pos h3]
      refine zay (by rw [hv3]; exact bne_iff_ne.2 h3) (zbM (by rw [zec]; omega) ?_)
      have h5:=tail (out++[[]]) (p.1:Int) (by simp) (by rw [List.length_append,List.length_singleton]; omega) (fun r h=>by
       rcases List.mem_append.1 h with h | h
       ·exact hr r h
       ·rw [List.mem_singleton] at h; subst h; exact Nat.zero_le _) (by omega)
      have h6:zft (out++[[]])=[]:=by unfold zft; rw [List.getLastD_concat]
      rw [List.dropLast_concat,h6,zgZ] at h5
      refine Eq.trans ?_ h5
      rw [hv3]; rfl
def zpM (from_ to_:Nat):Nat→Row→Row
 | _,[]=>[]
 | at_,x::r=>if from_≤at_∧at_<to_ then x::zpM from_ to_ (at_+1) r else zpM from_ to_ (at_+1) r
def zue (from_ to_:Nat):Nat→List Row→List Row
 | _,[]=>[]
 | at_,r::z=>(if zpM from_ to_ at_ r=[] then [] else [zpM from_ to_ at_ r])++zue from_ to_ (at_+r.length) z
theorem znk:∀ (r:Row) (j:Nat),(zfu j r).length=r.length
 | [],j=>rfl
 | x::r,j=>by show (zfu (j+1) r).length+1=_; rw [znk r]; rfl
theorem zks:∀ (z:List Row) (k:Nat),(zee k z).length=tot z
 | [],k=>rfl
 | r::z,k=>by
  show ((zfu 0 r).map _++zee (k+1) z).length=_
  rw [List.length_append,List.length_map,znk,zks z,zeA]
theorem zl8 (from_ to_ k:Nat) (out:List Row):∀ (r:Row) (j at_:Nat) (acc:Row) (L:List LnE),zfq from_ to_ at_ ((zfu j r).map (fun p=>(k,p))++L) (out++[acc],(k:Int))=zfq from_ to_ (at_+r.length) L (out++[acc++zpM from_ to_ at_ r],(k:Int))
 | [],j,at_,acc,L=>by
  show zfq from_ to_ at_ L _=zfq from_ to_ at_ L (out++[acc++[]],_)
  rw [List.append_nil]
 | x::r,j,at_,acc,L=>by
  show zfq from_ to_ at_ ((k,j,x)::((zfu (j+1) r).map (fun p=>(k,p))++L)) _=_
  rw [zfq,zpM,List.length_cons,show at_+(r.length+1)=at_+1+r.length by omega]
  by_cases h:from_≤at_∧at_<to_
  ·rw [if_neg (by omega),if_neg (by simp),if_pos h]
   show zfq from_ to_ (at_+1) _ ((out++[acc]).dropLast++[zft (out++[acc])++[x]],(k:Int))=_
   have h6:zft (out++[acc])=acc:=by unfold zft; rw [List.getLastD_concat]
   rw [List.dropLast_concat,h6,zl8 from_ to_ k out r (j+1) (at_+1) (acc++[x]) L,List.append_assoc]; rfl
  ·rw [if_pos (by omega),if_neg h,zl8 from_ to_ k out r (j+1) (at_+1) acc L]
theorem zmQ (from_ to_ k:Nat) (out:List Row) (s:Int) (hs:s≠(k:Int)):∀ (r:Row) (j at_:Nat) (L:List LnE),zfq from_ to_ at_ ((zfu j r).map (fun p=>(k,p))++L) (out,s) =
  if zpM from_ to_ at_ r=[] then zfq from_ to_ (at_+r.length) L (out,s) else zfq from_ to_ (at_+r.length) L (out++[zpM from_ to_ at_ r],(k:Int))
 | [],j,at_,L=>by rw [show zpM from_ to_ at_ []=[] from rfl,if_pos rfl]; rfl
 | x::r,j,at_,L=>by
  show zfq from_ to_ at_ ((k,j,x)::((zfu (j+1) r).map (fun p=>(k,p))++L)) _=_
  rw [zfq,zpM,List.length_cons,show at_+(r.length+1)=at_+1+r.length by omega]
  by_cases h:from_≤at_∧at_<to_
  ·rw [if_neg (by omega),if_pos (by show (k:Int)≠s; omega),if_pos h,if_neg (by simp)]
   exact zl8 from_ to_ k out r (j+1) (at_+1) [x] L
  ·rw [if_pos (by omega),if_neg h,zmQ from_ to_ k out s hs r (j+1) (at_+1) L]
theorem zgV (from_ to_:Nat):∀ (z:List Row) (k at_:Nat) (out:List Row) (s:Int),s<(k:Int)→(zfq from_ to_ at_ (zee k z) (out,s)).1=out++zue from_ to_ at_ z
 | [],k,at_,out,s,hs=>(List.append_nil _).symm
 | r::z,k,at_,out,s,hs=>by
  show (zfq from_ to_ at_ ((zfu 0 r).map (fun p=>(k,p))++zee (k+1) z) (out,s)).1=_
  rw [zmQ from_ to_ k out s (by omega),zue]
  split
  ·rw [zgV from_ to_ z (k+1) _ out s (by omega)]; rfl
  ·rw [zgV from_ to_ z (k+1) _ _ (k:Int) (by omega),List.append_assoc]
theorem znr (to_:Nat):∀ (r:Row) (at_:Nat),at_+r.length≤to_→zpM 0 to_ at_ r=r
 | [],at_,h=>rfl
 | x::r,at_,h=>by
  rw [List.length_cons] at h
  rw [zpM,if_pos ⟨Nat.zero_le _,by omega⟩,znr to_ r (at_+1) (by omega)]
theorem ziv (to_:Nat):∀ (z:List Row) (at_:Nat),(∀ r∈z,r≠[])→at_+tot z≤to_→zue 0 to_ at_ z=z
 | [],at_,hne,h=>rfl
 | r::z,at_,hne,h=>by
  rw [zeA] at h
  rw [zue,znr to_ r at_ (by omega),if_neg (hne r (by simp)),ziv to_ z (at_+r.length) (fun y hy=>hne y (by simp [hy])) (by omega)]
  rfl
structure OkP (p:Gpoem_Poem) (t:List UInt8) (z:List Row):Prop extends GoodP t z where
 title:p.told_title=mkB t
 vok:VOk p.told_lines z
 sp:p.told_stanzas=ziF 0 z
 most:tot z≤512
theorem OkP.len {p:Gpoem_Poem} {t:List UInt8} {z:List Row} (h:OkP p t z):p.told_lines.length=tot z:=by
 have:=congrArg List.length h.vok
 rw [List.length_map,List.length_map,zks] at this
 exact this
theorem PInv.ok {st:RS} (h:PInv st) (src:ByteArray):OkP (⟨mkB st.t,st.vs,ziF 0 st.stz,src⟩:Gpoem_Poem) st.t st.stz:=⟨h.good,rfl,h.vok,rfl,by have:=h.tot; have:=h.most; omega⟩
theorem zm9:∀ (r:Row) (j:Nat) (p:Nat×List UInt8),p∈zfu j r→p.2∈r
 | [],j,p,h=>by cases h
 | x::r,j,p,h=>by
  rcases List.mem_cons.1 h with rfl | h
  ·simp
  ·exact List.mem_cons_of_mem _ (zm9 r _ p h)
theorem zkf:∀ (z:List Row) (k:Nat) (p:LnE),p∈zee k z→∃ r∈z,p.2.2∈r
 | [],k,p,h=>by cases h
 | r::z,k,p,h=>by
  rcases List.mem_append.1 (show p∈(zfu 0 r).map (fun p=>(k,p))++zee (k+1) z from h) with h | h
  ·obtain ⟨q,hq,rfl⟩:=List.mem_map.1 h
   exact ⟨r,by simp,zm9 r 0 q hq⟩
  ·obtain ⟨r',h1,h2⟩:=zkf z _ p h
   exact ⟨r',by simp [h1],h2⟩
theorem zuN {p:Gpoem_Poem} {t:List UInt8} {z:List Row} (h:OkP p t z) (from_ to_:Nat):zdm p (from_:Int) (to_:Int)=some (mkZ (zue from_ to_ 0 z)):=by
 unfold zdm
 have hm:=h.most
 refine zbF (zaN rfl (zaN (zqu p (by rw [h.len]; omega)) (zbF ?_)))
 have:=zqj from_ to_ (fun (out4:List (List ByteArray)) (stanza3:Int)=>some out4) (zee 0 z) p.told_lines 0 [] (-1) h.vok (fun q hq=>by
  obtain ⟨r,h1,h2⟩:=zkf z 0 q hq
  exact (h.ln r h1 _ h2).le) (by rw [zks]; omega) (Nat.zero_le _) (fun r h=>by cases h) (fun h=>absurd rfl h)
 refine this.trans ?_
 rw [zgV from_ to_ z 0 0 [] (-1) (by omega)]
 rfl
theorem zsE:∀ (r:Row),(∀ x∈r,x.length≤1024)→wtR r≤r.length*1025
 | [],h=>Nat.zero_le _
 | x::r,h=>by
  have h1:=zsE r fun y hy=>h y (by simp [hy])
  have h2:=h x (by simp)
  rw [zhf,List.length_cons]; omega
theorem zoo:∀ (z:List Row),(∀ r∈z,∀ x∈r,x.length≤1024)→wtZ z≤z.length+tot z*1025
 | [],h=>Nat.zero_le _
 | r::z,h=>by
  have h1:=zoo z fun y hy=>h y (by simp [hy])
  have h2:=zsE r (h r (by simp))
  rw [zjB,zeA,List.length_cons]; omega
theorem OkP.wt {p:Gpoem_Poem} {t:List UInt8} {z:List Row} (h:OkP p t z):t.length+3+wtZ z≤1000000:=by
 have h1:=zoo z fun r hr x hx=>(h.ln r hr x hx).le
 have h2:=zlh z h.ne
 have h3:=h.most
 have h4:=h.tL
 omega
theorem OkP.full {p:Gpoem_Poem} {t:List UInt8} {z:List Row} (h:OkP p t z):zdm p 0 (p.told_lines.length:Int)=some (mkZ z):=by
 have:=zuN h 0 p.told_lines.length
 rw [ziv _ z 0 h.ne (by rw [h.len]; omega)] at this
 exact this
theorem OkP.print {p:Gpoem_Poem} {t:List UInt8} {z:List Row} (h:OkP p t z):zcU p=some (mkB (prT t z)):=by
 unfold zcU
 have:=h.wt
 refine zaN h.full (zaN ?_ rfl)
 rw [h.title]
 exact zmW t z h.ne (by omega)
end Go.Proofs.YtbempdelckaccaaGreatDoor

namespace Go.Proofs.YtbempdelckaccaaGreatDoor
open Go.RowKit Go.Lib
set_option linter.unusedVariables false
set_option linter.unusedSimpArgs false
end Go.Proofs.YtbempdelckaccaaGreatDoor

namespace Go.Proofs.YtbempdelckaccaaGreatDoor
open Go.RowKit Go.Lib
set_option linter.unusedVariables false
set_option linter.unusedSimpArgs false
def zc5 (p1:Gpage_parter) (from1:Int) (to1:Int):Option Int :=
grd (I64 (to1 - from1)) <|
grd (I64 (to1 - 1)) <|
zak (zcN p1.blanks (to1 - 1)) fun (q1:Int) =>
grd (I64 ((to1 - from1)+q1)) <|
zak (zcN p1.blanks from1) fun (q2:Int) =>
grd (I64 (((to1 - from1)+q1) - q2)) <|
some (((to1 - from1)+q1) - q2)
theorem zfO {bp1:Nat} {p1:Gpage_parter} {p1_h0 p1_h1 p1_h2 p1_h3:Hd} {from1:Int} {to1:Int} {r:Int} (h:zc5 p1 from1 to1=some r):FnR Tryz.prog 93 [zP bp1,zI from1,zI to1] [cells bp1 [p1_h0.v,p1_h1.v,p1_h2.v,p1_h3.v,zI p1.heights] 131,zv1 p1_h0.v p1.rows,zv0 p1_h1.v p1.blanks,zv0 p1_h2.v p1.firsts,zv0 p1_h3.v p1.lasts] [] (fun _:Unit=>(zI r)) (fun _=>[]):=by
 unfold zc5 at h
 refine FnR.intro Tryz.func93 rfl Tryz.ntmps93 (by simp) ?_
 intro w0 K hrd
 refine zyG (zyR 1 rfl (zyN (zaH ?_)))
 obtain ⟨hg1,h⟩:=zbw h
 obtain ⟨hg2,h⟩:=zbw h
 obtain ⟨q1,hq1,h⟩:=zbx h
 obtain ⟨hg3,h⟩:=zbw h
 obtain ⟨q2,hq2,h⟩:=zbx h
 obtain ⟨hg4,h⟩:=zbw h
 refine zbz 19 [(0,7,zI to1),(1,8,zI from1),(2,9,zI (to1 - from1)),(3,10,zP bp1),(4,11,zP bp1),(5,12,.pointer (some ⟨bp1,1,none⟩)),(6,13,p1_h1.v),(7,14,zI to1),(8,15,zI (to1 - 1)),(9,16,.pointer (some ⟨zdK p1_h1.v,(0+(to1 - 1:Int).toNat)*1,none⟩)),(10,17,zI q1),(11,18,zI ((to1 - from1)+q1)),(12,19,zP bp1),(13,20,zP bp1),(14,21,.pointer (some ⟨bp1,1,none⟩)),(15,22,p1_h1.v),(16,23,zI from1),(17,24,.pointer (some ⟨zdK p1_h1.v,(0+(from1:Int).toNat)*1,none⟩)),(18,25,zI q2)] mixed kr kr dc (by rfl) kr kr (zyP 2 0 rfl (zae ?_ (zyP 1 3 rfl (zae ?_ (zae ?_ (zae ?_ (zyP 1 7 rfl (zae ?_ (zae ?_ (zae ?_ (zae ?_ (zyP 1 12 rfl (zae ?_ (zae ?_ (zae ?_ (zyP 1 16 rfl (zae ?_ (zae ?_ DrawPre.nil)))))))))))))))))) ?_
 · exact fun D n d c u i=>zcc rfl dc (zaa (m:=0) u rfl (d 0 dc)) (zaa (m:=1) u rfl (d 1 dc)) (zcd (r:=to1 - from1) (IntWalk.i64_in _ hg1)) (zaf 2 u i rfl)
 · exact fun D n d c u i=>zar rfl dc (zaa (m:=3) u rfl (d 3 dc)) (zaf 4 u i rfl)
 · exact fun D n d c u i=>zac zjJ rfl dc (zaa (m:=4) u rfl (d 4 dc)) (show _=1 from rfl) (zaf 5 u i rfl)
 · exact fun D n d c u i=>za3 (i:=0) hrd rfl zgF rfl dc (zaa (m:=5) u rfl (d 5 dc)) rfl (zaf 6 u i rfl)
 · exact fun D n d c u i=>zcc rfl dc (zaa (m:=7) u rfl (d 7 dc)) rfl (zcd (r:=to1 - 1) (IntWalk.i64_in _ hg2)) (zaf 8 u i rfl)
 · exact fun D n d c u i=>zbj (hrd.vw (i:=2) rfl) hq1 Tryz.underlying49 zf9 rfl dc (zaa (m:=6) u rfl (d 6 dc)) (zaa (m:=8) u rfl (d 8 dc)) rfl (zaf 9 u i rfl)
 · exact fun D n d c u i=>zcI (n:=0+(to1 - 1:Int).toNat) (j:=0) (i:=2) (q:=q1) hrd rfl zbS zcO rfl dc (zaa (m:=9) u rfl (d 9 dc)) (Vw.get (hrd.vw (i:=2) rfl) hq1) rfl dc rfl (zaf 10 u i rfl)
 · exact fun D n d c u i=>zcc rfl dc (zaa (m:=2) u rfl (d 2 dc)) (zaa (m:=10) u rfl (d 10 dc)) (zaV (r:=(to1 - from1)+q1) (IntWalk.i64_in _ hg3)) (zaf 11 u i rfl)
 · exact fun D n d c u i=>zar rfl dc (zaa (m:=12) u rfl (d 12 dc)) (zaf 13 u i rfl)
 · exact fun D n d c u i=>zac zjJ rfl dc (zaa (m:=13) u rfl (d 13 dc)) (show _=1 from rfl) (zaf 14 u i rfl)
 · exact fun D n d c u i=>za3 (i:=0) hrd rfl zgF rfl dc (zaa (m:=14) u rfl (d 14 dc)) rfl (zaf 15 u i rfl)
 · exact fun D n d c u i=>zbj (hrd.vw (i:=2) rfl) hq2 Tryz.underlying49 zf9 rfl dc (zaa (m:=15) u rfl (d 15 dc)) (zaa (m:=16) u rfl (d 16 dc)) rfl (zaf 17 u i rfl)
 · exact fun D n d c u i=>zcI (n:=0+(from1:Int).toNat) (j:=0) (i:=2) (q:=q2) hrd rfl zbS zcO rfl dc (zaa (m:=17) u rfl (d 17 dc)) (Vw.get (hrd.vw (i:=2) rfl) hq2) rfl dc rfl (zaf 18 u i rfl)
 refine zaW rfl (zcd (r:=((to1 - from1)+q1) - q2) (IntWalk.i64_in _ hg4)) (zyR 1 rfl (zyN (zaA ?_)))
 cases h
 exact zaF (rs:=[.tmp 6]) () (.inl rfl) Tryz.results93 (.cons (.tmp rfl) .nil) rfl Splits.nil
def zdO (p1:Gpage_parter) (k1:Int):Option Int :=
grd (I64 (k1 - 1)) <|
zak (zcN p1.rows (k1 - 1)) fun (q1:Gapi_Row) =>
zak (zcN p1.rows k1) fun (q2:Gapi_Row) =>
zax ((q1.Stanza:Int) != q2.Stanza) (
some 0
) (
zax ((q1.Line:Int)==q2.Line) (
some 100
) (
zak (zcN p1.firsts q1.Stanza) fun (q3:Int) =>
zax ((q1.Line:Int)==q3) (
some 50
) (
zak (zcN p1.lasts q2.Stanza) fun (q4:Int) =>
zax ((q2.Line:Int)==q4) (
some 50
) (
some 10
)
)
)
)
theorem zh9 {bp1:Nat} {p1:Gpage_parter} {p1_h0 p1_h1 p1_h2 p1_h3:Hd} {k1:Int} {r:Int} (h:zdO p1 k1=some r):FnR Tryz.prog 94 [zP bp1,zI k1] [cells bp1 [p1_h0.v,p1_h1.v,p1_h2.v,p1_h3.v,zI p1.heights] 131,zv1 p1_h0.v p1.rows,zv0 p1_h1.v p1.blanks,zv0 p1_h2.v p1.firsts,zv0 p1_h3.v p1.lasts] [] (fun _:Unit=>(zI r)) (fun _=>[]):=by
 unfold zdO at h
 refine FnR.intro Tryz.func94 rfl Tryz.ntmps94 (by simp) ?_
 intro w0 K hrd
 refine zyG (zyR 1 rfl (zyN (zaH ?_)))
 obtain ⟨hg1,h⟩:=zbw h
 obtain ⟨q1,hq1,h⟩:=zbx h
 obtain ⟨q2,hq2,h⟩:=zbx h
 refine zfz 2 ?_
 refine let vals1:(Nat×Nat)→List (Nat×Nat×Value):=fun b=>[(0,7,zP bp1),(1,8,zP bp1),(2,9,zP bp1),(3,10,p1_h0.v),(4,11,zI k1),(5,12,zI (k1 - 1)),(6,13,.pointer (some ⟨zdK p1_h0.v,(0+(k1 - 1:Int).toNat)*6,none⟩)),(7,14,.agg (zr4 q1).toArray),(8,15,zP bp1),(9,16,zP bp1),(10,17,zP bp1),(11,18,p1_h0.v),(12,19,zI k1),(13,20,.pointer (some ⟨zdK p1_h0.v,(0+(k1:Int).toNat)*6,none⟩)),(14,21,.agg (zr4 q2).toArray),(15,5,zP b.1),(16,6,zP b.2)]; let LL1:(Nat→Prop)→(Nat×Nat)→List Asn:=fun D b=>[eD D emp [(17,cells b.1 (zr4 q1) 33),(15,cells b.1 [zI 0,zI 0,zI 0,zI 0,zI 0,.string ByteArray.empty] 33)],eD D emp [(16,cells b.2 [zI 0,zI 0,zI 0,zI 0,zI 0,.string ByteArray.empty] 33)]]; ?_
 have zhq:zyQ [15,16,17] LL1:=fun i h D b=>zab (zja rfl h) (zab (zja rfl h) rfl)
 refine zdB (β:=Nat×Nat) 18 ((0:Nat),(0:Nat)) vals1 LL1 mixed kr kr dc (fun _=>rfl) (zab zbN (zab zbN rfl)) (zlc zhq (fun _=>rfl) (fun _=>rfl) 1 0 (fun _=>rfl) rfl (zyq zhq rfl (fun _=>rfl) (fun _=>rfl) ?_ (zyq zhq rfl (fun _=>rfl) (fun _=>rfl) ?_ (zyq zhq rfl (fun _=>rfl) (fun _=>rfl) ?_ (zlc zhq (fun _=>rfl) (fun _=>rfl) 1 4 (fun _=>rfl) rfl (zyq zhq rfl (fun _=>rfl) (fun _=>rfl) ?_ (zyq zhq rfl (fun _=>rfl) (fun _=>rfl) ?_ (zgj zhq rfl (fun _=>rfl) (fun _=>rfl) ?_ (zlc zhq (fun _=>rfl) (fun _=>rfl) 1 8 (fun _=>rfl) rfl (zyq zhq rfl (fun _=>rfl) (fun _=>rfl) ?_ (zyq zhq rfl (fun _=>rfl) (fun _=>rfl) ?_ (zyq zhq rfl (fun _=>rfl) (fun _=>rfl) ?_ (zlc zhq (fun _=>rfl) (fun _=>rfl) 1 12 (fun _=>rfl) rfl (zyq zhq rfl (fun _=>rfl) (fun _=>rfl) ?_ (zgj zhq rfl (fun _=>rfl) (fun _=>rfl) ?_ (zat ?_ (zat ?_ (zat ?_ DrawG.nil)))))))))))))))))) ?_
 · exact fun D ⟨b1,b2⟩ n d c u i=>zar rfl dc (zaa (m:=0) u rfl (d 0 dc)) (zaf 1 u i rfl)
 · exact fun D ⟨b1,b2⟩ n d c u i=>zac zfX rfl dc (zaa (m:=1) u rfl (d 1 dc)) (show _=0 from rfl) (zaf 2 u i rfl)
 · exact fun D ⟨b1,b2⟩ n d c u i=>za3 (i:=0) hrd rfl zjY rfl dc (zaa (m:=2) u rfl (d 2 dc)) rfl (zaf 3 u i rfl)
 · exact fun D ⟨b1,b2⟩ n d c u i=>zcc rfl dc (zaa (m:=4) u rfl (d 4 dc)) rfl (zcd (r:=k1 - 1) (IntWalk.i64_in _ hg1)) (zaf 5 u i rfl)
 · exact fun D ⟨b1,b2⟩ n d c u i=>zbj (hrd.vw (i:=1) rfl) hq1 Tryz.underlying43 zhW rfl dc (zaa (m:=3) u rfl (d 3 dc)) (zaa (m:=5) u rfl (d 5 dc)) rfl (zaf 6 u i rfl)
 · exact fun D ⟨b1,b2⟩ n d c u i=>⟨_,(zab (zag (fun hD=>n (c 17 _ rfl hD 7 dc)) rfl) rfl),zdz (m:=0+(k1 - 1:Int).toNat) (j:=0) (i:=1) (q:=q1) (cs:=(zr4 q1)) hrd rfl zj0 zbY rfl dc (zaa (m:=6) u rfl (d 6 dc)) (Vw.get (hrd.vw (i:=1) rfl) hq1) rfl rfl rfl (zaf 7 u i rfl)⟩
 · exact fun D ⟨b1,b2⟩ n d c u i=>zar rfl dc (zaa (m:=8) u rfl (d 8 dc)) (zaf 9 u i rfl)
 · exact fun D ⟨b1,b2⟩ n d c u i=>zac zfX rfl dc (zaa (m:=9) u rfl (d 9 dc)) (show _=0 from rfl) (zaf 10 u i rfl)
 · exact fun D ⟨b1,b2⟩ n d c u i=>za3 (i:=0) hrd rfl zjY rfl dc (zaa (m:=10) u rfl (d 10 dc)) rfl (zaf 11 u i rfl)
 · exact fun D ⟨b1,b2⟩ n d c u i=>zbj (hrd.vw (i:=1) rfl) hq2 Tryz.underlying43 zhW rfl dc (zaa (m:=11) u rfl (d 11 dc)) (zaa (m:=12) u rfl (d 12 dc)) rfl (zaf 13 u i rfl)
 · exact fun D ⟨b1,b2⟩ n d c u i=>⟨_,(zek rfl),zdz (m:=0+(k1:Int).toNat) (j:=0) (i:=1) (q:=q2) (cs:=(zr4 q2)) hrd rfl zj0 zbY rfl dc (zaa (m:=13) u rfl (d 13 dc)) (Vw.get (hrd.vw (i:=1) rfl) hq2) rfl rfl rfl (zaf 14 u i rfl)⟩
 ·
  intro D b hn hd hcl
  obtain ⟨zb0,b2⟩:=b
  refine zaK (zab (zag (fun hD=>hn (hcl 17 _ rfl hD 15 dc)) (zag hn zaj)) rfl) ?_
  refine zbg znH rfl dc (fun b1 => ?_)
  refine zcS 0 rfl rfl ?_
  exact zaQ (b:=(zb0,b2)) (b1,b2) 15 (by rfl) (by rfl) rfl (ztb (zdg (zao (fun hD=>absurd hD hn) (zao (fun _=>rfl) rfl)))) (zab (zag (fun h=>h.elim (fun hD=>hn (hcl 17 _ rfl hD 15 dc)) (fun h=>absurd h dc)) (zaE (Or.inr rfl) rfl)) (zab (zam (by rfl)) rfl))
 ·
  intro D b hn hd hcl
  obtain ⟨b1,zb1⟩:=b
  refine zaK (zab (zag (fun hD=>hn (hcl 17 _ rfl hD 16 dc)) rfl) (zab (zag hn zaj) rfl)) ?_
  refine zbg znH rfl dc (fun b2 => ?_)
  refine zcS 1 rfl rfl ?_
  exact zaQ (b:=(b1,zb1)) (b1,b2) 16 (by rfl) (by rfl) rfl (zvS (zdg (zao (fun hD=>absurd hD hn) rfl))) (zab ((zam (by rfl)).trans (zag (fun hD=>hn (hcl 17 _ rfl hD 16 dc)) rfl)) (zab (zaE (Or.inr rfl) rfl) rfl))
 ·
  intro D b hn hd hcl
  obtain ⟨b1,b2⟩:=b
  refine zaK (zab (zag hn (zaE (hd 15 dc) rfl)) (zab (zaE (hd 16 dc) rfl) rfl)) (zaU (k:=0) (vs:=(zr4 q1)) (l':=(zr4 q1)) zhW rfl (zaa (m:=15) rfl rfl (hd 15 dc)) (zaa (m:=7) rfl rfl (hd 7 dc)) rfl rfl (show _≤_ by simp) rfl rfl ?_)
  exact ziB (b:=(b1,b2)) (b1,b2) (by rfl) (zmE (zdg rfl)) (zab (zaE (Or.inr rfl) rfl) (zab ((zam (by rfl)).trans (zaE (hd 16 dc) rfl)) rfl))
 intro D b hall
 obtain ⟨b1,b2⟩:=b
 refine zaK (zab (zaE (hall 17 dc) rfl) (zab (zaE (hall 16 dc) rfl) rfl)) (zaU (k:=1) (vs:=(zr4 q2)) (l':=(zr4 q2)) zhW rfl rfl rfl rfl rfl (show _≤_ by simp) rfl rfl (zyN (zaH (zaG (zyG (zac zew rfl dc rfl (show _=1 from rfl) (zan (k:=0) zbS rfl dc rfl rfl rfl (zac zew rfl dc rfl (show _=1 from rfl) (zan (k:=1) zbS rfl dc rfl rfl rfl (zaW rfl zbP (zyR 1 rfl ?_)))))))))))
 refine zyN ?_
 refine zyB rfl h (fun h => ?_) (fun h => ?_)
 ·
  refine zyG (zyR 1 rfl (zyN (zaA (zal (zai ?_)))))
  cases h
  exact zaF (rs:=[.tmp 4]) () (.inl rfl) Tryz.results94 (.cons (.tmp rfl) .nil) rfl Splits.nil
 refine zyG (zac zfS rfl dc rfl (show _=0 from rfl) (zan (k:=0) zbS rfl dc rfl rfl rfl (zac zfS rfl dc rfl (show _=0 from rfl) (zan (k:=1) zbS rfl dc rfl rfl rfl (zaW rfl za1 (zyR 1 rfl (zyN ?_)))))))
 refine zyB rfl h (fun h => ?_) (fun h => ?_)
 ·
  refine zyG (zyR 1 rfl (zyN (zaA (zal (zai ?_)))))
  cases h
  exact zaF (rs:=[.tmp 4]) () (.inl rfl) Tryz.results94 (.cons (.tmp rfl) .nil) rfl Splits.nil
 refine zaH ?_
 obtain ⟨q3,hq3,h⟩:=zbx h
 refine zfH (b:=(q1.Line:Int)==q3) (fun hb3 => ?_) (fun hb3 => ?_)
 ·
  have h:=zg9 hb3 h
  refine zbz 22 [(0,35,zP b1),(1,36,zI q1.Line),(2,37,zP bp1),(3,38,zP bp1),(4,39,.pointer (some ⟨bp1,2,none⟩)),(5,40,p1_h2.v),(6,41,.pointer (some ⟨b1,1,none⟩)),(7,42,zI q1.Stanza),(8,43,.pointer (some ⟨zdK p1_h2.v,(0+(q1.Stanza:Int).toNat)*1,none⟩)),(9,44,zI q3),(10,45,.bool true),(11,46,.bool true),(12,47,undef),(13,48,undef),(14,49,undef),(15,50,undef),(16,51,undef),(17,52,undef),(18,53,undef),(19,54,undef),(20,55,undef),(21,56,undef)] mixed kr kr dc (by rfl) kr kr (zae ?_ (zae ?_ (zyP 1 2 rfl (zae ?_ (zae ?_ (zae ?_ (zae ?_ (zae ?_ (zae ?_ (zae ?_ (zae ?_ (zyP 11 11 rfl DrawPre.nil)))))))))))) ?_
  · exact fun D n d c u i=>zac zfS rfl dc (za8 (by rfl) rfl) (show _=0 from rfl) (zaf 0 u i rfl)
  · exact fun D n d c u i=>zan (k:=0) zbS rfl dc (zaa (m:=0) u rfl (d 0 dc)) rfl rfl (zaf 1 u i rfl)
  · exact fun D n d c u i=>zar rfl dc (zaa (m:=2) u rfl (d 2 dc)) (zaf 3 u i rfl)
  · exact fun D n d c u i=>zac zii rfl dc (zaa (m:=3) u rfl (d 3 dc)) (show _=2 from rfl) (zaf 4 u i rfl)
  · exact fun D n d c u i=>za3 (i:=0) hrd rfl zgF rfl dc (zaa (m:=4) u rfl (d 4 dc)) rfl (zaf 5 u i rfl)
  · exact fun D n d c u i=>zac zew rfl dc (za8 (by rfl) rfl) (show _=1 from rfl) (zaf 6 u i rfl)
  · exact fun D n d c u i=>zan (k:=0) zbS rfl dc (zaa (m:=6) u rfl (d 6 dc)) rfl rfl (zaf 7 u i rfl)
  · exact fun D n d c u i=>zbj (hrd.vw (i:=3) rfl) hq3 Tryz.underlying49 zf9 rfl dc (zaa (m:=5) u rfl (d 5 dc)) (zaa (m:=7) u rfl (d 7 dc)) rfl (zaf 8 u i rfl)
  · exact fun D n d c u i=>zcI (n:=0+(q1.Stanza:Int).toNat) (j:=0) (i:=3) (q:=q3) hrd rfl zbS zcO rfl dc (zaa (m:=8) u rfl (d 8 dc)) (Vw.get (hrd.vw (i:=3) rfl) hq3) rfl dc rfl (zaf 9 u i rfl)
  · exact fun D n d c u i=>zcc rfl dc (zaa (m:=1) u rfl (d 1 dc)) (zaa (m:=9) u rfl (d 9 dc)) za1 (zf8 (show Value.bool ((q1.Line:Int)==q3)=Value.bool true from congrArg Value.bool hb3) (zaf 10 u i rfl))
  refine zyR 3 rfl (zyN (zbd rfl (zyG (zyR 1 rfl (zyN (zaA (zal (zai ?_))))))))
  cases h
  exact zaF (rs:=[.tmp 4]) () (.inl rfl) Tryz.results94 (.cons (.tmp rfl) .nil) rfl Splits.nil
 have h:=zha hb3 h
 obtain ⟨q4,hq4,h⟩:=zbx h
 refine zbz 22 [(0,35,zP b1),(1,36,zI q1.Line),(2,37,zP bp1),(3,38,zP bp1),(4,39,.pointer (some ⟨bp1,2,none⟩)),(5,40,p1_h2.v),(6,41,.pointer (some ⟨b1,1,none⟩)),(7,42,zI q1.Stanza),(8,43,.pointer (some ⟨zdK p1_h2.v,(0+(q1.Stanza:Int).toNat)*1,none⟩)),(9,44,zI q3),(10,45,.bool false),(11,46,.bool false),(12,47,zP b2),(13,48,zI q2.Line),(14,49,zP bp1),(15,50,zP bp1),(16,51,.pointer (some ⟨bp1,3,none⟩)),(17,52,p1_h3.v),(18,53,.pointer (some ⟨b2,1,none⟩)),(19,54,zI q2.Stanza),(20,55,.pointer (some ⟨zdK p1_h3.v,(0+(q2.Stanza:Int).toNat)*1,none⟩)),(21,56,zI q4)] mixed kr kr dc (by rfl) kr kr (zae ?_ (zae ?_ (zyP 1 2 rfl (zae ?_ (zae ?_ (zae ?_ (zae ?_ (zae ?_ (zae ?_ (zae ?_ (zae ?_ (zyP 1 11 rfl (zae ?_ (zae ?_ (zyP 1 14 rfl (zae ?_ (zae ?_ (zae ?_ (zae ?_ (zae ?_ (zae ?_ (zae ?_ DrawPre.nil)))))))))))))))))))))) ?_
 · exact fun D n d c u i=>zac zfS rfl dc (za8 (by rfl) rfl) (show _=0 from rfl) (zaf 0 u i rfl)
 · exact fun D n d c u i=>zan (k:=0) zbS rfl dc (zaa (m:=0) u rfl (d 0 dc)) rfl rfl (zaf 1 u i rfl)
 · exact fun D n d c u i=>zar rfl dc (zaa (m:=2) u rfl (d 2 dc)) (zaf 3 u i rfl)
 · exact fun D n d c u i=>zac zii rfl dc (zaa (m:=3) u rfl (d 3 dc)) (show _=2 from rfl) (zaf 4 u i rfl)
 · exact fun D n d c u i=>za3 (i:=0) hrd rfl zgF rfl dc (zaa (m:=4) u rfl (d 4 dc)) rfl (zaf 5 u i rfl)
 · exact fun D n d c u i=>zac zew rfl dc (za8 (by rfl) rfl) (show _=1 from rfl) (zaf 6 u i rfl)
 · exact fun D n d c u i=>zan (k:=0) zbS rfl dc (zaa (m:=6) u rfl (d 6 dc)) rfl rfl (zaf 7 u i rfl)
 · exact fun D n d c u i=>zbj (hrd.vw (i:=3) rfl) hq3 Tryz.underlying49 zf9 rfl dc (zaa (m:=5) u rfl (d 5 dc)) (zaa (m:=7) u rfl (d 7 dc)) rfl (zaf 8 u i rfl)
 · exact fun D n d c u i=>zcI (n:=0+(q1.Stanza:Int).toNat) (j:=0) (i:=3) (q:=q3) hrd rfl zbS zcO rfl dc (zaa (m:=8) u rfl (d 8 dc)) (Vw.get (hrd.vw (i:=3) rfl) hq3) rfl dc rfl (zaf 9 u i rfl)
 · exact fun D n d c u i=>zcc rfl dc (zaa (m:=1) u rfl (d 1 dc)) (zaa (m:=9) u rfl (d 9 dc)) za1 (zf8 (show Value.bool ((q1.Line:Int)==q3)=Value.bool false from congrArg Value.bool hb3) (zaf 10 u i rfl))
 · exact fun D n d c u i=>zac zfS (zeY rfl (zaa (m:=11) u rfl (d 11 dc))) dc (za8 (by rfl) rfl) (show _=0 from rfl) (zaf 12 u i rfl)
 · exact fun D n d c u i=>zan (k:=1) zbS (zeY rfl (zaa (m:=11) u rfl (d 11 dc))) dc (zaa (m:=12) u rfl (d 12 dc)) rfl rfl (zaf 13 u i rfl)
 · exact fun D n d c u i=>zar (zeY rfl (zaa (m:=11) u rfl (d 11 dc))) dc (zaa (m:=14) u rfl (d 14 dc)) (zaf 15 u i rfl)
 · exact fun D n d c u i=>zac zjI (zeY rfl (zaa (m:=11) u rfl (d 11 dc))) dc (zaa (m:=15) u rfl (d 15 dc)) (show _=3 from rfl) (zaf 16 u i rfl)
 · exact fun D n d c u i=>za3 (i:=0) hrd rfl zgF (zeY rfl (zaa (m:=11) u rfl (d 11 dc))) dc (zaa (m:=16) u rfl (d 16 dc)) rfl (zaf 17 u i rfl)
 · exact fun D n d c u i=>zac zew (zeY rfl (zaa (m:=11) u rfl (d 11 dc))) dc (za8 (by rfl) rfl) (show _=1 from rfl) (zaf 18 u i rfl)
 · exact fun D n d c u i=>zan (k:=1) zbS (zeY rfl (zaa (m:=11) u rfl (d 11 dc))) dc (zaa (m:=18) u rfl (d 18 dc)) rfl rfl (zaf 19 u i rfl)
 · exact fun D n d c u i=>zbj (hrd.vw (i:=4) rfl) hq4 Tryz.underlying49 zf9 (zeY rfl (zaa (m:=11) u rfl (d 11 dc))) dc (zaa (m:=17) u rfl (d 17 dc)) (zaa (m:=19) u rfl (d 19 dc)) rfl (zaf 20 u i rfl)
 · exact fun D n d c u i=>zcI (n:=0+(q2.Stanza:Int).toNat) (j:=0) (i:=4) (q:=q4) hrd rfl zbS zcO (zeY rfl (zaa (m:=11) u rfl (d 11 dc))) dc (zaa (m:=20) u rfl (d 20 dc)) (Vw.get (hrd.vw (i:=4) rfl) hq4) rfl dc rfl (zaf 21 u i rfl)
 refine zaW rfl za1 (zyR 2 rfl (zyN ?_))
 refine zyB rfl h (fun h => ?_) (fun h => ?_)
 ·
  refine zyG (zyR 1 rfl (zyN (zaA (zal (zai ?_)))))
  cases h
  exact zaF (rs:=[.tmp 4]) () (.inl rfl) Tryz.results94 (.cons (.tmp rfl) .nil) rfl Splits.nil
 refine zau (zah (zaI (zyG (zyR 1 rfl (zyN (zaA ?_))))))
 cases h
 exact zaF (rs:=[.tmp 4]) () (.inl rfl) Tryz.results94 (.cons (.tmp rfl) .nil) rfl Splits.nil
def zbB (p1:Gpage_parter) (from3:Int) (j2:(List Gpage_best)→Option ((List Int)×Int)) (ag2:(List Gpage_best)→Int→Option ((List Int)×Int)) (all8:List Gpage_best) (to3:Int):Option ((List Int)×Int) :=
zax (decide ((to3:Int)≤(p1.rows.length:Int))) (
zak (zc5 p1 from3 to3) fun (r1:Int) =>
zax (decide ((r1:Int)≤p1.heights)) (
zbr (fun (j3:(List Gpage_best)→Option ((List Int)×Int)) =>
zbr (fun (j4:Int→Int→Option ((List Int)×Int)) =>
zax (decide ((to3:Int)<(p1.rows.length:Int))) (
zak (zc5 p1 from3 to3) fun (r2:Int) =>
grd (I64 (p1.heights - r2)) <|
grd (I64 ((p1.heights - r2)*(p1.heights - r2))) <|
zak (zdO p1 to3) fun (r3:Int) =>
grd (I64 (((p1.heights - r2)*(p1.heights - r2))+r3)) <|
zak (zcN all8 to3) fun (q2:Gpage_best) =>
grd (I64 ((((p1.heights - r2)*(p1.heights - r2))+r3)+q2.cost)) <|
grd (I64 (q2.rows+1)) <|
j4 ((((p1.heights - r2)*(p1.heights - r2))+r3)+q2.cost) (q2.rows+1)
) (
j4 0 1
)
) (fun (b2:Int) (b3:Int) =>
zak (zcN all8 from3) fun (q3:Gpage_best) =>
zax (decide ((q3.rows:Int)<0)) (
zak (zcN all8 from3) fun (q4:Gpage_best) =>
j3 (all8.set (from3:Int).toNat (⟨b2,b3,to3⟩:Gpage_best))
) (
zax (decide ((b2:Int)<q3.cost)) (
zak (zcN all8 from3) fun (q5:Gpage_best) =>
j3 (all8.set (from3:Int).toNat (⟨b2,b3,to3⟩:Gpage_best))
) (
zax ((b2:Int)==q3.cost) (
zax (decide ((b3:Int)≤q3.rows)) (
zak (zcN all8 from3) fun (q6:Gpage_best) =>
j3 (all8.set (from3:Int).toNat (⟨b2,b3,to3⟩:Gpage_best))
) (
j3 all8
)
) (
j3 all8
)
)
)
)
) (fun (all9:List Gpage_best) =>
grd (I64 (to3+1)) <|
ag2 all9 (to3+1)
)
) (
j2 all8
)
) (
j2 all8
)
def zbC (p1:Gpage_parter) (j1:(List Gpage_best)→Option ((List Int)×Int)) (ag1:(List Gpage_best)→Int→Option ((List Int)×Int)) (all4:List Gpage_best) (from3:Int):Option ((List Int)×Int) :=
zax (decide ((0:Int)≤from3)) (
zbr (fun (j2:(List Gpage_best)→Option ((List Int)×Int)) =>
zak (zcN all4 from3) fun (q1:Gpage_best) =>
grd (I64 (from3+1)) <|
zaM (fun _ _=>none) (zbB p1 from3 j2) zb4 (all4.set (from3:Int).toNat (⟨q1.cost,(-1),q1.to_⟩:Gpage_best)) (from3+1)
) (fun (all5:List Gpage_best) =>
grd (I64 (from3 - 1)) <|
ag1 all5 (from3 - 1)
)
) (
j1 all4
)
def zbp (p1:Gpage_parter) (all1:List Gpage_best) (j5:(List Int)→Option ((List Int)×Int)) (ag3:(List Int)→Int→Option ((List Int)×Int)) (out4:List Int) (from6:Int):Option ((List Int)×Int) :=
zax (decide ((from6:Int)<(p1.rows.length:Int))) (
zak (zcN all1 from6) fun (q7:Gpage_best) =>
grd (out4.length+1≤2147483648) <|
zak (zcN all1 from6) fun (q8:Gpage_best) =>
ag3 (out4++[q7.to_]) q8.to_
) (
j5 out4
)
def zdi (p1:Gpage_parter):Option ((List Int)×Int) :=
zbr (fun (j1:(List Gpage_best)→Option ((List Int)×Int)) =>
grd (I64 ((p1.rows.length:Int)+1)) <|
grd (0≤((p1.rows.length:Int)+1)∧((p1.rows.length:Int)+1)≤2147483648) <|
grd (I64 ((p1.rows.length:Int) - 1)) <|
zaM (fun _ _=>none) (zbC p1 j1) zb4 (List.replicate ((p1.rows.length:Int)+1:Int).toNat (⟨0,0,0⟩:Gpage_best):List Gpage_best) ((p1.rows.length:Int) - 1)
) (fun (all1:List Gpage_best) =>
zbr (fun (j5:(List Int)→Option ((List Int)×Int)) =>
zaM (fun _ _=>none) (zbp p1 all1 j5) zb4 ([]:List Int) 0
) (fun (out1:List Int) =>
zak (zcN all1 0) fun (q9:Gpage_best) =>
some (out1,q9.cost)
)
)
theorem zhp {bp1:Nat} {p1:Gpage_parter} {p1_h0 p1_h1 p1_h2 p1_h3:Hd} {r:((List Int)×Int)} (h:zdi p1=some r):FnR Tryz.prog 66 [zP bp1] [cells bp1 [p1_h0.v,p1_h1.v,p1_h2.v,p1_h3.v,zI p1.heights] 131,zv1 p1_h0.v p1.rows,zv0 p1_h1.v p1.blanks,zv0 p1_h2.v p1.firsts,zv0 p1_h3.v p1.lasts] [] (fun v0:Value=>.tuple #[v0,zI r.2]) (fun v0=>[zv0 v0 r.1]):=by
 unfold zdi at h
 refine FnR.intro Tryz.func66 rfl Tryz.ntmps66 (by simp) ?_
 intro w0 K hrd
 obtain ⟨j1,hj1,h⟩:=zbO h
 refine zaY (β:=(List Gpage_best)×Value) 3 rfl (fun b=>j1 b.1=some r) (fun b=>[]) (fun b=>[(4,zI (p1.rows.length:Int)),(5,b.2)]) (fun b=>[zv8 b.2 b.1]) (fun cut => ?_) ?_
 ·
  refine zyG (zyR 2 rfl (zyH (zyR 1 rfl (zar rfl dc rfl (zac zfX rfl dc rfl (show _=0 from rfl) (za3 (i:=0) hrd rfl zjY rfl dc rfl rfl (zdA (hrd.vw (i:=1) rfl) rfl dc rfl Tryz.underlying43 (zyR 1 rfl ?_))))))))
  refine zyH (zyR 1 rfl ?_)
  obtain ⟨hg1,h⟩:=zbw h
  refine zaW rfl (zaV (r:=(p1.rows.length:Int)+1) (IntWalk.i64_in _ hg1)) ?_
  obtain ⟨hg2,h⟩:=zbw h
  refine zlJ (z:=(⟨0,0,0⟩:Gpage_best)) Tryz.underlying174 zsZ zld zaS rfl dc rfl hg2 (fun v2 => ?_)
  refine zyR 1 rfl (zyN (cut (zyG (zyR 1 rfl ?_))))
  obtain ⟨hg3,h⟩:=zbw h
  refine zaW rfl (zcd (r:=(p1.rows.length:Int) - 1) (IntWalk.i64_in _ hg3)) (zyR 1 rfl (zyN (zaG ?_)))
  refine zbt (β:=Nat×(List Gpage_best)×Int) (fun b=>zaM (fun _ _=>none) (zbC p1 j1) b.1 b.2.1 b.2.2=some r) (fun b=>[]) (fun b=>[(0,zP bp1),(4,zI (p1.rows.length:Int)),(5,v2),(6,zI b.2.2)]) (fun b=>[zv8 v2 b.2.1]) (fun b=>b.1) (zb4,(List.replicate ((p1.rows.length:Int)+1:Int).toNat (⟨0,0,0⟩:Gpage_best):List Gpage_best),(p1.rows.length:Int) - 1) h rfl (zba rfl) (zad [0] kr rfl) ?_
  rintro ⟨n1,all4,from3⟩ h
  cases n1 with
  | zero=>exact zdG h
  | succ n1 =>
   obtain ⟨ag1,hag1⟩:∃ ag,ag=zaM (fun _ _=>none) (zbC p1 j1) n1:=⟨_,rfl⟩
   have h:zbC p1 j1 ag1 all4 from3=some r:=by rw [hag1]; exact h
   unfold zbC at h
   refine zaH (zyG (zyR 1 rfl (zaW rfl zeg (zyN ?_))))
   refine zyB rfl h (fun h => ?_) (fun h => ?_)
   ·
    refine zau (zaI ?_)
    obtain ⟨j2,hj2,h⟩:=zbO h
    refine zaY (β:=(List Gpage_best)) 0 rfl (fun b=>j2 b=some r) (fun b=>[]) (fun b=>[(0,zP bp1),(4,zI (p1.rows.length:Int)),(5,v2),(6,zI from3)]) (fun b=>[zv8 v2 b]) (fun cut => ?_) ?_
    ·
     refine cut (zaG (zyG (zyR 2 rfl ?_)))
     obtain ⟨q1,hq1,h⟩:=zbx h
     refine zaL (k:=0) hq1 Tryz.underlying174 zc8 rfl dc rfl rfl rfl rfl (zac ze4 rfl dc rfl (show _=((from3:Int).toNat)*3+1 from rfl) ?_)
     refine zei (i:=(from3:Int).toNat) (j:=1) (k:=0) (q:=q1) (q':=(⟨q1.cost,(-1),q1.to_⟩:Gpage_best)) zf9 zaS rfl rfl rfl rfl (za0 hq1) rfl dc rfl (fun _ _=>rfl) ?_
     refine zyH (zyR 1 rfl ?_)
     obtain ⟨hg4,h⟩:=zbw h
     refine zaW rfl (zaV (r:=from3+1) (IntWalk.i64_in _ hg4)) (zyR 1 rfl (zyN (zaG ?_)))
     refine zbt (β:=Nat×(List Gpage_best)×Int) (fun b=>zaM (fun _ _=>none) (zbB p1 from3 j2) b.1 b.2.1 b.2.2=some r) (fun b=>[]) (fun b=>[(0,zP bp1),(4,zI (p1.rows.length:Int)),(5,v2),(6,zI from3),(7,zI b.2.2)]) (fun b=>[zv8 v2 b.2.1]) (fun b=>b.1) (zb4,all4.set (from3:Int).toNat (⟨q1.cost,(-1),q1.to_⟩:Gpage_best),from3+1) h rfl (zba rfl) (zad [0] kr rfl) ?_
     rintro ⟨n2,all8,to3⟩ h
     cases n2 with
     | zero=>exact zdG h
     | succ n2 =>
      obtain ⟨ag2,hag2⟩:∃ ag,ag=zaM (fun _ _=>none) (zbB p1 from3 j2) n2:=⟨_,rfl⟩
      have h:zbB p1 from3 j2 ag2 all8 to3=some r:=by rw [hag2]; exact h
      unfold zbB at h
      refine zaH (zaH ?_)
      refine zfH (b:=decide ((to3:Int)≤(p1.rows.length:Int))) (fun hb2 => ?_) (fun hb2 => ?_)
      ·
       have h:=zg9 hb2 h
       obtain ⟨r1,hq2,h⟩:=zbx h
       refine zbz 12 [(0,33,zI to3),(1,34,zI (p1.rows.length:Int)),(2,35,.bool true),(3,36,.bool true),(4,37,zP bp1),(5,38,zI from3),(6,39,zI to3),(7,40,zI r1),(8,41,zP bp1),(9,42,zP bp1),(10,43,.pointer (some ⟨bp1,4,none⟩)),(11,44,zI p1.heights)] mixed kr kr dc (by rfl) kr kr (zyP 2 0 rfl (zae ?_ (zyP 4 3 rfl (zae ?_ (zyP 1 8 rfl (zae ?_ (zae ?_ (zae ?_ DrawPre.nil)))))))) ?_
       · exact fun D n d c u i=>zcc rfl dc (zaa (m:=0) u rfl (d 0 dc)) (zaa (m:=1) u rfl (d 1 dc)) zdP (zf8 (show Value.bool (decide ((to3:Int)≤(p1.rows.length:Int)))=Value.bool true from congrArg Value.bool hb2) (zaf 2 u i rfl))
       · exact fun D n d c u i=>zbZ (v:=zI r1) (vs:=[zP bp1,zI from3,zI to3]) hrd (zeY rfl (zaa (m:=3) u rfl (d 3 dc))) dc rfl (evL.cons (zaa (m:=4) u rfl (d 4 dc)) (evL.cons (zaa (m:=5) u rfl (d 5 dc)) (evL.cons (zaa (m:=6) u rfl (d 6 dc)) evL.nil))) rfl zu2 (zfO (bp1:=bp1) (p1:=p1) (p1_h0:=p1_h0) (p1_h1:=p1_h1) (p1_h2:=p1_h2) (p1_h3:=p1_h3) hq2) (.ro 0 rfl (.ro 1 rfl (.ro 2 rfl (.ro 3 rfl (.ro 4 rfl .nil))))) (zaf 7 u i rfl)
       · exact fun D n d c u i=>zar (zeY rfl (zaa (m:=3) u rfl (d 3 dc))) dc (zaa (m:=8) u rfl (d 8 dc)) (zaf 9 u i rfl)
       · exact fun D n d c u i=>zac zoT (zeY rfl (zaa (m:=3) u rfl (d 3 dc))) dc (zaa (m:=9) u rfl (d 9 dc)) (show _=4 from rfl) (zaf 10 u i rfl)
       · exact fun D n d c u i=>za3 (i:=0) hrd rfl zbS (zeY rfl (zaa (m:=3) u rfl (d 3 dc))) dc (zaa (m:=10) u rfl (d 10 dc)) rfl (zaf 11 u i rfl)
       refine zaW rfl zdP (zyR 1 rfl (zyN ?_))
       refine zyB rfl h (fun h => ?_) (fun h => ?_)
       ·
        refine zau (zaI ?_)
        obtain ⟨j3,hj3,h⟩:=zbO h
        refine zaY (β:=(List Gpage_best)) 0 rfl (fun b=>j3 b=some r) (fun b=>[]) (fun b=>[(0,zP bp1),(4,zI (p1.rows.length:Int)),(5,v2),(6,zI from3),(7,zI to3),(37,zP bp1),(38,zI from3),(39,zI to3),(40,zI r1),(41,zP bp1),(42,zP bp1),(43,.pointer (some ⟨bp1,4,none⟩)),(44,zI p1.heights),(45,.bool (decide ((r1:Int)≤p1.heights)))]) (fun b=>[zv8 v2 b]) (fun cut => ?_) ?_
        ·
         refine cut (zaG ?_)
         obtain ⟨j4,hj4,h⟩:=zbO h
         refine zaY (β:=Int×Int×Nat) 1 rfl (fun b=>j4 b.1 b.2.1=some r) (fun b=>[]) (fun b=>[(0,zP bp1),(4,zI (p1.rows.length:Int)),(5,v2),(6,zI from3),(7,zI to3),(8,zP b.2.2),(37,zP bp1),(38,zI from3),(39,zI to3),(40,zI r1),(41,zP bp1),(42,zP bp1),(43,.pointer (some ⟨bp1,4,none⟩)),(44,zI p1.heights),(45,.bool (decide ((r1:Int)≤p1.heights)))]) (fun b=>[zv8 v2 all8,cells b.2.2 [zI b.1,zI b.2.1,zI to3] 176]) (fun cut => ?_) ?_
         ·
          refine zyG (zyR 1 rfl ?_)
          refine zbb (v:=.agg #[zI 0,zI 1,zI to3]) (ps:=[(1,.const (zI 1)),(2,.tmp 49)]) rfl dc rfl (fun _=>by kernel_rfl) ?_
          refine zbg zld rfl dc (fun b4 => ?_)
          refine zaU (k:=1) (vs:=[zI 0,zI 1,zI to3]) (l':=[zI 0,zI 1,zI to3]) zc8 rfl rfl rfl rfl rfl (show _≤_ by simp) rfl rfl ?_
          refine zyN (cut (zyG (zyR 2 rfl (zaW rfl zbA (zyN ?_)))))
          refine zyB rfl h (fun h => ?_) (fun h => ?_)
          ·
           refine zaH ?_
           obtain ⟨r2,hq3,h⟩:=zbx h
           obtain ⟨hg5,h⟩:=zbw h
           refine zbz 8 [(0,54,zP bp1),(1,55,zP bp1),(2,56,.pointer (some ⟨bp1,4,none⟩)),(3,57,zI p1.heights),(4,58,zP bp1),(5,59,zI from3),(6,60,zI to3),(7,61,zI r2)] mixed kr kr dc (by rfl) kr kr (zyP 1 0 rfl (zae ?_ (zae ?_ (zae ?_ (zyP 3 4 rfl (zae ?_ DrawPre.nil)))))) ?_
           · exact fun D n d c u i=>zar rfl dc (zaa (m:=0) u rfl (d 0 dc)) (zaf 1 u i rfl)
           · exact fun D n d c u i=>zac zoT rfl dc (zaa (m:=1) u rfl (d 1 dc)) (show _=4 from rfl) (zaf 2 u i rfl)
           · exact fun D n d c u i=>za3 (i:=0) hrd rfl zbS rfl dc (zaa (m:=2) u rfl (d 2 dc)) rfl (zaf 3 u i rfl)
           · exact fun D n d c u i=>zbZ (v:=zI r2) (vs:=[zP bp1,zI from3,zI to3]) hrd rfl dc rfl (evL.cons (zaa (m:=4) u rfl (d 4 dc)) (evL.cons (zaa (m:=5) u rfl (d 5 dc)) (evL.cons (zaa (m:=6) u rfl (d 6 dc)) evL.nil))) rfl zu2 (zfO (bp1:=bp1) (p1:=p1) (p1_h0:=p1_h0) (p1_h1:=p1_h1) (p1_h2:=p1_h2) (p1_h3:=p1_h3) hq3) (.ro 0 rfl (.ro 1 rfl (.ro 2 rfl (.ro 3 rfl (.ro 4 rfl .nil))))) (zaf 7 u i rfl)
           refine zaW rfl (zcd (r:=p1.heights - r2) (IntWalk.i64_in _ hg5)) (zyR 1 rfl (zyN ?_))
           obtain ⟨hg6,h⟩:=zbw h
           obtain ⟨r3,hq4,h⟩:=zbx h
           obtain ⟨hg7,h⟩:=zbw h
           obtain ⟨q2,hq5,h⟩:=zbx h
           obtain ⟨hg8,h⟩:=zbw h
           obtain ⟨hg9,h⟩:=zbw h
           refine zbz 20 [(0,63,zI (p1.heights - r2)),(1,64,zI (p1.heights - r2)),(2,65,zI ((p1.heights - r2)*(p1.heights - r2))),(3,66,zP bp1),(4,67,zI to3),(5,68,zI r3),(6,69,zI (((p1.heights - r2)*(p1.heights - r2))+r3)),(7,70,v2),(8,71,zI to3),(9,72,.pointer (some ⟨zdK v2,(to3:Int).toNat*3,none⟩)),(10,73,.pointer (some ⟨zdK v2,((to3:Int).toNat)*3,none⟩)),(11,74,zI q2.cost),(12,75,zI ((((p1.heights - r2)*(p1.heights - r2))+r3)+q2.cost)),(13,76,v2),(14,77,zI to3),(15,78,.pointer (some ⟨zdK v2,(to3:Int).toNat*3,none⟩)),(16,79,.pointer (some ⟨zdK v2,((to3:Int).toNat)*3+1,none⟩)),(17,80,zI q2.rows),(18,81,zI (q2.rows+1)),(19,82,zI to3)] mixed kr kr dc (by rfl) kr kr (zyP 2 0 rfl (zae ?_ (zyP 2 3 rfl (zae ?_ (zae ?_ (zyP 2 7 rfl (zae ?_ (zae ?_ (zae ?_ (zae ?_ (zyP 2 13 rfl (zae ?_ (zae ?_ (zae ?_ (zae ?_ (zyP 1 19 rfl DrawPre.nil)))))))))))))))) ?_
           · exact fun D n d c u i=>zcc rfl dc (zaa (m:=0) u rfl (d 0 dc)) (zaa (m:=1) u rfl (d 1 dc)) (zrq (r:=(p1.heights - r2)*(p1.heights - r2)) (IntWalk.i64_in _ hg6)) (zaf 2 u i rfl)
           · exact fun D n d c u i=>zbZ (v:=zI r3) (vs:=[zP bp1,zI to3]) hrd rfl dc rfl (evL.cons (zaa (m:=3) u rfl (d 3 dc)) (evL.cons (zaa (m:=4) u rfl (d 4 dc)) evL.nil)) rfl zwp (zh9 (bp1:=bp1) (p1:=p1) (p1_h0:=p1_h0) (p1_h1:=p1_h1) (p1_h2:=p1_h2) (p1_h3:=p1_h3) hq4) (.ro 0 rfl (.ro 1 rfl (.ro 2 rfl (.ro 3 rfl (.ro 4 rfl .nil))))) (zaf 5 u i rfl)
           · exact fun D n d c u i=>zcc rfl dc (zaa (m:=2) u rfl (d 2 dc)) (zaa (m:=5) u rfl (d 5 dc)) (zaV (r:=((p1.heights - r2)*(p1.heights - r2))+r3) (IntWalk.i64_in _ hg7)) (zaf 6 u i rfl)
           · exact fun D n d c u i=>zaL (k:=0) hq5 Tryz.underlying174 zc8 rfl dc (zaa (m:=7) u rfl (d 7 dc)) (zaa (m:=8) u rfl (d 8 dc)) rfl rfl (zaf 9 u i rfl)
           · exact fun D n d c u i=>zac zeD rfl dc (zaa (m:=9) u rfl (d 9 dc)) (show _=((to3:Int).toNat)*3 from rfl) (zaf 10 u i rfl)
           · exact fun D n d c u i=>zbk (i:=(to3:Int).toNat) (j:=0) (k:=0) (q:=q2) zbS zaS rfl dc (zaa (m:=10) u rfl (d 10 dc)) rfl (za0 hq5) rfl dc rfl (zaf 11 u i rfl)
           · exact fun D n d c u i=>zcc rfl dc (zaa (m:=6) u rfl (d 6 dc)) (zaa (m:=11) u rfl (d 11 dc)) (zaV (r:=(((p1.heights - r2)*(p1.heights - r2))+r3)+q2.cost) (IntWalk.i64_in _ hg8)) (zaf 12 u i rfl)
           · exact fun D n d c u i=>zaL (k:=0) hq5 Tryz.underlying174 zc8 rfl dc (zaa (m:=13) u rfl (d 13 dc)) (zaa (m:=14) u rfl (d 14 dc)) rfl rfl (zaf 15 u i rfl)
           · exact fun D n d c u i=>zac ze4 rfl dc (zaa (m:=15) u rfl (d 15 dc)) (show _=((to3:Int).toNat)*3+1 from rfl) (zaf 16 u i rfl)
           · exact fun D n d c u i=>zbk (i:=(to3:Int).toNat) (j:=1) (k:=0) (q:=q2) zbS zaS rfl dc (zaa (m:=16) u rfl (d 16 dc)) rfl (za0 hq5) rfl dc rfl (zaf 17 u i rfl)
           · exact fun D n d c u i=>zcc rfl dc (zaa (m:=17) u rfl (d 17 dc)) rfl (zaV (r:=q2.rows+1) (IntWalk.i64_in _ hg9)) (zaf 18 u i rfl)
           refine zbb (v:=.agg #[zI ((((p1.heights - r2)*(p1.heights - r2))+r3)+q2.cost),zI (q2.rows+1),zI to3]) (ps:=[(0,.tmp 75),(1,.tmp 81),(2,.tmp 82)]) rfl dc rfl (fun _=>by kernel_rfl) ?_
           refine zaU (k:=1) (vs:=[zI ((((p1.heights - r2)*(p1.heights - r2))+r3)+q2.cost),zI (q2.rows+1),zI to3]) (l':=[zI ((((p1.heights - r2)*(p1.heights - r2))+r3)+q2.cost),zI (q2.rows+1),zI to3]) zc8 rfl rfl rfl rfl rfl (show _≤_ by simp) rfl rfl (zaX ?_)
           exact zaq ((((p1.heights - r2)*(p1.heights - r2))+r3)+q2.cost,q2.rows+1,b4) h rfl (zba rfl) (zad [0,1] kr rfl)
          refine zau ?_
          exact zaq (0,1,b4) h rfl (zba rfl) (zad [0,1] kr rfl)
         rintro ⟨b2,b3,b1⟩ h
         rw [hj4] at h
         refine zyG (zyR 2 rfl ?_)
         obtain ⟨q3,hq6,h⟩:=zbx h
         refine zaL (k:=0) hq6 Tryz.underlying174 zc8 rfl dc rfl rfl rfl rfl (zgz (i:=(from3:Int).toNat) (j:=0) (k:=0) (q:=q3) (cs:=(zr7 q3)) zje zaS rfl dc rfl rfl (za0 hq6) rfl rfl rfl ?_)
         refine zbg zld rfl dc (fun b5 => ?_)
         refine zaU (k:=2) (vs:=(zr7 q3)) (l':=(zr7 q3)) zc8 rfl rfl rfl rfl rfl (show _≤_ by simp) rfl rfl ?_
         refine zyH (zac ze4 rfl dc rfl (show _=1 from rfl) (zan (k:=2) zbS rfl dc rfl rfl rfl (zaW rfl zbA (zyR 1 rfl ?_))))
         refine zyS (s:=91) rfl h (fun h => ?_) (fun h => ?_)
         ·
          refine zyR 14 rfl ?_
          refine zyR 6 rfl (zyN (zbd rfl (zaB (zyR 2 rfl (za5 (k:=1) (cs:=[zI b2,zI b3,zI to3]) zje rfl dc rfl rfl rfl rfl ?_)))))
          obtain ⟨q4,hq7,h⟩:=zbx h
          refine zaL (k:=0) hq7 Tryz.underlying174 zc8 rfl dc rfl rfl rfl rfl ?_
          refine zeU (i:=(from3:Int).toNat) (j:=0) (k:=0) (q:=q4) (q':=(⟨b2,b3,to3⟩:Gpage_best)) (vs:=[zI b2,zI b3,zI to3]) zc8 zaS rfl rfl rfl rfl (za0 hq7) rfl dc rfl rfl (fun m=>[q4,(⟨b2,q4.rows,q4.to_⟩:Gpage_best),(⟨b2,b3,q4.to_⟩:Gpage_best),(⟨b2,b3,to3⟩:Gpage_best)].getD m q4) rfl rfl (by intro m hm; rcases m with _ | _ | _ | m <;> first | rfl | (exfalso; omega)) ?_
          refine zaX (zah ?_)
          exact zaq (all8.set (from3:Int).toNat (⟨b2,b3,to3⟩:Gpage_best)) h rfl (zba rfl) (zad [0] kr rfl)
         refine zac zeD rfl dc rfl (show _=0 from rfl) (zan (k:=1) zbS rfl dc rfl rfl rfl (zac zeD rfl dc rfl (show _=0 from rfl) (zan (k:=2) zbS rfl dc rfl rfl rfl (zaW rfl zbA (zyR 2 rfl ?_)))))
         refine zyS (s:=98) rfl h (fun h => ?_) (fun h => ?_)
         ·
          refine zyR 13 rfl (zaX ?_)
          refine zaI (zbd rfl (zaB (zyR 2 rfl (za5 (k:=1) (cs:=[zI b2,zI b3,zI to3]) zje rfl dc rfl rfl rfl rfl ?_))))
          obtain ⟨q5,hq8,h⟩:=zbx h
          refine zaL (k:=0) hq8 Tryz.underlying174 zc8 rfl dc rfl rfl rfl rfl ?_
          refine zeU (i:=(from3:Int).toNat) (j:=0) (k:=0) (q:=q5) (q':=(⟨b2,b3,to3⟩:Gpage_best)) (vs:=[zI b2,zI b3,zI to3]) zc8 zaS rfl rfl rfl rfl (za0 hq8) rfl dc rfl rfl (fun m=>[q5,(⟨b2,q5.rows,q5.to_⟩:Gpage_best),(⟨b2,b3,q5.to_⟩:Gpage_best),(⟨b2,b3,to3⟩:Gpage_best)].getD m q5) rfl rfl (by intro m hm; rcases m with _ | _ | _ | m <;> first | rfl | (exfalso; omega)) ?_
          refine zaX (zah ?_)
          exact zaq (all8.set (from3:Int).toNat (⟨b2,b3,to3⟩:Gpage_best)) h rfl (zba rfl) (zad [0] kr rfl)
         refine zac zeD rfl dc rfl (show _=0 from rfl) (zan (k:=1) zbS rfl dc rfl rfl rfl (zac zeD rfl dc rfl (show _=0 from rfl) (zan (k:=2) zbS rfl dc rfl rfl rfl (zaW rfl za1 (zyR 1 rfl ?_)))))
         refine zyS (s:=104) rfl h (fun h => ?_) (fun h => ?_)
         ·
          refine zac ze4 rfl dc rfl (show _=1 from rfl) (zan (k:=1) zbS rfl dc rfl rfl rfl (zac ze4 rfl dc rfl (show _=1 from rfl) (zan (k:=2) zbS rfl dc rfl rfl rfl (zaW rfl zdP (zyR 2 rfl (zyN ?_))))))
          refine zyB rfl h (fun h => ?_) (fun h => ?_)
          ·
           refine zaB (zyR 2 rfl (za5 (k:=1) (cs:=[zI b2,zI b3,zI to3]) zje rfl dc rfl rfl rfl rfl ?_))
           obtain ⟨q6,hq9,h⟩:=zbx h
           refine zaL (k:=0) hq9 Tryz.underlying174 zc8 rfl dc rfl rfl rfl rfl ?_
           refine zeU (i:=(from3:Int).toNat) (j:=0) (k:=0) (q:=q6) (q':=(⟨b2,b3,to3⟩:Gpage_best)) (vs:=[zI b2,zI b3,zI to3]) zc8 zaS rfl rfl rfl rfl (za0 hq9) rfl dc rfl rfl (fun m=>[q6,(⟨b2,q6.rows,q6.to_⟩:Gpage_best),(⟨b2,b3,q6.to_⟩:Gpage_best),(⟨b2,b3,to3⟩:Gpage_best)].getD m q6) rfl rfl (by intro m hm; rcases m with _ | _ | _ | m <;> first | rfl | (exfalso; omega)) ?_
           refine zaX (zah ?_)
           exact zaq (all8.set (from3:Int).toNat (⟨b2,b3,to3⟩:Gpage_best)) h rfl (zba rfl) (zad [0] kr rfl)
          refine zau (zah ?_)
          exact zaq all8 h rfl (zba rfl) (zad [0] kr rfl)
         refine zyR 7 rfl (zyN (zaT rfl (zau (zah ?_))))
         exact zaq all8 h rfl (zba rfl) (zad [0] kr rfl)
        rintro all9 h
        rw [hj3] at h
        refine zaB (zyR 1 rfl ?_)
        obtain ⟨hg10,h⟩:=zbw h
        refine zaW rfl (zaV (r:=to3+1) (IntWalk.i64_in _ hg10)) (zyR 1 rfl (zaX ?_))
        subst hag2
        exact za4 (n2,all9,to3+1) h (Nat.lt_succ_self _) rfl (zba rfl) (zad [0] kr rfl)
       refine za9 (zap (zap (zaz (zah ?_))))
       exact zaq all8 h rfl (zba rfl) (zad [0] kr rfl)
      have h:=zha hb2 h
      refine zbz 12 [(0,33,zI to3),(1,34,zI (p1.rows.length:Int)),(2,35,.bool false),(3,36,.bool false),(4,37,undef),(5,38,undef),(6,39,undef),(7,40,undef),(8,41,undef),(9,42,undef),(10,43,undef),(11,44,undef)] mixed kr kr dc (by rfl) kr kr (zyP 2 0 rfl (zae ?_ (zyP 9 3 rfl DrawPre.nil))) ?_
      · exact fun D n d c u i=>zcc rfl dc (zaa (m:=0) u rfl (d 0 dc)) (zaa (m:=1) u rfl (d 1 dc)) zdP (zf8 (show Value.bool (decide ((to3:Int)≤(p1.rows.length:Int)))=Value.bool false from congrArg Value.bool hb2) (zaf 2 u i rfl))
      refine zyR 2 rfl (zyN (zaT rfl (za9 (zap (zap (zaz (zah ?_)))))))
      exact zaq all8 h rfl (zba rfl) (zad [0] kr rfl)
    rintro all5 h
    rw [hj2] at h
    refine zaB (zyR 1 rfl ?_)
    obtain ⟨hg11,h⟩:=zbw h
    refine zaW rfl (zcd (r:=from3 - 1) (IntWalk.i64_in _ hg11)) (zyR 1 rfl (zaX ?_))
    subst hag1
    exact za4 (n1,all5,from3 - 1) h (Nat.lt_succ_self _) rfl (zba rfl) (zad [0] kr rfl)
   refine za9 (zap (zap (zaz ?_)))
   exact zaq (all4,v2) h rfl (zba rfl) (zad [0] kr rfl)
 rintro ⟨all1,v1⟩ h
 rw [hj1] at h
 obtain ⟨j5,hj5,h⟩:=zbO h
 refine zaY (β:=(List Int)×Hd) 1 rfl (fun b=>j5 b.1=some r) (fun b=>[]) (fun b=>[(5,v1),(11,b.2.v)]) (fun b=>[zv8 v1 all1,zv0 b.2.v b.1]) (fun cut => ?_) ?_
 ·
  refine zyG (zyR 1 rfl (zyN (cut (zyG (zyR 1 rfl (zyN (zaG (zdR (enc:=(zso (.i64))) (e:=3) (size:=1) ?_))))))))
  refine zbt (β:=Nat×(List Int)×Int×Hd) (fun b=>zaM (fun _ _=>none) (zbp p1 all1 j5) b.1 b.2.1 b.2.2.1=some r) (fun b=>[]) (fun b=>[(4,zI (p1.rows.length:Int)),(5,v1),(11,b.2.2.2.v),(12,zI b.2.2.1)]) (fun b=>[zv8 v1 all1,zv0 b.2.2.2.v b.2.1]) (fun b=>b.1) (zb4,([]:List Int),0,Hd.nil) h rfl (zba rfl) (zad [0,1] kr rfl) ?_
  rintro ⟨n3,out4,from6,hd4⟩ h
  cases n3 with
  | zero=>exact zdG h
  | succ n3 =>
   obtain ⟨ag3,hag3⟩:∃ ag,ag=zaM (fun _ _=>none) (zbp p1 all1 j5) n3:=⟨_,rfl⟩
   have h:zbp p1 all1 j5 ag3 out4 from6=some r:=by rw [hag3]; exact h
   unfold zbp at h
   refine zaH (zyG (zyR 2 rfl (zaW rfl zbA (zyN ?_))))
   refine zyB rfl h (fun h => ?_) (fun h => ?_)
   ·
    refine zau (zaI (zaH (zaG (zaB (zyR 3 rfl ?_)))))
    obtain ⟨q7,hq10,h⟩:=zbx h
    refine zaL (k:=0) hq10 Tryz.underlying174 zc8 rfl dc rfl rfl rfl rfl (zac zjF rfl dc rfl (show _=((from6:Int).toNat)*3+2 from rfl) (zbk (i:=(from6:Int).toNat) (j:=2) (k:=0) (q:=q7) zbS zaS rfl dc rfl rfl (za0 hq10) rfl dc rfl ?_))
    refine zaR (cs:=[zI q7.to_]) (te:=3) (ps:=[(0,.tmp 129)]) rfl dc rfl (fun _=>by kernel_rfl) (fun b6 => ?_)
    obtain ⟨hg12,h⟩:=zbw h
    refine zaZ (k:=1) (k2:=2) (ys:=[q7.to_]) Tryz.underlying49 ztR zcO zgs rfl dc rfl rfl rfl rfl rfl rfl hg12 (fun v3 => ?_)
    refine zbo (k:=1) rfl (fun hd5 he1 => ?_)
    subst he1
    refine zyR 1 rfl (zaX (zah (zaI (zaB (zyR 2 rfl ?_)))))
    obtain ⟨q8,hq11,h⟩:=zbx h
    refine zaL (k:=0) hq11 Tryz.underlying174 zc8 rfl dc rfl rfl rfl rfl (zac zjF rfl dc rfl (show _=((from6:Int).toNat)*3+2 from rfl) (zbk (i:=(from6:Int).toNat) (j:=2) (k:=0) (q:=q8) zbS zaS rfl dc rfl rfl (za0 hq11) rfl dc rfl (zyR 1 rfl (zaX ?_))))
    subst hag3
    exact za4 (n3,out4++[q7.to_],q8.to_,hd5) h (Nat.lt_succ_self _) rfl (zba rfl) (zad [0,1] kr rfl)
   refine za9 (zap (zap (zaz ?_)))
   exact zaq (out4,hd4) h rfl (zba rfl) (zad [0,1] kr rfl)
 rintro ⟨out1,hd1⟩ h
 rw [hj5] at h
 refine zaH ?_
 obtain ⟨q9,hq12,h⟩:=zbx h
 refine zbz 6 [(0,132,hd1.v),(1,133,v1),(2,134,.pointer (some ⟨zdK v1,(0:Int).toNat*3,none⟩)),(3,135,.pointer (some ⟨zdK v1,((0:Int).toNat)*3,none⟩)),(4,136,zI q9.cost),(5,2,hd1.v)] mixed kr kr dc (by rfl) kr kr (zyP 2 0 rfl (zae ?_ (zae ?_ (zae ?_ (zyP 1 5 rfl DrawPre.nil))))) ?_
 · exact fun D n d c u i=>zaL (k:=0) hq12 Tryz.underlying174 zc8 rfl dc (zaa (m:=1) u rfl (d 1 dc)) rfl rfl rfl (zaf 2 u i rfl)
 · exact fun D n d c u i=>zac zeD rfl dc (zaa (m:=2) u rfl (d 2 dc)) (show _=((0:Int).toNat)*3 from rfl) (zaf 3 u i rfl)
 · exact fun D n d c u i=>zbk (i:=(0:Int).toNat) (j:=0) (k:=0) (q:=q9) zbS zaS rfl dc (zaa (m:=3) u rfl (d 3 dc)) rfl (za0 hq12) rfl dc rfl (zaf 4 u i rfl)
 refine zyR 1 rfl (zyN (zaA ?_))
 cases h
 exact zaF (rs:=[.tmp 2,.tmp 3]) hd1.v (.inl rfl) Tryz.results66 (.cons (.tmp rfl) (.cons (.tmp rfl) .nil)) rfl (zad [1] kr rfl)
def zbq (l1:Gapi_Layout) (x2:Int×Gapi_Verse) (ag1:(List Gapi_Row)→(List Int)→(List Int)→(List Int)→Int→Option (Int×Gpage_parter)) (cost4:Int) (l18:List Int) (l19:List Int) (r2:((List ByteArray)×Int)) (ag2:(List Gapi_Row)→(List Int)→Int→Option (Int×Gpage_parter)) (l24:List Gapi_Row) (l25:List Int) (x5:Int):Option (Int×Gpage_parter) :=
zax (decide ((x5:Int)<(r2.1.length:Int))) (
zbr (fun (j3:Int→Int→ByteArray→Option (Int×Gpage_parter)) =>
zak (zcN r2.1 x5) fun (q2:ByteArray) =>
zax ((x5:Int)==0) (
zax (decide ((0:Int)<l1.Every)) (
grd (I64 (x2.1+1)) <|
grd (l1.Every≠0) <|
zax (((Int.tmod (x2.1+1) l1.Every):Int)==0) (
grd (I64 (x2.1+1)) <|
j3 x2.2.Indent (x2.1+1) q2
) (
j3 x2.2.Indent 0 q2
)
) (
j3 x2.2.Indent 0 q2
)
) (
j3 l1.Turn 0 q2
)
) (fun (r3:Int) (r4:Int) (r5:ByteArray) =>
grd (l24.length+1≤2147483648) <|
grd (l25.length+1≤2147483648) <|
grd (I64 (x5+1)) <|
ag2 (l24++[(⟨x2.1,x2.2.Stanza,x5,r3,r4,r5⟩:Gapi_Row)]) (l25++[x2.2.Stanza]) (x5+1)
)
) (
ag1 l24 l25 l18 (l19.set (x2.2.Stanza:Int).toNat x2.1) (cost4+r2.2)
)
def zbD (l1:Gapi_Layout) (x2:Int×Gapi_Verse) (ag1:(List Gapi_Row)→(List Int)→(List Int)→(List Int)→Int→Option (Int×Gpage_parter)) (l14:List Gapi_Row) (l15:List Int) (l16:List Int) (l17:List Int) (cost4:Int):Option (Int×Gpage_parter) :=
zbr (fun (j2:(List Int)→(List Int)→Option (Int×Gpage_parter)) =>
zax ((x2.2.Stanza:Int)==(l16.length:Int)) (
grd (l16.length+1≤2147483648) <|
grd (l17.length+1≤2147483648) <|
j2 (l16++[x2.1]) (l17++[x2.1])
) (
j2 l16 l17
)
) (fun (l18:List Int) (l19:List Int) =>
zak (zcN l19 x2.2.Stanza) fun (q1:Int) =>
zak (zeL x2.2.Text x2.2.Indent l1) fun (r2:((List ByteArray)×Int)) =>
grd (I64 (cost4+r2.2)) <|
zaM (fun _ _ _=>none) (zbq l1 x2 ag1 cost4 l18 l19 r2) zb4 l14 l15 0
)
def zdj (p1:Gpage_parter) (x1:Gpoem_Poem) (l1:Gapi_Layout):Option (Int×Gpage_parter) :=
zbr (fun (j1:(List Gapi_Row)→(List Int)→(List Int)→(List Int)→Int→Option (Int×Gpage_parter)) =>
zak (zdX x1) fun (r1:Unit) =>
zak (zc4 x1) fun (its1:(List (Int×Gapi_Verse))) =>
zbr (fun (dn1:(List Gapi_Row)→(List Int)→(List Int)→(List Int)→Int→Option (Int×Gpage_parter)) =>
zdh dn1 (zbD l1) its1 p1.rows p1.blanks p1.firsts p1.lasts 0
) (fun (l14:List Gapi_Row) (l15:List Int) (l16:List Int) (l17:List Int) (cost4:Int) =>
j1 l14 l15 l16 l17 cost4
)
) (fun (l2:List Gapi_Row) (l3:List Int) (l4:List Int) (l5:List Int) (cost1:Int) =>
some (cost1,(⟨l2,l3,l4,l5,p1.heights⟩:Gpage_parter))
)
theorem zhr {bp1:Nat} {p1:Gpage_parter} {p1_h0 p1_h1 p1_h2 p1_h3:Hd} {bx1:Nat} {x1:Gpoem_Poem} {x1_h0 x1_h1:Hd} {l1:Gapi_Layout} {r:(Int×Gpage_parter)} (h:zdj p1 x1 l1=some r):FnR Tryz.prog 65 [zP bp1,zP bx1,.agg (zr0 l1).toArray] [cells bx1 [.string x1.told_title,x1_h0.v,x1_h1.v,.string x1.source] 106,zv2 x1_h0.v x1.told_lines,zv3 x1_h1.v x1.told_stanzas] [cells bp1 [p1_h0.v,p1_h1.v,p1_h2.v,p1_h3.v,zI p1.heights] 131,zv1 p1_h0.v p1.rows,zv0 p1_h1.v p1.blanks,zv0 p1_h2.v p1.firsts,zv0 p1_h3.v p1.lasts] (fun b:Hd×Hd×Hd×Hd=>zI r.1) (fun b=>[cells bp1 [b.1.v,b.2.1.v,b.2.2.1.v,b.2.2.2.v,zI r.2.heights] 131,zv1 b.1.v r.2.rows,zv0 b.2.1.v r.2.blanks,zv0 b.2.2.1.v r.2.firsts,zv0 b.2.2.2.v r.2.lasts]):=by
 unfold zdj at h
 refine FnR.intro Tryz.func65 rfl Tryz.ntmps65 (by simp) ?_
 intro w0 K hrd
 refine ziE ?_
 obtain ⟨j1,hj1,h⟩:=zbO h
 refine zaY (β:=(List Gapi_Row)×(List Int)×(List Int)×(List Int)×Int×Hd×Hd×Hd×Hd×Nat×(List Nat)) 2 rfl (fun b=>j1 b.1 b.2.1 b.2.2.1 b.2.2.2.1 b.2.2.2.2.1=some r) (fun b=>zfQ b.2.2.2.2.2.2.2.2.2.2) (fun b=>[(7,zP b.2.2.2.2.2.2.2.2.2.1)]) (fun b=>[cells bp1 [b.2.2.2.2.2.1.v,b.2.2.2.2.2.2.1.v,b.2.2.2.2.2.2.2.1.v,b.2.2.2.2.2.2.2.2.1.v,zI p1.heights] 131,zv1 b.2.2.2.2.2.1.v b.1,zv0 b.2.2.2.2.2.2.1.v b.2.1,zv0 b.2.2.2.2.2.2.2.1.v b.2.2.1,zv0 b.2.2.2.2.2.2.2.2.1.v b.2.2.2.1,cells b.2.2.2.2.2.2.2.2.2.1 [zI b.2.2.2.2.1] 3,zhS ((b.2.2.2.2.2.2.2.2.2.2:List Nat).map zkT)]) (fun cut => ?_) ?_
 ·
  refine zyG ?_
  refine zdQ rfl dc rfl (fun b2 => ?_)
  refine zdQ rfl dc rfl (fun b3 => ?_)
  refine zyR 1 rfl (zyH ?_)
  refine zbg zw7 rfl dc (fun b4 => ?_)
  refine zbe (k:=8) (l':=[zI 0]) zf9 rfl rfl rfl rfl rfl (fun _ _=>rfl) rfl ?_
  refine zyN (cut (zyG (zyR 1 rfl ?_)))
  obtain ⟨r1,hq1,h⟩:=zbx h
  refine zfa (vs:=[zP bx1]) hrd rfl dc rfl rfl rfl zu3 (zgc (bp1:=bx1) (p1:=x1) (p1_h0:=x1_h0) (p1_h1:=x1_h1) hq1) Splits.nil (.ro 0 rfl (.ro 1 rfl (.ro 2 rfl .nil))) ?_
  rintro b5
  refine zcu (L':=[cells bp1 [p1_h0.v,p1_h1.v,p1_h2.v,p1_h3.v,zI p1.heights] 131,zv1 p1_h0.v p1.rows,zv0 p1_h1.v p1.blanks,zv0 p1_h2.v p1.firsts,zv0 p1_h3.v p1.lasts,zhS ((([]:List Nat):List Nat).map zkT),cells b2 [zP bp1] 129,cells b3 (zr0 l1) 23,cells b4 [zI 0] 3,cells b5 [zP bx1] 58]) (zad [0,1,2,3,4,5,6,7,8,9] kr rfl) (zyN (zaG ?_))
  obtain ⟨its1,hq2,h⟩:=zbx h
  obtain ⟨dn1,hdn1,h⟩:=zbO h
  refine zkO (α:=Int×Gapi_Verse) (β:=(List Gapi_Row)×(List Int)×(List Int)×(List Int)×Int×Hd×Hd×Hd×Hd) (γ:=Unit) (δ:=Nat) (ps:=[17,18]) hrd Ro.nil rfl zsY (zfx hq2) (fun pre b=>∀ post,its1=pre++post→zdh dn1 (zbD l1) post b.1 b.2.1 b.2.2.1 b.2.2.2.1 b.2.2.2.2.1=some r) (fun pre b=>[cells bp1 [b.2.2.2.2.2.1.v,b.2.2.2.2.2.2.1.v,b.2.2.2.2.2.2.2.1.v,b.2.2.2.2.2.2.2.2.v,zI p1.heights] 131,zv1 b.2.2.2.2.2.1.v b.1,zv0 b.2.2.2.2.2.2.1.v b.2.1,zv0 b.2.2.2.2.2.2.2.1.v b.2.2.1,zv0 b.2.2.2.2.2.2.2.2.v b.2.2.2.1,cells b2 [zP bp1] 129,cells b3 (zr0 l1) 23,cells b4 [zI b.2.2.2.2.1] 3]) (fun c pre g=>False) (fun c pre g=>[]) (fun pre x b j=>[(3,zP b2),(5,zP b3),(6,zI 0),(7,zP b4),(16,.func (.func 115) #[] #[zP b5]),(8,zI x.1),(9,zP j)]) (fun pre x b j=>[cells bp1 [b.2.2.2.2.2.1.v,b.2.2.2.2.2.2.1.v,b.2.2.2.2.2.2.2.1.v,b.2.2.2.2.2.2.2.2.v,zI p1.heights] 131,zv1 b.2.2.2.2.2.1.v b.1,zv0 b.2.2.2.2.2.2.1.v b.2.1,zv0 b.2.2.2.2.2.2.2.1.v b.2.2.1,zv0 b.2.2.2.2.2.2.2.2.v b.2.2.2.1,cells b2 [zP bp1] 129,cells b3 (zr0 l1) 23,cells b4 [zI b.2.2.2.2.1] 3,cells j (zr1 x.2) 76]) (p1.rows,p1.blanks,p1.firsts,p1.lasts,0,p1_h0,p1_h1,p1_h2,p1_h3) (fun post e=>by rw [List.nil_append] at e; subst e; exact h) (zad [0,1,2,3,4,6,7,8] kr rfl) (.own (As:=[cells b5 [zP bx1] 58]) (zad [9] (by kernel_rfl) rfl) (fun _ _ h=>sepL.one1.1 h) (.ro 0 rfl (.ro 1 rfl (.ro 2 rfl .nil)))) (fun _=>rfl) dc ?_ ?_ ?_ ?_
  ·
   rintro lp rc pre x2 post ⟨l14,l15,l16,l17,cost4,hd13,hd14,hd15,hd16⟩ w1 K1 hxs1 hext hro hinv
   have hrd:=hrd.ext hext
   refine zyG (zyR 1 rfl (zyN (zaB ?_)))
   refine zbg zo9 rfl dc (fun b6 => ?_)
   refine zaU (k:=8) (vs:=(zr1 x2.2)) (l':=(zr1 x2.2)) zkX rfl rfl rfl rfl rfl (show _≤_ by simp) rfl rfl ?_
   refine zaX ?_
   exact fun a w ha hw=>⟨b6,(zba rfl) _ _ _ ha,hw.weaken (zad [0,1,2,3,4,5,6,7,8] kr rfl)⟩
  ·
   rintro lp rc pre x2 post1 ⟨l14,l15,l16,l17,cost4,hd13,hd14,hd15,hd16⟩ jb1 w1 K1 hxs1 hext hro hinv
   have hrd:=hrd.ext hext
   have h:=hinv (x2::post1) hxs1
   obtain ⟨ag1,hag1⟩:∃ ag,ag=zdh dn1 (zbD l1) post1:=⟨_,rfl⟩
   have h:zbD l1 x2 ag1 l14 l15 l16 l17 cost4=some r:=by rw [hag1]; exact h
   unfold zbD at h
   refine zaG ?_
   obtain ⟨j2,hj2,h⟩:=zbO h
   refine zaY (β:=(List Int)×(List Int)×Hd×Hd) 0 rfl (fun b=>j2 b.1 b.2.1=some r) (fun b=>[]) (fun b=>[(3,zP b2),(5,zP b3),(6,zI 0),(7,zP b4),(8,zI x2.1),(9,zP jb1),(16,.func (.func 115) #[] #[zP b5])]) (fun b=>[cells bp1 [hd13.v,hd14.v,b.2.2.1.v,b.2.2.2.v,zI p1.heights] 131,zv1 hd13.v l14,zv0 hd14.v l15,zv0 b.2.2.1.v b.1,zv0 b.2.2.2.v b.2.1,cells b2 [zP bp1] 129,cells b3 (zr0 l1) 23,cells b4 [zI cost4] 3,cells jb1 (zr1 x2.2) 76]) (fun cut => ?_) ?_
   ·
    refine cut (zaH ?_)
    refine zbz 7 [(0,19,.pointer (some ⟨jb1,2,none⟩)),(1,20,zI x2.2.Stanza),(2,21,zP bp1),(3,22,zP bp1),(4,23,.pointer (some ⟨bp1,2,none⟩)),(5,24,hd15.v),(6,25,zI (l16.length:Int))] mixed kr kr dc (by rfl) kr kr (zae ?_ (zae ?_ (zae ?_ (zae ?_ (zae ?_ (zae ?_ (zae ?_ DrawPre.nil))))))) ?_
    · exact fun D n d c u i=>zac zg4 rfl dc (za8 (by rfl) rfl) (show _=2 from rfl) (zaf 0 u i rfl)
    · exact fun D n d c u i=>zan (k:=8) zbS rfl dc (zaa (m:=0) u rfl (d 0 dc)) rfl rfl (zaf 1 u i rfl)
    · exact fun D n d c u i=>zan (k:=5) zhu rfl dc (za8 (by rfl) rfl) rfl rfl (zaf 2 u i rfl)
    · exact fun D n d c u i=>zar rfl dc (zaa (m:=2) u rfl (d 2 dc)) (zaf 3 u i rfl)
    · exact fun D n d c u i=>zac zii rfl dc (zaa (m:=3) u rfl (d 3 dc)) (show _=2 from rfl) (zaf 4 u i rfl)
    · exact fun D n d c u i=>zan (k:=0) zgF rfl dc (zaa (m:=4) u rfl (d 4 dc)) rfl rfl (zaf 5 u i rfl)
    · exact fun D n d c u i=>zcm (k:=3) rfl dc (zaa (m:=5) u rfl (d 5 dc)) rfl Tryz.underlying49 (zaf 6 u i rfl)
    refine zaW rfl za1 (zyN ?_)
    refine zyB rfl h (fun h => ?_) (fun h => ?_)
    ·
     obtain ⟨hg1,h⟩:=zbw h
     obtain ⟨hg2,h⟩:=zbw h
     refine zfz 2 ?_
     refine let vals1:(Nat×Hd×Nat×Hd)→List (Nat×Nat×Value):=fun b=>[(0,27,zP bp1),(1,28,zP bp1),(2,29,zP bp1),(3,30,zP bp1),(4,31,.pointer (some ⟨bp1,2,none⟩)),(5,32,hd15.v),(6,33,zI x2.1),(7,34,.slice (some ⟨b.1,0,none⟩) 1 1),(8,35,b.2.1.v),(9,36,zP bp1),(10,37,zP bp1),(11,38,.pointer (some ⟨bp1,3,none⟩)),(12,39,hd16.v),(13,40,zI x2.1),(14,41,.slice (some ⟨b.2.2.1,0,none⟩) 1 1),(15,42,b.2.2.2.v),(16,43,zP bp1),(17,44,.pointer (some ⟨bp1,2,none⟩))]; let LL1:(Nat→Prop)→(Nat×Hd×Nat×Hd)→List Asn:=fun D b=>[eD D (cells bp1 [hd13.v,hd14.v,hd15.v,hd16.v,zI p1.heights] 131) [(18,cells bp1 [hd13.v,hd14.v,b.2.1.v,hd16.v,zI p1.heights] 131)],zv1 hd13.v l14,zv0 hd14.v l15,eD D (zv0 hd15.v l16) [(8,zv0 b.2.1.v (l16++[x2.1]))],eD D (zv0 hd16.v l17) [(15,zv0 b.2.2.2.v (l17++[x2.1]))],cells b2 [zP bp1] 129,cells b3 (zr0 l1) 23,cells b4 [zI cost4] 3,cells jb1 (zr1 x2.2) 76,eD D emp [(7,cells b.1 [zI x2.1] 3)],eD D emp [(14,cells b.2.2.1 [zI x2.1] 3)]]; ?_
     have zhq:zyQ [7,8,14,15,18] LL1:=fun i h D b=>zab (zja rfl h) (zab rfl (zab rfl (zab (zja rfl h) (zab (zja rfl h) (zab rfl (zab rfl (zab rfl (zab rfl (zab (zja rfl h) (zab (zja rfl h) rfl))))))))))
     refine zdB (β:=Nat×Hd×Nat×Hd) 19 ((0:Nat),Hd.nil,(0:Nat),Hd.nil) vals1 LL1 mixed kr kr dc (fun _=>rfl) (zab zbN (zek (zab zbN (zab zbN (zeH (zab zbN (zab zbN rfl))))))) (zgj zhq rfl (fun _=>rfl) (fun _=>rfl) ?_ (zgj zhq rfl (fun _=>rfl) (fun _=>rfl) ?_ (zgj zhq rfl (fun _=>rfl) (fun _=>rfl) ?_ (zyq zhq rfl (fun _=>rfl) (fun _=>rfl) ?_ (zyq zhq rfl (fun _=>rfl) (fun _=>rfl) ?_ (zgj zhq rfl (fun _=>rfl) (fun _=>rfl) ?_ (zlc zhq (fun _=>rfl) (fun _=>rfl) 1 6 (fun _=>rfl) rfl (zat ?_ (zat ?_ (zgj zhq rfl (fun _=>rfl) (fun _=>rfl) ?_ (zyq zhq rfl (fun _=>rfl) (fun _=>rfl) ?_ (zyq zhq rfl (fun _=>rfl) (fun _=>rfl) ?_ (zgj zhq rfl (fun _=>rfl) (fun _=>rfl) ?_ (zlc zhq (fun _=>rfl) (fun _=>rfl) 1 13 (fun _=>rfl) rfl (zat ?_ (zat ?_ (zyq zhq rfl (fun _=>rfl) (fun _=>rfl) ?_ (zyq zhq rfl (fun _=>rfl) (fun _=>rfl) ?_ (zat ?_ DrawG.nil))))))))))))))))))) ?_
     · exact fun D ⟨b7,hd19,b8,hd20⟩ n d c u i=>⟨_,(zab (zag (fun hD=>n (c 18 _ rfl hD 0 dc)) zaj) (zlN rfl)),zan (k:=5) zhu rfl dc (za8 (by rfl) rfl) rfl rfl (zaf 0 u i rfl)⟩
     · exact fun D ⟨b7,hd19,b8,hd20⟩ n d c u i=>⟨_,(zkU rfl),zan (k:=5) zhu rfl dc (za8 (by rfl) rfl) rfl rfl (zaf 1 u i rfl)⟩
     · exact fun D ⟨b7,hd19,b8,hd20⟩ n d c u i=>⟨_,(zab (zag (fun hD=>n (c 18 _ rfl hD 2 dc)) zaj) (zek (zab (zag (fun hD=>n (c 3 _ rfl (c 4 _ rfl (c 5 _ rfl (c 8 _ rfl hD 5 dc) 4 dc) 3 dc) 2 dc)) zaj) (zab (zag (fun hD=>n (c 3 _ rfl (c 4 _ rfl (c 5 _ rfl (c 8 _ rfl (c 15 _ rfl hD 8 dc) 5 dc) 4 dc) 3 dc) 2 dc)) zaj) (zs8 rfl))))),zan (k:=5) zhu rfl dc (za8 (by rfl) rfl) rfl rfl (zaf 2 u i rfl)⟩
     · exact fun D ⟨b7,hd19,b8,hd20⟩ n d c u i=>zar rfl dc (zaa (m:=2) u rfl (d 2 dc)) (zaf 3 u i rfl)
     · exact fun D ⟨b7,hd19,b8,hd20⟩ n d c u i=>zac zii rfl dc (zaa (m:=3) u rfl (d 3 dc)) (show _=2 from rfl) (zaf 4 u i rfl)
     · exact fun D ⟨b7,hd19,b8,hd20⟩ n d c u i=>⟨_,(zab (zag (fun hD=>n (c 18 _ rfl hD 5 dc)) zaj) (zek (zab (zag (fun hD=>n (c 8 _ rfl hD 5 dc)) zaj) (zab (zag (fun hD=>n (c 8 _ rfl (c 15 _ rfl hD 8 dc) 5 dc)) zaj) (zs8 rfl))))),zan (k:=0) zgF rfl dc (zaa (m:=4) u rfl (d 4 dc)) rfl rfl (zaf 5 u i rfl)⟩
     ·
      intro D b hn hd hcl
      obtain ⟨zb0,hd19,b8,hd20⟩:=b
      refine zaK (zab (zag (fun hD=>hn (hcl 18 _ rfl hD 7 dc)) zaj) (zek (zab (zag (fun hD=>hn (hcl 8 _ rfl hD 7 dc)) zaj) (zab (zag (fun hD=>hn (hcl 8 _ rfl (hcl 15 _ rfl hD 8 dc) 7 dc)) zaj) (zeH (zab (zag hn zaj) rfl)))))) ?_
      refine zaR (cs:=[zI x2.1]) (te:=3) (ps:=[(0,.tmp 33)]) rfl dc (evP.cons (zaa (m:=6) rfl rfl (hd 6 dc)) evP.nil) (fun _=>by kernel_rfl) (fun b7 => ?_)
      refine zcS 9 rfl rfl ?_
      exact zaQ (b:=(zb0,hd19,b8,hd20)) (b7,hd19,b8,hd20) 7 (by rfl) (by rfl) rfl (zjo (zao (fun hD=>absurd hD hn) (zrE rfl))) (zab ((zam (by rfl)).trans (zag (fun hD=>hn (hcl 18 _ rfl hD 7 dc)) zaj)) (zek (zab ((zam (by rfl)).trans (zag (fun hD=>hn (hcl 8 _ rfl hD 7 dc)) zaj)) (zab ((zam (by rfl)).trans (zag (fun hD=>hn (hcl 8 _ rfl (hcl 15 _ rfl hD 8 dc) 7 dc)) zaj)) (zeH (zab (zaE (Or.inr rfl) rfl) (zab (zam (by rfl)) rfl)))))))
     ·
      intro D b hn hd hcl
      obtain ⟨b7,zb1,b8,hd20⟩:=b
      refine zaK (zab (zag (fun hD=>hn (hcl 18 _ rfl hD 8 dc)) zaj) (zek (zab (zag hn zaj) (zab (zag (fun hD=>hn (hcl 15 _ rfl hD 8 dc)) zaj) (zeH (zab (zaE (hd 7 dc) rfl) rfl)))))) ?_
      refine zaZ (k:=3) (k2:=9) (ys:=[x2.1]) Tryz.underlying49 ztR zcO zgs rfl dc (zaa (m:=5) rfl rfl (hd 5 dc)) (zaa (m:=7) rfl rfl (hd 7 dc)) rfl rfl rfl rfl hg1 (fun v1 => ?_)
      refine zbo (k:=3) rfl (fun hd19 he1 => ?_)
      subst he1
      exact zaQ (b:=(b7,zb1,b8,hd20)) (b7,hd19,b8,hd20) 8 (by rfl) (by rfl) rfl (zhe (zao (fun hD=>absurd hD hn) (zw6 rfl))) (zab ((zam (by rfl)).trans (zag (fun hD=>hn (hcl 18 _ rfl hD 8 dc)) zaj)) (zek (zab (zaE (Or.inr rfl) rfl) (zab ((zam (by rfl)).trans (zag (fun hD=>hn (hcl 15 _ rfl hD 8 dc)) zaj)) (zeH (zab ((zam (by rfl)).trans (zaE (hd 7 dc) rfl)) (zab (zam (by rfl)) rfl)))))))
     · exact fun D ⟨b7,hd19,b8,hd20⟩ n d c u i=>⟨_,(zab (zag (fun hD=>n (c 10 _ rfl (c 11 _ rfl (c 12 _ rfl (c 18 _ rfl hD 12 dc) 11 dc) 10 dc) 9 dc)) zaj) (zcK (zab (zag (fun hD=>n (c 10 _ rfl (c 11 _ rfl (c 12 _ rfl (c 15 _ rfl hD 12 dc) 11 dc) 10 dc) 9 dc)) zaj) (zs8 rfl)))),zan (k:=5) zhu rfl dc (za8 (by rfl) rfl) rfl rfl (zaf 9 u i rfl)⟩
     · exact fun D ⟨b7,hd19,b8,hd20⟩ n d c u i=>zar rfl dc (zaa (m:=9) u rfl (d 9 dc)) (zaf 10 u i rfl)
     · exact fun D ⟨b7,hd19,b8,hd20⟩ n d c u i=>zac zjI rfl dc (zaa (m:=10) u rfl (d 10 dc)) (show _=3 from rfl) (zaf 11 u i rfl)
     · exact fun D ⟨b7,hd19,b8,hd20⟩ n d c u i=>⟨_,(zab (zag (fun hD=>n (c 18 _ rfl hD 12 dc)) zaj) (zcK (zab (zag (fun hD=>n (c 15 _ rfl hD 12 dc)) zaj) (zs8 rfl)))),zan (k:=0) zgF rfl dc (zaa (m:=11) u rfl (d 11 dc)) rfl rfl (zaf 12 u i rfl)⟩
     ·
      intro D b hn hd hcl
      obtain ⟨b7,hd19,zb2,hd20⟩:=b
      refine zaK (zab (zag (fun hD=>hn (hcl 15 _ rfl (hcl 18 _ rfl hD 15 dc) 14 dc)) zaj) (zcK (zab (zag (fun hD=>hn (hcl 15 _ rfl hD 14 dc)) zaj) (znG (zab (zag hn zaj) rfl))))) ?_
      refine zaR (cs:=[zI x2.1]) (te:=3) (ps:=[(0,.tmp 40)]) rfl dc (evP.cons (zaa (m:=13) rfl rfl (hd 13 dc)) evP.nil) (fun _=>by kernel_rfl) (fun b8 => ?_)
      refine zcS 10 rfl rfl ?_
      exact zaQ (b:=(b7,hd19,zb2,hd20)) (b7,hd19,b8,hd20) 14 (by rfl) (by rfl) rfl (zuj (zdg (zao (fun hD=>absurd hD hn) (ztb rfl)))) (zab ((zam (by rfl)).trans (zag (fun hD=>hn (hcl 15 _ rfl (hcl 18 _ rfl hD 15 dc) 14 dc)) zaj)) (zek (zab (zam (by rfl)) (zab ((zam (by rfl)).trans (zag (fun hD=>hn (hcl 15 _ rfl hD 14 dc)) zaj)) (zeH (zab (zam (by rfl)) (zab (zaE (Or.inr rfl) rfl) rfl)))))))
     ·
      intro D b hn hd hcl
      obtain ⟨b7,hd19,b8,zb3⟩:=b
      refine zaK (zab (zag (fun hD=>hn (hcl 18 _ rfl hD 15 dc)) zaj) (zek (zab (zaE (hd 8 dc) rfl) (zab (zag hn zaj) (zeH (zab (zaE (hcl 8 _ rfl (hd 8 dc) 7 dc) rfl) (zab (zaE (hd 14 dc) rfl) rfl))))))) ?_
      refine zaZ (k:=4) (k2:=10) (ys:=[x2.1]) Tryz.underlying49 ztR zcO zgs rfl dc (zaa (m:=12) rfl rfl (hd 12 dc)) (zaa (m:=14) rfl rfl (hd 14 dc)) rfl rfl rfl rfl hg2 (fun v2 => ?_)
      refine zbo (k:=4) rfl (fun hd20 he2 => ?_)
      subst he2
      exact zaQ (b:=(b7,hd19,b8,zb3)) (b7,hd19,b8,hd20) 15 (by rfl) (by rfl) rfl (ztb (zdg (zao (fun hD=>absurd hD hn) (zuj rfl)))) (zab ((zam (by rfl)).trans (zag (fun hD=>hn (hcl 18 _ rfl hD 15 dc)) zaj)) (zek (zab ((zam (by rfl)).trans (zaE (hd 8 dc) rfl)) (zab (zaE (Or.inr rfl) rfl) (zeH (zab ((zam (by rfl)).trans (zaE (hcl 8 _ rfl (hd 8 dc) 7 dc) rfl)) (zab ((zam (by rfl)).trans (zaE (hd 14 dc) rfl)) rfl)))))))
     · exact fun D ⟨b7,hd19,b8,hd20⟩ n d c u i=>zar rfl dc (zaa (m:=0) u rfl (d 0 dc)) (zaf 16 u i rfl)
     · exact fun D ⟨b7,hd19,b8,hd20⟩ n d c u i=>zac zii rfl dc (zaa (m:=16) u rfl (d 16 dc)) (show _=2 from rfl) (zaf 17 u i rfl)
     ·
      intro D b hn hd hcl
      obtain ⟨b7,hd19,b8,hd20⟩:=b
      refine zaK (zab (zag hn zaj) (zek (zab (zaE (hd 8 dc) rfl) (zab (zaE (hd 15 dc) rfl) (zeH (zab (zaE (hd 7 dc) rfl) (zab (zaE (hcl 15 _ rfl (hd 15 dc) 14 dc) rfl) rfl))))))) ?_
      refine zbe (k:=0) (l':=[hd13.v,hd14.v,hd19.v,hd16.v,zI p1.heights]) zp0 rfl (zaa (m:=17) rfl rfl (hd 17 dc)) (zaa (m:=8) rfl rfl (hd 8 dc)) rfl rfl (fun _ _=>rfl) rfl ?_
      exact ziB (b:=(b7,hd19,b8,hd20)) (b7,hd19,b8,hd20) (by rfl) (zta (zdg rfl)) (zab (zaE (Or.inr rfl) rfl) (zek (zab ((zam (by rfl)).trans (zaE (hd 8 dc) rfl)) (zab ((zam (by rfl)).trans (zaE (hd 15 dc) rfl)) (zeH (zab ((zam (by rfl)).trans (zaE (hd 7 dc) rfl)) (zab ((zam (by rfl)).trans (zaE (hcl 15 _ rfl (hd 15 dc) 14 dc) rfl)) rfl)))))))
     intro D b hall
     obtain ⟨b7,hd19,b8,hd20⟩:=b
     refine zaK (zab (zaE (hall 18 dc) rfl) (zek (zab (zaE (hall 8 dc) rfl) (zab (zaE (hall 15 dc) rfl) (zeH (zab (zaE (hall 7 dc) rfl) (zab (zaE (hall 14 dc) rfl) rfl))))))) (zar rfl dc rfl (zac zjI rfl dc rfl (show _=3 from rfl) ?_))
     refine zbe (k:=0) (l':=[hd13.v,hd14.v,hd19.v,hd20.v,zI p1.heights]) zp0 rfl rfl rfl rfl rfl (fun _ _=>rfl) rfl ?_
     refine zaX ?_
     exact zaq (l16++[x2.1],l17++[x2.1],hd19,hd20) h rfl (zba rfl) (zad [0,1,2,3,4,5,6,7,8] kr rfl)
    refine zau ?_
    exact zaq (l16,l17,hd15,hd16) h rfl (zba rfl) (zad [0,1,2,3,4,5,6,7,8] kr rfl)
   rintro ⟨l18,l19,hd17,hd18⟩ h
   rw [hj2] at h
   refine zaH ?_
   obtain ⟨q1,hq3,h⟩:=zbx h
   refine zbz 7 [(0,47,zP bp1),(1,48,zP bp1),(2,49,.pointer (some ⟨bp1,3,none⟩)),(3,50,hd18.v),(4,51,.pointer (some ⟨jb1,2,none⟩)),(5,52,zI x2.2.Stanza),(6,53,zI x2.1)] mixed kr kr dc (by rfl) kr kr (zae ?_ (zae ?_ (zae ?_ (zae ?_ (zae ?_ (zae ?_ (zyP 1 6 rfl DrawPre.nil))))))) ?_
   · exact fun D n d c u i=>zan (k:=5) zhu rfl dc (za8 (by rfl) rfl) rfl rfl (zaf 0 u i rfl)
   · exact fun D n d c u i=>zar rfl dc (zaa (m:=0) u rfl (d 0 dc)) (zaf 1 u i rfl)
   · exact fun D n d c u i=>zac zjI rfl dc (zaa (m:=1) u rfl (d 1 dc)) (show _=3 from rfl) (zaf 2 u i rfl)
   · exact fun D n d c u i=>zan (k:=0) zgF rfl dc (zaa (m:=2) u rfl (d 2 dc)) rfl rfl (zaf 3 u i rfl)
   · exact fun D n d c u i=>zac zg4 rfl dc (za8 (by rfl) rfl) (show _=2 from rfl) (zaf 4 u i rfl)
   · exact fun D n d c u i=>zan (k:=8) zbS rfl dc (zaa (m:=4) u rfl (d 4 dc)) rfl rfl (zaf 5 u i rfl)
   refine zaL (k:=4) hq3 Tryz.underlying49 zf9 rfl dc rfl rfl rfl rfl ?_
   refine zei (i:=(x2.2.Stanza:Int).toNat) (j:=0) (k:=4) (q:=q1) (q':=x2.1) zf9 zcO rfl rfl rfl rfl (za0 hq3) rfl dc rfl (fun _ _=>rfl) ?_
   refine zyH (zac zkx rfl dc rfl (show _=0 from rfl) (zan (k:=8) zjc rfl dc rfl rfl rfl (zac zkw rfl dc rfl (show _=1 from rfl) (zan (k:=8) zbS rfl dc rfl rfl rfl (za5 (k:=6) (cs:=(zr0 l1)) zkZ rfl dc rfl rfl rfl rfl ?_)))))
   obtain ⟨r2,hq4,h⟩:=zbx h
   refine zdI (vs:=[.string x2.2.Text,zI x2.2.Indent,.agg (zr0 l1).toArray]) rfl dc rfl rfl rfl zu6 (zjf (l1:=l1) hq4) Splits.nil ?_
   rintro v3
   refine zbo (k:=9) rfl (fun hd21 he3 => ?_)
   subst he3
   refine zyR 1 rfl (zaJ rfl dc rfl rfl (zaJ rfl dc rfl rfl (zyR 2 rfl (zyH (zan (k:=7) zbS rfl dc rfl rfl rfl (zyR 1 rfl ?_))))))
   obtain ⟨hg3,h⟩:=zbw h
   refine zaW rfl (zaV (r:=cost4+r2.2) (IntWalk.i64_in _ hg3)) ?_
   refine zbe (k:=7) (l':=[zI (cost4+r2.2)]) zf9 rfl rfl rfl rfl rfl (fun _ _=>rfl) rfl ?_
   refine zyH (zyR 1 rfl (zcm (k:=9) rfl dc rfl rfl Tryz.underlying70 (zyR 1 rfl (zyN (zaG ?_)))))
   refine zbt (β:=Nat×(List Gapi_Row)×(List Int)×Int×Hd×Hd) (fun b=>zaM (fun _ _ _=>none) (zbq l1 x2 ag1 cost4 l18 l19 r2) b.1 b.2.1 b.2.2.1 b.2.2.2.1=some r) (fun b=>[]) (fun b=>[(3,zP b2),(5,zP b3),(6,zI 0),(7,zP b4),(8,zI x2.1),(9,zP jb1),(16,.func (.func 115) #[] #[zP b5]),(67,hd21.v),(68,zI (r2.1.length:Int)),(69,zI b.2.2.2.1)]) (fun b=>[cells bp1 [b.2.2.2.2.1.v,b.2.2.2.2.2.v,hd17.v,hd18.v,zI p1.heights] 131,zv1 b.2.2.2.2.1.v b.2.1,zv0 b.2.2.2.2.2.v b.2.2.1,zv0 hd17.v l18,zv0 hd18.v (l19.set (x2.2.Stanza:Int).toNat x2.1),cells b2 [zP bp1] 129,cells b3 (zr0 l1) 23,cells b4 [zI (cost4+r2.2)] 3,cells jb1 (zr1 x2.2) 76,zv7 hd21.v r2.1]) (fun b=>b.1) (zb4,l14,l15,0,hd13,hd14) h rfl (zba rfl) (zad [0,1,2,3,4,5,6,7,8,9] kr rfl) ?_
   rintro ⟨n1,l24,l25,x5,hd26,hd27⟩ h
   cases n1 with
   | zero=>exact zdG h
   | succ n1 =>
    obtain ⟨ag2,hag2⟩:∃ ag,ag=zaM (fun _ _ _=>none) (zbq l1 x2 ag1 cost4 l18 l19 r2) n1:=⟨_,rfl⟩
    have h:zbq l1 x2 ag1 cost4 l18 l19 r2 ag2 l24 l25 x5=some r:=by rw [hag2]; exact h
    unfold zbq at h
    refine zyG (zaW rfl zbA (zyN (zaH ?_)))
    refine zyB rfl h (fun h => ?_) (fun h => ?_)
    ·
     refine zau (zaI (zaH (zaG ?_)))
     obtain ⟨j3,hj3,h⟩:=zbO h
     refine zaY (β:=Int×Int×ByteArray×Nat) 2 rfl (fun b=>j3 b.1 b.2.1 b.2.2.1=some r) (fun b=>[]) (fun b=>[(3,zP b2),(5,zP b3),(6,zI 0),(7,zP b4),(8,zI x2.1),(9,zP jb1),(14,zP b.2.2.2),(16,.func (.func 115) #[] #[zP b5]),(67,hd21.v),(68,zI (r2.1.length:Int)),(69,zI x5)]) (fun b=>[cells bp1 [hd26.v,hd27.v,hd17.v,hd18.v,zI p1.heights] 131,zv1 hd26.v l24,zv0 hd27.v l25,zv0 hd17.v l18,zv0 hd18.v (l19.set (x2.2.Stanza:Int).toNat x2.1),cells b2 [zP bp1] 129,cells b3 (zr0 l1) 23,cells b4 [zI (cost4+r2.2)] 3,cells jb1 (zr1 x2.2) 76,cells b.2.2.2 [zI x2.1,zI x2.2.Stanza,zI x5,zI b.1,zI b.2.1,.string b.2.2.1] 33,zv7 hd21.v r2.1]) (fun cut => ?_) ?_
     ·
      refine zyG (zyR 1 rfl ?_)
      obtain ⟨q2,hq5,h⟩:=zbx h
      refine zaL (k:=9) hq5 Tryz.underlying70 zrz rfl dc rfl rfl rfl rfl (zbk (i:=(x5:Int).toNat) (j:=0) (k:=9) (q:=q2) zjc zfA rfl dc rfl rfl (za0 hq5) rfl dc rfl (zyR 2 rfl (zyH (zyR 1 rfl (zac zg4 rfl dc rfl (show _=2 from rfl) (zan (k:=8) zbS rfl dc rfl rfl rfl (zyR 1 rfl (zac ziU rfl dc rfl (show _=2 from rfl) (zan (k:=6) zbS rfl dc rfl rfl rfl ?_)))))))))
      refine zyR 1 rfl ?_
      refine zbb (v:=.agg #[zI x2.1,zI x2.2.Stanza,zI x5,zI l1.Turn,zI 0,.string q2]) (ps:=[(0,.tmp 74),(1,.tmp 76),(2,.tmp 77),(3,.tmp 79),(5,.tmp 80)]) rfl dc rfl (fun _=>by kernel_rfl) ?_
      refine zbg znH rfl dc (fun b10 => ?_)
      refine zaU (k:=10) (vs:=[zI x2.1,zI x2.2.Stanza,zI x5,zI l1.Turn,zI 0,.string q2]) (l':=[zI x2.1,zI x2.2.Stanza,zI x5,zI l1.Turn,zI 0,.string q2]) zhW rfl rfl rfl rfl rfl (show _≤_ by simp) rfl rfl ?_
      refine zyN (cut (zyG (zyR 1 rfl (zaW rfl za1 (zyN ?_)))))
      refine zyB rfl h (fun h => ?_) (fun h => ?_)
      ·
       refine zyG (zac zkw rfl dc rfl (show _=1 from rfl) (zan (k:=8) zbS rfl dc rfl rfl rfl (zac zmj rfl dc rfl (show _=3 from rfl) ?_)))
       refine zbe (k:=10) (l':=[zI x2.1,zI x2.2.Stanza,zI x5,zI x2.2.Indent,zI 0,.string q2]) zf9 rfl rfl rfl rfl rfl (fun _ _=>rfl) rfl ?_
       refine zyH (zac ziT rfl dc rfl (show _=3 from rfl) (zan (k:=6) zbS rfl dc rfl rfl rfl (zaW rfl zcR (zyR 1 rfl ?_))))
       refine zyS (s:=90) rfl h (fun h => ?_) (fun h => ?_)
       ·
        refine zyR 1 rfl ?_
        obtain ⟨hg4,h⟩:=zbw h
        refine zaW rfl (zaV (r:=x2.1+1) (IntWalk.i64_in _ hg4)) (zac ziT rfl dc rfl (show _=3 from rfl) (zan (k:=6) zbS rfl dc rfl rfl rfl ?_))
        obtain ⟨hg5,h⟩:=zbw h
        refine zaW rfl (zt1 hg5 rfl) (zaW rfl za1 (zyR 1 rfl (zyN ?_)))
        refine zyB rfl h (fun h => ?_) (fun h => ?_)
        ·
         refine zaB (zyR 1 rfl ?_)
         obtain ⟨hg6,h⟩:=zbw h
         refine zaW rfl (zaV (r:=x2.1+1) (IntWalk.i64_in _ hg6)) (zac ztI rfl dc rfl (show _=4 from rfl) ?_)
         refine zbe (k:=10) (l':=[zI x2.1,zI x2.2.Stanza,zI x5,zI x2.2.Indent,zI (x2.1+1),.string q2]) zf9 rfl rfl rfl rfl rfl (fun _ _=>rfl) rfl ?_
         refine zaX ?_
         exact zaq (x2.2.Indent,x2.1+1,q2,b10) h rfl (zba rfl) (zad [0,1,2,3,4,5,6,7,8,10,9] kr rfl)
        refine zau ?_
        exact zaq (x2.2.Indent,0,q2,b10) h rfl (zba rfl) (zad [0,1,2,3,4,5,6,7,8,10,9] kr rfl)
       refine zyR 7 rfl (zyN (zaT rfl (zau ?_)))
       exact zaq (x2.2.Indent,0,q2,b10) h rfl (zba rfl) (zad [0,1,2,3,4,5,6,7,8,10,9] kr rfl)
      refine zau ?_
      exact zaq (l1.Turn,0,q2,b10) h rfl (zba rfl) (zad [0,1,2,3,4,5,6,7,8,10,9] kr rfl)
     rintro ⟨r3,r4,r5,b9⟩ h
     rw [hj3] at h
     obtain ⟨hg7,h⟩:=zbw h
     obtain ⟨hg8,h⟩:=zbw h
     refine zfz 2 ?_
     refine let vals2:(Nat×Hd×Nat×Hd)→List (Nat×Nat×Value):=fun b=>[(0,101,zP bp1),(1,102,zP bp1),(2,103,zP bp1),(3,104,zP bp1),(4,105,zP bp1),(5,106,hd26.v),(6,107,.agg #[zI x2.1,zI x2.2.Stanza,zI x5,zI r3,zI r4,.string r5]),(7,108,.slice (some ⟨b.1,0,none⟩) 1 1),(8,109,b.2.1.v),(9,110,zP bp1),(10,111,zP bp1),(11,112,.pointer (some ⟨bp1,1,none⟩)),(12,113,hd27.v),(13,114,.pointer (some ⟨jb1,2,none⟩)),(14,115,zI x2.2.Stanza),(15,116,.slice (some ⟨b.2.2.1,0,none⟩) 1 1),(16,117,b.2.2.2.v),(17,118,zP bp1),(18,119,zP bp1)]; let LL2:(Nat→Prop)→(Nat×Hd×Nat×Hd)→List Asn:=fun D b=>[eD D (cells bp1 [hd26.v,hd27.v,hd17.v,hd18.v,zI p1.heights] 131) [(19,cells bp1 [b.2.1.v,hd27.v,hd17.v,hd18.v,zI p1.heights] 131)],eD D (zv1 hd26.v l24) [(8,zv1 b.2.1.v (l24++[(⟨x2.1,x2.2.Stanza,x5,r3,r4,r5⟩:Gapi_Row)]))],eD D (zv0 hd27.v l25) [(16,zv0 b.2.2.2.v (l25++[x2.2.Stanza]))],zv0 hd17.v l18,zv0 hd18.v (l19.set (x2.2.Stanza:Int).toNat x2.1),cells b2 [zP bp1] 129,cells b3 (zr0 l1) 23,cells b4 [zI (cost4+r2.2)] 3,cells jb1 (zr1 x2.2) 76,cells b9 [zI x2.1,zI x2.2.Stanza,zI x5,zI r3,zI r4,.string r5] 33,zv7 hd21.v r2.1,eD D emp [(7,cells b.1 [zI x2.1,zI x2.2.Stanza,zI x5,zI r3,zI r4,.string r5] 33)],eD D emp [(15,cells b.2.2.1 [zI x2.2.Stanza] 3)]]; ?_
     refine zdB (β:=Nat×Hd×Nat×Hd) 20 ((0:Nat),Hd.nil,(0:Nat),Hd.nil) vals2 LL2 mixed kr kr dc (fun _=>rfl) (zab zbN (zab zbN (zab zbN (zhR (zab zbN (zab zbN rfl)))))) (zat ?_ (zat ?_ (zat ?_ (zat ?_ (zat ?_ (zat ?_ (zat ?_ (zat ?_ (zat ?_ (zat ?_ (zat ?_ (zat ?_ (zat ?_ (zat ?_ (zat ?_ (zat ?_ (zat ?_ (zat ?_ (zat ?_ (zat ?_ DrawG.nil)))))))))))))))))))) ?_
     ·
      intro D b hn hd hcl
      obtain ⟨b11,hd28,b12,hd29⟩:=b
      refine zaK (zab (zag (fun hD=>hn (hcl 19 _ rfl hD 0 dc)) zaj) (zs9 rfl)) ?_
      refine zan (k:=5) zhu rfl dc (za8 (by rfl) rfl) rfl rfl ?_
      exact zaQ (b:=(b11,hd28,b12,hd29)) (b11,hd28,b12,hd29) 0 (by rfl) (by rfl) rfl (zjo (zdg rfl)) (zab ((zam (by rfl)).trans (zag (fun hD=>hn (hcl 19 _ rfl hD 0 dc)) zaj)) (zab (zam (by rfl)) (zab (zam (by rfl)) (zhR (zab (zam (by rfl)) (zab (zam (by rfl)) rfl))))))
     ·
      intro D b hn hd hcl
      obtain ⟨b11,hd28,b12,hd29⟩:=b
      refine zaK (zab rfl (zs9 rfl)) (zan (k:=5) zhu rfl dc (za8 (by rfl) rfl) rfl rfl ?_)
      exact zaQ (b:=(b11,hd28,b12,hd29)) (b11,hd28,b12,hd29) 1 (by rfl) (by rfl) rfl (zjo (zdg rfl)) (zab (zam (by rfl)) (zab (zam (by rfl)) (zab (zam (by rfl)) (zhR (zab (zam (by rfl)) (zab (zam (by rfl)) rfl))))))
     ·
      intro D b hn hd hcl
      obtain ⟨b11,hd28,b12,hd29⟩:=b
      refine zaK (zab (zag (fun hD=>hn (hcl 19 _ rfl hD 2 dc)) zaj) (zab (zag (fun hD=>hn (hcl 3 _ rfl (hcl 4 _ rfl (hcl 5 _ rfl (hcl 8 _ rfl hD 5 dc) 4 dc) 3 dc) 2 dc)) zaj) (zab (zag (fun hD=>hn (hcl 3 _ rfl (hcl 4 _ rfl (hcl 5 _ rfl (hcl 8 _ rfl (hcl 16 _ rfl hD 8 dc) 5 dc) 4 dc) 3 dc) 2 dc)) zaj) (zlN rfl)))) ?_
      refine zan (k:=5) zhu rfl dc (za8 (by rfl) rfl) rfl rfl ?_
      exact zaQ (b:=(b11,hd28,b12,hd29)) (b11,hd28,b12,hd29) 2 (by rfl) (by rfl) rfl (zjo (zdg rfl)) (zab ((zam (by rfl)).trans (zag (fun hD=>hn (hcl 19 _ rfl hD 2 dc)) zaj)) (zab ((zam (by rfl)).trans (zag (fun hD=>hn (hcl 3 _ rfl (hcl 4 _ rfl (hcl 5 _ rfl (hcl 8 _ rfl hD 5 dc) 4 dc) 3 dc) 2 dc)) zaj)) (zab ((zam (by rfl)).trans (zag (fun hD=>hn (hcl 3 _ rfl (hcl 4 _ rfl (hcl 5 _ rfl (hcl 8 _ rfl (hcl 16 _ rfl hD 8 dc) 5 dc) 4 dc) 3 dc) 2 dc)) zaj)) (zhR (zab (zam (by rfl)) (zab (zam (by rfl)) rfl))))))
     ·
      intro D b hn hd hcl
      obtain ⟨b11,hd28,b12,hd29⟩:=b
      refine zaK (zab (zag (fun hD=>hn (hcl 19 _ rfl hD 3 dc)) zaj) (zab (zag (fun hD=>hn (hcl 4 _ rfl (hcl 5 _ rfl (hcl 8 _ rfl hD 5 dc) 4 dc) 3 dc)) zaj) (zab (zag (fun hD=>hn (hcl 4 _ rfl (hcl 5 _ rfl (hcl 8 _ rfl (hcl 16 _ rfl hD 8 dc) 5 dc) 4 dc) 3 dc)) zaj) (zlN rfl)))) ?_
      refine zar rfl dc (zaa (m:=2) rfl rfl (hd 2 dc)) ?_
      exact zaQ (b:=(b11,hd28,b12,hd29)) (b11,hd28,b12,hd29) 3 (by rfl) (by rfl) rfl (zjo (zdg rfl)) (zab ((zam (by rfl)).trans (zag (fun hD=>hn (hcl 19 _ rfl hD 3 dc)) zaj)) (zab ((zam (by rfl)).trans (zag (fun hD=>hn (hcl 4 _ rfl (hcl 5 _ rfl (hcl 8 _ rfl hD 5 dc) 4 dc) 3 dc)) zaj)) (zab ((zam (by rfl)).trans (zag (fun hD=>hn (hcl 4 _ rfl (hcl 5 _ rfl (hcl 8 _ rfl (hcl 16 _ rfl hD 8 dc) 5 dc) 4 dc) 3 dc)) zaj)) (zhR (zab (zam (by rfl)) (zab (zam (by rfl)) rfl))))))
     ·
      intro D b hn hd hcl
      obtain ⟨b11,hd28,b12,hd29⟩:=b
      refine zaK (zab (zag (fun hD=>hn (hcl 19 _ rfl hD 4 dc)) zaj) (zab (zag (fun hD=>hn (hcl 5 _ rfl (hcl 8 _ rfl hD 5 dc) 4 dc)) zaj) (zab (zag (fun hD=>hn (hcl 5 _ rfl (hcl 8 _ rfl (hcl 16 _ rfl hD 8 dc) 5 dc) 4 dc)) zaj) (zlN rfl)))) ?_
      refine zac zfX rfl dc (zaa (m:=3) rfl rfl (hd 3 dc)) (show _=0 from rfl) ?_
      exact zaQ (b:=(b11,hd28,b12,hd29)) (b11,hd28,b12,hd29) 4 (by rfl) (by rfl) rfl (zjo (zdg rfl)) (zab ((zam (by rfl)).trans (zag (fun hD=>hn (hcl 19 _ rfl hD 4 dc)) zaj)) (zab ((zam (by rfl)).trans (zag (fun hD=>hn (hcl 5 _ rfl (hcl 8 _ rfl hD 5 dc) 4 dc)) zaj)) (zab ((zam (by rfl)).trans (zag (fun hD=>hn (hcl 5 _ rfl (hcl 8 _ rfl (hcl 16 _ rfl hD 8 dc) 5 dc) 4 dc)) zaj)) (zhR (zab (zam (by rfl)) (zab (zam (by rfl)) rfl))))))
     ·
      intro D b hn hd hcl
      obtain ⟨b11,hd28,b12,hd29⟩:=b
      refine zaK (zab (zag (fun hD=>hn (hcl 19 _ rfl hD 5 dc)) zaj) (zab (zag (fun hD=>hn (hcl 8 _ rfl hD 5 dc)) zaj) (zab (zag (fun hD=>hn (hcl 8 _ rfl (hcl 16 _ rfl hD 8 dc) 5 dc)) zaj) (zlN rfl)))) ?_
      refine zan (k:=0) zjY rfl dc (zaa (m:=4) rfl rfl (hd 4 dc)) rfl rfl ?_
      exact zaQ (b:=(b11,hd28,b12,hd29)) (b11,hd28,b12,hd29) 5 (by rfl) (by rfl) rfl (zjo (zdg rfl)) (zab ((zam (by rfl)).trans (zag (fun hD=>hn (hcl 19 _ rfl hD 5 dc)) zaj)) (zab ((zam (by rfl)).trans (zag (fun hD=>hn (hcl 8 _ rfl hD 5 dc)) zaj)) (zab ((zam (by rfl)).trans (zag (fun hD=>hn (hcl 8 _ rfl (hcl 16 _ rfl hD 8 dc) 5 dc)) zaj)) (zhR (zab (zam (by rfl)) (zab (zam (by rfl)) rfl))))))
     ·
      intro D b hn hd hcl
      obtain ⟨b11,hd28,b12,hd29⟩:=b
      refine zaK (zab (zag (fun hD=>hn (hcl 19 _ rfl hD 6 dc)) zaj) (zab (zag (fun hD=>hn (hcl 7 _ rfl (hcl 8 _ rfl hD 7 dc) 6 dc)) zaj) (zab (zag (fun hD=>hn (hcl 7 _ rfl (hcl 8 _ rfl (hcl 16 _ rfl hD 8 dc) 7 dc) 6 dc)) zaj) (zhR (zab (zag (fun hD=>hn (hcl 7 _ rfl hD 6 dc)) zaj) rfl))))) ?_
      refine za5 (k:=9) (cs:=[zI x2.1,zI x2.2.Stanza,zI x5,zI r3,zI r4,.string r5]) zj0 rfl dc (za8 (by rfl) rfl) rfl rfl rfl ?_
      exact zaQ (b:=(b11,hd28,b12,hd29)) (b11,hd28,b12,hd29) 6 (by rfl) (by rfl) rfl (zjo (zdg rfl)) (zab ((zam (by rfl)).trans (zag (fun hD=>hn (hcl 19 _ rfl hD 6 dc)) zaj)) (zab ((zam (by rfl)).trans (zag (fun hD=>hn (hcl 7 _ rfl (hcl 8 _ rfl hD 7 dc) 6 dc)) zaj)) (zab ((zam (by rfl)).trans (zag (fun hD=>hn (hcl 7 _ rfl (hcl 8 _ rfl (hcl 16 _ rfl hD 8 dc) 7 dc) 6 dc)) zaj)) (zhR (zab ((zam (by rfl)).trans (zag (fun hD=>hn (hcl 7 _ rfl hD 6 dc)) zaj)) (zab (zam (by rfl)) rfl))))))
     ·
      intro D b hn hd hcl
      obtain ⟨zb0,hd28,b12,hd29⟩:=b
      refine zaK (zab (zag (fun hD=>hn (hcl 19 _ rfl hD 7 dc)) zaj) (zab (zag (fun hD=>hn (hcl 8 _ rfl hD 7 dc)) zaj) (zab (zag (fun hD=>hn (hcl 8 _ rfl (hcl 16 _ rfl hD 8 dc) 7 dc)) zaj) (zhR (zab (zag hn zaj) rfl))))) ?_
      refine zaR (cs:=[zI x2.1,zI x2.2.Stanza,zI x5,zI r3,zI r4,.string r5]) (te:=33) (ps:=[(0,.tmp 107)]) rfl dc (evP.cons (zaa (m:=6) rfl rfl (hd 6 dc)) evP.nil) (fun _=>by kernel_rfl) (fun b11 => ?_)
      refine zcS 11 rfl rfl ?_
      exact zaQ (b:=(zb0,hd28,b12,hd29)) (b11,hd28,b12,hd29) 7 (by rfl) (by rfl) rfl (zjo (zao (fun hD=>absurd hD hn) (zuk rfl))) (zab ((zam (by rfl)).trans (zag (fun hD=>hn (hcl 19 _ rfl hD 7 dc)) zaj)) (zab ((zam (by rfl)).trans (zag (fun hD=>hn (hcl 8 _ rfl hD 7 dc)) zaj)) (zab ((zam (by rfl)).trans (zag (fun hD=>hn (hcl 8 _ rfl (hcl 16 _ rfl hD 8 dc) 7 dc)) zaj)) (zhR (zab (zaE (Or.inr rfl) rfl) (zab (zam (by rfl)) rfl))))))
     ·
      intro D b hn hd hcl
      obtain ⟨b11,zb1,b12,hd29⟩:=b
      refine zaK (zab (zag (fun hD=>hn (hcl 19 _ rfl hD 8 dc)) zaj) (zab (zag hn zaj) (zab (zag (fun hD=>hn (hcl 16 _ rfl hD 8 dc)) zaj) (zhR (zab (zaE (hd 7 dc) rfl) rfl))))) ?_
      refine zaZ (k:=1) (k2:=11) (ys:=[(⟨x2.1,x2.2.Stanza,x5,r3,r4,r5⟩:Gapi_Row)]) Tryz.underlying43 zsq zbY zeF rfl dc (zaa (m:=5) rfl rfl (hd 5 dc)) (zaa (m:=7) rfl rfl (hd 7 dc)) rfl rfl rfl rfl hg7 (fun v4 => ?_)
      refine zbo (k:=1) rfl (fun hd28 he4 => ?_)
      subst he4
      exact zaQ (b:=(b11,zb1,b12,hd29)) (b11,hd28,b12,hd29) 8 (by rfl) (by rfl) rfl (zhe (zao (fun hD=>absurd hD hn) (zrE rfl))) (zab ((zam (by rfl)).trans (zag (fun hD=>hn (hcl 19 _ rfl hD 8 dc)) zaj)) (zab (zaE (Or.inr rfl) rfl) (zab ((zam (by rfl)).trans (zag (fun hD=>hn (hcl 16 _ rfl hD 8 dc)) zaj)) (zhR (zab ((zam (by rfl)).trans (zaE (hd 7 dc) rfl)) (zab (zam (by rfl)) rfl))))))
     ·
      intro D b hn hd hcl
      obtain ⟨b11,hd28,b12,hd29⟩:=b
      refine zaK (zab (zag (fun hD=>hn (hcl 10 _ rfl (hcl 11 _ rfl (hcl 12 _ rfl (hcl 19 _ rfl hD 12 dc) 11 dc) 10 dc) 9 dc)) zaj) (zab rfl (zab (zag (fun hD=>hn (hcl 10 _ rfl (hcl 11 _ rfl (hcl 12 _ rfl (hcl 16 _ rfl hD 12 dc) 11 dc) 10 dc) 9 dc)) zaj) (zlN rfl)))) ?_
      refine zan (k:=5) zhu rfl dc (za8 (by rfl) rfl) rfl rfl ?_
      exact zaQ (b:=(b11,hd28,b12,hd29)) (b11,hd28,b12,hd29) 9 (by rfl) (by rfl) rfl (zjo (zdg rfl)) (zab ((zam (by rfl)).trans (zag (fun hD=>hn (hcl 10 _ rfl (hcl 11 _ rfl (hcl 12 _ rfl (hcl 19 _ rfl hD 12 dc) 11 dc) 10 dc) 9 dc)) zaj)) (zab (zam (by rfl)) (zab ((zam (by rfl)).trans (zag (fun hD=>hn (hcl 10 _ rfl (hcl 11 _ rfl (hcl 12 _ rfl (hcl 16 _ rfl hD 12 dc) 11 dc) 10 dc) 9 dc)) zaj)) (zhR (zab (zam (by rfl)) (zab (zam (by rfl)) rfl))))))
     ·
      intro D b hn hd hcl
      obtain ⟨b11,hd28,b12,hd29⟩:=b
      refine zaK (zab (zag (fun hD=>hn (hcl 11 _ rfl (hcl 12 _ rfl (hcl 19 _ rfl hD 12 dc) 11 dc) 10 dc)) zaj) (zab rfl (zab (zag (fun hD=>hn (hcl 11 _ rfl (hcl 12 _ rfl (hcl 16 _ rfl hD 12 dc) 11 dc) 10 dc)) zaj) (zlN rfl)))) ?_
      refine zar rfl dc (zaa (m:=9) rfl rfl (hd 9 dc)) ?_
      exact zaQ (b:=(b11,hd28,b12,hd29)) (b11,hd28,b12,hd29) 10 (by rfl) (by rfl) rfl (zjo (zdg rfl)) (zab ((zam (by rfl)).trans (zag (fun hD=>hn (hcl 11 _ rfl (hcl 12 _ rfl (hcl 19 _ rfl hD 12 dc) 11 dc) 10 dc)) zaj)) (zab (zam (by rfl)) (zab ((zam (by rfl)).trans (zag (fun hD=>hn (hcl 11 _ rfl (hcl 12 _ rfl (hcl 16 _ rfl hD 12 dc) 11 dc) 10 dc)) zaj)) (zhR (zab (zam (by rfl)) (zab (zam (by rfl)) rfl))))))
     ·
      intro D b hn hd hcl
      obtain ⟨b11,hd28,b12,hd29⟩:=b
      refine zaK (zab (zag (fun hD=>hn (hcl 12 _ rfl (hcl 19 _ rfl hD 12 dc) 11 dc)) zaj) (zab rfl (zab (zag (fun hD=>hn (hcl 12 _ rfl (hcl 16 _ rfl hD 12 dc) 11 dc)) zaj) (zlN rfl)))) ?_
      refine zac zjJ rfl dc (zaa (m:=10) rfl rfl (hd 10 dc)) (show _=1 from rfl) ?_
      exact zaQ (b:=(b11,hd28,b12,hd29)) (b11,hd28,b12,hd29) 11 (by rfl) (by rfl) rfl (zjo (zdg rfl)) (zab ((zam (by rfl)).trans (zag (fun hD=>hn (hcl 12 _ rfl (hcl 19 _ rfl hD 12 dc) 11 dc)) zaj)) (zab (zam (by rfl)) (zab ((zam (by rfl)).trans (zag (fun hD=>hn (hcl 12 _ rfl (hcl 16 _ rfl hD 12 dc) 11 dc)) zaj)) (zhR (zab (zam (by rfl)) (zab (zam (by rfl)) rfl))))))
     ·
      intro D b hn hd hcl
      obtain ⟨b11,hd28,b12,hd29⟩:=b
      refine zaK (zab (zag (fun hD=>hn (hcl 19 _ rfl hD 12 dc)) zaj) (zab rfl (zab (zag (fun hD=>hn (hcl 16 _ rfl hD 12 dc)) zaj) (zlN rfl)))) ?_
      refine zan (k:=0) zgF rfl dc (zaa (m:=11) rfl rfl (hd 11 dc)) rfl rfl ?_
      exact zaQ (b:=(b11,hd28,b12,hd29)) (b11,hd28,b12,hd29) 12 (by rfl) (by rfl) rfl (zjo (zdg rfl)) (zab ((zam (by rfl)).trans (zag (fun hD=>hn (hcl 19 _ rfl hD 12 dc)) zaj)) (zab (zam (by rfl)) (zab ((zam (by rfl)).trans (zag (fun hD=>hn (hcl 16 _ rfl hD 12 dc)) zaj)) (zhR (zab (zam (by rfl)) (zab (zam (by rfl)) rfl))))))
     ·
      intro D b hn hd hcl
      obtain ⟨b11,hd28,b12,hd29⟩:=b
      refine zaK (zab (zag (fun hD=>hn (hcl 14 _ rfl (hcl 15 _ rfl (hcl 16 _ rfl (hcl 19 _ rfl hD 16 dc) 15 dc) 14 dc) 13 dc)) zaj) (zab rfl (zab (zag (fun hD=>hn (hcl 14 _ rfl (hcl 15 _ rfl (hcl 16 _ rfl hD 15 dc) 14 dc) 13 dc)) zaj) (zvF (zab (zag (fun hD=>hn (hcl 14 _ rfl (hcl 15 _ rfl hD 14 dc) 13 dc)) zaj) rfl))))) ?_
      refine zac zg4 rfl dc (za8 (by rfl) rfl) (show _=2 from rfl) ?_
      exact zaQ (b:=(b11,hd28,b12,hd29)) (b11,hd28,b12,hd29) 13 (by rfl) (by rfl) rfl (zjo (zdg rfl)) (zab ((zam (by rfl)).trans (zag (fun hD=>hn (hcl 14 _ rfl (hcl 15 _ rfl (hcl 16 _ rfl (hcl 19 _ rfl hD 16 dc) 15 dc) 14 dc) 13 dc)) zaj)) (zab (zam (by rfl)) (zab ((zam (by rfl)).trans (zag (fun hD=>hn (hcl 14 _ rfl (hcl 15 _ rfl (hcl 16 _ rfl hD 15 dc) 14 dc) 13 dc)) zaj)) (zhR (zab (zam (by rfl)) (zab ((zam (by rfl)).trans (zag (fun hD=>hn (hcl 14 _ rfl (hcl 15 _ rfl hD 14 dc) 13 dc)) zaj)) rfl))))))
     ·
      intro D b hn hd hcl
      obtain ⟨b11,hd28,b12,hd29⟩:=b
      refine zaK (zab (zag (fun hD=>hn (hcl 15 _ rfl (hcl 16 _ rfl (hcl 19 _ rfl hD 16 dc) 15 dc) 14 dc)) zaj) (zab rfl (zab (zag (fun hD=>hn (hcl 15 _ rfl (hcl 16 _ rfl hD 15 dc) 14 dc)) zaj) (zvF (zab (zag (fun hD=>hn (hcl 15 _ rfl hD 14 dc)) zaj) rfl))))) ?_
      refine zan (k:=8) zbS rfl dc (zaa (m:=13) rfl rfl (hd 13 dc)) rfl rfl ?_
      exact zaQ (b:=(b11,hd28,b12,hd29)) (b11,hd28,b12,hd29) 14 (by rfl) (by rfl) rfl (zjo (zdg rfl)) (zab ((zam (by rfl)).trans (zag (fun hD=>hn (hcl 15 _ rfl (hcl 16 _ rfl (hcl 19 _ rfl hD 16 dc) 15 dc) 14 dc)) zaj)) (zab (zam (by rfl)) (zab ((zam (by rfl)).trans (zag (fun hD=>hn (hcl 15 _ rfl (hcl 16 _ rfl hD 15 dc) 14 dc)) zaj)) (zhR (zab (zam (by rfl)) (zab ((zam (by rfl)).trans (zag (fun hD=>hn (hcl 15 _ rfl hD 14 dc)) zaj)) rfl))))))
     ·
      intro D b hn hd hcl
      obtain ⟨b11,hd28,zb2,hd29⟩:=b
      refine zaK (zab (zag (fun hD=>hn (hcl 16 _ rfl (hcl 19 _ rfl hD 16 dc) 15 dc)) zaj) (zab rfl (zab (zag (fun hD=>hn (hcl 16 _ rfl hD 15 dc)) zaj) (zvF (zab (zag hn zaj) rfl))))) ?_
      refine zaR (cs:=[zI x2.2.Stanza]) (te:=3) (ps:=[(0,.tmp 115)]) rfl dc (evP.cons (zaa (m:=14) rfl rfl (hd 14 dc)) evP.nil) (fun _=>by kernel_rfl) (fun b12 => ?_)
      refine zcS 12 rfl rfl ?_
      exact zaQ (b:=(b11,hd28,zb2,hd29)) (b11,hd28,b12,hd29) 15 (by rfl) (by rfl) rfl (ztb (zdg (zao (fun hD=>absurd hD hn) (ztb rfl)))) (zab ((zam (by rfl)).trans (zag (fun hD=>hn (hcl 16 _ rfl (hcl 19 _ rfl hD 16 dc) 15 dc)) zaj)) (zab (zam (by rfl)) (zab ((zam (by rfl)).trans (zag (fun hD=>hn (hcl 16 _ rfl hD 15 dc)) zaj)) (zhR (zab (zam (by rfl)) (zab (zaE (Or.inr rfl) rfl) rfl))))))
     ·
      intro D b hn hd hcl
      obtain ⟨b11,hd28,b12,zb3⟩:=b
      refine zaK (zab (zag (fun hD=>hn (hcl 19 _ rfl hD 16 dc)) zaj) (zab (zaE (hd 8 dc) rfl) (zab (zag hn zaj) (zhR (zab (zaE (hcl 8 _ rfl (hd 8 dc) 7 dc) rfl) (zab (zaE (hd 15 dc) rfl) rfl)))))) ?_
      refine zaZ (k:=2) (k2:=12) (ys:=[x2.2.Stanza]) Tryz.underlying49 ztR zcO zgs rfl dc (zaa (m:=12) rfl rfl (hd 12 dc)) (zaa (m:=15) rfl rfl (hd 15 dc)) rfl rfl rfl rfl hg8 (fun v5 => ?_)
      refine zbo (k:=2) rfl (fun hd29 he5 => ?_)
      subst he5
      exact zaQ (b:=(b11,hd28,b12,zb3)) (b11,hd28,b12,hd29) 16 (by rfl) (by rfl) rfl (zvS (zdg (zao (fun hD=>absurd hD hn) (zuj rfl)))) (zab ((zam (by rfl)).trans (zag (fun hD=>hn (hcl 19 _ rfl hD 16 dc)) zaj)) (zab ((zam (by rfl)).trans (zaE (hd 8 dc) rfl)) (zab (zaE (Or.inr rfl) rfl) (zhR (zab ((zam (by rfl)).trans (zaE (hcl 8 _ rfl (hd 8 dc) 7 dc) rfl)) (zab ((zam (by rfl)).trans (zaE (hd 15 dc) rfl)) rfl))))))
     ·
      intro D b hn hd hcl
      obtain ⟨b11,hd28,b12,hd29⟩:=b
      refine zaK (zab (zag (fun hD=>hn (hcl 18 _ rfl (hcl 19 _ rfl hD 18 dc) 17 dc)) zaj) (zab (zaE (hd 8 dc) rfl) (zab (zaE (hd 16 dc) rfl) (zhR (zab (zaE (hd 7 dc) rfl) (zab (zaE (hcl 16 _ rfl (hd 16 dc) 15 dc) rfl) rfl)))))) ?_
      refine zar rfl dc (zaa (m:=0) rfl rfl (hd 0 dc)) ?_
      exact zaQ (b:=(b11,hd28,b12,hd29)) (b11,hd28,b12,hd29) 17 (by rfl) (by rfl) rfl (zjo (zdg rfl)) (zab ((zam (by rfl)).trans (zag (fun hD=>hn (hcl 18 _ rfl (hcl 19 _ rfl hD 18 dc) 17 dc)) zaj)) (zab ((zam (by rfl)).trans (zaE (hd 8 dc) rfl)) (zab ((zam (by rfl)).trans (zaE (hd 16 dc) rfl)) (zhR (zab ((zam (by rfl)).trans (zaE (hd 7 dc) rfl)) (zab ((zam (by rfl)).trans (zaE (hcl 16 _ rfl (hd 16 dc) 15 dc) rfl)) rfl))))))
     ·
      intro D b hn hd hcl
      obtain ⟨b11,hd28,b12,hd29⟩:=b
      refine zaK (zab (zag (fun hD=>hn (hcl 19 _ rfl hD 18 dc)) zaj) (zab (zaE (hd 8 dc) rfl) (zab (zaE (hd 16 dc) rfl) (zhR (zab (zaE (hd 7 dc) rfl) (zab (zaE (hcl 16 _ rfl (hd 16 dc) 15 dc) rfl) rfl)))))) ?_
      refine zac zfX rfl dc (zaa (m:=17) rfl rfl (hd 17 dc)) (show _=0 from rfl) ?_
      exact zaQ (b:=(b11,hd28,b12,hd29)) (b11,hd28,b12,hd29) 18 (by rfl) (by rfl) rfl (zjo (zdg rfl)) (zab ((zam (by rfl)).trans (zag (fun hD=>hn (hcl 19 _ rfl hD 18 dc)) zaj)) (zab ((zam (by rfl)).trans (zaE (hd 8 dc) rfl)) (zab ((zam (by rfl)).trans (zaE (hd 16 dc) rfl)) (zhR (zab ((zam (by rfl)).trans (zaE (hd 7 dc) rfl)) (zab ((zam (by rfl)).trans (zaE (hcl 16 _ rfl (hd 16 dc) 15 dc) rfl)) rfl))))))
     ·
      intro D b hn hd hcl
      obtain ⟨b11,hd28,b12,hd29⟩:=b
      refine zaK (zab (zag hn zaj) (zab (zaE (hd 8 dc) rfl) (zab (zaE (hd 16 dc) rfl) (zhR (zab (zaE (hd 7 dc) rfl) (zab (zaE (hcl 16 _ rfl (hd 16 dc) 15 dc) rfl) rfl)))))) ?_
      refine zbe (k:=0) (l':=[hd28.v,hd27.v,hd17.v,hd18.v,zI p1.heights]) ztl rfl (zaa (m:=18) rfl rfl (hd 18 dc)) (zaa (m:=8) rfl rfl (hd 8 dc)) rfl rfl (fun _ _=>rfl) rfl ?_
      exact ziB (b:=(b11,hd28,b12,hd29)) (b11,hd28,b12,hd29) (by rfl) (zjo (zdg rfl)) (zab (zaE (Or.inr rfl) rfl) (zab ((zam (by rfl)).trans (zaE (hd 8 dc) rfl)) (zab ((zam (by rfl)).trans (zaE (hd 16 dc) rfl)) (zhR (zab ((zam (by rfl)).trans (zaE (hd 7 dc) rfl)) (zab ((zam (by rfl)).trans (zaE (hcl 16 _ rfl (hd 16 dc) 15 dc) rfl)) rfl))))))
     intro D b hall
     obtain ⟨b11,hd28,b12,hd29⟩:=b
     refine zaK (zab (zaE (hall 19 dc) rfl) (zab (zaE (hall 8 dc) rfl) (zab (zaE (hall 16 dc) rfl) (zhR (zab (zaE (hall 7 dc) rfl) (zab (zaE (hall 15 dc) rfl) rfl)))))) (zar rfl dc rfl (zac zjJ rfl dc rfl (show _=1 from rfl) ?_))
     refine zbe (k:=0) (l':=[hd28.v,hd29.v,hd17.v,hd18.v,zI p1.heights]) zp0 rfl rfl rfl rfl rfl (fun _ _=>rfl) rfl ?_
     refine zaX (zah (zaI (zaB ?_)))
     obtain ⟨hg9,h⟩:=zbw h
     refine zaW rfl (zaV (r:=x5+1) (IntWalk.i64_in _ hg9)) (zyR 1 rfl (zaX ?_))
     subst hag2
     exact za4 (n1,l24++[(⟨x2.1,x2.2.Stanza,x5,r3,r4,r5⟩:Gapi_Row)],l25++[x2.2.Stanza],x5+1,hd28,hd29) h (Nat.lt_succ_self _) rfl (zba rfl) (zad [0,1,2,3,4,5,6,7,8,10] kr rfl)
    refine za9 (zap (zap (zaz (zah ?_))))
    exact zfm (l24,l25,l18,l19.set (x2.2.Stanza:Int).toNat x2.1,cost4+r2.2,hd26,hd27,hd17,hd18) (fun post2 e2=>by have e9:=zex hxs1 e2; subst e9; subst hag1; exact h) (zad [0,1,2,3,4,5,6,7] kr rfl)
  ·
   rintro dm1 ⟨l14,l15,l16,l17,cost4,hd13,hd14,hd15,hd16⟩ hinv
   have h:dn1 l14 l15 l16 l17 cost4=some r:=hinv [] (List.append_nil _).symm
   rw [hdn1] at h
   refine zfT (k:=18) (j:=5) rfl rfl dc ?_
   refine zah ?_
   exact zaq (l14,l15,l16,l17,cost4,hd13,hd14,hd15,hd16,b4,dm1::([]:List Nat)) h rfl (zba rfl) (zad [10,11,12,13,14,17,5] kr rfl)
  rintro dm1 c pre x2 post g hxs hX
  exact (show False from hX).elim
 rintro ⟨l2,l3,l4,l5,cost1,hd1,hd2,hd3,hd4,b1,ds1⟩ h
 rw [hj1] at h
 refine zyG (zan (k:=5) zbS rfl dc rfl rfl rfl (zyR 1 rfl (zyN (zaA ?_))))
 cases h
 exact zeO (rs:=[.tmp 6]) ds1 (hd1,hd2,hd3,hd4) (.inl rfl) (zbI (k:=6) rfl) Tryz.results65 (.cons (.tmp rfl) .nil) rfl (zad [0,1,2,3,4] kr rfl)
end Go.Proofs.YtbempdelckaccaaGreatDoor

namespace Go.Proofs.YtbempdelckaccaaGreatDoor
open Go.RowKit Go.Lib
set_option linter.unusedVariables false
set_option linter.unusedSimpArgs false
def znM (l:Gapi_Layout) (v:Gapi_Verse):List ByteArray:=zgP v.Text 0 (zk9 v.Text (zqR v.Indent l) (zqA l))
def ztT (l:Gapi_Layout) (v:Gapi_Verse):Int:=(TT v.Text (zqR v.Indent l) (zqA l) 0).cost
def zxj (l:Gapi_Layout) (k:Int):Int:=if 0<l.Every then (if Int.tmod (k+1) l.Every=0 then k+1 else 0) else 0
def zmC (l:Gapi_Layout) (k:Int) (v:Gapi_Verse) (p:Int) (t:ByteArray):Gapi_Row:=⟨k,v.Stanza,p,if p=0 then v.Indent else l.Turn,if p=0 then zxj l k else 0,t⟩
def zhn (l:Gapi_Layout) (k:Int) (v:Gapi_Verse):Int→List ByteArray→List Gapi_Row
 | _,[]=>[]
 | p,t::ts=>zmC l k v p t::zhn l k v (p+1) ts
def zc3 (l:Gapi_Layout):Int→List Gapi_Verse→List Gapi_Row
 | _,[]=>[]
 | k,v::vs=>zhn l k v 0 (znM l v)++zc3 l (k+1) vs
def zi4 (l:Gapi_Layout):List Gapi_Verse→Int
 | []=>0
 | v::vs=>ztT l v+zi4 l vs
theorem zj4 (l:Gapi_Layout) (k:Int) (v:Gapi_Verse):∀ (ts:List ByteArray) (p:Int),(zhn l k v p ts).length=ts.length
 | [],_=>rfl
 | t::ts,p=>by show (zhn l k v (p+1) ts).length+1=_; rw [zj4 l k v ts]; rfl
structure OkV (v:Gapi_Verse):Prop where
 sz:v.Text.size≤1024
 ne:0<v.Text.size
 i0:0≤v.Indent∧v.Indent≤1024
section
variable {l:Gapi_Layout} (hm:zjE l=true)
include hm
theorem znL {v:Gapi_Verse} (h:OkV v):(znM l v).length≤1024:=by
 obtain ⟨h1,h2,h3⟩:=zpV hm h.i0
 have hs:v.Text.size≤100000:=by have:=h.sz; omega
 have hr:=zir hs h2 h3 (zav v.Text).length 0 (zqY hs h2 h3) (Nat.zero_le _)
 have hl:0+(zk9 v.Text (zqR v.Indent l) (zqA l)).length≤max (zav v.Text).length 0:=zl9 hr
 have hc:=zhl v.Text
 have ht:∀ (ts:List Nat) (f:Nat),(zgP v.Text f ts).length=ts.length:=by
  intro ts
  induction ts with
  | nil=>intro f; rfl
  | cons t ts ih=>intro f; show (zgP v.Text t ts).length+1=_; rw [ih]; rfl
 unfold znM
 rw [ht]
 have:=h.sz
 omega
theorem zre {v:Gapi_Verse} (h:OkV v):0≤ztT l v∧ztT l v≤2000000000000*1024:=by
 obtain ⟨h1,h2,h3⟩:=zpV hm h.i0
 have hs:v.Text.size≤100000:=by have:=h.sz; omega
 have hok:=znF (R:=Rs v.Text (zqR v.Indent l) (zqA l)) (K:=Ks v.Text (zqR v.Indent l) (zqA l)) (n:=(zav v.Text).length) (zg8 hs h2 h3) (zav v.Text).length 0
 obtain ⟨a,b,_⟩:=hok
 have hc:=zhl v.Text
 have hz:=h.sz
 refine ⟨a,?_⟩
 show (Bf (Rs v.Text (zqR v.Indent l) (zqA l)) (Ks v.Text (zqR v.Indent l) (zqA l)) (zav v.Text).length (zav v.Text).length 0).cost≤_
 omega
theorem zns:∀ (vs:List Gapi_Verse),(∀ v∈vs,OkV v)→0≤zi4 l vs∧zi4 l vs≤2000000000000*1024*vs.length
 | [],_=>⟨Int.le_refl _,Int.le_refl _⟩
 | v::vs,h=>by
  have h1:=zre hm (h v (List.mem_cons_self ..))
  have h2:=zns vs fun w hw=>h w (List.mem_cons_of_mem _ hw)
  have e:zi4 l (v::vs)=ztT l v+zi4 l vs:=rfl
  rw [e,List.length_cons]; push_cast; omega
theorem zj2:∀ (vs:List Gapi_Verse) (k:Int),(∀ v∈vs,OkV v)→(zc3 l k vs).length≤1024*vs.length
 | [],_,_=>Nat.le_refl _
 | v::vs,k,h=>by
  have h1:=znL hm (h v (List.mem_cons_self ..))
  have h2:=zj2 vs (k+1) fun w hw=>h w (List.mem_cons_of_mem _ hw)
  show (zhn l k v 0 (znM l v)++zc3 l (k+1) vs).length≤_
  rw [List.length_append,zj4,List.length_cons]; omega
end
def Stp:Int→List Gapi_Verse→Prop
 | _,[]=>True
 | c,v::vs=>(v.Stanza=c∨(0<c∧v.Stanza=c - 1))∧Stp (v.Stanza+1) vs
def flS:Int→List Int×List Int→List Gapi_Verse→List Int×List Int
 | _,a,[]=>a
 | k,a,v::vs=>flS (k+1) (if v.Stanza=(a.1.length:Int) then (a.1++[k],a.2++[k]) else (a.1,a.2.set v.Stanza.toNat k)) vs
theorem zr9 (l:Gapi_Layout) (k:Int) (hk:0≤k∧k≤1000000) (v:Gapi_Verse) (ag1:(List Gapi_Row)→(List Int)→(List Int)→(List Int)→Int→Option (Int×Gpage_parter)) (cost:Int) (F L:List Int) (ts:List ByteArray) (hts:ts.length≤1000000) (c:Int) :
  ∀ (d p m:Nat) (out:List Gapi_Row) (bl:List Int),p+d=ts.length→d<m→out.length+d≤2147483648→bl.length=out.length→zaM (fun _ _ _=>none) (zbq l (k,v) ag1 cost F L (ts,c)) m out bl (p:Int) =
   ag1 (out++zhn l k v p (ts.drop p)) (bl++(zhn l k v p (ts.drop p)).map (·.Stanza)) F (L.set v.Stanza.toNat k) (cost+c):=by
 intro d
 induction d with
 | zero =>
  intro p m out bl hp hm ho hb
  obtain ⟨m,rfl⟩:∃ q,m=q+1:=⟨m - 1,by omega⟩
  rw [zeo]
  generalize zaM (fun _ _ _=>none) (zbq l (k,v) ag1 cost F L (ts,c)) m=ag
  unfold zbq
  refine zaw (decide_eq_false (by show ¬ (p:Int)<(ts.length:Int); omega)) ?_
  rw [List.drop_of_length_le (by omega)]
  show ag1 out bl F (L.set v.Stanza.toNat k) (cost+c)=ag1 (out++[]) (bl++[]) F (L.set v.Stanza.toNat k) (cost+c)
  rw [List.append_nil,List.append_nil]
 | succ d ih =>
  intro p m out bl hp hm ho hb
  obtain ⟨m,rfl⟩:∃ q,m=q+1:=⟨m - 1,by omega⟩
  rw [zeo]
  have ih':=fun out' bl' (h:out'.length=out.length+1) (h2:bl'.length=out'.length)=>ih (p+1) m out' bl' (by omega) (by omega) (by omega) h2
  generalize zaM (fun _ _ _=>none) (zbq l (k,v) ag1 cost F L (ts,c)) m=ag at ih' ⊢
  have ht:ts[p]?=some ts[p]:=List.getElem?_eq_getElem (by omega)
  rw [show ((p+1:Nat):Int)=(p:Int)+1 by omega] at ih'
  have go:∀ (i n:Int),i=(zmC l k v p ts[p]).Indent→n=(zmC l k v p ts[p]).Number→(grd (out.length+1≤2147483648)<|grd (bl.length+1≤2147483648)<|grd (I64 ((p:Int)+1))<|ag (out++[(⟨k,v.Stanza,(p:Int),i,n,ts[p]⟩:Gapi_Row)]) (bl++[v.Stanza]) ((p:Int)+1)) =
    ag1 (out++zhn l k v p (ts.drop p)) (bl++(zhn l k v p (ts.drop p)).map (·.Stanza)) F (L.set v.Stanza.toNat k) (cost+c):=by
   intro i n hi hn
   refine zbM (by omega) (zbM (by omega) (zbM ⟨by omega,by omega⟩ ?_))
   subst hi; subst hn
   rw [ih' _ _ (by simp) (by simp; omega),List.drop_eq_getElem_cons (show p<ts.length by omega),List.append_assoc,List.append_assoc]; rfl
  unfold zbq
  refine zay (decide_eq_true (by show (p:Int)<(ts.length:Int); omega)) (zbF (zaN (zed ht) ?_))
  by_cases h0:(p:Int)=0
  ·refine zay (zkI h0) ?_
   by_cases he:0<l.Every
   ·refine zay (decide_eq_true he) (zbM ?_ (zbM (by omega) ?_))
    ·show I64 (k+1); exact ⟨by omega,by omega⟩
    by_cases ht2:Int.tmod (k+1) l.Every=0
    ·exact zay (zkI ht2) (zbM (show I64 (k+1) from ⟨by omega,by omega⟩) (go _ _ (if_pos h0).symm ((if_pos h0).trans ((if_pos he).trans (if_pos ht2))).symm))
    ·exact zaw (zlb ht2) (go _ _ (if_pos h0).symm ((if_pos h0).trans ((if_pos he).trans (if_neg ht2))).symm)
   ·exact zaw (decide_eq_false he) (go _ _ (if_pos h0).symm ((if_pos h0).trans (if_neg he)).symm)
  ·exact zaw (zlb h0) (go _ _ (if_neg h0).symm (if_neg h0).symm)
theorem znb (l:Gapi_Layout) (hm:zjE l=true) (dn:(List Gapi_Row)→(List Int)→(List Int)→(List Int)→Int→Option (Int×Gpage_parter)) :
  ∀ (vs:List Gapi_Verse) (k:Nat) (out:List Gapi_Row) (bl F L:List Int) (cost:Int),(∀ v∈vs,OkV v)→k+vs.length≤512→out.length≤1024*k→bl.length=out.length→0≤cost∧cost≤2000000000000*1024*k→F.length≤k→L.length=F.length→Stp F.length vs →
  zdh dn (zbD l) (zk8 k vs) out bl F L cost=dn (out++zc3 l k vs) (bl++(zc3 l k vs).map (·.Stanza)) (flS k (F,L) vs).1 (flS k (F,L) vs).2 (cost+zi4 l vs)
 | [],k,out,bl,F,L,cost,_,_,_,_,_,_,_,_=>by
  show dn out bl F L cost=dn (out++[]) (bl++[]) F L (cost+0)
  rw [List.append_nil,List.append_nil,Int.add_zero]
 | v::vs,k,out,bl,F,L,cost,hv,hk,ho,hb,hc,hF,hL,hst=>by
  obtain ⟨s1,s2⟩:=hst
  have hok:OkV v:=hv v (List.mem_cons_self ..)
  have h1:=znL hm hok
  have h2:=zre hm hok
  obtain ⟨w1,w2,w3⟩:=zpV hm hok.i0
  have hsz:v.Text.size≤100000:=by have:=hok.sz; omega
  rw [List.length_cons] at hk
  have ih:=fun out bl F L cost h3 h4 h5 h6 h7 h8=>znb l hm dn vs (k+1) out bl F L cost (fun w hw=>hv w (List.mem_cons_of_mem _ hw)) (by omega) h3 h4 h5 h6 h7 h8
  show zbD l (((k:Nat):Int),v) (zdh dn (zbD l) (zk8 (k+1) vs)) out bl F L cost=_
  generalize zdh dn (zbD l) (zk8 (k+1) vs)=ag at ih ⊢
  have e1:((k+1:Nat):Int)=(k:Int)+1:=by omega
  rw [e1] at ih
  have rest:∀ (F' L':List Int),F'.length≤k+1→L'.length=F'.length→0≤v.Stanza→v.Stanza.toNat<L'.length→Stp F'.length vs→(F',L'.set v.Stanza.toNat (k:Int))=(if v.Stanza=(F.length:Int) then (F++[(k:Int)],L++[(k:Int)]) else (F,L.set v.Stanza.toNat (k:Int))) →
    (zak (zcN L' v.Stanza) fun (q1:Int)=>zak (zeL v.Text v.Indent l) fun (r2:((List ByteArray)×Int))=>grd (I64 (cost+r2.2))<|zaM (fun _ _ _=>none) (zbq l ((k:Int),v) ag cost F' L' r2) zb4 out bl 0) =
    dn (out++zc3 l k (v::vs)) (bl++(zc3 l k (v::vs)).map (·.Stanza)) (flS k (F,L) (v::vs)).1 (flS k (F,L) (v::vs)).2 (cost+zi4 l (v::vs)):=by
   intro F' L' q1 q2 q3 q4 q5 q6
   refine zaN (zfi (n:=v.Stanza.toNat) (by omega) (List.getElem?_eq_getElem q4)) (zaN (zux v.Text hsz v.Indent l w1 w2 w3) (zbM ?_ ?_))
   ·show I64 (cost+ztT l v)
    exact ⟨by omega,by omega⟩
   ·have hin:=zr9 l k ⟨by omega,by omega⟩ v ag cost F' L' (znM l v) (by omega) (ztT l v) (znM l v).length 0 zb4 out bl (by omega) (zdL (by omega)) (by omega) hb
    refine hin.trans ?_
    rw [List.drop_zero]
    refine (ih _ _ F' (L'.set v.Stanza.toNat (k:Int)) _ (by rw [List.length_append,zj4]; omega) (by rw [List.length_append,List.length_append,List.length_map,hb]) (by push_cast; omega) q1 (by rw [List.length_set]; exact q2) q5).trans ?_
    have e2:flS k (F,L) (v::vs)=flS ((k:Int)+1) (F',L'.set v.Stanza.toNat (k:Int)) vs:=by rw [q6]; rfl
    have e3:zc3 l k (v::vs)=zhn l k v 0 (znM l v)++zc3 l ((k:Int)+1) vs:=rfl
    have e4:zi4 l (v::vs)=ztT l v+zi4 l vs:=rfl
    rw [e2,e3,e4,List.append_assoc,List.append_assoc,List.map_append,Int.add_assoc]; rfl
  unfold zbD
  refine zbF ?_
  rcases s1 with s1 | ⟨s1,s3⟩
  ·refine zay (zkI s1) (zbM (by omega) (zbM (by omega) (rest _ _ (by simp; omega) (by simp; omega) (by omega) (by simp; omega) ?_ ?_)))
   ·rw [List.length_append,List.length_singleton]; rw [s1] at s2; push_cast; exact s2
   ·have e:v.Stanza.toNat=L.length:=by omega
    rw [if_pos s1,e,zhY]
  ·have hne:v.Stanza≠(F.length:Int):=by omega
   refine zaw (zlb hne) (rest F L (by omega) hL (by omega) (by omega) ?_ ?_)
   ·rw [s3] at s2; rw [show (F.length:Int) - 1+1=F.length by omega] at s2; exact s2
   ·rw [if_neg hne]
theorem ztz (l:Gapi_Layout) (hm:zjE l=true) (p:Gpoem_Poem) (H:Int) (hv:∀ v∈p.told_lines,OkV v) (hl:p.told_lines.length≤512) (hst:Stp 0 p.told_lines) :
  zdj (⟨([]:List Gapi_Row),([]:List Int),([]:List Int),([]:List Int),H⟩:Gpage_parter) p l=some (zi4 l p.told_lines,(⟨zc3 l 0 p.told_lines,(zc3 l 0 p.told_lines).map (·.Stanza),(flS 0 (([]:List Int),([]:List Int)) p.told_lines).1,(flS 0 (([]:List Int),([]:List Int)) p.told_lines).2,H⟩:Gpage_parter)):=by
 unfold zdj
 refine zbF (zaN (show zdX p=some () from rfl) (zaN (zqu p (by omega)) (zbF ?_)))
 refine (znb l hm _ p.told_lines 0 [] [] [] [] 0 hv (by omega) (Nat.zero_le _) rfl ⟨Int.le_refl _,by omega⟩ (Nat.zero_le _) rfl hst).trans ?_
 rw [List.nil_append,List.nil_append,Int.zero_add]; rfl
end Go.Proofs.YtbempdelckaccaaGreatDoor

namespace Go.Proofs.YtbempdelckaccaaGreatDoor
open Go.RowKit Go.Lib
set_option linter.unusedVariables false
set_option linter.unusedSimpArgs false
theorem ze3 {α:Type} {l:List α} {x y:α} {i:Nat} (h:(l++[x])[i]?=some y):l[i]?=some y∨(i=l.length∧y=x):=by
 rcases Nat.lt_or_ge i l.length with hi | hi
 ·rw [List.getElem?_append_left hi] at h; exact .inl h
 ·rw [List.getElem?_append_right hi] at h
  rcases Nat.eq_zero_or_pos (i - l.length) with e | e
  ·rw [e] at h
   exact .inr ⟨by omega,(Option.some.inj h).symm⟩
  ·rw [List.getElem?_eq_none (by simp; omega)] at h; cases h
theorem zko {α:Type} {l:List α} {x:α} {i:Nat} (h:l[i]?=some x):i<l.length:=(List.getElem?_eq_some_iff.1 h).1
structure FL (pre:List Gapi_Verse) (F L:List Int):Prop where
 len:L.length=F.length
 fst:∀ (s:Nat) (f:Int),F[s]?=some f→∃ j:Nat,f=j∧(∃ v:Gapi_Verse,pre[j]?=some v∧v.Stanza=(s:Int))∧∀ (i:Nat) (w:Gapi_Verse),pre[i]?=some w→w.Stanza=(s:Int)→j≤i
 lst:∀ (s:Nat) (f:Int),L[s]?=some f→∃ j:Nat,f=j∧(∃ v:Gapi_Verse,pre[j]?=some v∧v.Stanza=(s:Int))∧∀ (i:Nat) (w:Gapi_Verse),pre[i]?=some w→w.Stanza=(s:Int)→i≤j
 all:∀ (i:Nat) (w:Gapi_Verse),pre[i]?=some w→0≤w.Stanza∧w.Stanza<F.length
theorem FL.new {pre:List Gapi_Verse} {F L:List Int} (h:FL pre F L) {v:Gapi_Verse} (hv:v.Stanza=F.length):FL (pre++[v]) (F++[(pre.length:Int)]) (L++[(pre.length:Int)]):=by
 have hlast:(pre++[v])[pre.length]?=some v:=by simp
 have hle:∀ {i:Nat} {w:Gapi_Verse},pre[i]?=some w→(pre++[v])[i]?=some w:=fun h=>by rw [List.getElem?_append_left (zko h)]; exact h
 refine ⟨by simp [h.len],fun s f hs => ?_,fun s f hs => ?_,fun i w hw => ?_⟩
 ·rcases ze3 hs with hs | ⟨rfl,rfl⟩
  ·obtain ⟨j,e,⟨u,hu,hus⟩,hm⟩:=h.fst s f hs
   refine ⟨j,e,⟨u,hle hu,hus⟩,fun i w hw hws => ?_⟩
   rcases ze3 hw with hw | ⟨rfl,rfl⟩
   ·exact hm i w hw hws
   ·have:=zko hu; omega
  ·refine ⟨pre.length,rfl,⟨v,hlast,hv⟩,fun i w hw hws => ?_⟩
   rcases ze3 hw with hw | ⟨rfl,rfl⟩
   ·have:=(h.all i w hw).2; omega
   ·exact Nat.le_refl _
 ·rcases ze3 hs with hs | ⟨e0,rfl⟩
  ·obtain ⟨j,e,⟨u,hu,hus⟩,hm⟩:=h.lst s f hs
   refine ⟨j,e,⟨u,hle hu,hus⟩,fun i w hw hws => ?_⟩
   rcases ze3 hw with hw | ⟨rfl,rfl⟩
   ·exact hm i w hw hws
   ·have:=zko hs; have:=h.len; omega
  ·refine ⟨pre.length,rfl,⟨v,hlast,by have:=h.len; omega⟩,fun i w hw hws => ?_⟩
   rcases ze3 hw with hw | ⟨rfl,rfl⟩
   ·have:=zko hw; omega
   ·exact Nat.le_refl _
 ·rw [List.length_append,List.length_singleton]; push_cast
  rcases ze3 hw with hw | ⟨rfl,rfl⟩
  ·have:=h.all i w hw; omega
  ·omega
theorem FL.old {pre:List Gapi_Verse} {F L:List Int} (h:FL pre F L) {v:Gapi_Verse} (h0:0<F.length) (hv:v.Stanza=(F.length:Int) - 1):FL (pre++[v]) F (L.set v.Stanza.toNat (pre.length:Int)):=by
 have hlast:(pre++[v])[pre.length]?=some v:=by simp
 have hle:∀ {i:Nat} {w:Gapi_Verse},pre[i]?=some w→(pre++[v])[i]?=some w:=fun h=>by rw [List.getElem?_append_left (zko h)]; exact h
 refine ⟨by simp [h.len],fun s f hs => ?_,fun s f hs => ?_,fun i w hw => ?_⟩
 ·obtain ⟨j,e,⟨u,hu,hus⟩,hm⟩:=h.fst s f hs
  refine ⟨j,e,⟨u,hle hu,hus⟩,fun i w hw hws => ?_⟩
  rcases ze3 hw with hw | ⟨rfl,rfl⟩
  ·exact hm i w hw hws
  ·have:=zko hu; omega
 ·by_cases e:v.Stanza.toNat=s
  ·subst e
   rw [List.getElem?_set_self (by have:=h.len; omega)] at hs
   obtain rfl:=Option.some.inj hs
   refine ⟨pre.length,rfl,⟨v,hlast,by omega⟩,fun i w hw hws => ?_⟩
   rcases ze3 hw with hw | ⟨rfl,rfl⟩
   ·have:=zko hw; omega
   ·exact Nat.le_refl _
  ·rw [List.getElem?_set_ne e] at hs
   obtain ⟨j,e,⟨u,hu,hus⟩,hm⟩:=h.lst s f hs
   refine ⟨j,e,⟨u,hle hu,hus⟩,fun i w hw hws => ?_⟩
   rcases ze3 hw with hw | ⟨rfl,rfl⟩
   ·exact hm i w hw hws
   ·omega
 ·rcases ze3 hw with hw | ⟨rfl,rfl⟩
  ·exact h.all i w hw
  ·omega
theorem FL.fold:∀ (vs pre:List Gapi_Verse) (F L:List Int),FL pre F L→Stp F.length vs→FL (pre++vs) (flS (pre.length:Int) (F,L) vs).1 (flS (pre.length:Int) (F,L) vs).2
 | [],pre,F,L,h,_=>by rw [List.append_nil]; exact h
 | v::vs,pre,F,L,h,hs=>by
  obtain ⟨s1,s2⟩:=hs
  have e:pre++v::vs=(pre++[v])++vs:=by simp
  have e1:(((pre++[v]).length:Nat):Int)=(pre.length:Int)+1:=by simp
  have e2:flS (pre.length:Int) (F,L) (v::vs)=flS ((pre.length:Int)+1) (if v.Stanza=(F.length:Int) then (F++[(pre.length:Int)],L++[(pre.length:Int)]) else (F,L.set v.Stanza.toNat (pre.length:Int))) vs:=rfl
  rw [e,e2,← e1]
  rcases s1 with s1 | ⟨s1,s3⟩
  ·rw [if_pos s1]
   exact FL.fold vs (pre++[v]) _ _ (h.new s1) (by rw [List.length_append,List.length_singleton]; rw [s1] at s2; push_cast; exact s2)
  ·rw [if_neg (by omega)]
   refine FL.fold vs (pre++[v]) _ _ (h.old (by omega) s3) ?_
   rw [s3,show (F.length:Int) - 1+1=F.length by omega] at s2
   exact s2
theorem FL.nil:FL [] [] []:=⟨rfl,fun s f h=>by simp at h,fun s f h=>by simp at h,fun i w h=>by simp at h⟩
theorem zmR {l:Gapi_Layout} {k:Int} {v:Gapi_Verse}:∀ {ts:List ByteArray} {p:Int} {r:Gapi_Row},r∈zhn l k v p ts→r.Line=k∧r.Stanza=v.Stanza
 | [],_,r,h=>by cases h
 | t::ts,p,r,h=>by
  rcases List.mem_cons.1 h with rfl | h
  ·exact ⟨rfl,rfl⟩
  ·exact zmR h
theorem zgm {l:Gapi_Layout}:∀ {vs:List Gapi_Verse} {k:Int} {r:Gapi_Row},r∈zc3 l k vs→∃ (j:Nat) (v:Gapi_Verse),vs[j]?=some v∧r.Line=k+j∧r.Stanza=v.Stanza
 | [],_,r,h=>by cases h
 | v::vs,k,r,h=>by
  rcases List.mem_append.1 h with h | h
  ·obtain ⟨h1,h2⟩:=zmR h
   exact ⟨0,v,rfl,by omega,h2⟩
  ·obtain ⟨j,w,h1,h2,h3⟩:=zgm h
   exact ⟨j+1,w,h1,by omega,h3⟩
theorem zpX {l:Gapi_Layout} (hm:zjE l=true) {v:Gapi_Verse} (h:OkV v):znM l v≠[]:=by
 obtain ⟨h1,h2,h3⟩:=zpV hm h.i0
 have hc:=zo1 (s:=v.Text) (by have:=h.sz; omega) h2 h3
 intro e
 have e':zgP v.Text 0 (zk9 v.Text (zqR v.Indent l) (zqA l))=[]:=e
 rw [e'] at hc
 have:=h.ne
 rw [← hc] at this
 exact absurd this (by decide)
theorem zl7 {l:Gapi_Layout} (hm:zjE l=true):∀ {vs:List Gapi_Verse} {k:Int} {j:Nat} {v:Gapi_Verse},(∀ w∈vs,OkV w)→vs[j]?=some v→∃ r∈zc3 l k vs,r.Line=k+j∧r.Stanza=v.Stanza
 | [],_,_,_,_,h=>by simp at h
 | w::vs,k,0,v,hv,h=>by
  obtain rfl:=Option.some.inj h
  have hne:=zpX hm (hv w (List.mem_cons_self ..))
  cases ht:znM l w with
  | nil=>exact absurd ht hne
  | cons t ts=>exact ⟨zmC l k w 0 t,by show _∈zhn l k w 0 (znM l w)++_; rw [ht]; exact List.mem_append_left _ (List.mem_cons_self ..),by show k=_; omega,rfl⟩
 | w::vs,k,j+1,v,hv,h=>by
  obtain ⟨r,h1,h2,h3⟩:=zl7 hm (k:=k+1) (fun u hu=>hv u (List.mem_cons_of_mem _ hu)) h
  exact ⟨r,List.mem_append_right _ h1,by omega,h3⟩
def RCh:Int→List Gapi_Row→Prop
 | _,[]=>True
 | s,r::rs=>(r.Stanza=s∨r.Stanza=s+1)∧RCh r.Stanza rs
theorem zoC {l:Gapi_Layout} {k:Int} {v:Gapi_Verse} {rest:List Gapi_Row} (hr:RCh v.Stanza rest):∀ (ts:List ByteArray) (p:Int),RCh v.Stanza (zhn l k v p ts++rest)
 | [],_=>hr
 | t::ts,p=>⟨.inl rfl,zoC hr ts (p+1)⟩
theorem zqk {l:Gapi_Layout} (hm:zjE l=true):∀ (vs:List Gapi_Verse) (c k:Int),(∀ w∈vs,OkV w)→Stp c vs→RCh (c - 1) (zc3 l k vs)
 | [],_,_,_,_=>trivial
 | v::vs,c,k,hv,⟨s1,s2⟩=>by
  have ih:=zqk hm vs (v.Stanza+1) (k+1) (fun w hw=>hv w (List.mem_cons_of_mem _ hw)) s2
  rw [show v.Stanza+1 - 1=v.Stanza by omega] at ih
  show RCh (c - 1) (zhn l k v 0 (znM l v)++zc3 l (k+1) vs)
  have hne:=zpX hm (hv v (List.mem_cons_self ..))
  cases ht:znM l v with
  | nil=>exact absurd ht hne
  | cons t ts=>exact ⟨by show v.Stanza=_∨v.Stanza=_; omega,zoC ih ts (0+1)⟩
theorem RCh.step:∀ {rs:List Gapi_Row} {s:Int} {i:Nat} {a b:Gapi_Row},RCh s rs→rs[i]?=some a→rs[i+1]?=some b→b.Stanza=a.Stanza∨b.Stanza=a.Stanza+1
 | [],_,_,_,_,_,h,_=>by simp at h
 | r::rs,s,0,a,b,⟨h1,h2⟩,ha,hb=>by
  obtain rfl:=Option.some.inj ha
  cases rs with
  | nil=>simp at hb
  | cons q qs=>obtain rfl:=Option.some.inj hb; exact h2.1
 | r::rs,s,i+1,a,b,⟨h1,h2⟩,ha,hb=>h2.step ha hb
structure RowsOk (rows:List Gapi_Row) (F L:List Int):Prop where
 n:rows.length≤1000000
 ch:∀ (i:Nat) (a b:Gapi_Row),rows[i]?=some a→rows[i+1]?=some b→b.Stanza=a.Stanza∨b.Stanza=a.Stanza+1
 rg:∀ r∈rows,0≤r.Stanza∧r.Stanza≤1000000
 fst:∀ r∈rows,∃ f,F[r.Stanza.toNat]?=some f∧(r.Line=f↔∀ x∈rows,x.Stanza=r.Stanza→r.Line≤x.Line)
 lst:∀ r∈rows,∃ f,L[r.Stanza.toNat]?=some f∧(r.Line=f↔∀ x∈rows,x.Stanza=r.Stanza→x.Line≤r.Line)
theorem zl6 {l:Gapi_Layout} (hm:zjE l=true) (vs:List Gapi_Verse) (hv:∀ w∈vs,OkV w) (hl:vs.length≤512) (hs:Stp 0 vs):RowsOk (zc3 l 0 vs) (flS 0 (([]:List Int),([]:List Int)) vs).1 (flS 0 (([]:List Int),([]:List Int)) vs).2:=by
 have hf:=FL.fold vs [] [] [] FL.nil hs
 rw [List.nil_append,show ((([]:List Gapi_Verse).length:Nat):Int)=0 from rfl] at hf
 have hlen:=zj2 hm vs 0 hv
 have hch:=zqk hm vs 0 0 hv hs
 have hFl:∀ (pre ws:List Gapi_Verse) (F L:List Int) (k:Int),F.length≤pre.length→(flS k (F,L) ws).1.length≤pre.length+ws.length:=by
  intro pre ws
  induction ws generalizing pre with
  | nil=>intro F L k h; exact h
  | cons w ws ih =>
   intro F L k h
   have e2:flS k (F,L) (w::ws)=flS (k+1) (if w.Stanza=(F.length:Int) then (F++[k],L++[k]) else (F,L.set w.Stanza.toNat k)) ws:=rfl
   rw [e2]
   split
   ·have:=ih (pre++[w]) (F++[k]) (L++[k]) (k+1) (by simp; omega)
    simp at this ⊢; omega
   ·have:=ih (pre++[w]) F (L.set w.Stanza.toNat k) (k+1) (by simp; omega)
    simp at this ⊢; omega
 have hF2:=hFl [] vs [] [] 0 (Nat.le_refl _)
 refine ⟨by omega,fun i a b ha hb=>hch.step ha hb,fun r hr => ?_,fun r hr => ?_,fun r hr => ?_⟩
 ·obtain ⟨j,v,h1,h2,h3⟩:=zgm hr
  have:=hf.all j v h1
  simp at hF2
  omega
 ·obtain ⟨j,v,h1,h2,h3⟩:=zgm hr
  have ha:=hf.all j v h1
  have hg:(flS 0 (([]:List Int),([]:List Int)) vs).1[r.Stanza.toNat]?=some _:=List.getElem?_eq_getElem (by omega)
  refine ⟨_,hg,?_⟩
  obtain ⟨j2,e,⟨u,hu,hus⟩,hmin⟩:=hf.fst _ _ hg
  rw [e]
  constructor
  ·intro he x hx hxs
   obtain ⟨j3,v3,g1,g2,g3⟩:=zgm hx
   have:=hmin j3 v3 g1 (by omega)
   omega
  ·intro hall
   obtain ⟨x,hx,x1,x2⟩:=zl7 hm (l:=l) (k:=0) hv hu
   have h4:=hall x hx (by omega)
   have h5:=hmin j v h1 (by omega)
   omega
 ·obtain ⟨j,v,h1,h2,h3⟩:=zgm hr
  have ha:=hf.all j v h1
  have hg:(flS 0 (([]:List Int),([]:List Int)) vs).2[r.Stanza.toNat]?=some _:=List.getElem?_eq_getElem (by have:=hf.len; omega)
  refine ⟨_,hg,?_⟩
  obtain ⟨j2,e,⟨u,hu,hus⟩,hmax⟩:=hf.lst _ _ hg
  rw [e]
  constructor
  ·intro he x hx hxs
   obtain ⟨j3,v3,g1,g2,g3⟩:=zgm hx
   have:=hmax j3 v3 g1 (by omega)
   omega
  ·intro hall
   obtain ⟨x,hx,x1,x2⟩:=zl7 hm (l:=l) (k:=0) hv hu
   have h4:=hall x hx (by omega)
   have h5:=hmax j v h1 (by omega)
   omega
def stz (rows:List Gapi_Row) (i:Nat):Int:=match rows[i]? with | some r=>r.Stanza | none=>0
def zeM (rows:List Gapi_Row) (f t:Nat):Int:=((t:Int) - f)+stz rows (t - 1) - stz rows f
theorem zjT {rows:List Gapi_Row} {i:Nat} {r:Gapi_Row} (h:rows[i]?=some r):stz rows i=r.Stanza:=by unfold stz; rw [h]
section
variable {rows:List Gapi_Row} {F L:List Int} (hR:RowsOk rows F L)
include hR
theorem zlV (i:Nat):0≤stz rows i∧stz rows i≤1000000:=by
 unfold stz
 split
 ·rename_i r h
  exact hR.rg r (List.mem_of_getElem? h)
 ·omega
theorem zrK {i:Nat} (h:i+1<rows.length):stz rows (i+1)=stz rows i∨stz rows (i+1)=stz rows i+1:=by
 have h1:rows[i]?=some rows[i]:=List.getElem?_eq_getElem (by omega)
 have h2:rows[i+1]?=some rows[i+1]:=List.getElem?_eq_getElem h
 rw [zjT h1,zjT h2]
 exact hR.ch i _ _ h1 h2
theorem zlW:∀ (d i:Nat),i+d<rows.length→stz rows i≤stz rows (i+d)
 | 0,i,_=>Int.le_refl _
 | d+1,i,h=>by
  have h1:=zlW d i (by omega)
  have h2:=zrK hR (i:=i+d) (by omega)
  rw [show i+(d+1)=i+d+1 by omega]; omega
theorem zoM {f t:Nat} (h1:f<t) (h2:t≤rows.length):(t:Int) - f≤zeM rows f t∧zeM rows f t≤3000000:=by
 have:=zlW hR (t - 1 - f) f (by omega)
 rw [show f+(t - 1 - f)=t - 1 by omega] at this
 have a:=zlV hR f
 have b:=zlV hR (t - 1)
 have c:=hR.n
 unfold zeM; omega
theorem zsU (H:Int) (f t:Nat) (h1:f<t) (h2:t≤rows.length):zc5 (⟨rows,rows.map (·.Stanza),F,L,H⟩:Gpage_parter) (f:Int) (t:Int)=some (zeM rows f t):=by
 have hn:=hR.n
 have a:=zlV hR f
 have b:=zlV hR (t - 1)
 have g:∀ i:Nat,i<rows.length→(rows.map (·.Stanza))[i]?=some (stz rows i):=fun i hi=>by
  rw [List.getElem?_map,List.getElem?_eq_getElem hi,zjT (List.getElem?_eq_getElem hi)]; rfl
 unfold zc5
 refine zbM ⟨by omega,by omega⟩ (zbM ⟨by omega,by omega⟩ (zaN (zfi (n:=t - 1) (by omega) (g (t - 1) (by omega))) (zbM ⟨by omega,by omega⟩ (zaN (zed (g f (by omega))) (zbM ⟨by omega,by omega⟩ ?_)))))
 rfl
end
def zrC (rows:List Gapi_Row) (k:Nat):Int :=
 match rows[k - 1]?,rows[k]? with
 | some a,some b=>if a.Stanza≠b.Stanza then 0 else if a.Line=b.Line then 100 else if (rows.all fun r=>!(r.Stanza==a.Stanza&&decide (r.Line<a.Line)))=true∨(rows.all fun r=>!(r.Stanza==a.Stanza&&decide (b.Line<r.Line)))=true then 50 else 10
 | _,_=>0
theorem zoW (rows:List Gapi_Row) (k:Nat):0≤zrC rows k∧zrC rows k≤100:=by
 unfold zrC
 split
 ·split
  ·omega
  ·split
   ·omega
   ·split <;> omega
 ·omega
theorem zwW {rows:List Gapi_Row} {F L:List Int} (hR:RowsOk rows F L) (H:Int) (k:Nat) (h0:0<k) (hk:k<rows.length):zdO (⟨rows,rows.map (·.Stanza),F,L,H⟩:Gpage_parter) (k:Int)=some (zrC rows k):=by
 have hn:=hR.n
 have ha:rows[k - 1]?=some rows[k - 1]:=List.getElem?_eq_getElem (by omega)
 have hb:rows[k]?=some rows[k]:=List.getElem?_eq_getElem hk
 unfold zdO zrC
 rw [ha,hb]
 have ma:=List.mem_of_getElem? ha
 have mb:=List.mem_of_getElem? hb
 generalize rows[k - 1]=a at ha ma
 generalize rows[k]=b at hb mb
 simp only
 refine zbM ⟨by omega,by omega⟩ (zaN (zfi (n:=k - 1) (by omega) ha) (zaN (zed hb) ?_))
 have ra:=hR.rg a ma
 have rb:=hR.rg b mb
 by_cases h1:a.Stanza=b.Stanza
 ·refine zaw (zxb h1) ?_
  rw [if_neg (by simp [h1])]
  by_cases h2:a.Line=b.Line
  ·rw [if_pos h2]; exact zay (zkI h2) rfl
  ·rw [if_neg h2]
   refine zaw (zlb h2) ?_
   obtain ⟨f,f1,f2⟩:=hR.fst a ma
   obtain ⟨g,g1,g2⟩:=hR.lst b mb
   have p1:(a.Line=f)↔(rows.all fun r=>!(r.Stanza==a.Stanza&&decide (r.Line<a.Line)))=true:=by
    rw [f2,List.all_eq_true]
    constructor
    ·intro h x hx
     by_cases e:x.Stanza=a.Stanza
     ·have:=h x hx e
      simp [e]; omega
     ·simp [e]
    ·intro h x hx e
     have:=h x hx
     simp [e] at this; omega
   have p2:(b.Line=g)↔(rows.all fun r=>!(r.Stanza==a.Stanza&&decide (b.Line<r.Line)))=true:=by
    rw [g2,List.all_eq_true]
    constructor
    ·intro h x hx
     by_cases e:x.Stanza=a.Stanza
     ·have:=h x hx (by omega)
      simp [e]; omega
     ·simp [e]
    ·intro h x hx e
     have:=h x hx
     simp [show x.Stanza=a.Stanza by omega] at this; omega
   refine zaN (zfi (n:=a.Stanza.toNat) (by omega) f1) ?_
   by_cases h3:a.Line=f
   ·rw [if_pos (.inl (p1.1 h3))]; exact zay (zkI h3) rfl
   ·refine zaw (zlb h3) (zaN (zfi (n:=b.Stanza.toNat) (by omega) g1) ?_)
    by_cases h4:b.Line=g
    ·rw [if_pos (.inr (p2.1 h4))]; exact zay (zkI h4) rfl
    ·rw [if_neg (fun h=>h.elim (fun h=>h3 (p1.2 h)) (fun h=>h4 (p2.2 h)))]; exact zaw (zlb h4) rfl
 ·rw [if_pos h1]
  exact zay (zxa h1) rfl
end Go.Proofs.YtbempdelckaccaaGreatDoor

namespace Go.Proofs.YtbempdelckaccaaGreatDoor
open Go.RowKit Go.Lib
set_option linter.unusedVariables false
set_option linter.unusedSimpArgs false
def Rp (rows:List Gapi_Row) (H:Int) (f t:Nat):Bool:=decide (zeM rows f t≤H)
def Kp (rows:List Gapi_Row) (H:Int) (f t:Nat):Int:=if f<t∧t<rows.length∧zeM rows f t≤H then (H - zeM rows f t)*(H - zeM rows f t)+zrC rows t else 0
abbrev Tp (rows:List Gapi_Row) (H:Int) (k:Nat):Nat→Bst:=Bf (Rp rows H) (Kp rows H) rows.length k
abbrev Tt (rows:List Gapi_Row) (H:Int):Nat→Bst:=BB (Rp rows H) (Kp rows H) rows.length
abbrev zjs (rows:List Gapi_Row) (H:Int):List Nat:=zpA (Tt rows H) rows.length rows.length 0
theorem znE {rows:List Gapi_Row} {H:Int} (hH:4≤H∧H≤200):∀ f,f<rows.length→Rp rows H f (f+1)=true:=by
 intro f hf
 unfold Rp zeM
 rw [show f+1 - 1=f by omega]
 exact decide_eq_true (by omega)
theorem zqL {rows:List Gapi_Row} {F L:List Int} (hR:RowsOk rows F L) {f t:Nat} (d:Nat) (h1:f<t) (h2:t+d≤rows.length):zeM rows f t≤zeM rows f (t+d):=by
 have:=zlW hR d (t - 1) (by omega)
 rw [show t - 1+d=t+d - 1 by omega] at this
 unfold zeM; omega
section
variable {rows:List Gapi_Row} {F L:List Int} {H:Int} (hR:RowsOk rows F L) (hH:4≤H∧H≤200)
include hR hH
theorem zsL {f t:Nat} (h1:f<t) (h2:t≤rows.length) (h3:zeM rows f t≤H):0≤(H - zeM rows f t)*(H - zeM rows f t)∧(H - zeM rows f t)*(H - zeM rows f t)≤40000:=by
 have:=zoM hR h1 h2
 have a:0≤H - zeM rows f t:=by omega
 have b:H - zeM rows f t≤200:=by omega
 exact ⟨Int.mul_nonneg a a,Int.le_trans (Int.mul_le_mul b b a (by decide)) (by decide)⟩
theorem zlL:∀ f t,0≤Kp rows H f t∧Kp rows H f t≤2000000000000:=by
 intro f t
 unfold Kp
 split
 ·rename_i h
  have h1:=zsL hR hH h.1 (by omega) h.2.2
  have h2:=zoW rows t
  omega
 ·omega
theorem zrU (k f:Nat) (hf:f+(k+1)=rows.length) (j2:List Bst→Option ((List Int)×Int)) :
  ∀ (d t m:Nat) (x:Bst),f<t→t+d=rows.length+1→d<m→okB (k+1) x→zaM (fun _ _=>none) (zbB (⟨rows,rows.map (·.Stanza),F,L,H⟩:Gpage_parter) (f:Int) j2) m ((zfL (Tp rows H k) rows.length).set f x) (t:Int) =
   j2 ((zfL (Tp rows H k) rows.length).set f (zeZ (Rp rows H) (Kp rows H) rows.length (Tp rows H k) f d t x)):=by
 have hn:=hR.n
 have hK:=zlL hR hH
 have hok:∀ t,okB k (Tp rows H k t):=znF (R:=Rp rows H) (K:=Kp rows H) (n:=rows.length) hK k
 intro d
 induction d with
 | zero =>
  intro t m x hft htd hm hx
  obtain ⟨m,rfl⟩:∃ q,m=q+1:=⟨m - 1,by omega⟩
  rw [zeo]
  generalize zaM (fun _ _=>none) (zbB (⟨rows,rows.map (·.Stanza),F,L,H⟩:Gpage_parter) (f:Int) j2) m=ag
  unfold zbB
  exact zaw (decide_eq_false (by show ¬ ((t:Int)≤(rows.length:Int)); omega)) rfl
 | succ d ih =>
  intro t m x hft htd hm hx
  obtain ⟨m,rfl⟩:∃ q,m=q+1:=⟨m - 1,by omega⟩
  have ih':=fun y hy=>ih (t+1) m y (by omega) (by omega) (by omega) hy
  rw [zeo]
  generalize zaM (fun _ _=>none) (zbB (⟨rows,rows.map (·.Stanza),F,L,H⟩:Gpage_parter) (f:Int) j2) m=ag at ih' ⊢
  rw [show ((t+1:Nat):Int)=(t:Int)+1 by omega] at ih'
  have htl:=zgl (Tp rows H k) rows.length
  have hgt:∀ y:Bst,zcN ((zfL (Tp rows H k) rows.length).set f y) (t:Int)=some (Tp rows H k t):=fun y=>zed (by rw [List.getElem?_set_ne (by omega)]; exact zeB _ _ _ (by omega))
  have hgf:∀ y:Bst,zcN ((zfL (Tp rows H k) rows.length).set f y) (f:Int)=some y:=fun y=>zed (by rw [List.getElem?_set_self (by omega)])
  have hnext:∀ y,okB (k+1) y→(grd (I64 ((t:Int)+1))<|ag ((zfL (Tp rows H k) rows.length).set f y) ((t:Int)+1))=j2 ((zfL (Tp rows H k) rows.length).set f (zeZ (Rp rows H) (Kp rows H) rows.length (Tp rows H k) f d (t+1) y)):=fun y hy=>zbM ⟨by omega,by omega⟩ (ih' y hy)
  unfold zbB
  refine zay (decide_eq_true (by show (t:Int)≤(rows.length:Int); omega)) (zaN (zsU hR H f t hft (by omega)) ?_)
  unfold zeZ
  by_cases hRt:zeM rows f t≤H
  ·have hRb:Rp rows H f t=true:=decide_eq_true hRt
   refine zay (decide_eq_true hRt) (zbF (zuY (fun j4=>∀ y:Bst,okB (k+1) y→y.to_=(t:Int)→j4 y.cost y.rows=j2 ((zfL (Tp rows H k) rows.length).set f (zeZ (Rp rows H) (Kp rows H) rows.length (Tp rows H k) f d (t+1) (zpc x (some y))))) ?_ ?_))
   ·intro y hy hto
    have ey:(⟨y.cost,y.rows,(t:Int)⟩:Gpage_best)=y:=by rw [← hto]
    have hput:(grd (I64 ((t:Int)+1))<|ag (((zfL (Tp rows H k) rows.length).set f x).set (f:Int).toNat (⟨y.cost,y.rows,(t:Int)⟩:Gpage_best)) ((t:Int)+1))=j2 ((zfL (Tp rows H k) rows.length).set f (zeZ (Rp rows H) (Kp rows H) rows.length (Tp rows H k) f d (t+1) y)):=by
     rw [ey,Int.toNat_natCast,List.set_set]; exact hnext y hy
    have hkeep:=hnext x hx
    refine zaN (hgf x) ?_
    rw [zgO]
    by_cases h1:x.rows<0
    ·rw [if_pos (.inl h1)]; exact zay (decide_eq_true h1) (zaN (hgf x) hput)
    refine zaw (decide_eq_false h1) ?_
    by_cases h2:y.cost<x.cost
    ·rw [if_pos (.inr (.inl h2))]; exact zay (decide_eq_true h2) (zaN (hgf x) hput)
    refine zaw (decide_eq_false h2) ?_
    by_cases h3:y.cost=x.cost
    ·refine zay (zkI h3) ?_
     by_cases h4:y.rows≤x.rows
     ·rw [if_pos (.inr (.inr ⟨h3,h4⟩))]; exact zay (decide_eq_true h4) (zaN (hgf x) hput)
     ·rw [if_neg (by omega)]; exact zaw (decide_eq_false h4) hkeep
    ·rw [if_neg (by omega)]; exact zaw (zlb h3) hkeep
   intro j4 held
   by_cases ht:t<rows.length
   ·obtain ⟨o1,o2,o3,o4⟩:=hok t
    have hk2:=hK f t
    have hsq:=zsL hR hH hft (by omega) hRt
    have hcs:=zoW rows t
    have hhr:=zoM hR hft (t:=t) (by omega)
    have hkp:Kp rows H f t=(H - zeM rows f t)*(H - zeM rows f t)+zrC rows t:=if_pos ⟨hft,ht,hRt⟩
    have hfe:0≤(Tp rows H k t).rows:=zmB hK (znE hH) k t (by omega) (by omega)
    have hc:zgi (Rp rows H) (Kp rows H) rows.length (Tp rows H k) f t=some ⟨Kp rows H f t+(Tp rows H k t).cost,(Tp rows H k t).rows+1,(t:Int)⟩:=by unfold zgi; rw [if_pos hRb,if_pos ht,if_neg (by omega)]
    have hyok:=(zhO hK hok hc).1
    rw [hc]
    refine zay (decide_eq_true (by show (t:Int)<(rows.length:Int); omega)) (zaN (zsU hR H f t hft (by omega)) (zbM ?_ (zbM ?_ (zaN (zwW hR H t (by omega) ht) (zbM ?_ (zaN (hgt x) (zbM ?_ (zbM ⟨by omega,by omega⟩ ?_))))))))
    ·show I64 (H - zeM rows f t); exact ⟨by omega,by omega⟩
    ·show I64 ((H - zeM rows f t)*(H - zeM rows f t)); exact ⟨by omega,by omega⟩
    ·show I64 ((H - zeM rows f t)*(H - zeM rows f t)+zrC rows t); exact ⟨by omega,by omega⟩
    ·show I64 ((H - zeM rows f t)*(H - zeM rows f t)+zrC rows t+(Tp rows H k t).cost); rw [← hkp]; exact ⟨by omega,by omega⟩
    ·have:=held _ hyok rfl
     refine Eq.trans ?_ this
     show j4 ((H - zeM rows f t)*(H - zeM rows f t)+zrC rows t+(Tp rows H k t).cost) ((Tp rows H k t).rows+1)=j4 (Kp rows H f t+(Tp rows H k t).cost) ((Tp rows H k t).rows+1)
     rw [hkp]
   ·have hc:zgi (Rp rows H) (Kp rows H) rows.length (Tp rows H k) f t=some ⟨0,1,(t:Int)⟩:=by unfold zgi; rw [if_pos hRb,if_neg ht]
    have hyok:=(zhO hK hok hc).1
    rw [hc]
    refine zaw (decide_eq_false (by show ¬ ((t:Int)<(rows.length:Int)); omega)) ?_
    exact held _ hyok rfl
  ·refine zaw (decide_eq_false hRt) ?_
   have hc:zgi (Rp rows H) (Kp rows H) rows.length (Tp rows H k) f t=none:=by unfold zgi; rw [if_neg (by unfold Rp; rw [decide_eq_false hRt]; decide)]
   rw [hc,ziQ d (t+1) (zpc x none) (fun t' h1 h2=>by
    have:=zqL hR (t' - t) hft (by omega)
    rw [show t+(t' - t)=t' by omega] at this
    unfold zgi Rp
    rw [if_neg (by rw [decide_eq_false (by omega)]; decide)])]
   rfl
theorem zqx (j1:List Bst→Option ((List Int)×Int)):∀ (d k m:Nat),k+d=rows.length→d<m→zaM (fun _ _=>none) (zbC (⟨rows,rows.map (·.Stanza),F,L,H⟩:Gpage_parter) j1) m (zfL (Tp rows H k) rows.length) ((rows.length:Int) - 1 - (k:Int))=j1 (zfL (Tt rows H) rows.length):=by
 have hle:=hR.n
 intro d
 induction d with
 | zero =>
  intro k m hk hm
  obtain ⟨m,rfl⟩:∃ q,m=q+1:=⟨m - 1,by omega⟩
  rw [zeo]
  generalize zaM (fun _ _=>none) (zbC (⟨rows,rows.map (·.Stanza),F,L,H⟩:Gpage_parter) j1) m=ag
  unfold zbC
  refine zaw (decide_eq_false (by omega)) ?_
  rw [show k=rows.length by omega]; rfl
 | succ d ih =>
  intro k m hk hm
  obtain ⟨m,rfl⟩:∃ q,m=q+1:=⟨m - 1,by omega⟩
  have ih':=ih (k+1) m (by omega) (by omega)
  rw [zeo]
  generalize zaM (fun _ _=>none) (zbC (⟨rows,rows.map (·.Stanza),F,L,H⟩:Gpage_parter) j1) m=ag at ih' ⊢
  obtain ⟨f,hf⟩:∃ f:Nat,f+(k+1)=rows.length:=⟨d,by omega⟩
  rw [show (rows.length:Int) - 1 - (k:Int)=(f:Int) by omega]
  rw [show (rows.length:Int) - 1 - ((k+1:Nat):Int)=(f:Int) - 1 by omega] at ih'
  unfold zbC
  have hg:zcN (zfL (Tp rows H k) rows.length) (f:Int)=some b0:=by
   have e0:Tp rows H k f=b0:=zt9 k f (by omega)
   rw [zed (zeB _ _ f (by omega)),e0]
  refine zay (decide_eq_true (by omega)) (zbF (zaN hg (zbM ⟨by omega,by omega⟩ ?_)))
  have hin:=zrU hR hH k f hf (fun (all5:List Gpage_best)=>grd (I64 ((f:Int) - 1))<|ag all5 ((f:Int) - 1)) (rows.length - f) (f+1) zb4 bm (by omega) (by omega) (zdL (by omega)) (zqz _)
  rw [show ((f+1:Nat):Int)=(f:Int)+1 by omega] at hin
  have et:(zfL (Tp rows H k) rows.length).set f (zeZ (Rp rows H) (Kp rows H) rows.length (Tp rows H k) f (rows.length - f) (f+1) bm)=zfL (Tp rows H (k+1)) rows.length:=by
   have e1:Tp rows H (k+1) f=zeZ (Rp rows H) (Kp rows H) rows.length (Tp rows H k) f (rows.length - f) (f+1) bm:=by
    show Bf (Rp rows H) (Kp rows H) rows.length (k+1) f=_
    rw [zgB,if_pos hf]
   rw [← e1]
   exact zou (by omega) fun j hj=>by
    show Bf (Rp rows H) (Kp rows H) rows.length (k+1) j=_
    rw [zgB,if_neg (by omega)]
  rw [et] at hin
  refine hin.trans (zbM ⟨by omega,by omega⟩ ih')
theorem zqy (j5:List Int→Option ((List Int)×Int)):∀ (m f N:Nat) (out:List Int),rows.length≤f+m→m<N→out.length≤f→f≤rows.length→zaM (fun _ _=>none) (zbp (⟨rows,rows.map (·.Stanza),F,L,H⟩:Gpage_parter) (zfL (Tt rows H) rows.length) j5) N out (f:Int)=j5 (out++(zpA (Tt rows H) rows.length m f).map (fun t=>((t:Nat):Int))):=by
 have hle:=hR.n
 intro m
 induction m with
 | zero =>
  intro f N out hm hN ho hf
  obtain ⟨N,rfl⟩:∃ q,N=q+1:=⟨N - 1,by omega⟩
  rw [zeo]
  generalize zaM (fun _ _=>none) (zbp (⟨rows,rows.map (·.Stanza),F,L,H⟩:Gpage_parter) (zfL (Tt rows H) rows.length) j5) N=ag
  unfold zbp
  refine zaw (decide_eq_false (by show ¬ ((f:Int)<(rows.length:Int)); omega)) ?_
  show j5 out=j5 (out++[])
  rw [List.append_nil]
 | succ m ih =>
  intro f N out hm hN ho hf
  obtain ⟨N,rfl⟩:∃ q,N=q+1:=⟨N - 1,by omega⟩
  rw [zeo]
  have ih':=fun t out=>ih t N out
  generalize zaM (fun _ _=>none) (zbp (⟨rows,rows.map (·.Stanza),F,L,H⟩:Gpage_parter) (zfL (Tt rows H) rows.length) j5) N=ag at ih' ⊢
  unfold zbp zpA
  by_cases h:f<rows.length
  ·obtain ⟨t,h1,h2,h3,h4⟩:=zry (zlL hR hH) (znE hH) h
   have hg:zcN (zfL (Tt rows H) rows.length) (f:Int)=some (Tt rows H f):=zed (zeB _ _ f (by omega))
   rw [if_pos h,h1,Int.toNat_natCast]
   refine zay (decide_eq_true (by show (f:Int)<(rows.length:Int); omega)) (zaN hg (zbM (by omega) (zaN hg ?_)))
   rw [h1]
   rw [ih' t (out++[(t:Int)]) (by omega) (by omega) (by rw [List.length_append]; simp; omega) h3,List.append_assoc]; rfl
  ·rw [if_neg h]
   refine zaw (decide_eq_false (by show ¬ ((f:Int)<(rows.length:Int)); omega)) ?_
   show j5 out=j5 (out++[])
   rw [List.append_nil]
theorem ztx:zdi (⟨rows,rows.map (·.Stanza),F,L,H⟩:Gpage_parter)=some ((zjs rows H).map (fun t=>((t:Nat):Int)),(Tt rows H 0).cost):=by
 have hle:=hR.n
 unfold zdi
 refine zbF (zbM ⟨by show _≤(rows.length:Int)+1; omega,by show (rows.length:Int)+1≤_; omega⟩ (zbM ⟨by show _≤(rows.length:Int)+1; omega,by show (rows.length:Int)+1≤_; omega⟩ (zbM ⟨by show _≤(rows.length:Int) - 1; omega,by show (rows.length:Int) - 1≤_; omega⟩ ?_)))
 have e0:List.replicate ((rows.length:Int)+1:Int).toNat (⟨0,0,0⟩:Gpage_best)=zfL (Tp rows H 0) rows.length:=by
  show List.replicate ((rows.length:Int)+1:Int).toNat b0=_
  rw [show ((rows.length:Int)+1:Int).toNat=rows.length+1 by omega,zuB]
 show zaM (fun _ _=>none) _ zb4 (List.replicate ((rows.length:Int)+1:Int).toNat (⟨0,0,0⟩:Gpage_best)) ((rows.length:Int) - 1)=_
 rw [e0]
 have ho:=zqx hR hH (fun (all1:List Gpage_best)=>zbr (fun (j5:(List Int)→Option ((List Int)×Int))=>zaM (fun _ _=>none) (zbp (⟨rows,rows.map (·.Stanza),F,L,H⟩:Gpage_parter) all1 j5) zb4 ([]:List Int) 0) (fun (out1:List Int)=>zak (zcN all1 0) fun (q10:Gpage_best)=>some (out1,q10.cost))) rows.length 0 zb4 (by omega) (zdL (by omega))
 rw [show (rows.length:Int) - 1 - ((0:Nat):Int)=(rows.length:Int) - 1 by omega] at ho
 refine ho.trans (zbF ?_)
 have he:=zqy hR hH (fun (out1:List Int)=>zak (zcN (zfL (Tt rows H) rows.length) 0) fun (q10:Gpage_best)=>some (out1,q10.cost)) rows.length 0 zb4 [] (by omega) (zdL (by omega)) (Nat.zero_le _) (Nat.zero_le _)
 rw [show ((0:Nat):Int)=0 from rfl,List.nil_append] at he
 refine he.trans (zaN (zfi (n:=0) rfl (zeB _ _ 0 (Nat.zero_le _))) rfl)
end
end Go.Proofs.YtbempdelckaccaaGreatDoor

namespace Go.Proofs.YtbempdelckaccaaGreatDoor
open Go.RowKit Go.Lib
set_option linter.unusedVariables false
set_option linter.unusedSimpArgs false
def zdE (r2:(Int×Gpage_parter)) (from3:Int) (j3:Int→(List Gapi_Row)→Option ((Option Gpage_Book)×Int)) (q1:Int) (ag2:(List Gapi_Row)→Int→Option ((Option Gpage_Book)×Int)) (page4:List Gapi_Row) (k3:Int):Option ((Option Gpage_Book)×Int) :=
zax (decide ((k3:Int)<q1)) (
zbr (fun (j4:(List Gapi_Row)→Option ((Option Gpage_Book)×Int)) =>
zax (decide ((from3:Int)<k3)) (
zak (zcN r2.2.rows k3) fun (q2:Gapi_Row) =>
grd (I64 (k3 - 1)) <|
zak (zcN r2.2.rows (k3 - 1)) fun (q3:Gapi_Row) =>
zax ((q2.Stanza:Int) != q3.Stanza) (
grd (page4.length+1≤2147483648) <|
j4 (page4++[(⟨(-1),0,0,0,0,ByteArray.empty⟩:Gapi_Row)])
) (
j4 page4
)
) (
j4 page4
)
) (fun (page5:List Gapi_Row) =>
zak (zcN r2.2.rows k3) fun (q4:Gapi_Row) =>
grd (page5.length+1≤2147483648) <|
grd (I64 (k3+1)) <|
ag2 (page5++[q4]) (k3+1)
)
) (
j3 q1 page4
)
def zdF (j1:(List (List Gapi_Row))→Int→Option ((Option Gpage_Book)×Int)) (r2:(Int×Gpage_parter)) (r3:((List Int)×Int)) (ag1:(List (List Gapi_Row))→Int→Int→Option ((Option Gpage_Book)×Int)) (b9:List (List Gapi_Row)) (from3:Int) (x4:Int):Option ((Option Gpage_Book)×Int) :=
zax (decide ((x4:Int)<(r3.1.length:Int))) (
zbr (fun (j2:(List (List Gapi_Row))→Int→Option ((Option Gpage_Book)×Int)) =>
zbr (fun (j3:Int→(List Gapi_Row)→Option ((Option Gpage_Book)×Int)) =>
zak (zcN r3.1 x4) fun (q1:Int) =>
zaM (fun _ _=>none) (zdE r2 from3 j3 q1) zb4 ([]:List Gapi_Row) from3
) (fun (to1:Int) (page1:List Gapi_Row) =>
grd (b9.length+1≤2147483648) <|
j2 (b9++[page1]) to1
)
) (fun (b10:List (List Gapi_Row)) (from4:Int) =>
grd (I64 (x4+1)) <|
ag1 b10 from4 (x4+1)
)
) (
j1 b9 (r2.1+r3.2)
)
def zfF (x1:Gpoem_Poem) (l1:Gapi_Layout):Option ((Option Gpage_Book)×Int) :=
zak (zfE l1) fun (r1:Bool) =>
zax (!r1) (
some (none,2)
) (
zbr (fun (j1:(List (List Gapi_Row))→Int→Option ((Option Gpage_Book)×Int)) =>
zak (zdj (⟨([]:List Gapi_Row),([]:List Int),([]:List Int),([]:List Int),l1.Height⟩:Gpage_parter) x1 l1) fun (r2:(Int×Gpage_parter)) =>
zak (zdi r2.2) fun (r3:((List Int)×Int)) =>
grd (I64 (r2.1+r3.2)) <|
zaM (fun _ _ _=>none) (zdF j1 r2 r3) zb4 ([]:List (List Gapi_Row)) 0 0
) (fun (b3:List (List Gapi_Row)) (b4:Int) =>
some ((some (⟨l1.Width,l1.Height,l1.Turn,l1.Every,b3,b4⟩:Gpage_Book)),0)
)
)
theorem znY {bx1:Nat} {x1:Gpoem_Poem} {x1_h0 x1_h1:Hd} {l1:Gapi_Layout} {r:((Option Gpage_Book)×Int)} (h:zfF x1 l1=some r):FnR Tryz.prog 28 [zP bx1,.agg (zr0 l1).toArray] [cells bx1 [.string x1.told_title,x1_h0.v,x1_h1.v,.string x1.source] 106,zv2 x1_h0.v x1.told_lines,zv3 x1_h1.v x1.told_stanzas] [] (fun v0:Value=>.tuple #[v0,zI r.2]) (fun v0=>[zho zbH zbG 81 v0 r.1]):=by
 unfold zfF at h
 refine FnR.intro Tryz.func28 rfl Tryz.ntmps28 (by simp) ?_
 intro w0 K hrd
 refine zyG ?_
 refine zdQ rfl dc rfl (fun b1 => ?_)
 refine zyR 2 rfl (zyN (zaH (zaG (zyG (zyR 1 rfl (zaW rfl (zcn Tryz.underlying58) (zyR 1 rfl (zyN (zaT rfl ?_)))))))))
 refine zyG (za5 (k:=0) (cs:=(zr0 l1)) zkZ rfl dc rfl rfl rfl rfl ?_)
 obtain ⟨r1,hq1,h⟩:=zbx h
 refine zbc (v:=.bool r1) (vs:=[.agg (zr0 l1).toArray]) rfl dc rfl rfl rfl zu7 (zkb (l1:=l1) hq1) (zdJ rfl dc rfl zcA (zyR 1 rfl (zyN ?_)))
 refine zyB rfl h (fun h => ?_) (fun h => ?_)
 ·
  refine zyG (zyR 2 rfl (zyN (zaA (zal (zai (zck zbH zbG 81 ?_))))))
  cases h
  exact zaF (rs:=[.tmp 4,.tmp 5]) (.pointer none) (.inl rfl) Tryz.results28 (.cons (.tmp rfl) (.cons (.tmp rfl) .nil)) rfl (zad [1] kr rfl)
 refine zau (zah (zaI ?_))
 obtain ⟨j1,hj1,h⟩:=zbO h
 refine zaY (β:=(List (List Gapi_Row))×Int×Nat×Hd) 5 rfl (fun b=>j1 b.1 b.2.1=some r) (fun b=>[]) (fun b=>[(7,zP b.2.2.1)]) (fun b=>[cells b.2.2.1 [zI l1.Width,zI l1.Height,zI l1.Turn,zI l1.Every,b.2.2.2.v,zI b.2.1] 81,zfp za7 zbi 43 1 b.2.2.2.v b.1]) (fun cut => ?_) ?_
 ·
  refine zyG (zac zkz rfl dc rfl (show _=1 from rfl) (zan (k:=0) zbS rfl dc rfl rfl rfl ?_))
  refine zbb (v:=.agg #[.slice none 0 0,.slice none 0 0,.slice none 0 0,.slice none 0 0,zI l1.Height]) (ps:=[(4,.tmp 23)]) rfl dc rfl (fun _=>by kernel_rfl) ?_
  refine zdQ rfl dc rfl (fun b5 => ?_)
  refine zyR 1 rfl (zyN (zaH ?_))
  obtain ⟨r2,hq2,h⟩:=zbx h
  refine zfz 4 ?_
  refine let vals1:(Hd×Hd×Hd×Hd)→List (Nat×Nat×Value):=fun b=>[(0,26,.agg (zr0 l1).toArray),(1,27,zP b5),(2,28,zP bx1),(3,29,.agg (zr0 l1).toArray),(4,30,zI r2.1)]; let LL1:(Nat→Prop)→(Hd×Hd×Hd×Hd)→List Asn:=fun D b=>[cells b1 (zr0 l1) 23,eD D (cells b5 [.slice none 0 0,.slice none 0 0,.slice none 0 0,.slice none 0 0,zI l1.Height] 131) [(4,cells b5 [b.1.v,b.2.1.v,b.2.2.1.v,b.2.2.2.v,zI r2.2.heights] 131)],eD D emp [(4,zv1 b.1.v r2.2.rows)],eD D emp [(4,zv0 b.2.1.v r2.2.blanks)],eD D emp [(4,zv0 b.2.2.1.v r2.2.firsts)],eD D emp [(4,zv0 b.2.2.2.v r2.2.lasts)]]; ?_
  have zhq:zyQ [4] LL1:=fun i h D b=>zab rfl (zab (zja rfl h) (zab (zja rfl h) (zab (zja rfl h) (zab (zja rfl h) (zab (zja rfl h) rfl)))))
  refine zdB (β:=Hd×Hd×Hd×Hd) 5 (Hd.nil,Hd.nil,Hd.nil,Hd.nil) vals1 LL1 mixed kr kr dc (fun _=>rfl) (zab rfl (zab zbN (zab zbN (zab zbN (zab zbN (zab zbN rfl)))))) (zgj zhq rfl (fun _=>rfl) (fun _=>rfl) ?_ (zlc zhq (fun _=>rfl) (fun _=>rfl) 2 1 (fun _=>rfl) rfl (zgj zhq rfl (fun _=>rfl) (fun _=>rfl) ?_ (zat ?_ DrawG.nil)))) ?_
  · exact fun D ⟨hd2,hd3,hd4,hd5⟩ n d c u i=>⟨_,(zs8 rfl),za5 (k:=0) (cs:=(zr0 l1)) zkZ rfl dc (za8 (by rfl) rfl) rfl rfl rfl (zaf 0 u i rfl)⟩
  · exact fun D ⟨hd2,hd3,hd4,hd5⟩ n d c u i=>⟨_,(zab rfl (zab (zag (fun hD=>n (c 4 _ rfl hD 3 dc)) zaj) (zab (zag (fun hD=>n (c 4 _ rfl hD 3 dc)) zaj) (zab (zag (fun hD=>n (c 4 _ rfl hD 3 dc)) zaj) (zab (zag (fun hD=>n (c 4 _ rfl hD 3 dc)) zaj) (zab (zag (fun hD=>n (c 4 _ rfl hD 3 dc)) zaj) rfl)))))),za5 (k:=0) (cs:=(zr0 l1)) zkZ rfl dc (za8 (by rfl) rfl) rfl rfl rfl (zaf 3 u i rfl)⟩
  ·
   intro D b hn hd hcl
   obtain ⟨zb0,zb1,zb2,zb3⟩:=b
   refine zaK (zab rfl (zab (zag hn zaj) (zab (zag hn zaj) (zab (zag hn zaj) (zab (zag hn zaj) (zab (zag hn zaj) rfl)))))) (zfU (enc:=zcG) (e:=33) (size:=6) ?_)
   refine zfU (enc:=(zso (.i64))) (e:=3) (size:=1) ?_
   refine zfU (enc:=(zso (.i64))) (e:=3) (size:=1) ?_
   refine zfU (enc:=(zso (.i64))) (e:=3) (size:=1) ?_
   refine zfa (vs:=[zP b5,zP bx1,.agg (zr0 l1).toArray]) hrd rfl dc rfl (evL.cons (zaa (m:=1) rfl rfl (hd 1 dc)) (evL.cons (zaa (m:=2) rfl rfl (hd 2 dc)) (evL.cons (zaa (m:=3) rfl rfl (hd 3 dc)) evL.nil))) rfl zwz (zhr (bp1:=b5) (p1:=(⟨([]:List Gapi_Row),([]:List Int),([]:List Int),([]:List Int),l1.Height⟩:Gpage_parter)) (p1_h0:=Hd.nil) (p1_h1:=Hd.nil) (p1_h2:=Hd.nil) (p1_h3:=Hd.nil) (bx1:=bx1) (x1:=x1) (x1_h0:=x1_h0) (x1_h1:=x1_h1) (l1:=l1) hq2) (zad [1,6,7,8,9] kr rfl) (.ro 0 rfl (.ro 1 rfl (.ro 2 rfl .nil))) ?_
   rintro ⟨hd2,hd3,hd4,hd5⟩
   refine zcu (L':=[cells b1 (zr0 l1) 23,cells b5 [hd2.v,hd3.v,hd4.v,hd5.v,zI r2.2.heights] 131,emp,emp,emp,emp,zv1 hd2.v r2.2.rows,zv0 hd3.v r2.2.blanks,zv0 hd4.v r2.2.firsts,zv0 hd5.v r2.2.lasts]) (zad [0,10,2,3,4,5,11,12,13,14] kr rfl) (zcS 5 rfl rfl ?_)
   refine zcS 4 rfl rfl ?_
   refine zcS 3 rfl rfl ?_
   refine zcS 2 rfl rfl ?_
   exact zaQ (b:=(zb0,zb1,zb2,zb3)) (hd2,hd3,hd4,hd5) 4 (by rfl) (by rfl) rfl (zmE rfl) (zab rfl (zab (zaE (Or.inr rfl) rfl) (zab (zaE (Or.inr rfl) rfl) (zab (zaE (Or.inr rfl) rfl) (zab (zaE (Or.inr rfl) rfl) (zab (zaE (Or.inr rfl) rfl) rfl))))))
  intro D b hall
  obtain ⟨hd2,hd3,hd4,hd5⟩:=b
  refine zaK (zab rfl (zab (zaE (hall 4 dc) rfl) (zab (zaE (hall 4 dc) rfl) (zab (zaE (hall 4 dc) rfl) (zab (zaE (hall 4 dc) rfl) (zab (zaE (hall 4 dc) rfl) rfl)))))) ?_
  refine zbb (v:=.agg #[zI l1.Width,zI l1.Height,zI l1.Turn,zI l1.Every,.slice none 0 0,zI r2.1]) (ps:=[(0,.tmp 26),(2,.tmp 30)]) rfl dc rfl (fun _=>by kernel_rfl) ?_
  refine zdQ rfl dc rfl (fun b6 => ?_)
  refine zyR 1 rfl (zyH (zyR 1 rfl ?_))
  obtain ⟨r3,hq3,h⟩:=zbx h
  refine zfa (vs:=[zP b5]) hrd rfl dc rfl rfl rfl zwy (zhp (bp1:=b5) (p1:=r2.2) (p1_h0:=hd2) (p1_h1:=hd3) (p1_h2:=hd4) (p1_h3:=hd5) hq3) Splits.nil (.own (zad [1] (by kernel_rfl) rfl) (fun _ _ h=>sepL.one1.1 h) (.own (zad [2] (by kernel_rfl) rfl) (fun _ _ h=>sepL.one1.1 h) (.own (zad [3] (by kernel_rfl) rfl) (fun _ _ h=>sepL.one1.1 h) (.own (zad [4] (by kernel_rfl) rfl) (fun _ _ h=>sepL.one1.1 h) (.own (zad [5] (by kernel_rfl) rfl) (fun _ _ h=>sepL.one1.1 h) .nil))))) ?_
  rintro v1
  refine zbo (k:=7) rfl (fun hd6 he1 => ?_)
  subst he1
  refine zyR 1 rfl (zaJ rfl dc rfl rfl (zaJ rfl dc rfl rfl (zyR 2 rfl (zyH (zyR 1 rfl (zar rfl dc rfl (zac zqW rfl dc rfl (show _=5 from rfl) (zan (k:=6) zbS rfl dc rfl rfl rfl (zyR 1 rfl ?_)))))))))
  obtain ⟨hg1,h⟩:=zbw h
  refine zaW rfl (zaV (r:=r2.1+r3.2) (IntWalk.i64_in _ hg1)) (zar rfl dc rfl (zac zqW rfl dc rfl (show _=5 from rfl) ?_))
  refine zbe (k:=6) (l':=[zI l1.Width,zI l1.Height,zI l1.Turn,zI l1.Every,.slice none 0 0,zI (r2.1+r3.2)]) zf9 rfl rfl rfl rfl rfl (fun _ _=>rfl) rfl ?_
  refine zyH (zyR 1 rfl (zyN (cut (zyG (zyR 1 rfl (zcm (k:=7) rfl dc rfl rfl Tryz.underlying49 (zyR 1 rfl (zaX ?_))))))))
  refine zaI (zaG (zmy (enc:=za7) (nest:=zbi) (e:=43) (size:=1) ?_))
  refine zbt (β:=Nat×(List (List Gapi_Row))×Int×Int×Hd) (fun b=>zaM (fun _ _ _=>none) (zdF j1 r2 r3) b.1 b.2.1 b.2.2.1 b.2.2.2.1=some r) (fun b=>[]) (fun b=>[(6,zP b5),(7,zP b6),(10,zI b.2.2.1),(46,hd6.v),(47,zI (r3.1.length:Int)),(48,zI b.2.2.2.1)]) (fun b=>[cells b5 [hd2.v,hd3.v,hd4.v,hd5.v,zI r2.2.heights] 131,zv1 hd2.v r2.2.rows,zv0 hd3.v r2.2.blanks,zv0 hd4.v r2.2.firsts,zv0 hd5.v r2.2.lasts,cells b6 [zI l1.Width,zI l1.Height,zI l1.Turn,zI l1.Every,b.2.2.2.2.v,zI (r2.1+r3.2)] 81,zfp za7 zbi 43 1 b.2.2.2.2.v b.2.1,zv0 hd6.v r3.1]) (fun b=>b.1) (zb4,([]:List (List Gapi_Row)),0,0,Hd.nil) h rfl (zba rfl) (zad [1,2,3,4,5,6,8,7] kr rfl) ?_
  rintro ⟨n1,b9,from3,x4,hd9⟩ h
  cases n1 with
  | zero=>exact zdG h
  | succ n1 =>
   obtain ⟨ag1,hag1⟩:∃ ag,ag=zaM (fun _ _ _=>none) (zdF j1 r2 r3) n1:=⟨_,rfl⟩
   have h:zdF j1 r2 r3 ag1 b9 from3 x4=some r:=by rw [hag1]; exact h
   unfold zdF at h
   refine zyG (zaW rfl zbA (zyN (zaH ?_)))
   refine zyB rfl h (fun h => ?_) (fun h => ?_)
   ·
    refine zau (zaI ?_)
    obtain ⟨j2,hj2,h⟩:=zbO h
    refine zaY (β:=(List (List Gapi_Row))×Int×Hd) 0 rfl (fun b=>j2 b.1 b.2.1=some r) (fun b=>[]) (fun b=>[(6,zP b5),(7,zP b6),(10,zI b.2.1),(46,hd6.v),(47,zI (r3.1.length:Int)),(48,zI x4)]) (fun b=>[cells b5 [hd2.v,hd3.v,hd4.v,hd5.v,zI r2.2.heights] 131,zv1 hd2.v r2.2.rows,zv0 hd3.v r2.2.blanks,zv0 hd4.v r2.2.firsts,zv0 hd5.v r2.2.lasts,cells b6 [zI l1.Width,zI l1.Height,zI l1.Turn,zI l1.Every,b.2.2.v,zI (r2.1+r3.2)] 81,zfp za7 zbi 43 1 b.2.2.v b.1,zv0 hd6.v r3.1]) (fun cut => ?_) ?_
    ·
     refine cut (zaG ?_)
     obtain ⟨j3,hj3,h⟩:=zbO h
     refine zaY (β:=Int×(List Gapi_Row)×Hd) 2 rfl (fun b=>j3 b.1 b.2.1=some r) (fun b=>[]) (fun b=>[(6,zP b5),(7,zP b6),(12,zI b.1),(13,b.2.2.v),(46,hd6.v),(47,zI (r3.1.length:Int)),(48,zI x4)]) (fun b=>[cells b5 [hd2.v,hd3.v,hd4.v,hd5.v,zI r2.2.heights] 131,zv1 hd2.v r2.2.rows,zv0 hd3.v r2.2.blanks,zv0 hd4.v r2.2.firsts,zv0 hd5.v r2.2.lasts,cells b6 [zI l1.Width,zI l1.Height,zI l1.Turn,zI l1.Every,hd9.v,zI (r2.1+r3.2)] 81,zfp za7 zbi 43 1 hd9.v b9,zv1 b.2.2.v b.2.1,zv0 hd6.v r3.1]) (fun cut => ?_) ?_
     ·
      refine zyG ?_
      obtain ⟨q1,hq4,h⟩:=zbx h
      refine zaL (k:=7) hq4 Tryz.underlying49 zf9 rfl dc rfl rfl rfl rfl (zbk (i:=(x4:Int).toNat) (j:=0) (k:=7) (q:=q1) zbS zcO rfl dc rfl rfl (za0 hq4) rfl dc rfl (zyR 1 rfl (zyH (zyR 1 rfl (zyN (cut (zyG (zyR 1 rfl ?_))))))))
      refine zyR 1 rfl (zyN (zaG (zdR (enc:=zcG) (e:=33) (size:=6) ?_)))
      refine zbt (β:=Nat×(List Gapi_Row)×Int×Hd) (fun b=>zaM (fun _ _=>none) (zdE r2 from3 j3 q1) b.1 b.2.1 b.2.2.1=some r) (fun b=>[]) (fun b=>[(6,zP b5),(7,zP b6),(10,zI from3),(12,zI q1),(13,b.2.2.2.v),(14,zI b.2.2.1),(46,hd6.v),(47,zI (r3.1.length:Int)),(48,zI x4)]) (fun b=>[cells b5 [hd2.v,hd3.v,hd4.v,hd5.v,zI r2.2.heights] 131,zv1 hd2.v r2.2.rows,zv0 hd3.v r2.2.blanks,zv0 hd4.v r2.2.firsts,zv0 hd5.v r2.2.lasts,cells b6 [zI l1.Width,zI l1.Height,zI l1.Turn,zI l1.Every,hd9.v,zI (r2.1+r3.2)] 81,zfp za7 zbi 43 1 hd9.v b9,zv1 b.2.2.2.v b.2.1,zv0 hd6.v r3.1]) (fun b=>b.1) (zb4,([]:List Gapi_Row),from3,Hd.nil) h rfl (zba rfl) (zad [0,1,2,3,4,5,6,8,7] kr rfl) ?_
      rintro ⟨n2,page4,k3,hd14⟩ h
      cases n2 with
      | zero=>exact zdG h
      | succ n2 =>
       obtain ⟨ag2,hag2⟩:∃ ag,ag=zaM (fun _ _=>none) (zdE r2 from3 j3 q1) n2:=⟨_,rfl⟩
       have h:zdE r2 from3 j3 q1 ag2 page4 k3=some r:=by rw [hag2]; exact h
       unfold zdE at h
       refine zaH (zyG (zyR 2 rfl (zaW rfl zbA (zyN ?_))))
       refine zyB rfl h (fun h => ?_) (fun h => ?_)
       ·
        refine zau (zaI (zaH (zaG ?_)))
        obtain ⟨j4,hj4,h⟩:=zbO h
        refine zaY (β:=(List Gapi_Row)×Hd) 0 rfl (fun b=>j4 b.1=some r) (fun b=>[]) (fun b=>[(6,zP b5),(7,zP b6),(10,zI from3),(12,zI q1),(13,b.2.v),(14,zI k3),(46,hd6.v),(47,zI (r3.1.length:Int)),(48,zI x4)]) (fun b=>[cells b5 [hd2.v,hd3.v,hd4.v,hd5.v,zI r2.2.heights] 131,zv1 hd2.v r2.2.rows,zv0 hd3.v r2.2.blanks,zv0 hd4.v r2.2.firsts,zv0 hd5.v r2.2.lasts,cells b6 [zI l1.Width,zI l1.Height,zI l1.Turn,zI l1.Every,hd9.v,zI (r2.1+r3.2)] 81,zfp za7 zbi 43 1 hd9.v b9,zv1 b.2.v b.1,zv0 hd6.v r3.1]) (fun cut => ?_) ?_
        ·
         refine cut (zaH ?_)
         refine zfH (b:=decide ((from3:Int)<k3)) (fun hb4 => ?_) (fun hb4 => ?_)
         ·
          have h:=zg9 hb4 h
          obtain ⟨q2,hq5,h⟩:=zbx h
          obtain ⟨hg2,h⟩:=zbw h
          obtain ⟨q3,hq6,h⟩:=zbx h
          refine zbz 21 [(0,58,zI k3),(1,59,zI from3),(2,60,.bool true),(3,61,.bool true),(4,62,zP b5),(5,63,zP b5),(6,64,zP b5),(7,65,hd2.v),(8,66,zI k3),(9,67,.pointer (some ⟨zdK hd2.v,(k3:Int).toNat*6,none⟩)),(10,68,.pointer (some ⟨zdK hd2.v,((k3:Int).toNat)*6+1,none⟩)),(11,69,zI q2.Stanza),(12,70,zP b5),(13,71,zP b5),(14,72,zP b5),(15,73,hd2.v),(16,74,zI k3),(17,75,zI (k3 - 1)),(18,76,.pointer (some ⟨zdK hd2.v,(k3 - 1:Int).toNat*6,none⟩)),(19,77,.pointer (some ⟨zdK hd2.v,((k3 - 1:Int).toNat)*6+1,none⟩)),(20,78,zI q3.Stanza)] mixed kr kr dc (by rfl) kr kr (zyP 2 0 rfl (zae ?_ (zyP 2 3 rfl (zae ?_ (zae ?_ (zae ?_ (zyP 1 8 rfl (zae ?_ (zae ?_ (zae ?_ (zyP 1 12 rfl (zae ?_ (zae ?_ (zae ?_ (zyP 1 16 rfl (zae ?_ (zae ?_ (zae ?_ (zae ?_ DrawPre.nil))))))))))))))))))) ?_
          · exact fun D n d c u i=>zcc rfl dc (zaa (m:=0) u rfl (d 0 dc)) (zaa (m:=1) u rfl (d 1 dc)) zcR (zf8 (show Value.bool (decide ((from3:Int)<k3))=Value.bool true from congrArg Value.bool hb4) (zaf 2 u i rfl))
          · exact fun D n d c u i=>zar (zeY rfl (zaa (m:=3) u rfl (d 3 dc))) dc (zaa (m:=4) u rfl (d 4 dc)) (zaf 5 u i rfl)
          · exact fun D n d c u i=>zac zfX (zeY rfl (zaa (m:=3) u rfl (d 3 dc))) dc (zaa (m:=5) u rfl (d 5 dc)) (show _=0 from rfl) (zaf 6 u i rfl)
          · exact fun D n d c u i=>zan (k:=0) zjY (zeY rfl (zaa (m:=3) u rfl (d 3 dc))) dc (zaa (m:=6) u rfl (d 6 dc)) rfl rfl (zaf 7 u i rfl)
          · exact fun D n d c u i=>zaL (k:=1) hq5 Tryz.underlying43 zhW (zeY rfl (zaa (m:=3) u rfl (d 3 dc))) dc (zaa (m:=7) u rfl (d 7 dc)) (zaa (m:=8) u rfl (d 8 dc)) rfl rfl (zaf 9 u i rfl)
          · exact fun D n d c u i=>zac zew (zeY rfl (zaa (m:=3) u rfl (d 3 dc))) dc (zaa (m:=9) u rfl (d 9 dc)) (show _=((k3:Int).toNat)*6+1 from rfl) (zaf 10 u i rfl)
          · exact fun D n d c u i=>zbk (i:=(k3:Int).toNat) (j:=1) (k:=1) (q:=q2) zbS zbY (zeY rfl (zaa (m:=3) u rfl (d 3 dc))) dc (zaa (m:=10) u rfl (d 10 dc)) rfl (za0 hq5) rfl dc rfl (zaf 11 u i rfl)
          · exact fun D n d c u i=>zar (zeY rfl (zaa (m:=3) u rfl (d 3 dc))) dc (zaa (m:=12) u rfl (d 12 dc)) (zaf 13 u i rfl)
          · exact fun D n d c u i=>zac zfX (zeY rfl (zaa (m:=3) u rfl (d 3 dc))) dc (zaa (m:=13) u rfl (d 13 dc)) (show _=0 from rfl) (zaf 14 u i rfl)
          · exact fun D n d c u i=>zan (k:=0) zjY (zeY rfl (zaa (m:=3) u rfl (d 3 dc))) dc (zaa (m:=14) u rfl (d 14 dc)) rfl rfl (zaf 15 u i rfl)
          · exact fun D n d c u i=>zcc (zeY rfl (zaa (m:=3) u rfl (d 3 dc))) dc (zaa (m:=16) u rfl (d 16 dc)) rfl (zcd (r:=k3 - 1) (IntWalk.i64_in _ hg2)) (zaf 17 u i rfl)
          · exact fun D n d c u i=>zaL (k:=1) hq6 Tryz.underlying43 zhW (zeY rfl (zaa (m:=3) u rfl (d 3 dc))) dc (zaa (m:=15) u rfl (d 15 dc)) (zaa (m:=17) u rfl (d 17 dc)) rfl rfl (zaf 18 u i rfl)
          · exact fun D n d c u i=>zac zew (zeY rfl (zaa (m:=3) u rfl (d 3 dc))) dc (zaa (m:=18) u rfl (d 18 dc)) (show _=((k3 - 1:Int).toNat)*6+1 from rfl) (zaf 19 u i rfl)
          · exact fun D n d c u i=>zbk (i:=(k3 - 1:Int).toNat) (j:=1) (k:=1) (q:=q3) zbS zbY (zeY rfl (zaa (m:=3) u rfl (d 3 dc))) dc (zaa (m:=19) u rfl (d 19 dc)) rfl (za0 hq6) rfl dc rfl (zaf 20 u i rfl)
          refine zaW rfl zbP (zyR 1 rfl (zyN ?_))
          refine zyB rfl h (fun h => ?_) (fun h => ?_)
          ·
           refine zaB (zyR 1 rfl ?_)
           refine zbb (v:=.agg #[zI (-1),zI 0,zI 0,zI 0,zI 0,.string ByteArray.empty]) (ps:=[(0,.const (zI (-1)))]) rfl dc rfl (fun _=>by kernel_rfl) ?_
           refine zaR (cs:=[zI (-1),zI 0,zI 0,zI 0,zI 0,.string ByteArray.empty]) (te:=33) (ps:=[(0,.tmp 82)]) rfl dc rfl (fun _=>by kernel_rfl) (fun b11 => ?_)
           obtain ⟨hg3,h⟩:=zbw h
           refine zaZ (k:=7) (k2:=9) (ys:=[(⟨(-1),0,0,0,0,ByteArray.empty⟩:Gapi_Row)]) Tryz.underlying43 zsq zbY zeF rfl dc rfl rfl rfl rfl rfl rfl hg3 (fun v2 => ?_)
           refine zbo (k:=7) rfl (fun hd16 he2 => ?_)
           subst he2
           refine zyR 1 rfl (zaX ?_)
           exact zaq (page4++[(⟨(-1),0,0,0,0,ByteArray.empty⟩:Gapi_Row)],hd16) h rfl (zba rfl) (zad [0,1,2,3,4,5,6,7,8] kr rfl)
          refine zau ?_
          exact zaq (page4,hd14) h rfl (zba rfl) (zad [0,1,2,3,4,5,6,7,8] kr rfl)
         have h:=zha hb4 h
         refine zbz 21 [(0,58,zI k3),(1,59,zI from3),(2,60,.bool false),(3,61,.bool false),(4,62,undef),(5,63,undef),(6,64,undef),(7,65,undef),(8,66,undef),(9,67,undef),(10,68,undef),(11,69,undef),(12,70,undef),(13,71,undef),(14,72,undef),(15,73,undef),(16,74,undef),(17,75,undef),(18,76,undef),(19,77,undef),(20,78,undef)] mixed kr kr dc (by rfl) kr kr (zyP 2 0 rfl (zae ?_ (zyP 18 3 rfl DrawPre.nil))) ?_
         · exact fun D n d c u i=>zcc rfl dc (zaa (m:=0) u rfl (d 0 dc)) (zaa (m:=1) u rfl (d 1 dc)) zcR (zf8 (show Value.bool (decide ((from3:Int)<k3))=Value.bool false from congrArg Value.bool hb4) (zaf 2 u i rfl))
         refine zyR 2 rfl (zyN (zaT rfl (zau ?_)))
         exact zaq (page4,hd14) h rfl (zba rfl) (zad [0,1,2,3,4,5,6,7,8] kr rfl)
        rintro ⟨page5,hd15⟩ h
        rw [hj4] at h
        refine zaB (zyR 2 rfl (zar rfl dc rfl (zac zfX rfl dc rfl (show _=0 from rfl) (zan (k:=0) zjY rfl dc rfl rfl rfl (zyR 1 rfl ?_)))))
        obtain ⟨q4,hq7,h⟩:=zbx h
        refine zaL (k:=1) hq7 Tryz.underlying43 zhW rfl dc rfl rfl rfl rfl (zgz (i:=(k3:Int).toNat) (j:=0) (k:=1) (q:=q4) (cs:=(zr4 q4)) zj0 zbY rfl dc rfl rfl (za0 hq7) rfl rfl rfl ?_)
        refine zaR (cs:=(zr4 q4)) (te:=33) (ps:=[(0,.tmp 92)]) rfl dc rfl (fun _=>by kernel_rfl) (fun b12 => ?_)
        obtain ⟨hg4,h⟩:=zbw h
        refine zaZ (k:=7) (k2:=9) (ys:=[q4]) Tryz.underlying43 zsq zbY zeF rfl dc rfl rfl rfl rfl rfl rfl hg4 (fun v3 => ?_)
        refine zbo (k:=7) rfl (fun hd17 he3 => ?_)
        subst he3
        refine zyR 1 rfl (zaX (zah (zaI (zaB (zyR 1 rfl ?_)))))
        obtain ⟨hg5,h⟩:=zbw h
        refine zaW rfl (zaV (r:=k3+1) (IntWalk.i64_in _ hg5)) (zyR 1 rfl (zaX ?_))
        subst hag2
        exact za4 (n2,page5++[q4],k3+1,hd17) h (Nat.lt_succ_self _) rfl (zba rfl) (zad [0,1,2,3,4,5,6,7,8] kr rfl)
       refine za9 (zap (zap (zaz ?_)))
       exact zaq (q1,page4,hd14) h rfl (zba rfl) (zad [0,1,2,3,4,5,6,7,8] kr rfl)
     rintro ⟨to1,page1,hd11⟩ h
     rw [hj3] at h
     refine zaB (zyR 2 rfl (zar rfl dc rfl (zac zn6 rfl dc rfl (show _=4 from rfl) (zan (k:=5) zuK rfl dc rfl rfl rfl (zyR 1 rfl ?_)))))
     refine zaR (cs:=[hd11.v]) (te:=43) (ps:=[(0,.tmp 100)]) rfl dc rfl (fun _=>by kernel_rfl) (fun b13 => ?_)
     refine zgh (k:=6) rfl zm5 (fun zs1 hz1 => ?_)
     obtain ⟨hg6,h⟩:=zbw h
     refine zaZ (k:=6) (k2:=9) (ys:=[(page1,hd11)]) Tryz.underlying79 zwU zf2 zis rfl dc rfl rfl rfl rfl rfl rfl (by rw [zut hz1]; exact hg6) (fun v4 => ?_)
     refine zbo (k:=6) rfl (fun hd18 he4 => ?_)
     subst he4
     refine ze9 (k:=10) rfl (zad [7] kr rfl) rfl (zoH (nest:=zbi) (zs:=zs1) (z:=(page1,hd11))) ?_
     refine ze9 (k:=6) rfl (zad [10] kr rfl) rfl (zjm (enc:=za7) (nest:=zbi) (zvI hz1)) ?_
     refine zcu (L':=[cells b5 [hd2.v,hd3.v,hd4.v,hd5.v,zI r2.2.heights] 131,zv1 hd2.v r2.2.rows,zv0 hd3.v r2.2.blanks,zv0 hd4.v r2.2.firsts,zv0 hd5.v r2.2.lasts,cells b6 [zI l1.Width,zI l1.Height,zI l1.Turn,zI l1.Every,hd9.v,zI (r2.1+r3.2)] 81,zfp za7 zbi 43 1 hd18.v (b9++[page1]),emp,zv0 hd6.v r3.1,cells b13 [hd11.v] 43]) (zad [0,1,2,3,4,5,6,7,8,9] kr rfl) (zyR 1 rfl (zar rfl dc rfl (zac zn6 rfl dc rfl (show _=4 from rfl) ?_)))
     refine zbe (k:=5) (l':=[zI l1.Width,zI l1.Height,zI l1.Turn,zI l1.Every,hd18.v,zI (r2.1+r3.2)]) zvZ rfl rfl rfl rfl rfl (fun _ _=>rfl) rfl ?_
     refine zyR 1 rfl (zaX (zah ?_))
     exact zaq (b9++[page1],to1,hd18) h rfl (zba rfl) (zad [0,1,2,3,4,5,6,8] kr rfl)
    rintro ⟨b10,from4,hd10⟩ h
    rw [hj2] at h
    refine zaB ?_
    obtain ⟨hg7,h⟩:=zbw h
    refine zaW rfl (zaV (r:=x4+1) (IntWalk.i64_in _ hg7)) (zyR 1 rfl (zaX ?_))
    subst hag1
    exact za4 (n1,b10,from4,x4+1,hd10) h (Nat.lt_succ_self _) rfl (zba rfl) (zad [0,1,2,3,4,5,6,7] kr rfl)
   refine za9 (zap (zap (zaz ?_)))
   exact zaq (b9,r2.1+r3.2,b6,hd9) h rfl (zba rfl) (zad [5,6] kr rfl)
 rintro ⟨b3,b4,b2,hd1⟩ h
 rw [hj1] at h
 refine zyG (zyR 3 rfl (zyN (zaA ?_)))
 refine zoi (As:=[cells b2 [zI l1.Width,zI l1.Height,zI l1.Turn,zI l1.Every,hd1.v,zI b4] 81,zfp za7 zbi 43 1 hd1.v b3]) (zad [0,1] kr rfl) (zi9 (enc:=zbH) (nest:=zbG) (t:=81) (x:=(⟨l1.Width,l1.Height,l1.Turn,l1.Every,b3,b4⟩:Gpage_Book)) (b:=b2) (hd:=hd1)) (fun _ _ => ?_)
 cases h
 exact zaF (rs:=[.tmp 4,.tmp 5]) (zP b2) (.inl rfl) Tryz.results28 (.cons (.tmp rfl) (.cons (.tmp rfl) .nil)) rfl (zad [2] kr rfl)
end Go.Proofs.YtbempdelckaccaaGreatDoor

namespace Go.Proofs.YtbempdelckaccaaGreatDoor
open Go.RowKit Go.Lib
set_option linter.unusedVariables false
set_option linter.unusedSimpArgs false
def zd1 (text1:ByteArray):Option ((List Gapi_Verse)×Bool) :=
zak (zeR text1) fun (r1:(Gref17_Poem×(List Gapi_Verse)×Gapi_Spot)) =>
some (r1.2.1,(r1.2.2.Err:Int)==0)
theorem zkh {text1:ByteArray} {r:((List Gapi_Verse)×Bool)} (h:zd1 text1=some r):Fn Tryz.prog 30 [.string text1] [] (fun v0:Value=>.tuple #[v0,.bool r.2]) (fun v0=>[zv2 v0 r.1]):=by
 unfold zd1 at h
 refine Fn.intro Tryz.func30 rfl Tryz.ntmps30 (by simp) ?_
 intro w0 K
 refine zyG (zyR 2 rfl (zyH (zyR 1 rfl ?_)))
 obtain ⟨r1,hq1,h⟩:=zbx h
 refine zdI (vs:=[.string text1]) rfl dc rfl rfl rfl zwx (zma hq1) Splits.nil ?_
 rintro ⟨hd1,v1⟩
 refine zbo (k:=1) rfl (fun hd2 he1 => ?_)
 subst he1
 refine zyR 1 rfl (zaJ rfl dc rfl rfl (zaJ rfl dc rfl rfl (zaJ rfl dc rfl rfl ?_)))
 refine zbg zpQ rfl dc (fun b1 => ?_)
 refine zbg zpa rfl dc (fun b2 => ?_)
 refine zaU (k:=2) (vs:=[.string r1.1.Title,hd1.v]) (l':=[.string r1.1.Title,hd1.v]) zmG rfl rfl rfl rfl rfl (show _≤_ by simp) rfl rfl (zyR 1 rfl (zaU (k:=3) (vs:=(zr6 r1.2.2)) (l':=(zr6 r1.2.2)) ziI rfl rfl rfl rfl rfl (show _≤_ by simp) rfl rfl ?_))
 refine zyN (zaH ?_)
 refine zbz 5 [(0,13,hd2.v),(1,14,zP b2),(2,15,zI r1.2.2.Err),(3,16,.bool ((r1.2.2.Err:Int)==0)),(4,2,hd2.v)] mixed kr kr dc (by rfl) kr kr (zyP 1 0 rfl (zae ?_ (zae ?_ (zae ?_ (zyP 1 4 rfl DrawPre.nil))))) ?_
 · exact fun D n d c u i=>zac zn7 rfl dc (za8 (by rfl) rfl) (show _=0 from rfl) (zaf 1 u i rfl)
 · exact fun D n d c u i=>zan (k:=3) ztm rfl dc (zaa (m:=1) u rfl (d 1 dc)) rfl rfl (zaf 2 u i rfl)
 · exact fun D n d c u i=>zcc rfl dc (zaa (m:=2) u rfl (d 2 dc)) rfl za1 (zaf 3 u i rfl)
 refine zyR 1 rfl (zyN (zaA ?_))
 cases h
 exact zaF (rs:=[.tmp 2,.tmp 3]) hd2.v (.inl rfl) Tryz.results30 (.cons (.tmp rfl) (.cons (.tmp rfl) .nil)) rfl (zad [1] kr rfl)
def zdf (r1:((List Gapi_Verse)×Bool)) (j1:Option ((Option Gpage_Book)×(List Gapi_Verse)×Bool×Bool)) (ag1:Int→Option ((Option Gpage_Book)×(List Gapi_Verse)×Bool×Bool)) (i3:Int):Option ((Option Gpage_Book)×(List Gapi_Verse)×Bool×Bool) :=
zax (decide ((i3:Int)<(r1.1.length:Int))) (
zak (zcN r1.1 i3) fun (q1:Gapi_Verse) =>
zax (decide ((200:Int)<(q1.Text.size:Int))) (
some (none,([]:List Gapi_Verse),false,true)
) (
grd (I64 (i3+1)) <|
ag1 (i3+1)
)
) (
j1
)
def zdH (text1:ByteArray) (l1:Gapi_Layout):Option ((Option Gpage_Book)×(List Gapi_Verse)×Bool×Bool) :=
zak (zd1 text1) fun (r1:((List Gapi_Verse)×Bool)) =>
zax (!r1.2) (
some (none,([]:List Gapi_Verse),false,true)
) (
zax (decide ((60:Int)<(r1.1.length:Int))) (
some (none,([]:List Gapi_Verse),false,true)
) (
zbr (fun (j1:Option ((Option Gpage_Book)×(List Gapi_Verse)×Bool×Bool)) =>
zaM (fun _=>none) (zdf r1 j1) zb4 0
) (
zak (zcT text1) fun (r2:((Option Gpoem_Poem)×Gapi_Spot)) =>
zax (r2.1.isNone) (
some (none,([]:List Gapi_Verse),true,false)
) (
zax ((r2.2.Err:Int) != 0) (
some (none,([]:List Gapi_Verse),true,false)
) (
zak (r2.1) fun (p1:Gpoem_Poem) =>
zak (zfF p1 l1) fun (r3:((Option Gpage_Book)×Int)) =>
zak (zff l1) fun (r4:Bool) =>
zax (!r4) (
zax (r3.1.isNone) (
some (none,([]:List Gapi_Verse),false,(r3.2:Int)==2)
) (
some (none,([]:List Gapi_Verse),false,false)
)
) (
zax (!r3.1.isNone) (
some (r3.1,r1.1,true,(r3.2:Int)==0)
) (
some (r3.1,r1.1,true,false)
)
)
)
)
)
)
)
theorem znc {text1:ByteArray} {l1:Gapi_Layout} {r:((Option Gpage_Book)×(List Gapi_Verse)×Bool×Bool)} (h:zdH text1 l1=some r):Fn Tryz.prog 9 [.string text1,.agg (zr0 l1).toArray] [] (fun b:Value×Value=>.tuple #[b.1,b.2,.bool r.2.2.1,.bool r.2.2.2]) (fun b=>[zho zbH zbG 81 b.1 r.1,zv2 b.2 r.2.1]):=by
 unfold zdH at h
 refine Fn.intro Tryz.func9 rfl Tryz.ntmps9 (by simp) ?_
 intro w0 K
 refine zyG ?_
 refine zdQ rfl dc rfl (fun b1 => ?_)
 refine zyR 4 rfl (zyH (zyR 1 rfl ?_))
 obtain ⟨r1,hq1,h⟩:=zbx h
 refine zdI (vs:=[.string text1]) rfl dc rfl rfl rfl zwN (zkh hq1) Splits.nil ?_
 rintro v1
 refine zbo (k:=1) rfl (fun hd1 he1 => ?_)
 subst he1
 refine zyR 1 rfl (zaJ rfl dc rfl rfl (zaJ rfl dc rfl rfl (zyR 2 rfl (zyN (zaH (zyG (zyR 1 rfl (zdJ rfl dc rfl zcA (zyR 1 rfl ?_)))))))))
 refine zyS (s:=20) rfl h (fun h => ?_) (fun h => ?_)
 ·
  refine zyR 4 rfl (zyN (zbd rfl (zyG (zyR 4 rfl (zaX ?_)))))
  refine zaI (zaA (zai (zck zbH zbG 81 ?_)))
  refine zdx (enc:=zbu) (e:=76) (size:=6) ?_
  cases h
  exact zaF (rs:=[.tmp 4,.tmp 5,.tmp 6,.tmp 7]) ((.pointer none),(.slice none 0 0)) (.inl rfl) Tryz.results9 (.cons (.tmp rfl) (.cons (.tmp rfl) (.cons (.tmp rfl) (.cons (.tmp rfl) .nil)))) rfl (zad [2,3] kr rfl)
 refine zyR 1 rfl (zcm (k:=1) rfl dc rfl rfl Tryz.underlying26 (zaW rfl zcR (zyR 1 rfl (zyN ?_))))
 refine zyB rfl h (fun h => ?_) (fun h => ?_)
 ·
  refine zyG (zyR 4 rfl (zyN (zaA (zai (zck zbH zbG 81 ?_)))))
  refine zdx (enc:=zbu) (e:=76) (size:=6) ?_
  cases h
  exact zaF (rs:=[.tmp 4,.tmp 5,.tmp 6,.tmp 7]) ((.pointer none),(.slice none 0 0)) (.inl rfl) Tryz.results9 (.cons (.tmp rfl) (.cons (.tmp rfl) (.cons (.tmp rfl) (.cons (.tmp rfl) .nil)))) rfl (zad [2,3] kr rfl)
 refine zau (zaI ?_)
 obtain ⟨j1,hj1,h⟩:=zbO h
 refine zaY (β:=Unit) 0 rfl (fun b=>j1=some r) (fun b=>[]) (fun b=>[(0,.string text1),(3,zP b1),(5,hd1.v)]) (fun b=>[cells b1 (zr0 l1) 23,zv2 hd1.v r1.1]) (fun cut => ?_) ?_
 ·
  refine cut (zyG (zyR 1 rfl (zyN (zaG ?_))))
  refine zbt (β:=Nat×Int) (fun b=>zaM (fun _=>none) (zdf r1 j1) b.1 b.2=some r) (fun b=>[]) (fun b=>[(0,.string text1),(3,zP b1),(5,hd1.v),(8,zI b.2)]) (fun b=>[cells b1 (zr0 l1) 23,zv2 hd1.v r1.1]) (fun b=>b.1) (zb4,0) h rfl (zba rfl) (zad [0,1] kr rfl) ?_
  rintro ⟨n1,i3⟩ h
  cases n1 with
  | zero=>exact zdG h
  | succ n1 =>
   obtain ⟨ag1,hag1⟩:∃ ag,ag=zaM (fun _=>none) (zdf r1 j1) n1:=⟨_,rfl⟩
   have h:zdf r1 j1 ag1 i3=some r:=by rw [hag1]; exact h
   unfold zdf at h
   refine zaH (zyG (zyR 2 rfl (zcm (k:=1) rfl dc rfl rfl Tryz.underlying26 (zaW rfl zbA (zyN ?_)))))
   refine zyB rfl h (fun h => ?_) (fun h => ?_)
   ·
    refine zau (zaI (zaH (zaG (zyG (zyR 2 rfl ?_)))))
    obtain ⟨q1,hq2,h⟩:=zbx h
    refine zaL (k:=1) hq2 Tryz.underlying26 zkX rfl dc rfl rfl rfl rfl (zac zkx rfl dc rfl (show _=((i3:Int).toNat)*6 from rfl) (zbk (i:=(i3:Int).toNat) (j:=0) (k:=1) (q:=q1) zjc zc6 rfl dc rfl rfl (za0 hq2) rfl dc rfl (zbl rfl dc rfl Tryz.underlying9 (zaW rfl zcR (zyN ?_)))))
    refine zyB rfl h (fun h => ?_) (fun h => ?_)
    ·
     refine zyG (zyR 4 rfl (zyN (zaA (zal (zai (zai (zal (zai ?_))))))))
     refine zck zbH zbG 81 ?_
     refine zdx (enc:=zbu) (e:=76) (size:=6) ?_
     cases h
     exact zaF (rs:=[.tmp 4,.tmp 5,.tmp 6,.tmp 7]) ((.pointer none),(.slice none 0 0)) (.inl rfl) Tryz.results9 (.cons (.tmp rfl) (.cons (.tmp rfl) (.cons (.tmp rfl) (.cons (.tmp rfl) .nil)))) rfl (zad [2,3] kr rfl)
    refine zau (zah (zaI (zaB (zyR 1 rfl ?_))))
    obtain ⟨hg1,h⟩:=zbw h
    refine zaW rfl (zaV (r:=i3+1) (IntWalk.i64_in _ hg1)) (zyR 1 rfl (zaX ?_))
    subst hag1
    exact za4 (n1,i3+1) h (Nat.lt_succ_self _) rfl (zba rfl) (zad [0,1] kr rfl)
   refine za9 (zap (zap (zaz ?_)))
   exact zaq () h rfl (zba rfl) (zad [0,1] kr rfl)
 rintro _ h
 rw [hj1] at h
 refine zyG (zyR 1 rfl ?_)
 obtain ⟨r2,hq3,h⟩:=zbx h
 refine zdI (vs:=[.string text1]) rfl dc rfl rfl rfl ztN (zgY hq3) Splits.nil ?_
 rintro v2
 refine zcu (L':=[cells b1 (zr0 l1) 23,zv2 hd1.v r1.1,zho zaP zaO 106 v2 r2.1]) (zad [0,1,2] kr rfl) (zyR 1 rfl (zaJ rfl dc rfl rfl (zaJ rfl dc rfl rfl ?_)))
 refine zbg zpa rfl dc (fun b2 => ?_)
 refine zyR 1 rfl (zaU (k:=3) (vs:=(zr6 r2.2)) (l':=(zr6 r2.2)) ziI rfl rfl rfl rfl rfl (show _≤_ by simp) rfl rfl ?_)
 refine zyN (zaH (zyG (zyR 1 rfl ?_)))
 refine zhb (k:=2) rfl (fun hv1 => ?_)
 refine zaW rfl (zi6 Tryz.underlying58 hv1) (zyR 1 rfl ?_)
 refine zyS (s:=45) rfl h (fun h => ?_) (fun h => ?_)
 ·
  refine zyR 4 rfl (zyN (zbd rfl (zyG (zyR 4 rfl (zaX ?_)))))
  refine zaI (zaA (zai (zck zbH zbG 81 ?_)))
  refine zdx (enc:=zbu) (e:=76) (size:=6) ?_
  cases h
  exact zaF (rs:=[.tmp 4,.tmp 5,.tmp 6,.tmp 7]) ((.pointer none),(.slice none 0 0)) (.inl rfl) Tryz.results9 (.cons (.tmp rfl) (.cons (.tmp rfl) (.cons (.tmp rfl) (.cons (.tmp rfl) .nil)))) rfl (zad [4,5] kr rfl)
 refine zac zn7 rfl dc rfl (show _=0 from rfl) (zan (k:=3) ztm rfl dc rfl rfl rfl (zaW rfl zbP (zyR 1 rfl (zyN ?_))))
 refine zyB rfl h (fun h => ?_) (fun h => ?_)
 ·
  refine zyG (zyR 4 rfl (zyN (zaA (zai (zck zbH zbG 81 ?_)))))
  refine zdx (enc:=zbu) (e:=76) (size:=6) ?_
  cases h
  exact zaF (rs:=[.tmp 4,.tmp 5,.tmp 6,.tmp 7]) ((.pointer none),(.slice none 0 0)) (.inl rfl) Tryz.results9 (.cons (.tmp rfl) (.cons (.tmp rfl) (.cons (.tmp rfl) (.cons (.tmp rfl) .nil)))) rfl (zad [4,5] kr rfl)
 refine zau (zaI (zyG (zyR 1 rfl (za5 (k:=0) (cs:=(zr0 l1)) zkZ rfl dc rfl rfl rfl rfl ?_))))
 obtain ⟨p1,hq4,h⟩:=zbx h
 refine zmx (As:=[zho zaP zaO 106 v2 r2.1]) (zad [2] kr rfl) (zfo hq4) ?_
 rintro ⟨b3,hd2,hd3⟩ hv2
 subst hv2
 obtain ⟨r3,hq5,h⟩:=zbx h
 refine zfa (vs:=[zP b3,.agg (zr0 l1).toArray]) (Rd.nil:Rd _ _ []) rfl dc rfl rfl rfl zwP (znY (bx1:=b3) (x1:=p1) (x1_h0:=hd2) (x1_h1:=hd3) (l1:=l1) hq5) Splits.nil (.own (zad [4] (by kernel_rfl) rfl) (fun _ _ h=>sepL.one1.1 h) (.own (zad [5] (by kernel_rfl) rfl) (fun _ _ h=>sepL.one1.1 h) (.own (zad [6] (by kernel_rfl) rfl) (fun _ _ h=>sepL.one1.1 h) .nil))) ?_
 rintro v3
 refine zcu (L':=[cells b1 (zr0 l1) 23,zv2 hd1.v r1.1,emp,cells b2 (zr6 r2.2) 60,cells b3 [.string p1.told_title,hd2.v,hd3.v,.string p1.source] 106,zv2 hd2.v p1.told_lines,zv3 hd3.v p1.told_stanzas,zho zbH zbG 81 v3 r3.1]) (zad [0,1,2,3,4,5,6,7] kr rfl) (zyR 1 rfl (zaJ rfl dc rfl rfl (zaJ rfl dc rfl rfl (zyR 2 rfl (zyH (za5 (k:=0) (cs:=(zr0 l1)) zkZ rfl dc rfl rfl rfl rfl ?_))))))
 obtain ⟨r4,hq6,h⟩:=zbx h
 refine zbc (v:=.bool r4) (vs:=[.agg (zr0 l1).toArray]) rfl dc rfl rfl rfl zwM (zmV (l1:=l1) hq6) (zyR 1 rfl (zyN (zaH (zyG (zyR 1 rfl (zdJ rfl dc rfl zcA (zyN ?_)))))))
 refine zyB rfl h (fun h => ?_) (fun h => ?_)
 ·
  refine zyG (zyR 1 rfl ?_)
  refine zhb (k:=7) rfl (fun hv3 => ?_)
  refine zaW rfl (zi6 Tryz.underlying25 hv3) (zyR 1 rfl ?_)
  refine zyS (s:=62) rfl h (fun h => ?_) (fun h => ?_)
  ·
   refine zyR 1 rfl (zaW rfl za1 (zyR 5 rfl (zyN (zaA (zai (zck zbH zbG 81 ?_))))))
   refine zdx (enc:=zbu) (e:=76) (size:=6) ?_
   cases h
   exact zaF (rs:=[.tmp 4,.tmp 5,.tmp 6,.tmp 7]) ((.pointer none),(.slice none 0 0)) (.inl rfl) Tryz.results9 (.cons (.tmp rfl) (.cons (.tmp rfl) (.cons (.tmp rfl) (.cons (.tmp rfl) .nil)))) rfl (zad [8,9] kr rfl)
  refine zyR 7 rfl (zyN (zaA (zai (zck zbH zbG 81 ?_))))
  refine zdx (enc:=zbu) (e:=76) (size:=6) ?_
  cases h
  exact zaF (rs:=[.tmp 4,.tmp 5,.tmp 6,.tmp 7]) ((.pointer none),(.slice none 0 0)) (.inl rfl) Tryz.results9 (.cons (.tmp rfl) (.cons (.tmp rfl) (.cons (.tmp rfl) (.cons (.tmp rfl) .nil)))) rfl (zad [8,9] kr rfl)
 refine zau (zaI (zyG (zyR 3 rfl ?_)))
 refine zhb (k:=7) rfl (fun hv4 => ?_)
 refine zaW rfl (zlG Tryz.underlying25 hv4) (zyR 1 rfl ?_)
 refine zyS (s:=70) rfl h (fun h => ?_) (fun h => ?_)
 ·
  refine zyR 1 rfl (zaW rfl za1 (zyR 5 rfl (zyN (zaA ?_))))
  cases h
  exact zaF (rs:=[.tmp 4,.tmp 5,.tmp 6,.tmp 7]) (v3,hd1.v) (.inl rfl) Tryz.results9 (.cons (.tmp rfl) (.cons (.tmp rfl) (.cons (.tmp rfl) (.cons (.tmp rfl) .nil)))) rfl (zad [7,1] kr rfl)
 refine zyR 7 rfl (zyN (zaA ?_))
 cases h
 exact zaF (rs:=[.tmp 4,.tmp 5,.tmp 6,.tmp 7]) (v3,hd1.v) (.inl rfl) Tryz.results9 (.cons (.tmp rfl) (.cons (.tmp rfl) (.cons (.tmp rfl) (.cons (.tmp rfl) .nil)))) rfl (zad [7,1] kr rfl)
end Go.Proofs.YtbempdelckaccaaGreatDoor

namespace Go.Proofs.YtbempdelckaccaaGreatDoor
open Go.RowKit Go.Lib
set_option linter.unusedVariables false
set_option linter.unusedSimpArgs false
theorem zsK {z:List Row} {k:Nat} (ih:∀ vs:List Gapi_Verse,vs.map zki=(zee (k+1) z).map ziP→Stp ((k+1:Nat):Int) vs):∀ (r:Row) (j:Nat) (vs:List Gapi_Verse),vs.map zki=((zfu j r).map (fun p=>(k,p))++zee (k+1) z).map ziP→Stp ((k+1:Nat):Int) vs
 | [],j,vs,h=>ih vs h
 | x::r,j,[],h=>trivial
 | x::r,j,v::vs,h=>by
  obtain ⟨h1,h2⟩:=List.cons.inj (show zki v::vs.map zki=ziP (k,j,x)::((zfu (j+1) r).map (fun p=>(k,p))++zee (k+1) z).map ziP from h)
  have hs:v.Stanza=(k:Int):=congrArg (fun q=>q.2.2.1) h1
  refine ⟨.inr ⟨by omega,by omega⟩,?_⟩
  rw [hs,show (k:Int)+1=((k+1:Nat):Int) by omega]
  exact zsK ih r (j+1) vs h2
theorem zow:∀ (z:List Row) (k:Nat) (vs:List Gapi_Verse),(∀ r∈z,r≠[])→vs.map zki=(zee k z).map ziP→Stp (k:Int) vs
 | [],k,vs,_,h=>by
  have:vs=[]:=by simpa [zee] using h
  rw [this]; trivial
 | []::z,k,vs,hne,h=>absurd rfl (hne [] (List.mem_cons_self ..))
 | (x::r)::z,k,[],hne,h=>trivial
 | (x::r)::z,k,v::vs,hne,h=>by
  obtain ⟨h1,h2⟩:=List.cons.inj (show zki v::vs.map zki=ziP (k,0,x)::((zfu 1 r).map (fun p=>(k,p))++zee (k+1) z).map ziP from h)
  have hs:v.Stanza=(k:Int):=congrArg (fun q=>q.2.2.1) h1
  refine ⟨.inl hs,?_⟩
  rw [hs,show (k:Int)+1=((k+1:Nat):Int) by omega]
  exact zsK (fun vs h=>zow z (k+1) vs (fun r hr=>hne r (List.mem_cons_of_mem _ hr)) h) r 1 vs h2
theorem zrm (n:Nat):zgt (List.replicate n 32)=true:=by
 unfold zgt
 rw [List.all_eq_true]
 intro b hb
 rw [(List.mem_replicate.1 hb).2]; rfl
theorem OkP.okV {p:Gpoem_Poem} {t:List UInt8} {z:List Row} (h:OkP p t z):∀ v∈p.told_lines,OkV v:=by
 intro v hv
 obtain ⟨i,hi⟩:=List.getElem?_of_mem hv
 have hk:(p.told_lines.map zki)[i]?=some (zki v):=by rw [List.getElem?_map,hi]; rfl
 rw [show p.told_lines.map zki=(zee 0 z).map ziP from h.vok,List.getElem?_map] at hk
 obtain ⟨q,hq,he⟩:=Option.map_eq_some_iff.1 hk
 obtain ⟨r,hr,hx⟩:=zkf z 0 q (List.mem_of_getElem? hq)
 have hg:=h.ln r hr _ hx
 have e1:v.Text=mkB (q.2.2.drop (ind q.2.2)):=(congrArg (fun q=>q.1) he).symm
 have e2:v.Indent=(ind q.2.2:Int):=(congrArg (fun q=>q.2.1) he).symm
 have hle:=zoL q.2.2
 have hl:=hg.le
 refine ⟨?_,?_,?_⟩
 ·rw [e1,za6,List.length_drop]; omega
 ·rw [e1,za6]
  cases hd:q.2.2.drop (ind q.2.2) with
  | nil =>
   have:=zg0 q.2.2
   rw [hd,List.append_nil] at this
   have hb:=hg.bl
   rw [← this,zrm] at hb
   cases hb
  | cons b l=>simp
 ·rw [e2]; omega
theorem OkP.stp {p:Gpoem_Poem} {t:List UInt8} {z:List Row} (h:OkP p t z):Stp 0 p.told_lines:=zow z 0 p.told_lines h.ne h.vok
def zrn:Gapi_Row:=⟨-1,0,0,0,0,ByteArray.empty⟩
def pgL:Option Int→List Gapi_Row→List Gapi_Row
 | _,[]=>[]
 | none,r::rs=>r::pgL (some r.Stanza) rs
 | some s,r::rs=>if r.Stanza=s then r::pgL (some r.Stanza) rs else zrn::r::pgL (some r.Stanza) rs
theorem zmb (s:Int) (r:Gapi_Row) (rs:List Gapi_Row):pgL (some s) (r::rs)=if r.Stanza=s then r::pgL (some r.Stanza) rs else zrn::r::pgL (some r.Stanza) rs:=rfl
def zgd (rows:List Gapi_Row):Nat→List Nat→List (List Gapi_Row)
 | _,[]=>[]
 | f,t::ts=>pgL none ((rows.drop f).take (t - f))::zgd rows t ts
def zju (l:Gapi_Layout) (vs:List Gapi_Verse):Gpage_Book:=⟨l.Width,l.Height,l.Turn,l.Every,zgd (zc3 l 0 vs) 0 (zjs (zc3 l 0 vs) l.Height),zi4 l vs+(Tt (zc3 l 0 vs) l.Height 0).cost⟩
theorem zlv (rows:List Gapi_Row):∀ (ts:List Nat) (f:Nat),(zgd rows f ts).length=ts.length
 | [],_=>rfl
 | t::ts,f=>by show (zgd rows t ts).length+1=_; rw [zlv rows ts]; rfl
theorem znW:∀ (l:List Gapi_Row) (o:Option Int),(pgL o l).length≤2*l.length
 | [],o=>by cases o <;> exact Nat.le_refl _
 | r::rs,none=>by have:=znW rs (some r.Stanza); show (pgL (some r.Stanza) rs).length+1≤_; rw [List.length_cons]; omega
 | r::rs,some s=>by
  have:=znW rs (some r.Stanza)
  unfold pgL
  split <;> simp only [List.length_cons] <;> omega
theorem zuJ {rows:List Gapi_Row} (hn:rows.length≤1000000) (c H:Int) (Bl F L:List Int) (f:Nat) (j3:Int→(List Gapi_Row)→Option ((Option Gpage_Book)×Int)) (t:Nat) (ht:t≤rows.length) :
  ∀ (d k m:Nat) (pg:List Gapi_Row),f≤k→k+d=t→d<m→pg.length≤2*(k - f)→zaM (fun _ _=>none) (zdE (c,(⟨rows,Bl,F,L,H⟩:Gpage_parter)) (f:Int) j3 (t:Int)) m pg (k:Int)=j3 (t:Int) (pg++pgL (if f<k then some (stz rows (k - 1)) else none) ((rows.drop k).take (t - k))):=by
 intro d
 induction d with
 | zero =>
  intro k m pg hf hk hm hp
  obtain ⟨m,rfl⟩:∃ q,m=q+1:=⟨m - 1,by omega⟩
  rw [zeo]
  generalize zaM (fun _ _=>none) (zdE (c,(⟨rows,Bl,F,L,H⟩:Gpage_parter)) (f:Int) j3 (t:Int)) m=ag
  unfold zdE
  refine zaw (decide_eq_false (by omega)) ?_
  have e:(rows.drop k).take (t - k)=[]:=by rw [show t - k=0 by omega,List.take_zero]
  have e2:∀ o,pgL o []=[]:=fun o=>by cases o <;> rfl
  rw [e,e2,List.append_nil]
 | succ d ih =>
  intro k m pg hf hk hm hp
  obtain ⟨m,rfl⟩:∃ q,m=q+1:=⟨m - 1,by omega⟩
  rw [zeo]
  have ih':=fun pg h=>ih (k+1) m pg (by omega) (by omega) (by omega) h
  generalize zaM (fun _ _=>none) (zdE (c,(⟨rows,Bl,F,L,H⟩:Gpage_parter)) (f:Int) j3 (t:Int)) m=ag at ih' ⊢
  have hr:rows[k]?=some rows[k]:=List.getElem?_eq_getElem (by omega)
  have hst:=zjT hr
  have hd:(rows.drop k).take (t - k)=rows[k]::(rows.drop (k+1)).take (t - (k+1)):=by
   rw [List.drop_eq_getElem_cons (show k<rows.length by omega),show t - k=t - (k+1)+1 by omega,List.take_succ_cons]
  rw [hd]
  rw [if_pos (show f<k+1 by omega),show k+1 - 1=k by omega,hst,show ((k+1:Nat):Int)=(k:Int)+1 by omega] at ih'
  have fin:∀ pg':List Gapi_Row,pg'.length+1≤2*(k+1 - f)→(zak (zcN rows (k:Int)) fun (q4:Gapi_Row)=>grd (pg'.length+1≤2147483648)<|grd (I64 ((k:Int)+1))<|ag (pg'++[q4]) ((k:Int)+1))=j3 (t:Int) (pg'++rows[k]::pgL (some rows[k].Stanza) ((rows.drop (k+1)).take (t - (k+1)))):=by
   intro pg' hp'
   refine zaN (zed hr) (zbM (by omega) (zbM ⟨by omega,by omega⟩ ?_))
   rw [ih' _ (by rw [List.length_append,List.length_singleton]; omega),List.append_assoc]; rfl
  unfold zdE
  refine zay (decide_eq_true (by omega)) (zbF ?_)
  by_cases h0:f<k
  ·have hr0:rows[k - 1]?=some rows[k - 1]:=List.getElem?_eq_getElem (by omega)
   have hst0:=zjT hr0
   rw [if_pos h0,hst0]
   refine zay (decide_eq_true (by omega)) (zaN (zed hr) (zbM ⟨by omega,by omega⟩ (zaN (zfi (n:=k - 1) (by omega) hr0) ?_)))
   by_cases he:rows[k].Stanza=rows[k - 1].Stanza
   ·refine zaw (zxb he) ((fin pg (by omega)).trans ?_)
    rw [zmb,if_pos he]
   ·refine zay (zxa he) (zbM (by omega) ((fin _ (by rw [List.length_append,List.length_singleton]; omega)).trans ?_))
    rw [zmb,if_neg he,List.append_assoc]; rfl
  ·rw [if_neg h0]
   refine zaw (decide_eq_false (by omega)) ((fin pg (by omega)).trans ?_)
   rfl
theorem zqb {rows:List Gapi_Row} (hn:rows.length≤1000000) (c c2 H:Int) (Bl F L:List Int) (R:Nat→Nat→Bool) (j1:(List (List Gapi_Row))→Int→Option ((Option Gpage_Book)×Int)) (E:List Nat) :
  ∀ (ts pre:List Nat) (f m:Nat) (out:List (List Gapi_Row)),E=pre++ts→zpJ R rows.length f ts→ts.length<m→out.length≤f→out.length=pre.length →
  zaM (fun _ _ _=>none) (zdF j1 (c,(⟨rows,Bl,F,L,H⟩:Gpage_parter)) (E.map (fun t=>((t:Nat):Int)),c2)) m out (f:Int) (pre.length:Int)=j1 (out++zgd rows f ts) (c+c2)
 | [],pre,f,m,out,hE,hr,hm,ho,hp=>by
  obtain ⟨m,rfl⟩:∃ q,m=q+1:=⟨m - 1,by simp at hm; omega⟩
  rw [zeo]
  generalize zaM (fun _ _ _=>none) (zdF j1 (c,(⟨rows,Bl,F,L,H⟩:Gpage_parter)) (E.map (fun t=>((t:Nat):Int)),c2)) m=ag
  unfold zdF
  refine zaw (decide_eq_false (by rw [List.length_map,hE]; simp)) ?_
  show j1 out (c+c2)=j1 (out++[]) (c+c2)
  rw [List.append_nil]
 | t::ts,pre,f,m,out,hE,hr,hm,ho,hp=>by
  obtain ⟨m,rfl⟩:∃ q,m=q+1:=⟨m - 1,by simp at hm; omega⟩
  obtain ⟨r1,r2,_,r3⟩:=hr
  have ih:=zqb hn c c2 H Bl F L R j1 E ts (pre++[t]) t m (out++[pgL none ((rows.drop f).take (t - f))]) (by rw [hE]; simp) r3 (by simp at hm; omega) (by simp; omega) (by simp; omega)
  have hpl:pre.length<E.length:=by rw [hE]; simp
  rw [zeo]
  generalize zaM (fun _ _ _=>none) (zdF j1 (c,(⟨rows,Bl,F,L,H⟩:Gpage_parter)) (E.map (fun t=>((t:Nat):Int)),c2)) m=ag at ih ⊢
  have hg:(E.map (fun t=>((t:Nat):Int)))[pre.length]?=some (t:Int):=by rw [List.getElem?_map,hE]; simp
  rw [show (((pre++[t]).length:Nat):Int)=(pre.length:Int)+1 by simp] at ih
  unfold zdF
  refine zay (zuU hg) (zbF (zbF (zaN (zed hg) ?_)))
  have hin:=zuJ hn c H Bl F L f (fun (to1:Int) (page1:List Gapi_Row)=>grd (out.length+1≤2147483648)<|grd (I64 ((pre.length:Int)+1))<|ag (out++[page1]) to1 ((pre.length:Int)+1)) t r2 (t - f) f zb4 [] (Nat.le_refl _) (by omega) (zdL (by omega)) (Nat.zero_le _)
  refine hin.trans ?_
  rw [if_neg (Nat.lt_irrefl f),List.nil_append]
  refine zbM (by omega) (zbM ⟨by omega,by omega⟩ ?_)
  rw [ih,List.append_assoc]; rfl
theorem zvt {rows:List Gapi_Row} {F L:List Int} {H:Int} (hR:RowsOk rows F L) (hH:4≤H∧H≤200) (f:Nat):0≤(Tt rows H f).cost∧(Tt rows H f).cost≤2000000000000*1000000:=by
 have hok:=znF (R:=Rp rows H) (K:=Kp rows H) (n:=rows.length) (zlL hR hH) rows.length f
 obtain ⟨a,b,_⟩:=hok
 have hn:=hR.n
 refine ⟨a,?_⟩
 show (Bf (Rp rows H) (Kp rows H) rows.length rows.length f).cost≤_
 omega
theorem zna {l:Gapi_Layout} (h:zjE l=true):4≤l.Height∧l.Height≤200:=by
 unfold zjE at h
 simp only [Bool.and_eq_true,decide_eq_true_eq] at h
 omega
theorem zw5 (l:Gapi_Layout) (p:Gpoem_Poem) (hv:∀ v∈p.told_lines,OkV v) (hl:p.told_lines.length≤512) (hst:Stp 0 p.told_lines):zfF p l=if zjE l=true then some (some (zju l p.told_lines),0) else some (none,2):=by
 unfold zfF
 refine zaN (zwi l) ?_
 cases hm:zjE l with
 | false=>exact zay rfl rfl
 | true =>
  rw [if_pos rfl]
  have hR:=zl6 hm p.told_lines hv hl hst
  have hH:=zna hm
  have hn:=hR.n
  have c1:=zns hm p.told_lines hv
  have c2:=zvt hR hH 0
  refine zaw rfl (zbF (zaN (ztz l hm p l.Height hv hl hst) (zaN (ztx hR hH) (zbM ?_ ?_))))
  ·show I64 (zi4 l p.told_lines+(Tt (zc3 l 0 p.told_lines) l.Height 0).cost)
   exact ⟨by omega,by omega⟩
  ·have hr:=zhi (R:=Rp (zc3 l 0 p.told_lines) l.Height) (K:=Kp (zc3 l 0 p.told_lines) l.Height) (n:=(zc3 l 0 p.told_lines).length) (zlL hR hH) (znE hH) (zc3 l 0 p.told_lines).length 0 (Nat.zero_le _) (by omega)
   have hlen:(zjs (zc3 l 0 p.told_lines) l.Height).length≤(zc3 l 0 p.told_lines).length:=by
    have key:∀ (ts:List Nat) (f:Nat),zpJ (Rp (zc3 l 0 p.told_lines) l.Height) (zc3 l 0 p.told_lines).length f ts→f+ts.length≤(zc3 l 0 p.told_lines).length:=by
     intro ts
     induction ts with
     | nil=>intro f h; have:f=_:=h; simp; omega
     | cons t ts ih=>intro f h; obtain ⟨a,b,_,d⟩:=h; have:=ih t d; rw [List.length_cons]; omega
    have h9:=key _ _ hr
    have h8:(zjs (zc3 l 0 p.told_lines) l.Height).length≤(zc3 l 0 p.told_lines).length:=by rw [Nat.zero_add] at h9; exact h9
    exact h8
   exact zqb hn (zi4 l p.told_lines) (Tt (zc3 l 0 p.told_lines) l.Height 0).cost l.Height _ _ _ _ (fun (b3:List (List Gapi_Row)) (b4:Int)=>some ((some (⟨l.Width,l.Height,l.Turn,l.Every,b3,b4⟩:Gpage_Book)),0)) (zjs (zc3 l 0 p.told_lines) l.Height) (zjs (zc3 l 0 p.told_lines) l.Height) [] 0 zb4 [] rfl hr (zdL (n:=(zjs (zc3 l 0 p.told_lines) l.Height).length) (by omega)) (Nat.le_refl _) rfl
theorem ztr {U:List UInt8} {e:Gapi_Spot} (h:rd U=.error e):e.Err=3:=by
 have key:∀ (xs:List (Nat×List UInt8)) (st:RS),zdq st xs=.error e→e.Err=3:=by
  intro xs
  induction xs with
  | nil=>intro st h; cases h
  | cons x xs ih =>
   intro st h
   unfold zdq at h
   cases hs:zes st x with
   | ok s1=>rw [hs] at h; exact ih s1 h
   | error e' =>
    rw [hs] at h
    have:e'=e:=by cases h; rfl
    subst this
    unfold zes at hs
    split at hs
    ·cases hs
    split at hs
    ·cases hs; rfl
    split at hs
    ·cases hs
    split at hs
    ·cases hs; rfl
    ·cases hs
 unfold rd at h
 split at h
 ·cases h; rfl
 ·exact key _ _ h
structure PgOk (vs:List Gapi_Verse):Prop where
 ok:∀ v∈vs,OkV v
 len:vs.length≤60
 stp:Stp 0 vs
 sz:∀ v∈vs,v.Text.size≤200
theorem zrN (vs:List Gapi_Verse) (b:Bool) (hl:vs.length≤60) (j:Option ((Option Gpage_Book)×(List Gapi_Verse)×Bool×Bool)):∀ (d i m:Nat),i+d=vs.length→d<m→zaM (fun _=>none) (zdf (vs,b) j) m (i:Int)=if (vs.drop i).all (fun v=>decide (v.Text.size≤200))=true then j else some (none,([]:List Gapi_Verse),false,true):=by
 intro d
 induction d with
 | zero =>
  intro i m hi hm
  obtain ⟨m,rfl⟩:∃ q,m=q+1:=⟨m - 1,by omega⟩
  rw [zeo]
  generalize zaM (fun _=>none) (zdf (vs,b) j) m=ag
  unfold zdf
  refine zaw (decide_eq_false (by show ¬ (i:Int)<(vs.length:Int); omega)) ?_
  rw [List.drop_of_length_le (by omega)]; rfl
 | succ d ih =>
  intro i m hi hm
  obtain ⟨m,rfl⟩:∃ q,m=q+1:=⟨m - 1,by omega⟩
  rw [zeo]
  have ih':=ih (i+1) m (by omega) (by omega)
  rw [show ((i+1:Nat):Int)=(i:Int)+1 by omega] at ih'
  generalize zaM (fun _=>none) (zdf (vs,b) j) m=ag at ih' ⊢
  have hv:vs[i]?=some vs[i]:=List.getElem?_eq_getElem (by omega)
  unfold zdf
  refine zay (decide_eq_true (by show (i:Int)<(vs.length:Int); omega)) (zaN (zed hv) ?_)
  rw [List.drop_eq_getElem_cons (show i<vs.length by omega),List.all_cons]
  by_cases h:vs[i].Text.size≤200
  ·refine zaw (decide_eq_false (by omega)) (zbM ⟨by omega,by omega⟩ ?_)
   rw [decide_eq_true h,Bool.true_and]; exact ih'
  ·rw [decide_eq_false h,Bool.false_and,if_neg (by decide)]
   exact zay (decide_eq_true (by omega)) rfl
theorem zqc (T:List UInt8) (l:Gapi_Layout):zdH (mkB T) l=some (none,([]:List Gapi_Verse),false,true) ∨
  ∃ p t z,OkP p t z∧zjE l=true∧PgOk p.told_lines∧zcT (mkB T)=some (some p,(⟨0,0⟩:Gapi_Spot))∧zdH (mkB T) l=some (some (zju l p.told_lines),p.told_lines,true,true):=by
 have hr:=zmS T
 have hp:=zsP T
 cases hrd:rd T with
 | error e =>
  rw [hrd] at hr
  refine .inl ?_
  unfold zdH zd1
  have he:=ztr hrd
  exact zaN (zaN hr rfl) (zay (by show (!((e.Err:Int)==0))=true; rw [he]; rfl) rfl)
 | ok st =>
  rw [hrd] at hr hp
  have hp:zcT (mkB T)=some (some (⟨mkB st.t,st.vs,ziF 0 st.stz,mkB T⟩:Gpoem_Poem),(⟨0,0⟩:Gapi_Spot)):=hp
  have hok:=(zuP hrd).1.ok (mkB T)
  generalize hP:(⟨mkB st.t,st.vs,ziF 0 st.stz,mkB T⟩:Gpoem_Poem)=p at hp hok
  have hvs:p.told_lines=st.vs:=by rw [← hP]
  have hV:zd1 (mkB T)=some (p.told_lines,true):=by unfold zd1; rw [hvs]; exact zaN hr rfl
  have hov:=hok.okV
  have hst:=hok.stp
  have hSet:=fun h=>zw5 l p hov h hst
  by_cases h60:p.told_lines.length≤60
  ·have hloop:=zrN p.told_lines true h60
   cases hall:p.told_lines.all (fun v=>decide (v.Text.size≤200)) with
   | false =>
    refine .inl ?_
    unfold zdH
    refine zaN hV (zaw rfl (zaw (decide_eq_false (by show ¬ (60:Int)<(p.told_lines.length:Int); omega)) (zbF ?_)))
    refine (hloop _ p.told_lines.length 0 zb4 (by omega) (zdL (by omega))).trans ?_
    rw [List.drop_zero,hall]; rfl
   | true =>
    have run:∀ x,(zak (zfF p l) fun (r3:((Option Gpage_Book)×Int))=>zak (zff l) fun (r4:Bool)=>zax (!r4) (zax (r3.1.isNone) (some (none,([]:List Gapi_Verse),false,(r3.2:Int)==2)) (some (none,([]:List Gapi_Verse),false,false))) (zax (!r3.1.isNone) (some (r3.1,p.told_lines,true,(r3.2:Int)==0)) (some (r3.1,p.told_lines,true,false))))=x→zdH (mkB T) l=x:=by
     intro x hx
     unfold zdH
     refine zaN hV (zaw rfl (zaw (decide_eq_false (by show ¬ (60:Int)<(p.told_lines.length:Int); omega)) (zbF ?_)))
     refine (hloop _ p.told_lines.length 0 zb4 (by omega) (zdL (by omega))).trans ?_
     rw [List.drop_zero,hall,if_pos rfl]
     exact zaN hp (zaw rfl (zaw rfl (zaN rfl hx)))
    have hS:=hSet (by omega)
    cases hm:zjE l with
    | false =>
     rw [hm,if_neg (by decide)] at hS
     exact .inl (run _ (zaN hS (zaN (zsO l) (by rw [hm]; exact zay rfl (zay rfl rfl)))))
    | true =>
     rw [hm,if_pos rfl] at hS
     refine .inr ⟨p,st.t,st.stz,hok,rfl,⟨hov,h60,hst,fun v hv => ?_⟩,hp,run _ (zaN hS (zaN (zsO l) (by rw [hm]; exact zaw rfl (zay rfl rfl))))⟩
     have:=List.all_eq_true.1 hall v hv
     exact of_decide_eq_true this
  ·refine .inl ?_
   unfold zdH
   exact zaN hV (zaw rfl (zay (decide_eq_true (by show (60:Int)<(p.told_lines.length:Int); omega)) rfl))
end Go.Proofs.YtbempdelckaccaaGreatDoor

namespace Go.Proofs.YtbempdelckaccaaGreatDoor
open Go.RowKit Go.Lib
set_option linter.unusedVariables false
set_option linter.unusedSimpArgs false
def k3 (v:Gapi_Verse):ByteArray×Int×Int:=(v.Text,v.Indent,v.Stanza)
theorem zj3 (a b:Nat):∀ (L L':List LnE) (i:Nat) (x:List Row×Int),L.map (fun p=>(p.1,p.2.2))=L'.map (fun p=>(p.1,p.2.2))→zfq a b i L x=zfq a b i L' x
 | [],[],i,x,h=>rfl
 | [],q::L',i,x,h=>by cases h
 | p::L,[],i,x,h=>by cases h
 | p::L,q::L',i,x,h=>by
  rw [List.map_cons,List.map_cons] at h
  obtain ⟨h1,h2⟩:=List.cons.inj h
  have e1:p.1=q.1:=(Prod.mk.inj h1).1
  have e2:p.2.2=q.2.2:=(Prod.mk.inj h1).2
  unfold zfq
  rw [e1,e2]
  simp only [zj3 a b L L' (i+1) _ h2]
theorem ztA {p q:LnE} (h:(ziP p).1=(ziP q).1∧(ziP p).2.1=(ziP q).2.1∧(ziP p).2.2.1=(ziP q).2.2.1):(p.1,p.2.2)=(q.1,q.2.2):=by
 obtain ⟨h1,h2,h3⟩:=h
 have e1:=zhH h1
 have e2:(ind p.2.2:Int)=(ind q.2.2:Int):=h2
 have e3:(p.1:Int)=(q.1:Int):=h3
 have e4:p.2.2=q.2.2:=by
  rw [← zg0 p.2.2,← zg0 q.2.2,e1,show ind p.2.2=ind q.2.2 by omega]
 rw [e4,show p.1=q.1 by omega]
theorem zlx:∀ (L L':List LnE) (vs vs':List Gapi_Verse),vs.map zki=L.map ziP→vs'.map zki=L'.map ziP→vs.map k3=vs'.map k3→L.map (fun p=>(p.1,p.2.2))=L'.map (fun p=>(p.1,p.2.2))
 | [],[],vs,vs',h1,h2,h3=>rfl
 | [],q::L',vs,vs',h1,h2,h3=>by
  have e1:=congrArg List.length h1; have e2:=congrArg List.length h2; have e3:=congrArg List.length h3
  simp at e1 e2 e3; rw [e1] at e3; simp at e3; rw [← e3] at e2; simp at e2
 | p::L,[],vs,vs',h1,h2,h3=>by
  have e1:=congrArg List.length h1; have e2:=congrArg List.length h2; have e3:=congrArg List.length h3
  simp at e1 e2 e3; rw [e2] at e3; simp at e3; rw [e3] at e1; simp at e1
 | p::L,q::L',vs,vs',h1,h2,h3=>by
  cases vs with
  | nil=>cases h1
  | cons v vs =>
   cases vs' with
   | nil=>cases h2
   | cons v' vs' =>
    rw [List.map_cons,List.map_cons] at h1 h2 h3
    obtain ⟨a1,b1⟩:=List.cons.inj h1
    obtain ⟨a2,b2⟩:=List.cons.inj h2
    obtain ⟨a3,b3⟩:=List.cons.inj h3
    rw [List.map_cons,List.map_cons,zlx L L' vs vs' b1 b2 b3]
    congr 1
    refine ztA ⟨?_,?_,?_⟩
    ·rw [← a1,← a2]; exact congrArg (fun x=>x.1) a3
    ·rw [← a1,← a2]; exact congrArg (fun x=>x.2.1) a3
    ·rw [← a1,← a2]; exact congrArg (fun x=>x.2.2) a3
theorem zpR {z z':List Row} (h1:∀ r∈z,r≠[]) (h2:∀ r∈z',r≠[]) (h:(zee 0 z).map (fun p=>(p.1,p.2.2))=(zee 0 z').map (fun p=>(p.1,p.2.2))):z=z':=by
 have e:=zj3 0 (tot z+tot z') _ _ 0 ([],-1) h
 have a:=zgV 0 (tot z+tot z') z 0 0 [] (-1) (by omega)
 have b:=zgV 0 (tot z+tot z') z' 0 0 [] (-1) (by omega)
 rw [ziv _ z 0 h1 (by omega)] at a
 rw [ziv _ z' 0 h2 (by omega)] at b
 rw [e] at a
 have:[]++z=[]++z':=a.symm.trans b
 simpa using this
theorem zwj {p q:Gpoem_Poem} {t t':List UInt8} {z:List Row} (hp:OkP p t z) (hq:OkP q t' z):p.told_lines.map k3=q.told_lines.map k3:=by
 have h:=hp.vok.trans hq.vok.symm
 have:=congrArg (List.map fun x:ByteArray×Int×Int×Int=>(x.1,x.2.1,x.2.2.1)) h
 rw [List.map_map,List.map_map] at this
 exact this
instance {a b:List (ByteArray×Int×Int)}:Decidable (a=b):=inferInstance
theorem zqh (p q:Gpoem_Poem) (hl:p.told_lines.length=q.told_lines.length) (hb:p.told_lines.length≤1000):∀ (n i:Nat),i≤p.told_lines.length→p.told_lines.length - i<n →
  zaM (fun _=>none) (zcD p q (some true)) n (i:Int)=some (decide ((p.told_lines.drop i).map k3=(q.told_lines.drop i).map k3)):=by
 intro n
 induction n with
 | zero=>intro i h1 h2; omega
 | succ n ih =>
  intro i hi hn
  rw [zcf]
  obtain ⟨ag,hag⟩:∃ ag,ag=zaM (fun _=>none) (zcD p q (some true)) n:=⟨_,rfl⟩
  rw [← hag] at ih ⊢
  unfold zcD
  rcases Nat.lt_or_ge i p.told_lines.length with h | h
  ·have h':i<q.told_lines.length:=by omega
   have hd:=List.drop_eq_getElem_cons h
   have hd':=List.drop_eq_getElem_cons h'
   rw [hd,hd',List.map_cons,List.map_cons]
   refine zay (decide_eq_true (by omega)) (zaN (zcJ (List.getElem?_eq_getElem h)) (zaN (zcJ (List.getElem?_eq_getElem h')) ?_))
   generalize p.told_lines[i]=v
   generalize q.told_lines[i]=v'
   by_cases h1:v.Text=v'.Text
   ·refine zaw (by rw [decide_eq_true h1]; rfl) ?_
    by_cases h2:v.Indent=v'.Indent
    ·refine zaw (by rw [h2]; exact bne_self_eq_false _) ?_
     by_cases h3:v.Stanza=v'.Stanza
     ·refine zaw (by rw [h3]; exact bne_self_eq_false _) (zbM ⟨by omega,by omega⟩ ?_)
      rw [show (i:Int)+1=((i+1:Nat):Int) by omega,ih (i+1) (by omega) (by omega)]
      have:k3 v=k3 v':=by unfold k3; rw [h1,h2,h3]
      rw [this]
      congr 1
      exact (decide_eq_decide.2 ⟨fun e=>by rw [e],fun e=>(List.cons.inj e).2⟩)
     ·refine zay (bne_iff_ne.2 h3) ?_
      rw [decide_eq_false (fun e=>h3 (congrArg (fun x:ByteArray×Int×Int=>x.2.2) (List.cons.inj e).1))]
    ·refine zay (bne_iff_ne.2 h2) ?_
     rw [decide_eq_false (fun e=>h2 (congrArg (fun x:ByteArray×Int×Int=>x.2.1) (List.cons.inj e).1))]
   ·refine zay (by rw [decide_eq_false h1]; rfl) ?_
    rw [decide_eq_false (fun e=>h1 (congrArg (fun x:ByteArray×Int×Int=>x.1) (List.cons.inj e).1))]
  ·rw [List.drop_eq_nil_of_le h,List.drop_eq_nil_of_le (by omega)]
   exact zaw (decide_eq_false (by omega)) rfl
theorem zoB {p q:Gpoem_Poem} {t t':List UInt8} {z z':List Row} (hp:OkP p t z) (hq:OkP q t' z'):zdn p q=some (decide (t=t'∧z=z')):=by
 unfold zdn
 have m1:=hp.most
 have m2:=hq.most
 have l1:=hp.len
 have l2:=hq.len
 by_cases ht:t=t'
 ·refine zaw (by rw [hp.title,hq.title,ht]; simp) ?_
  by_cases hl:p.told_lines.length=q.told_lines.length
  ·refine zaw (by rw [hl]; exact bne_self_eq_false _) (zbF ?_)
   have:=zqh p q hl (by omega) zb4 0 (Nat.zero_le _) (by unfold zb4; omega)
   rw [List.drop_zero,List.drop_zero] at this
   refine this.trans ?_
   congr 1
   refine decide_eq_decide.2 ⟨fun e=>⟨ht,zpR hp.ne hq.ne (zlx _ _ _ _ hp.vok hq.vok e)⟩,fun e => ?_⟩
   have hz:=e.2
   subst hz
   exact zwj hp hq
  ·refine zay (bne_iff_ne.2 (by omega)) ?_
   rw [decide_eq_false (fun e=>hl (by rw [l1,l2,e.2]))]
 ·refine zay (by rw [hp.title,hq.title,decide_eq_false (fun e=>ht (zhH e))]; rfl) ?_
  rw [decide_eq_false (fun e=>ht e.1)]
end Go.Proofs.YtbempdelckaccaaGreatDoor

namespace Go.Proofs.YtbempdelckaccaaGreatDoor
open Go.RowKit Go.Lib
set_option linter.unusedVariables false
set_option linter.unusedSimpArgs false
theorem zqG {t:List UInt8} {z:List Row} (h:GoodP t z) (hn:tot z≤512) (hl:(prT t z).length≤65536):∃ p,zdD (mkB t) (mkZ z)=some (some p,0)∧OkP p t z∧p.source=mkB (prT t z) ∧
  zcT (mkB (prT t z))=some (some p,(⟨0,0⟩:Gapi_Spot))∧zeR (mkB (prT t z))=some ((⟨mkB t,mkZ z⟩:Gref17_Poem),p.told_lines,(⟨0,0⟩:Gapi_Spot)):=by
 obtain ⟨st,h1,h2,h3⟩:=zrT h hn hl
 obtain ⟨hI,_⟩:=zuP h1
 have hwt:=zoo z fun r hr x hx=>(h.ln r hr x hx).le
 have h4:=zlh z h.ne
 have h5:=h.tL
 have hr:=zsP (prT t z)
 have hrr:=zmS (prT t z)
 rw [h1] at hr hrr
 have hok:=hI.ok (mkB (prT t z))
 rw [h2,h3] at hok
 refine ⟨(⟨mkB st.t,st.vs,ziF 0 st.stz,mkB (prT t z)⟩:Gpoem_Poem),?_,by rw [h2,h3]; exact hok,rfl,hr,?_⟩
 ·rw [zsS t z h.ne (by omega),if_neg (by omega),hr]; rfl
 ·rw [hrr]
  show some ((⟨mkB st.t,mkZ st.stz⟩:Gref17_Poem),st.vs,_)=_
  rw [h2,h3]
end Go.Proofs.YtbempdelckaccaaGreatDoor

namespace Go.Proofs.YtbempdelckaccaaGreatDoor
open Go.RowKit Go.Lib
set_option linter.unusedVariables false
set_option linter.unusedSimpArgs false
def zs5 (l:List UInt8):Bool:=!(l.any isE)&&(decide (l.length≤1024)&&!zgt l)
theorem zqD (l:List UInt8) (n:Nat):zpL (mkB l) (n:Int)=(decide (l.length≤n)&&!(l.any isE)):=by
 unfold zpL zlI
 rw [zgp,za6]
 congr 1
 exact decide_eq_decide.2 (by omega)
theorem zo3 {R α:Type} {F:(Int→Option R)→Int→Option R} (r:List α) (f:α→Bool) (E J:Option R) (hs:∀ ag (i:Nat) x,r[i]?=some x→F ag (i:Int)=if f x=true then ag ((i+1:Nat):Int) else E) (he:∀ ag,F ag (r.length:Int)=J) :
  ∀ n i,i≤r.length→r.length - i<n→zaM (fun _=>none) F n (i:Int)=if (r.drop i).all f=true then J else E:=by
 intro n
 induction n with
 | zero=>intro i h1 h2; omega
 | succ n ih =>
  intro i hi hn
  rw [zcf]
  rcases Nat.lt_or_ge i r.length with h | h
  ·rw [hs _ i _ (List.getElem?_eq_getElem h),ih (i+1) (by omega) (by omega),List.drop_eq_getElem_cons h,List.all_cons]
   cases f r[i] <;> simp
  ·obtain rfl:i=r.length:=by omega
   rw [he,List.drop_length]; rfl
def zph (r:Row):Bool:=!r.isEmpty&&r.all zs5
theorem zuT (t:List UInt8) (z:List Row) (hz:z.length≤140737488355328) (hr:∀ r∈z,r.length≤140737488355328∧∀ x∈r,x.length≤140737488355328):zeI (mkB t) (mkZ z)=if zpL (mkB t) 1022=true then (if z.all zph=true then zdD (mkB t) (mkZ z) else some (none,170)) else some (none,170):=by
 unfold zeI
 cases ht:zpL (mkB t) 1022 with
 | false=>exact zay rfl rfl
 | true =>
  rw [if_pos rfl]
  refine zaw rfl (zbF ?_)
  have key:∀ J:Option ((Option Gpoem_Poem)×Int),zaM (fun _=>none) (zdr (mkZ z) J) zb4 0=if z.all zph=true then J else some (none,170):=fun J=>by
   have:=zo3 (F:=zdr (mkZ z) J) z zph (some (none,170)) J (fun ag i r hi => ?_) (fun ag => ?_) zb4 0 (Nat.zero_le _) (by unfold zb4; omega)
   ·rw [List.drop_zero] at this; exact this
   ·unfold zdr
    have hil:=(List.getElem?_eq_some_iff.1 hi).1
    have hg:zcN (mkZ z) (i:Int)=some (r.map mkB):=zcJ (by unfold mkZ; rw [List.getElem?_map,hi]; rfl)
    obtain ⟨hrl,hrx⟩:=hr r (List.mem_of_getElem? hi)
    refine zay (decide_eq_true (by show (i:Int)<((mkZ z).length:Int); rw [zec]; omega)) (zbF (zaN hg ?_))
    have go:(grd (I64 ((i:Int)+1))<|ag ((i:Int)+1))=ag ((i+1:Nat):Int):=zbM ⟨by omega,by omega⟩ (by rw [show (i:Int)+1=((i+1:Nat):Int) by omega])
    rw [go]
    cases r with
    | nil=>exact zay rfl rfl
    | cons y r =>
     refine zaw (by rw [List.length_map]; exact beq_eq_false_iff_ne.2 (by rw [List.length_cons]; omega)) ?_
     have hin:=zo3 (F:=zdT (ag ((i+1:Nat):Int)) ((y::r).map mkB)) (y::r) zs5 (some (none,170)) (ag ((i+1:Nat):Int)) (fun ag2 k x hk => ?_) (fun ag2 => ?_) zb4 0 (Nat.zero_le _) (by unfold zb4; omega)
     ·rw [List.drop_zero] at hin
      refine hin.trans ?_
      unfold zph
      simp
     ·unfold zdT
      have hkl:=(List.getElem?_eq_some_iff.1 hk).1
      have hgk:zcN ((y::r).map mkB) (k:Int)=some (mkB x):=zcJ (by rw [List.getElem?_map,hk]; rfl)
      have hxl:=hrx x (List.mem_of_getElem? hk)
      refine zay (decide_eq_true (by rw [List.length_map]; omega)) (zaN hgk ?_)
      have hmay:=zqD x 1024
      rw [show ((1024:Nat):Int)=1024 from rfl] at hmay
      cases hm:zpL (mkB x) 1024 with
      | false =>
       have:zs5 x=false:=by
        unfold zs5
        rw [hmay] at hm
        cases h1:decide (x.length≤1024) <;> cases h2:x.any isE <;> simp_all
       rw [this]; exact zay rfl rfl
      | true =>
       refine zaw rfl (zaN (zq7 x (by omega)) ?_)
       have:zs5 x=!zgt x:=by
        unfold zs5
        rw [hmay,Bool.and_eq_true] at hm
        rw [hm.1,hm.2]; simp
       rw [this]
       cases zgt x with
       | true=>exact zay rfl rfl
       | false=>exact zaw rfl (zbM ⟨by omega,by omega⟩ (by rw [show (k:Int)+1=((k+1:Nat):Int) by omega]; rfl))
     ·unfold zdT
      exact zaw (decide_eq_false (by rw [List.length_map]; omega)) rfl
   ·unfold zdr
    exact zaw (decide_eq_false (by show ¬ (z.length:Int)<((mkZ z).length:Int); rw [zec]; omega)) rfl
  rw [key]
  generalize zdD (mkB t) (mkZ z)=o
  cases o <;> rfl
theorem zqF {t:List UInt8} {z:List Row} (h:GoodP t z) (hn:tot z≤512) (hl:65536<(prT t z).length):zdD (mkB t) (mkZ z)=some (none,3):=by
 have hwt:=zoo z fun r hr x hx=>(h.ln r hr x hx).le
 have h4:=zlh z h.ne
 have h5:=h.tL
 rw [zsS t z h.ne (by omega),if_pos (.inr hl)]
theorem zsf {l:List UInt8} (h:GLn l):zs5 l=true:=by
 unfold zs5
 have h1:l.any isE=false:=by
  rw [List.any_eq_false]
  intro b hb
  have:=h.ne b hb
  simpa using this
 rw [h1,h.bl,decide_eq_true h.le]; rfl
theorem zqE {t:List UInt8} {z:List Row} (h:GoodP t z) (hz:z.length≤140737488355328) (hr:∀ r∈z,r.length≤140737488355328):zeI (mkB t) (mkZ z)=zdD (mkB t) (mkZ z):=by
 rw [zuT t z hz (fun r hr'=>⟨hr r hr',fun x hx=>by have:=(h.ln r hr' x hx).le; omega⟩)]
 have h1:zpL (mkB t) 1022=true:=by
  have:=zqD t 1022
  rw [show ((1022:Nat):Int)=1022 from rfl] at this
  rw [this,decide_eq_true h.tL]
  have h1:t.any isE=false:=by
   rw [List.any_eq_false]
   intro b hb
   have:=h.tE b hb
   simpa using this
  rw [h1]; rfl
 have h2:z.all zph=true:=by
  rw [List.all_eq_true]
  intro r hr'
  unfold zph
  have hne:=h.ne r hr'
  cases r with
  | nil=>exact absurd rfl hne
  | cons x r =>
   simp only [List.isEmpty_cons,Bool.not_false,Bool.true_and,List.all_eq_true]
   exact fun y hy=>zsf (h.ln _ hr' y hy)
 rw [if_pos h1,if_pos h2]
end Go.Proofs.YtbempdelckaccaaGreatDoor
