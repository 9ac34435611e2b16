/-
  Texts laid together: LqA, Ca, LqP, PqA, PqB, LqS, LqR, PqC, PqD, PqE, LqE, LqB, Cb, LqG, LqH, PqF, PqG, PqH. Nothing is assumed.
-/
import Derived.Test.YtmmhmppcemfdcaaGreatDoorTopPages2
import Derived.Test.YtmmhmppcemfdcaaGreatDoorTopPages3
set_option maxRecDepth 100000
set_option maxHeartbeats 4000000
namespace Go.Proofs.YtmmhmppcemfdcaaGreatDoor
open Go.RowKit Go.Lib
open Tryz
set_option linter.unusedVariables false
set_option linter.unusedSimpArgs false
def zcn (j1:Option Int) (ag1:Nat→Option Int) (m3:Nat):Option Int := zaB (decide (m3<(pcs (⟨#[13,10]⟩:zBA).data.toList).length)) ( zan ((pcs (⟨#[13,10]⟩:zBA).data.toList)[m3]?) fun (p1:Pc) => zaB (((p1.r:Int):Int)==65533) ( some (p1.i:Int)
) ( ag1 (m3+1)
)
) ( j1
)
def zc8 (r1:Int) (i1:Int) (j4:Option Int) (ag3:Int→Option Int) (j7:Int):Option Int := zaB (decide ((j7:Int)<((Utf8.encode r1).size:Int))) ( grd (I64 (i1 - j7)) <| zan (zkK (⟨#[13,10]⟩:zBA) (i1 - j7)) fun (c4:Int) => grd (I64 ((((Utf8.encode r1).size:Int) - 1) - j7)) <| zan (zkK (Utf8.encode r1) ((((Utf8.encode r1).size:Int) - 1) - j7)) fun (c5:Int) => zaB ((c4:Int) != c5) ( none
) ( grd (I64 (j7+1)) <| ag3 (j7+1)
)
) ( j4
)
def zcF (r1:Int) (j2:Option Int) (ag2:Option Int):Option Int := zaB (decide (((((Utf8.encode r1).size:Int) - 1):Int)<((⟨#[13,10]⟩:zBA).size:Int))) ( zbE (fun (j3:Int→Option Int) => zan (zkK (⟨#[13,10]⟩:zBA) (((Utf8.encode r1).size:Int) - 1)) fun (c1:Int) => zan (zkK (Utf8.encode r1) (((Utf8.encode r1).size:Int) - 1)) fun (c2:Int) => zaB ((c1:Int) != c2) ( grd (I64 ((((Utf8.encode r1).size:Int) - 1)+1)) <| grd (0≤((((Utf8.encode r1).size:Int) - 1)+1:Int)∧((((Utf8.encode r1).size:Int) - 1)+1:Int)≤((⟨#[13,10]⟩:zBA).size:Int)∧(((⟨#[13,10]⟩:zBA).size:Int):Int)≤((⟨#[13,10]⟩:zBA).size:Int)) <| zan (zkK (Utf8.encode r1) (((Utf8.encode r1).size:Int) - 1)) fun (c3:Int) => zaB (decide (((Lib.indexByte (zdR (⟨#[13,10]⟩:zBA) ((((Utf8.encode r1).size:Int) - 1)+1) ((⟨#[13,10]⟩:zBA).size:Int)).data.toList (c3:Int).toNat.toUInt8):Int)<0)) ( some (-1)
) ( grd (I64 ((Lib.indexByte (zdR (⟨#[13,10]⟩:zBA) ((((Utf8.encode r1).size:Int) - 1)+1) ((⟨#[13,10]⟩:zBA).size:Int)).data.toList (c3:Int).toNat.toUInt8)+1)) <| grd (I64 ((((Utf8.encode r1).size:Int) - 1)+((Lib.indexByte (zdR (⟨#[13,10]⟩:zBA) ((((Utf8.encode r1).size:Int) - 1)+1) ((⟨#[13,10]⟩:zBA).size:Int)).data.toList (c3:Int).toNat.toUInt8)+1))) <| j3 ((((Utf8.encode r1).size:Int) - 1)+((Lib.indexByte (zdR (⟨#[13,10]⟩:zBA) ((((Utf8.encode r1).size:Int) - 1)+1) ((⟨#[13,10]⟩:zBA).size:Int)).data.toList (c3:Int).toNat.toUInt8)+1))
)
) ( j3 (((Utf8.encode r1).size:Int) - 1)
)
) (fun (i1:Int) => zbE (fun (j4:Option Int) => za1 (fun _=>none) (zc8 r1 i1 j4) zcD 1
) ( grd (I64 (i1 - (((Utf8.encode r1).size:Int) - 1))) <| some (i1 - (((Utf8.encode r1).size:Int) - 1))
)
)
) ( j2
)
def zc7 (j8:Option Int) (ag4:Nat→Option Int) (m6:Nat):Option Int := zaB (decide (m6<(pcs (⟨#[13,10]⟩:zBA).data.toList).length)) ( zan ((pcs (⟨#[13,10]⟩:zBA).data.toList)[m6]?) fun (p2:Pc) => zaB (((p2.r:Int):Int)==65533) ( some (p2.i:Int)
) ( ag4 (m6+1)
)
) ( j8
)
def zc5 (r1:Int) (i2:Int) (j11:Option Int) (ag6:Int→Option Int) (j14:Int):Option Int := zaB (decide ((j14:Int)<((Utf8.encode r1).size:Int))) ( grd (I64 (i2 - j14)) <| zan (zkK (⟨#[13,10]⟩:zBA) (i2 - j14)) fun (c9:Int) => grd (I64 ((((Utf8.encode r1).size:Int) - 1) - j14)) <| zan (zkK (Utf8.encode r1) ((((Utf8.encode r1).size:Int) - 1) - j14)) fun (c10:Int) => zaB ((c9:Int) != c10) ( none
) ( grd (I64 (j14+1)) <| ag6 (j14+1)
)
) ( j11
)
def zc6 (r1:Int) (j9:Option Int) (ag5:Option Int):Option Int := zaB (decide (((((Utf8.encode r1).size:Int) - 1):Int)<((⟨#[13,10]⟩:zBA).size:Int))) ( zbE (fun (j10:Int→Option Int) => zan (zkK (⟨#[13,10]⟩:zBA) (((Utf8.encode r1).size:Int) - 1)) fun (c6:Int) => zan (zkK (Utf8.encode r1) (((Utf8.encode r1).size:Int) - 1)) fun (c7:Int) => zaB ((c6:Int) != c7) ( grd (I64 ((((Utf8.encode r1).size:Int) - 1)+1)) <| grd (0≤((((Utf8.encode r1).size:Int) - 1)+1:Int)∧((((Utf8.encode r1).size:Int) - 1)+1:Int)≤((⟨#[13,10]⟩:zBA).size:Int)∧(((⟨#[13,10]⟩:zBA).size:Int):Int)≤((⟨#[13,10]⟩:zBA).size:Int)) <| zan (zkK (Utf8.encode r1) (((Utf8.encode r1).size:Int) - 1)) fun (c8:Int) => zaB (decide (((Lib.indexByte (zdR (⟨#[13,10]⟩:zBA) ((((Utf8.encode r1).size:Int) - 1)+1) ((⟨#[13,10]⟩:zBA).size:Int)).data.toList (c8:Int).toNat.toUInt8):Int)<0)) ( some (-1)
) ( grd (I64 ((Lib.indexByte (zdR (⟨#[13,10]⟩:zBA) ((((Utf8.encode r1).size:Int) - 1)+1) ((⟨#[13,10]⟩:zBA).size:Int)).data.toList (c8:Int).toNat.toUInt8)+1)) <| grd (I64 ((((Utf8.encode r1).size:Int) - 1)+((Lib.indexByte (zdR (⟨#[13,10]⟩:zBA) ((((Utf8.encode r1).size:Int) - 1)+1) ((⟨#[13,10]⟩:zBA).size:Int)).data.toList (c8:Int).toNat.toUInt8)+1))) <| j10 ((((Utf8.encode r1).size:Int) - 1)+((Lib.indexByte (zdR (⟨#[13,10]⟩:zBA) ((((Utf8.encode r1).size:Int) - 1)+1) ((⟨#[13,10]⟩:zBA).size:Int)).data.toList (c8:Int).toNat.toUInt8)+1))
)
) ( j10 (((Utf8.encode r1).size:Int) - 1)
)
) (fun (i2:Int) => zbE (fun (j11:Option Int) => za1 (fun _=>none) (zc5 r1 i2 j11) zcD 1
) ( grd (I64 (i2 - (((Utf8.encode r1).size:Int) - 1))) <| some (i2 - (((Utf8.encode r1).size:Int) - 1))
)
)
) ( j9
)
def zcL (r1:Int):Option Int := zaB (decide ((0:Int)≤r1)) ( zaB (decide ((r1:Int)<128)) ( some (Lib.indexByte (⟨#[13,10]⟩:zBA).data.toList (IntKind.u8.wrap r1:Int).toNat.toUInt8)
) ( zaB ((r1:Int)==65533) ( zbE (fun (j1:Option Int) => za1 (fun _=>none) (zcn j1) zcD 0
) ( some (-1)
)
) ( zaB (!(Lib.validRune r1)) ( some (-1)
) ( zbE (fun (j2:Option Int) => grd (I64 (((Utf8.encode r1).size:Int) - 1)) <| za1 none (zcF r1 j2) zcD
) ( some (-1)
)
)
)
)
) ( zaB ((r1:Int)==65533) ( zbE (fun (j8:Option Int) => za1 (fun _=>none) (zc7 j8) zcD 0
) ( some (-1)
)
) ( zaB (!(Lib.validRune r1)) ( some (-1)
) ( zbE (fun (j9:Option Int) => grd (I64 (((Utf8.encode r1).size:Int) - 1)) <| za1 none (zc6 r1 j9) zcD
) ( some (-1)
)
)
)
)
theorem zhz {r1:Int} {r:Int} (h:zcL r1=some r):FnP prog 122 [.string (⟨#[13,10]⟩:zBA),.int .i32 r1] (zI r):=by
 unfold zcL at h
 refine FnP.intro func122 rfl ntmps122 (by simp) ?_
 intro w0 K
 refine zyG (zyR 1 rfl (zyN (zaG (zyG (zyR 1 rfl (zaS rfl zbM (zyR 1 rfl ?_)))))))
 refine zyS (s:=163) rfl h (fun h => ?_) (fun h => ?_)
 ·
  refine zyR 1 rfl (zaS rfl zbF (zyR 2 rfl (zyN ?_)))
  refine zyB rfl h (fun h => ?_) (fun h => ?_)
  ·
   refine zyG (zyR 2 rfl (zgs rfl dc rfl (zup underlying21 underlying5) (zbg (v:=zI (Lib.indexByte (⟨#[13,10]⟩:zBA).data.toList (IntKind.u8.wrap r1:Int).toNat.toUInt8)) (vs:=[.string (⟨#[13,10]⟩:zBA),.int .u8 (IntKind.u8.wrap r1)]) rfl dc rfl rfl rfl zub (zqw (⟨#[13,10]⟩:zBA) (IntKind.u8.wrap r1)) (zyR 1 rfl (zyN (zau (zag ?_)))))))
   cases h
   exact za2 4 results122
  refine zyG (zyR 1 rfl (zaS rfl zaL (zyR 1 rfl (zyN ?_))))
  refine zyB rfl h (fun h => ?_) (fun h => ?_)
  ·
   obtain ⟨j1,hj1,h⟩:=zbT h
   refine za8 (β:=Unit) 0 rfl (fun b=>j1=some r) (fun b=>[]) (fun b=>[]) (fun b=>[]) (fun cut => ?_) ?_
   ·
    refine cut (zyG (zyR 1 rfl ?_))
    refine zc9 underlying9 rfl dc rfl (fun b1 => ?_)
    refine zyN (zaG ?_)
    refine zbP (β:=Nat×Nat) (fun b=>za1 (fun _=>none) (zcn j1) b.1 b.2=some r) (fun b=>[]) (fun b=>[(175,zP b1)]) (fun b=>[obj b1 (.stringIter (⟨#[13,10]⟩:zBA) (zfl (⟨#[13,10]⟩:zBA) b.2))]) (fun b=>b.1) (zcD,0) (by exact h) rfl (zbf rfl) (zab [0] kr rfl) ?_
    rintro ⟨n1,m3⟩ h
    cases n1 with
    | zero=>exact zdO h
    | succ n1 =>
     obtain ⟨ag1,hag1⟩:∃ ag,ag=za1 (fun _=>none) (zcn j1) n1:=⟨_,rfl⟩
     have h:zcn j1 ag1 m3=some r:=by rw [hag1]; exact h
     unfold zcn at h
     refine zyG ?_
     refine zeG (b:=decide (m3<(pcs (⟨#[13,10]⟩:zBA).data.toList).length)) (fun hb4 => ?_) (fun hb4 => ?_)
     ·
      have h:=zgT hb4 h
      obtain ⟨p1,hq1,h⟩:=zbL h
      refine zdy (k:=0) (m:=m3) (p:=p1) rfl dc rfl rfl hq1 (zaN rfl dc rfl rfl (zyN (zaE (zba rfl (zal (zay (zaG (zyG (zaN rfl dc rfl rfl (zaN rfl dc rfl rfl (zyR 1 rfl ?_)))))))))))
      refine zyR 1 rfl (zyH (zyR 1 rfl (zaS rfl zaL (zyN ?_))))
      refine zyB rfl h (fun h => ?_) (fun h => ?_)
      ·
       refine zyG (zyR 2 rfl (zyN (zau (zag (zaf (zag (zaf (zag ?_))))))))
       cases h
       exact za2 4 results122
      refine zal (zae ?_)
      subst hag1
      exact zbr (n1,m3+1) h (Nat.lt_succ_self _) rfl (zbf rfl) (zab [0] kr rfl)
     have h:=zgU hb4 h
     refine zeF (k:=0) (m:=m3) rfl dc rfl rfl (Nat.le_of_not_lt (of_decide_eq_false hb4)) (zaN rfl dc rfl rfl (zyN (zaE (zaM rfl (zbu (zaq (zaq (zaJ ?_))))))))
     exact zak () h rfl (ziU) Splits.nil
   rintro _ h
   rw [hj1] at h
   refine zyG (zyR 1 rfl (zyN (zau (zag ?_))))
   cases h
   exact za2 4 results122
  refine zyG (zyR 1 rfl (zbg (v:=.bool (Lib.validRune r1)) (vs:=[.int .i32 r1]) rfl dc rfl rfl rfl zwt (zsX r1) (zdt rfl dc rfl zct (zyR 1 rfl (zyN ?_)))))
  refine zyB rfl h (fun h => ?_) (fun h => ?_)
  ·
   refine zyG (zyR 1 rfl (zyN (zau (zag ?_))))
   cases h
   exact za2 4 results122
  refine zfL (β:=Unit) (l:=1) (fun _=>False) (fun _=>[]) (fun _=>[]) rfl ?_ ?_
  ·
   obtain ⟨j2,hj2,h⟩:=zbT h
   refine za8 (β:=Unit) 4 rfl (fun b=>j2=some r) (fun b=>[]) (fun b=>[]) (fun b=>[]) (fun cut => ?_) ?_
   ·
    refine zyG (zyR 1 rfl (zgs rfl dc rfl (zfg underlying21 underlying9) (zyR 1 rfl (zyH (zyR 1 rfl (zbC rfl dc rfl underlying9 ?_))))))
    obtain ⟨hg1,h⟩:=zbQ h
    refine zaS rfl (zce (r:=((Utf8.encode r1).size:Int) - 1) (IntWalk.i64_in _ hg1)) (zyR 1 rfl (zyH (zyR 2 rfl (zyH (zyR 1 rfl (zaP ?_))))))
    refine zay (cut (zaG ?_))
    refine zbP (β:=Nat) (fun b=>za1 none (zcF r1 j2) b=some r) (fun b=>[]) (fun b=>[(0,.string (⟨#[13,10]⟩:zBA)),(7,.string (Utf8.encode r1)),(8,zI (((Utf8.encode r1).size:Int) - 1)),(9,zI (((Utf8.encode r1).size:Int) - 1))]) (fun b=>[]) (fun b=>b) zcD h rfl (zbf rfl) Splits.nil ?_
    rintro n2 h
    cases n2 with
    | zero=>exact zdO h
    | succ n2 =>
     obtain ⟨ag2,hag2⟩:∃ ag,ag=za1 none (zcF r1 j2) n2:=⟨_,rfl⟩
     have h:zcF r1 j2 ag2=some r:=by rw [hag2]; exact h
     unfold zcF at h
     refine zaE (zyG (zyR 2 rfl (zbC rfl dc rfl underlying9 (zaS rfl zbF (zyN ?_)))))
     refine zyB rfl h (fun h => ?_) (fun h => ?_)
     ·
      refine zal (zay (zaG ?_))
      refine zfL (β:=Unit) (l:=0) (fun _=>False) (fun _=>[]) (fun _=>[]) rfl ?_ ?_
      ·
       obtain ⟨j3,hj3,h⟩:=zbT h
       refine za8 (β:=Int) 0 rfl (fun b=>j3 b=some r) (fun b=>[]) (fun b=>[(0,.string (⟨#[13,10]⟩:zBA)),(7,.string (Utf8.encode r1)),(8,zI (((Utf8.encode r1).size:Int) - 1)),(9,zI b)]) (fun b=>[]) (fun cut => ?_) ?_
       ·
        refine cut (zaE ?_)
        obtain ⟨c1,hq2,h⟩:=zbL h
        obtain ⟨c2,hq3,h⟩:=zbL h
        refine zbB 6 [(0,27,.string (⟨#[13,10]⟩:zBA)),(1,28,zI (((Utf8.encode r1).size:Int) - 1)),(2,29,.int .u8 c1),(3,30,.string (Utf8.encode r1)),(4,31,zI (((Utf8.encode r1).size:Int) - 1)),(5,32,.int .u8 c2)] mixed kr kr dc (by rfl) kr kr (zyP 2 0 rfl (zad ?_ (zyP 2 3 rfl (zad ?_ DrawPre.nil)))) ?_
        · exact fun D n d c u i=>zea rfl dc (zam 0 u d) (zam 1 u d) (zcc underlying9 hq2) (zar 2 u i)
        · exact fun D n d c u i=>zea rfl dc (zam 3 u d) (zam 4 u d) (zcc underlying9 hq3) (zar 5 u i)
        refine zaS rfl zbH (zyN ?_)
        refine zyB rfl h (fun h => ?_) (fun h => ?_)
        ·
         refine zaE ?_
         obtain ⟨hg2,h⟩:=zbQ h
         obtain ⟨hg3,h⟩:=zbQ h
         obtain ⟨c3,hq4,h⟩:=zbL h
         refine zbB 7 [(0,34,.string (⟨#[13,10]⟩:zBA)),(1,35,zI (((Utf8.encode r1).size:Int) - 1)),(2,36,zI ((((Utf8.encode r1).size:Int) - 1)+1)),(3,37,.string (zdR (⟨#[13,10]⟩:zBA) ((((Utf8.encode r1).size:Int) - 1)+1) ((⟨#[13,10]⟩:zBA).size:Int))),(4,38,.string (Utf8.encode r1)),(5,39,zI (((Utf8.encode r1).size:Int) - 1)),(6,40,.int .u8 c3)] mixed kr kr dc (by rfl) kr kr (zyP 2 0 rfl (zad ?_ (zad ?_ (zyP 2 4 rfl (zad ?_ DrawPre.nil))))) ?_
         · exact fun D n d c u i=>zb6 rfl dc (zam 1 u d) rfl (zbb (r:=(((Utf8.encode r1).size:Int) - 1)+1) (IntWalk.i64_in _ hg2)) (zar 2 u i)
         · exact fun D n d c u i=>zdA rfl dc (zam 0 u d) (evO.some (zam 2 u d)) zj7 (zcX (i:=(((Utf8.encode r1).size:Int) - 1)+1) (j:=((⟨#[13,10]⟩:zBA).size:Int)) underlying9 (.inr rfl) (.inl ⟨rfl,rfl⟩) hg3) (zar 3 u i)
         · exact fun D n d c u i=>zea rfl dc (zam 4 u d) (zam 5 u d) (zcc underlying9 hq4) (zar 6 u i)
         refine zbg (v:=zI (Lib.indexByte (zdR (⟨#[13,10]⟩:zBA) ((((Utf8.encode r1).size:Int) - 1)+1) ((⟨#[13,10]⟩:zBA).size:Int)).data.toList (c3:Int).toNat.toUInt8)) (vs:=[.string (zdR (⟨#[13,10]⟩:zBA) ((((Utf8.encode r1).size:Int) - 1)+1) ((⟨#[13,10]⟩:zBA).size:Int)),.int .u8 c3]) rfl dc rfl rfl rfl zub (zqw (zdR (⟨#[13,10]⟩:zBA) ((((Utf8.encode r1).size:Int) - 1)+1) ((⟨#[13,10]⟩:zBA).size:Int)) c3) (zyR 1 rfl (zyN (zaE (zyG (zyR 1 rfl (zaS rfl zbF (zyN ?_)))))))
         refine zyB rfl h (fun h => ?_) (fun h => ?_)
         ·
          refine zyG (zyR 1 rfl (zyN (zau (zaf (zaf (zcy (by simp) (zag (zaf (zag (zaf (zcy (by simp) ?_)))))))))))
          refine zag ?_
          cases h
          exact za2 4 results122
         refine zal (zay (zas (zyR 2 rfl ?_)))
         obtain ⟨hg4,h⟩:=zbQ h
         refine zaS rfl (zbb (r:=(Lib.indexByte (zdR (⟨#[13,10]⟩:zBA) ((((Utf8.encode r1).size:Int) - 1)+1) ((⟨#[13,10]⟩:zBA).size:Int)).data.toList (c3:Int).toNat.toUInt8)+1) (IntWalk.i64_in _ hg4)) ?_
         obtain ⟨hg5,h⟩:=zbQ h
         refine zaS rfl (zbb (r:=(((Utf8.encode r1).size:Int) - 1)+((Lib.indexByte (zdR (⟨#[13,10]⟩:zBA) ((((Utf8.encode r1).size:Int) - 1)+1) ((⟨#[13,10]⟩:zBA).size:Int)).data.toList (c3:Int).toNat.toUInt8)+1)) (IntWalk.i64_in _ hg5)) (zyR 1 rfl (zaP ?_))
         exact zak ((((Utf8.encode r1).size:Int) - 1)+((Lib.indexByte (zdR (⟨#[13,10]⟩:zBA) ((((Utf8.encode r1).size:Int) - 1)+1) ((⟨#[13,10]⟩:zBA).size:Int)).data.toList (c3:Int).toNat.toUInt8)+1)) h rfl (zbf rfl) Splits.nil
        refine zal ?_
        exact zak (((Utf8.encode r1).size:Int) - 1) h rfl (zbf rfl) Splits.nil
       rintro i1 h
       rw [hj3] at h
       obtain ⟨j4,hj4,h⟩:=zbT h
       refine za8 (β:=Unit) 0 rfl (fun b=>j4=some r) (fun b=>[]) (fun b=>[(8,zI (((Utf8.encode r1).size:Int) - 1)),(9,zI i1)]) (fun b=>[]) (fun cut => ?_) ?_
       ·
        refine cut (zyG (zyR 1 rfl (zyN (zaG ?_))))
        refine zbP (β:=Nat×Int) (fun b=>za1 (fun _=>none) (zc8 r1 i1 j4) b.1 b.2=some r) (fun b=>[]) (fun b=>[(0,.string (⟨#[13,10]⟩:zBA)),(7,.string (Utf8.encode r1)),(8,zI (((Utf8.encode r1).size:Int) - 1)),(9,zI i1),(12,zI b.2)]) (fun b=>[]) (fun b=>b.1) (zcD,1) h rfl (zbf rfl) Splits.nil ?_
        rintro ⟨n3,j7⟩ h
        cases n3 with
        | zero=>exact zdO h
        | succ n3 =>
         obtain ⟨ag3,hag3⟩:∃ ag,ag=za1 (fun _=>none) (zc8 r1 i1 j4) n3:=⟨_,rfl⟩
         have h:zc8 r1 i1 j4 ag3 j7=some r:=by rw [hag3]; exact h
         unfold zc8 at h
         refine zaE (zyG (zyR 2 rfl (zbC rfl dc rfl underlying9 (zaS rfl zbF (zyN ?_)))))
         refine zyB rfl h (fun h => ?_) (fun h => ?_)
         ·
          refine zal (zay (zaE (zaG (zaE ?_))))
          obtain ⟨hg6,h⟩:=zbQ h
          obtain ⟨c4,hq5,h⟩:=zbL h
          obtain ⟨hg7,h⟩:=zbQ h
          obtain ⟨c5,hq6,h⟩:=zbL h
          refine zbB 10 [(0,54,.string (⟨#[13,10]⟩:zBA)),(1,55,zI i1),(2,56,zI j7),(3,57,zI (i1 - j7)),(4,58,.int .u8 c4),(5,59,.string (Utf8.encode r1)),(6,60,zI (((Utf8.encode r1).size:Int) - 1)),(7,61,zI j7),(8,62,zI ((((Utf8.encode r1).size:Int) - 1) - j7)),(9,63,.int .u8 c5)] mixed kr kr dc (by rfl) kr kr (zyP 3 0 rfl (zad ?_ (zad ?_ (zyP 3 5 rfl (zad ?_ (zad ?_ DrawPre.nil)))))) ?_
          · exact fun D n d c u i=>zb6 rfl dc (zam 1 u d) (zam 2 u d) (zce (r:=i1 - j7) (IntWalk.i64_in _ hg6)) (zar 3 u i)
          · exact fun D n d c u i=>zea rfl dc (zam 0 u d) (zam 3 u d) (zcc underlying9 hq5) (zar 4 u i)
          · exact fun D n d c u i=>zb6 rfl dc (zam 6 u d) (zam 7 u d) (zce (r:=(((Utf8.encode r1).size:Int) - 1) - j7) (IntWalk.i64_in _ hg7)) (zar 8 u i)
          · exact fun D n d c u i=>zea rfl dc (zam 5 u d) (zam 8 u d) (zcc underlying9 hq6) (zar 9 u i)
          refine zaS rfl zbH (zyN ?_)
          refine zyB rfl h (fun h => ?_) (fun h => ?_)
          ·
           exact zdO h
          refine zal (zae (zay (zas (zyR 1 rfl ?_))))
          obtain ⟨hg8,h⟩:=zbQ h
          refine zaS rfl (zbb (r:=j7+1) (IntWalk.i64_in _ hg8)) (zyR 1 rfl (zaP ?_))
          subst hag3
          exact zbr (n3,j7+1) h (Nat.lt_succ_self _) rfl (zbf rfl) Splits.nil
         refine zbu (zaq (zaq (zaJ ?_)))
         exact zak () h rfl (zbf rfl) Splits.nil
       rintro _ h
       rw [hj4] at h
       refine zaE (zyG (zyR 2 rfl ?_))
       obtain ⟨hg9,h⟩:=zbQ h
       refine zaS rfl (zce (r:=i1 - (((Utf8.encode r1).size:Int) - 1)) (IntWalk.i64_in _ hg9)) (zyR 1 rfl (zyN (zau (zaf (zcy (by simp) (zag (zaf (zag (zaf (zcy (by simp) (zag ?_)))))))))))
       cases h
       exact za2 4 results122
      exact fun b hb=>hb.elim
     refine zbu (zaq (zaq (zaJ ?_)))
     exact zak () h rfl (ziU) Splits.nil
   rintro _ h
   rw [hj2] at h
   refine zaE (zyG (zyR 1 rfl (zyN (zau (zaf (zcy (by simp) (zag ?_)))))))
   cases h
   exact za2 4 results122
  exact fun b hb=>hb.elim
 refine zyR 4 rfl (zyN (zaM rfl (zyG (zyR 1 rfl (zaS rfl zaL (zyR 1 rfl (zyN ?_)))))))
 refine zyB rfl h (fun h => ?_) (fun h => ?_)
 ·
  obtain ⟨j8,hj8,h⟩:=zbT h
  refine za8 (β:=Unit) 0 rfl (fun b=>j8=some r) (fun b=>[]) (fun b=>[]) (fun b=>[]) (fun cut => ?_) ?_
  ·
   refine cut (zyG (zyR 1 rfl ?_))
   refine zc9 underlying9 rfl dc rfl (fun b2 => ?_)
   refine zyN (zaG ?_)
   refine zbP (β:=Nat×Nat) (fun b=>za1 (fun _=>none) (zc7 j8) b.1 b.2=some r) (fun b=>[]) (fun b=>[(175,zP b2)]) (fun b=>[obj b2 (.stringIter (⟨#[13,10]⟩:zBA) (zfl (⟨#[13,10]⟩:zBA) b.2))]) (fun b=>b.1) (zcD,0) (by exact h) rfl (zbf rfl) (zab [0] kr rfl) ?_
   rintro ⟨n4,m6⟩ h
   cases n4 with
   | zero=>exact zdO h
   | succ n4 =>
    obtain ⟨ag4,hag4⟩:∃ ag,ag=za1 (fun _=>none) (zc7 j8) n4:=⟨_,rfl⟩
    have h:zc7 j8 ag4 m6=some r:=by rw [hag4]; exact h
    unfold zc7 at h
    refine zyG ?_
    refine zeG (b:=decide (m6<(pcs (⟨#[13,10]⟩:zBA).data.toList).length)) (fun hb13 => ?_) (fun hb13 => ?_)
    ·
     have h:=zgT hb13 h
     obtain ⟨p2,hq7,h⟩:=zbL h
     refine zdy (k:=0) (m:=m6) (p:=p2) rfl dc rfl rfl hq7 (zaN rfl dc rfl rfl (zyN (zaE (zba rfl (zal (zay (zaG (zyG (zaN rfl dc rfl rfl (zaN rfl dc rfl rfl (zyR 1 rfl ?_)))))))))))
     refine zyR 1 rfl (zyH (zyR 1 rfl (zaS rfl zaL (zyN ?_))))
     refine zyB rfl h (fun h => ?_) (fun h => ?_)
     ·
      refine zyG (zyR 2 rfl (zyN (zau (zag (zaf (zag (zaf (zag ?_))))))))
      cases h
      exact za2 4 results122
     refine zal (zae ?_)
     subst hag4
     exact zbr (n4,m6+1) h (Nat.lt_succ_self _) rfl (zbf rfl) (zab [0] kr rfl)
    have h:=zgU hb13 h
    refine zeF (k:=0) (m:=m6) rfl dc rfl rfl (Nat.le_of_not_lt (of_decide_eq_false hb13)) (zaN rfl dc rfl rfl (zyN (zaE (zaM rfl (zbu (zaq (zaq (zaJ ?_))))))))
    exact zak () h rfl (ziU) Splits.nil
  rintro _ h
  rw [hj8] at h
  refine zyG (zyR 1 rfl (zyN (zau (zag ?_))))
  cases h
  exact za2 4 results122
 refine zyG (zyR 1 rfl (zbg (v:=.bool (Lib.validRune r1)) (vs:=[.int .i32 r1]) rfl dc rfl rfl rfl zwt (zsX r1) (zdt rfl dc rfl zct (zyR 1 rfl (zyN ?_)))))
 refine zyB rfl h (fun h => ?_) (fun h => ?_)
 ·
  refine zyG (zyR 1 rfl (zyN (zau (zag ?_))))
  cases h
  exact za2 4 results122
 refine zfL (β:=Unit) (l:=1) (fun _=>False) (fun _=>[]) (fun _=>[]) rfl ?_ ?_
 ·
  obtain ⟨j9,hj9,h⟩:=zbT h
  refine za8 (β:=Unit) 4 rfl (fun b=>j9=some r) (fun b=>[]) (fun b=>[]) (fun b=>[]) (fun cut => ?_) ?_
  ·
   refine zyG (zyR 1 rfl (zgs rfl dc rfl (zfg underlying21 underlying9) (zyR 1 rfl (zyH (zyR 1 rfl (zbC rfl dc rfl underlying9 ?_))))))
   obtain ⟨hg10,h⟩:=zbQ h
   refine zaS rfl (zce (r:=((Utf8.encode r1).size:Int) - 1) (IntWalk.i64_in _ hg10)) (zyR 1 rfl (zyH (zyR 2 rfl (zyH (zyR 1 rfl (zaP ?_))))))
   refine zay (cut (zaG ?_))
   refine zbP (β:=Nat) (fun b=>za1 none (zc6 r1 j9) b=some r) (fun b=>[]) (fun b=>[(0,.string (⟨#[13,10]⟩:zBA)),(7,.string (Utf8.encode r1)),(8,zI (((Utf8.encode r1).size:Int) - 1)),(9,zI (((Utf8.encode r1).size:Int) - 1))]) (fun b=>[]) (fun b=>b) zcD h rfl (zbf rfl) Splits.nil ?_
   rintro n5 h
   cases n5 with
   | zero=>exact zdO h
   | succ n5 =>
    obtain ⟨ag5,hag5⟩:∃ ag,ag=za1 none (zc6 r1 j9) n5:=⟨_,rfl⟩
    have h:zc6 r1 j9 ag5=some r:=by rw [hag5]; exact h
    unfold zc6 at h
    refine zaE (zyG (zyR 2 rfl (zbC rfl dc rfl underlying9 (zaS rfl zbF (zyN ?_)))))
    refine zyB rfl h (fun h => ?_) (fun h => ?_)
    ·
     refine zal (zay (zaG ?_))
     refine zfL (β:=Unit) (l:=0) (fun _=>False) (fun _=>[]) (fun _=>[]) rfl ?_ ?_
     ·
      obtain ⟨j10,hj10,h⟩:=zbT h
      refine za8 (β:=Int) 0 rfl (fun b=>j10 b=some r) (fun b=>[]) (fun b=>[(0,.string (⟨#[13,10]⟩:zBA)),(7,.string (Utf8.encode r1)),(8,zI (((Utf8.encode r1).size:Int) - 1)),(9,zI b)]) (fun b=>[]) (fun cut => ?_) ?_
      ·
       refine cut (zaE ?_)
       obtain ⟨c6,hq8,h⟩:=zbL h
       obtain ⟨c7,hq9,h⟩:=zbL h
       refine zbB 6 [(0,27,.string (⟨#[13,10]⟩:zBA)),(1,28,zI (((Utf8.encode r1).size:Int) - 1)),(2,29,.int .u8 c6),(3,30,.string (Utf8.encode r1)),(4,31,zI (((Utf8.encode r1).size:Int) - 1)),(5,32,.int .u8 c7)] mixed kr kr dc (by rfl) kr kr (zyP 2 0 rfl (zad ?_ (zyP 2 3 rfl (zad ?_ DrawPre.nil)))) ?_
       · exact fun D n d c u i=>zea rfl dc (zam 0 u d) (zam 1 u d) (zcc underlying9 hq8) (zar 2 u i)
       · exact fun D n d c u i=>zea rfl dc (zam 3 u d) (zam 4 u d) (zcc underlying9 hq9) (zar 5 u i)
       refine zaS rfl zbH (zyN ?_)
       refine zyB rfl h (fun h => ?_) (fun h => ?_)
       ·
        refine zaE ?_
        obtain ⟨hg11,h⟩:=zbQ h
        obtain ⟨hg12,h⟩:=zbQ h
        obtain ⟨c8,hq10,h⟩:=zbL h
        refine zbB 7 [(0,34,.string (⟨#[13,10]⟩:zBA)),(1,35,zI (((Utf8.encode r1).size:Int) - 1)),(2,36,zI ((((Utf8.encode r1).size:Int) - 1)+1)),(3,37,.string (zdR (⟨#[13,10]⟩:zBA) ((((Utf8.encode r1).size:Int) - 1)+1) ((⟨#[13,10]⟩:zBA).size:Int))),(4,38,.string (Utf8.encode r1)),(5,39,zI (((Utf8.encode r1).size:Int) - 1)),(6,40,.int .u8 c8)] mixed kr kr dc (by rfl) kr kr (zyP 2 0 rfl (zad ?_ (zad ?_ (zyP 2 4 rfl (zad ?_ DrawPre.nil))))) ?_
        · exact fun D n d c u i=>zb6 rfl dc (zam 1 u d) rfl (zbb (r:=(((Utf8.encode r1).size:Int) - 1)+1) (IntWalk.i64_in _ hg11)) (zar 2 u i)
        · exact fun D n d c u i=>zdA rfl dc (zam 0 u d) (evO.some (zam 2 u d)) zj7 (zcX (i:=(((Utf8.encode r1).size:Int) - 1)+1) (j:=((⟨#[13,10]⟩:zBA).size:Int)) underlying9 (.inr rfl) (.inl ⟨rfl,rfl⟩) hg12) (zar 3 u i)
        · exact fun D n d c u i=>zea rfl dc (zam 4 u d) (zam 5 u d) (zcc underlying9 hq10) (zar 6 u i)
        refine zbg (v:=zI (Lib.indexByte (zdR (⟨#[13,10]⟩:zBA) ((((Utf8.encode r1).size:Int) - 1)+1) ((⟨#[13,10]⟩:zBA).size:Int)).data.toList (c8:Int).toNat.toUInt8)) (vs:=[.string (zdR (⟨#[13,10]⟩:zBA) ((((Utf8.encode r1).size:Int) - 1)+1) ((⟨#[13,10]⟩:zBA).size:Int)),.int .u8 c8]) rfl dc rfl rfl rfl zub (zqw (zdR (⟨#[13,10]⟩:zBA) ((((Utf8.encode r1).size:Int) - 1)+1) ((⟨#[13,10]⟩:zBA).size:Int)) c8) (zyR 1 rfl (zyN (zaE (zyG (zyR 1 rfl (zaS rfl zbF (zyN ?_)))))))
        refine zyB rfl h (fun h => ?_) (fun h => ?_)
        ·
         refine zyG (zyR 1 rfl (zyN (zau (zaf (zaf (zcy (by simp) (zag (zaf (zag (zaf (zcy (by simp) ?_)))))))))))
         refine zag ?_
         cases h
         exact za2 4 results122
        refine zal (zay (zas (zyR 2 rfl ?_)))
        obtain ⟨hg13,h⟩:=zbQ h
        refine zaS rfl (zbb (r:=(Lib.indexByte (zdR (⟨#[13,10]⟩:zBA) ((((Utf8.encode r1).size:Int) - 1)+1) ((⟨#[13,10]⟩:zBA).size:Int)).data.toList (c8:Int).toNat.toUInt8)+1) (IntWalk.i64_in _ hg13)) ?_
        obtain ⟨hg14,h⟩:=zbQ h
        refine zaS rfl (zbb (r:=(((Utf8.encode r1).size:Int) - 1)+((Lib.indexByte (zdR (⟨#[13,10]⟩:zBA) ((((Utf8.encode r1).size:Int) - 1)+1) ((⟨#[13,10]⟩:zBA).size:Int)).data.toList (c8:Int).toNat.toUInt8)+1)) (IntWalk.i64_in _ hg14)) (zyR 1 rfl (zaP ?_))
        exact zak ((((Utf8.encode r1).size:Int) - 1)+((Lib.indexByte (zdR (⟨#[13,10]⟩:zBA) ((((Utf8.encode r1).size:Int) - 1)+1) ((⟨#[13,10]⟩:zBA).size:Int)).data.toList (c8:Int).toNat.toUInt8)+1)) h rfl (zbf rfl) Splits.nil
       refine zal ?_
       exact zak (((Utf8.encode r1).size:Int) - 1) h rfl (zbf rfl) Splits.nil
      rintro i2 h
      rw [hj10] at h
      obtain ⟨j11,hj11,h⟩:=zbT h
      refine za8 (β:=Unit) 0 rfl (fun b=>j11=some r) (fun b=>[]) (fun b=>[(8,zI (((Utf8.encode r1).size:Int) - 1)),(9,zI i2)]) (fun b=>[]) (fun cut => ?_) ?_
      ·
       refine cut (zyG (zyR 1 rfl (zyN (zaG ?_))))
       refine zbP (β:=Nat×Int) (fun b=>za1 (fun _=>none) (zc5 r1 i2 j11) b.1 b.2=some r) (fun b=>[]) (fun b=>[(0,.string (⟨#[13,10]⟩:zBA)),(7,.string (Utf8.encode r1)),(8,zI (((Utf8.encode r1).size:Int) - 1)),(9,zI i2),(12,zI b.2)]) (fun b=>[]) (fun b=>b.1) (zcD,1) h rfl (zbf rfl) Splits.nil ?_
       rintro ⟨n6,j14⟩ h
       cases n6 with
       | zero=>exact zdO h
       | succ n6 =>
        obtain ⟨ag6,hag6⟩:∃ ag,ag=za1 (fun _=>none) (zc5 r1 i2 j11) n6:=⟨_,rfl⟩
        have h:zc5 r1 i2 j11 ag6 j14=some r:=by rw [hag6]; exact h
        unfold zc5 at h
        refine zaE (zyG (zyR 2 rfl (zbC rfl dc rfl underlying9 (zaS rfl zbF (zyN ?_)))))
        refine zyB rfl h (fun h => ?_) (fun h => ?_)
        ·
         refine zal (zay (zaE (zaG (zaE ?_))))
         obtain ⟨hg15,h⟩:=zbQ h
         obtain ⟨c9,hq11,h⟩:=zbL h
         obtain ⟨hg16,h⟩:=zbQ h
         obtain ⟨c10,hq12,h⟩:=zbL h
         refine zbB 10 [(0,54,.string (⟨#[13,10]⟩:zBA)),(1,55,zI i2),(2,56,zI j14),(3,57,zI (i2 - j14)),(4,58,.int .u8 c9),(5,59,.string (Utf8.encode r1)),(6,60,zI (((Utf8.encode r1).size:Int) - 1)),(7,61,zI j14),(8,62,zI ((((Utf8.encode r1).size:Int) - 1) - j14)),(9,63,.int .u8 c10)] mixed kr kr dc (by rfl) kr kr (zyP 3 0 rfl (zad ?_ (zad ?_ (zyP 3 5 rfl (zad ?_ (zad ?_ DrawPre.nil)))))) ?_
         · exact fun D n d c u i=>zb6 rfl dc (zam 1 u d) (zam 2 u d) (zce (r:=i2 - j14) (IntWalk.i64_in _ hg15)) (zar 3 u i)
         · exact fun D n d c u i=>zea rfl dc (zam 0 u d) (zam 3 u d) (zcc underlying9 hq11) (zar 4 u i)
         · exact fun D n d c u i=>zb6 rfl dc (zam 6 u d) (zam 7 u d) (zce (r:=(((Utf8.encode r1).size:Int) - 1) - j14) (IntWalk.i64_in _ hg16)) (zar 8 u i)
         · exact fun D n d c u i=>zea rfl dc (zam 5 u d) (zam 8 u d) (zcc underlying9 hq12) (zar 9 u i)
         refine zaS rfl zbH (zyN ?_)
         refine zyB rfl h (fun h => ?_) (fun h => ?_)
         ·
          exact zdO h
         refine zal (zae (zay (zas (zyR 1 rfl ?_))))
         obtain ⟨hg17,h⟩:=zbQ h
         refine zaS rfl (zbb (r:=j14+1) (IntWalk.i64_in _ hg17)) (zyR 1 rfl (zaP ?_))
         subst hag6
         exact zbr (n6,j14+1) h (Nat.lt_succ_self _) rfl (zbf rfl) Splits.nil
        refine zbu (zaq (zaq (zaJ ?_)))
        exact zak () h rfl (zbf rfl) Splits.nil
      rintro _ h
      rw [hj11] at h
      refine zaE (zyG (zyR 2 rfl ?_))
      obtain ⟨hg18,h⟩:=zbQ h
      refine zaS rfl (zce (r:=i2 - (((Utf8.encode r1).size:Int) - 1)) (IntWalk.i64_in _ hg18)) (zyR 1 rfl (zyN (zau (zaf (zcy (by simp) (zag (zaf (zag (zaf (zcy (by simp) (zag ?_)))))))))))
      cases h
      exact za2 4 results122
     exact fun b hb=>hb.elim
    refine zbu (zaq (zaq (zaJ ?_)))
    exact zak () h rfl (ziU) Splits.nil
  rintro _ h
  rw [hj9] at h
  refine zaE (zyG (zyR 1 rfl (zyN (zau (zaf (zcy (by simp) (zag ?_)))))))
  cases h
  exact za2 4 results122
 exact fun b hb=>hb.elim
def zbI (s1:zBA) (j3:Option Int) (ag1:Nat→Option Int) (m3:Nat):Option Int := zaB (decide (m3<(pcs s1.data.toList).length)) ( zan ((pcs s1.data.toList)[m3]?) fun (p1:Pc) => zan (zcL (p1.r:Int)) fun (r2:Int) => zaB (decide ((0:Int)≤r2)) ( some (p1.i:Int)
) ( ag1 (m3+1)
)
) ( j3
)
def zdj (s1:zBA):Option Int := zaB (decide ((⟨#[13,10]⟩:zBA)=(⟨#[]⟩:zBA))) ( some (-1)
) ( zaB ((((⟨#[13,10]⟩:zBA).size:Int):Int)==1) ( zbE (fun (j1:Int→Option Int) => zan (zkK (⟨#[13,10]⟩:zBA) 0) fun (c1:Int) => grd (I32 c1) <| zaB (decide ((128:Int)≤c1)) ( j1 65533
) ( j1 c1
)
) (fun (r1:Int) => none
)
) ( zbE (fun (j2:Option Int) => zaB (decide (8<((s1.size:Int):Int))) ( none
) ( j2
)
) ( zbE (fun (j3:Option Int) => za1 (fun _=>none) (zbI s1 j3) zcD 0
) ( some (-1)
)
)
)
)
theorem zhF {s1:zBA} {r:Int} (h:zdj s1=some r):FnP prog 117 [.string s1,.string (⟨#[13,10]⟩:zBA)] (zI r):=by
 unfold zdj at h
 refine FnP.intro func117 rfl ntmps117 (by simp) ?_
 intro w0 K
 refine zyG (zyR 1 rfl (zyN (zaE (zyG (zyR 1 rfl (zaS rfl zhv (zyN ?_)))))))
 refine zyB rfl h (fun h => ?_) (fun h => ?_)
 ·
  refine zyG (zyR 1 rfl (zyN (zau (zaf ?_))))
  cases h
  exact za2 4 results117
 refine zal (zay (zaE (zyG (zyR 1 rfl (zbC rfl dc rfl underlying9 (zaS rfl zaL (zyN ?_)))))))
 refine zyB rfl h (fun h => ?_) (fun h => ?_)
 ·
  obtain ⟨j1,hj1,h⟩:=zbT h
  refine za8 (β:=Int) 1 rfl (fun b=>j1 b=some r) (fun b=>[]) (fun b=>[(0,.string s1),(5,.int .i32 b)]) (fun b=>[]) (fun cut => ?_) ?_
  ·
   refine zyG (zyR 1 rfl ?_)
   obtain ⟨c1,hq1,h⟩:=zbL h
   refine zea rfl dc rfl rfl (zcc underlying9 hq1) ?_
   obtain ⟨hg1,h⟩:=zbQ h
   refine zgs rfl dc rfl (zrQ (r:=c1) underlying5 underlying21 (IntWalk.i32_in _ hg1)) (zyR 1 rfl (zyN (cut (zyG (zyR 1 rfl (zaS rfl zbG (zyN ?_)))))))
   refine zyB rfl h (fun h => ?_) (fun h => ?_)
   ·
    refine zas (zyR 1 rfl (zaP ?_))
    exact zak 65533 h rfl (zbf rfl) Splits.nil
   refine zal ?_
   exact zak c1 h rfl (zbf rfl) Splits.nil
  rintro r1 h
  rw [hj1] at h
  refine zaE ?_
  exact zdO h
 refine zal (zay ?_)
 obtain ⟨j2,hj2,h⟩:=zbT h
 refine za8 (β:=Unit) 0 rfl (fun b=>j2=some r) (fun b=>[]) (fun b=>[(0,.string s1),(1,.string (⟨#[13,10]⟩:zBA))]) (fun b=>[]) (fun cut => ?_) ?_
 ·
  refine cut (zyG (zyR 1 rfl (zbC rfl dc rfl underlying9 (zbg (v:=.bool (decide (8<((s1.size:Int):Int)))) (vs:=[zI (s1.size:Int)]) rfl dc rfl rfl rfl zzw (zyT (s1.size:Int)) (zyN ?_)))))
  refine zyB rfl h (fun h => ?_) (fun h => ?_)
  ·
   refine zaE ?_
   exact zdO h
  refine zal ?_
  exact zak () h rfl (zbf rfl) Splits.nil
 rintro _ h
 rw [hj2] at h
 obtain ⟨j3,hj3,h⟩:=zbT h
 refine za8 (β:=Unit) 0 rfl (fun b=>j3=some r) (fun b=>[]) (fun b=>[]) (fun b=>[]) (fun cut => ?_) ?_
 ·
  refine cut (zyG (zyR 1 rfl ?_))
  refine zc9 underlying9 rfl dc rfl (fun b1 => ?_)
  refine zyN (zaG ?_)
  refine zbP (β:=Nat×Nat) (fun b=>za1 (fun _=>none) (zbI s1 j3) b.1 b.2=some r) (fun b=>[]) (fun b=>[(1,.string (⟨#[13,10]⟩:zBA)),(45,zP b1)]) (fun b=>[obj b1 (.stringIter s1 (zfl s1 b.2))]) (fun b=>b.1) (zcD,0) (by exact h) rfl (zbf rfl) (zab [0] kr rfl) ?_
  rintro ⟨n1,m3⟩ h
  cases n1 with
  | zero=>exact zdO h
  | succ n1 =>
   obtain ⟨ag1,hag1⟩:∃ ag,ag=za1 (fun _=>none) (zbI s1 j3) n1:=⟨_,rfl⟩
   have h:zbI s1 j3 ag1 m3=some r:=by rw [hag1]; exact h
   unfold zbI at h
   refine zyG ?_
   refine zeG (b:=decide (m3<(pcs s1.data.toList).length)) (fun hb5 => ?_) (fun hb5 => ?_)
   ·
    have h:=zgT hb5 h
    obtain ⟨p1,hq2,h⟩:=zbL h
    refine zdy (k:=0) (m:=m3) (p:=p1) rfl dc rfl rfl hq2 (zaN rfl dc rfl rfl (zyN (zaE (zba rfl (zal (zay (zaG (zyG (zaN rfl dc rfl rfl (zaN rfl dc rfl rfl (zyR 1 rfl ?_)))))))))))
    refine zyR 1 rfl (zyH (zyR 2 rfl ?_))
    obtain ⟨r2,hq3,h⟩:=zbL h
    refine zbg (v:=zI r2) (vs:=[.string (⟨#[13,10]⟩:zBA),.int .i32 (p1.r:Int)]) rfl dc rfl rfl rfl zzx (zhz hq3) (zaS rfl zbG (zyN ?_))
    refine zyB rfl h (fun h => ?_) (fun h => ?_)
    ·
     refine zyG (zyR 2 rfl (zyN (zau (zag (zaf (zag (zaf ?_)))))))
     cases h
     exact za2 4 results117
    refine zal (zae ?_)
    subst hag1
    exact zbr (n1,m3+1) h (Nat.lt_succ_self _) rfl (zbf rfl) (zab [0] kr rfl)
   have h:=zgU hb5 h
   refine zeF (k:=0) (m:=m3) rfl dc rfl rfl (Nat.le_of_not_lt (of_decide_eq_false hb5)) (zaN rfl dc rfl rfl (zyN (zaE (zaM rfl (zbu (zaq (zaq (zaJ ?_))))))))
   exact zak () h rfl (ziU) Splits.nil
 rintro _ h
 rw [hj3] at h
 refine zyG (zyR 1 rfl (zyN (zau ?_)))
 cases h
 exact za2 4 results117
section
open Go.Shelf
def zsv (r:Int):Int:=if r=13 then 0 else if r=10 then 1 else -1
theorem ztV:∀ n:Nat,n<128→Lib.indexByte [13,10] (n:Int).toNat.toUInt8=zsv (n:Int):=by decide +kernel
theorem zvD:pcs (⟨#[13,10]⟩:zBA).data.toList=[⟨0,1,13⟩,⟨1,1,10⟩]:=by decide +kernel
theorem ztQ (j:Option Int):za1 (fun _=>none) (zcn j) zcD 0=j:=by
 obtain ⟨n,hn,_⟩:=zqy 3 (by decide)
 rw [hn]
 rw [show n+3=n+2+1 from rfl,zdv]
 unfold zcn
 rw [zvD]
 refine zaR rfl (za7 rfl (zaK (by decide) ?_))
 rw [show n+2=n+1+1 from rfl,zdv]
 refine zaR rfl (za7 rfl (zaK (by decide) ?_))
 rw [zdv]
 exact zaK rfl rfl
theorem zoL (r:Nat) (hv:r<55296∨(57343<r∧r≤1114111)) (h:128≤r):2≤(encodeRune (r:Int)).length∧(encodeRune (r:Int)).length≤4∧∀ x∈encodeRune (r:Int),128≤x.toNat:=by
 unfold encodeRune
 rcases znR r hv with ⟨h1,_⟩ | ⟨h1,h2,e⟩ | ⟨h1,h2,e⟩ | ⟨h1,h2,e⟩
 ·omega
 all_goals
  rw [e]
  refine ⟨by simp,by simp,fun x hx => ?_⟩
  simp only [List.map_cons,List.map_nil,List.mem_cons,List.not_mem_nil,or_false] at hx
 ·rcases hx with rfl | rfl <;> rw [zfj _ (by omega) (by omega)] <;> omega
 ·rcases hx with rfl | rfl | rfl <;> rw [zfj _ (by omega) (by omega)] <;> omega
 ·rcases hx with rfl | rfl | rfl | rfl <;> rw [zfj _ (by omega) (by omega)] <;> omega
theorem zt8 (r:Nat) (h:r<128):encodeRune (r:Int)=[r.toUInt8]:=by
 unfold encodeRune; rw [encodeRuneZ_one (by omega) (by omega)]; simp
theorem zvr {e:zBA} (h2:∀ x∈e.data.toList,128≤x.toNat) {i:Int} (h0:0≤i) (hi:i<(e.size:Int)):∃ c,zkK e i=some c∧128≤c:=by
 obtain ⟨n,rfl⟩:∃ n:Nat,i=n:=⟨i.toNat,by omega⟩
 have hn:n<e.size:=by omega
 refine ⟨((e[n]'hn).toNat:Int),zqx rfl hn,?_⟩
 have h3:128≤(e[n]'hn).toNat:=h2 _ (Array.mem_toList_iff.2 (Array.getElem_mem hn))
 omega
theorem zvq {r:Nat} (hv:r<55296∨(57343<r∧r≤1114111)) (h:128≤r) {i:Int} (h0:0≤i) (hi:i<((Utf8.encode (r:Int)).size:Int)):∃ c,zkK (Utf8.encode (r:Int)) i=some c∧128≤c :=
 zvr (by rw [zh0]; exact (zoL r hv h).2.2) h0 hi
theorem zxn (r:Nat) (hv:r<55296∨(57343<r∧r≤1114111)):zcL (r:Int)=some (zsv (r:Int)):=by
 unfold zcL
 refine zaR (decide_eq_true (by omega)) ?_
 by_cases h1:r<128
 ·refine zaR (decide_eq_true (by omega)) ?_
  rw [u8w _ (by omega)]
  exact congrArg some (ztV r h1)
 ·have he:zsv (r:Int)=-1:=by unfold zsv; rw [if_neg (by omega),if_neg (by omega)]
  rw [he]
  refine zaK (decide_eq_false (by omega)) ?_
  by_cases h2:r=65533
  ·refine zaR (beq_iff_eq.2 (by omega)) (zcj ?_)
   exact ztQ _
  ·refine zaK (beq_eq_false_iff_ne.2 (by omega)) ?_
   have hval:Lib.validRune (r:Int)=true:=by
    unfold Lib.validRune; simp; omega
   refine zaK (by rw [hval]; rfl) (zcj ?_)
   obtain ⟨hs2,hs4,_⟩:=zoL r hv (by omega)
   rw [← zhc] at hs2 hs4
   refine zcm ⟨by omega,by omega⟩ ?_
   obtain ⟨n,hn,_⟩:=zqy 1 (by decide)
   rw [hn,zdv]
   unfold zcF
   have hz:((⟨#[13,10]⟩:zBA).size:Int)=2:=rfl
   by_cases h3:(Utf8.encode (r:Int)).size=2
   ·refine zaR (decide_eq_true (by rw [hz]; omega)) (zcj ?_)
    obtain ⟨c,hc,hc128⟩:=zvq hv (by omega) (i:=((Utf8.encode (r:Int)).size:Int) - 1) (by omega) (by omega)
    refine za7 (a:=10) (by rw [h3]; rfl) (za7 hc (zaR (bne_iff_ne.2 (by omega)) ?_))
    refine zcm ⟨by omega,by omega⟩ (zcm ⟨by omega,by rw [hz]; omega,Int.le_refl _⟩ (za7 hc (zaR ?_ rfl)))
    have:(zdR (⟨#[13,10]⟩:zBA) (((Utf8.encode (r:Int)).size:Int) - 1+1) ((⟨#[13,10]⟩:zBA).size:Int)).data.toList=[]:=by rw [h3]; decide +kernel
    rw [this]
    rfl
   ·refine zaK (decide_eq_false (by rw [hz]; omega)) rfl
def isE (b:UInt8):Bool:=b==13||b==10
def zn0 (s:zBA):Bool:=s.data.toList.any isE
theorem zxm {b:UInt8} (h:128≤b.toNat):isE b=false:=by
 unfold isE
 have h1:(b==13)=false:=beq_eq_false_iff_ne.2 (by rintro rfl; exact absurd h (by decide))
 have h2:(b==10)=false:=beq_eq_false_iff_ne.2 (by rintro rfl; exact absurd h (by decide))
 rw [h1,h2]; rfl
theorem zvm (r:Int):decide (0≤zsv r)=(decide (r=13)||decide (r=10)):=by
 unfold zsv
 by_cases h1:r=13
 ·subst h1; rfl
 ·by_cases h2:r=10
  ·subst h2; rfl
  ·rw [if_neg h1,if_neg h2]; simp [h1,h2]
theorem ztz (l:List UInt8) (h:l≠[]):decide (0≤zsv ((decodeL l).1:Int))=(l.take (decodeL l).2).any isE:=by
 rw [zvm]
 obtain ⟨b,t,rfl⟩:=List.exists_cons_of_ne_nil h
 by_cases hb:b.toNat<128
 ·rw [decodeL_ascii b t hb]
  simp only [List.take_succ_cons,List.take_zero,List.any_cons,List.any_nil,Bool.or_false]
  unfold isE
  congr 1
  ·rw [Bool.eq_iff_iff,decide_eq_true_iff,beq_iff_eq]
   exact ⟨fun h=>UInt8.toNat.inj (by show b.toNat=13; omega),fun h=>by subst h; rfl⟩
  ·rw [Bool.eq_iff_iff,decide_eq_true_iff,beq_iff_eq]
   exact ⟨fun h=>UInt8.toNat.inj (by show b.toNat=10; omega),fun h=>by subst h; rfl⟩
 ·have hd:=zuj (b::t) (by simp)
  generalize (decodeL (b::t)).1=r at hd ⊢
  generalize (decodeL (b::t)).2=w at hd ⊢
  obtain ⟨w,rfl⟩:∃ v,w=v+1:=⟨w - 1,by have:=hd.pos; omega⟩
  have hall:128≤r∧∀ x∈(b::t).take (w+1),128≤x.toNat:=by
   by_cases hbr:r=65533∧w+1=1
   ·obtain ⟨rfl,hw⟩:=hbr
    obtain rfl:w=0:=by omega
    refine ⟨by omega,fun x hx => ?_⟩
    simp at hx; subst hx; omega
   ·have he:=hd.bytes hbr
    have hr:128≤r:=by
     rcases Nat.lt_or_ge r 128 with h1 | h1
     ·rw [zt8 r h1,List.take_succ_cons] at he
      have h2:r.toUInt8=b:=(List.cons.inj he).1
      have h3:b.toNat=r:=by rw [← h2]; simp; omega
      omega
     ·exact h1
    refine ⟨hr,?_⟩
    rw [← he]
    exact (zoL r hd.valid hr).2.2
  rw [decide_eq_false (show ¬ (r:Int)=13 by omega),decide_eq_false (show ¬ (r:Int)=10 by omega)]
  symm
  rw [Bool.or_false,List.any_eq_false]
  intro x hx
  rw [zxm (hall.2 x hx)]
  decide
theorem zsg (s:zBA) (j:Option Int):∀ (n m:Nat),(pcs s.data.toList).length - m<n→(∀ p∈pcs s.data.toList,zcL (p.r:Int)=some (zsv (p.r:Int))) →
  ∃ x:Option Int,za1 (fun _=>none) (zbI s j) n m=x∧((((pcs s.data.toList).drop m).any (fun p=>decide (0≤zsv (p.r:Int)))=true∧∃ k:Nat,x=some (k:Int))∨(((pcs s.data.toList).drop m).any (fun p=>decide (0≤zsv (p.r:Int)))=false∧x=j)):=by
 intro n
 induction n with
 | zero=>intro m h; omega
 | succ n ih =>
  intro m hm hp
  rw [zdv]
  rcases Nat.lt_or_ge m (pcs s.data.toList).length with h1 | h1
  ·obtain ⟨p,hq⟩:∃ p,(pcs s.data.toList)[m]?=some p:=⟨_,List.getElem?_eq_getElem h1⟩
   have hd:(pcs s.data.toList).drop m=p::(pcs s.data.toList).drop (m+1):=by
    rw [List.drop_eq_getElem_cons h1]; congr 1
    rw [List.getElem?_eq_getElem h1] at hq; exact Option.some.inj hq
   rw [hd,List.any_cons]
   cases hh:decide (0≤zsv (p.r:Int)) with
   | true =>
    refine ⟨some (p.i:Int),?_,.inl ⟨rfl,p.i,rfl⟩⟩
    unfold zbI
    exact zaR (decide_eq_true h1) (za7 hq (za7 (hp p (List.mem_of_getElem? hq)) (zaR hh rfl)))
   | false =>
    obtain ⟨x,hx,h3⟩:=ih (m+1) (by omega) hp
    refine ⟨x,?_,by rw [Bool.false_or]; exact h3⟩
    conv=>lhs; unfold zbI
    refine zaR (decide_eq_true h1) (za7 hq (za7 (hp p (List.mem_of_getElem? hq)) (zaK hh hx)))
  ·rw [List.drop_eq_nil_of_le h1]
   refine ⟨j,?_,.inr ⟨rfl,rfl⟩⟩
   unfold zbI
   exact zaK (decide_eq_false (by omega)) rfl
theorem zmn:∀ (n:Nat) (l:List UInt8) (i:Nat),l.length≤n→(zdS i l).any (fun p=>decide (0≤zsv (p.r:Int)))=l.any isE
 | 0,l,i,h=>by
  obtain rfl:l=[]:=List.length_eq_zero_iff.1 (by omega)
  rw [zcT]; rfl
 | n+1,l,i,h=>by
  by_cases hl:l=[]
  ·subst hl; rw [zcT]; rfl
  ·have hw:=zgM l
   have hle:=zlq l hl
   rw [zcU i l hl,List.any_cons,zmn n _ _ (by rw [List.length_drop]; omega)]
   show (decide (0≤zsv ((decodeL l).1:Int))||_)=_
   rw [ztz l hl,← List.any_append,List.take_append_drop]
theorem zmm:∀ (n:Nat) (l:List UInt8) (i:Nat),l.length≤n→(zdS i l).length≤l.length
 | 0,l,i,h=>by
  obtain rfl:l=[]:=List.length_eq_zero_iff.1 (by omega)
  rw [zcT]; exact Nat.le_refl _
 | n+1,l,i,h=>by
  by_cases hl:l=[]
  ·subst hl; rw [zcT]; exact Nat.le_refl _
  ·have hw:=zgM l
   have hle:=zlq l hl
   rw [zcU i l hl,List.length_cons]
   have:=zmm n (l.drop (decodeL l).2) (i+(decodeL l).2) (by rw [List.length_drop]; omega)
   rw [List.length_drop] at this
   omega
theorem ztA (l:List UInt8):∀ p∈pcs l,p.r<55296∨(57343<p.r∧p.r≤1114111):=by
 have key:∀ (n:Nat) (l:List UInt8) (i:Nat),l.length≤n→∀ p∈zdS i l,p.r<55296∨(57343<p.r∧p.r≤1114111):=by
  intro n
  induction n with
  | zero =>
   intro l i h p hp
   obtain rfl:l=[]:=List.length_eq_zero_iff.1 (by omega)
   rw [zcT] at hp; cases hp
  | succ n ih =>
   intro l i h p hp
   by_cases hl:l=[]
   ·subst hl; rw [zcT] at hp; cases hp
   ·have hw:=zgM l
    have hle:=zlq l hl
    rw [zcU i l hl] at hp
    rcases List.mem_cons.1 hp with rfl | hp
    ·exact zmN l
    ·exact ih _ _ (by rw [List.length_drop]; omega) p hp
 exact key _ l 0 (Nat.le_refl _)
theorem zwr (s:zBA) (h8:s.size≤8):∃ r,zdj s=some r∧decide (0≤r)=zn0 s:=by
 unfold zdj
 obtain ⟨x,hx,h⟩:=zsg s (some (-1)) zcD 0 (by
  have:=zmm s.data.toList.length s.data.toList 0 (Nat.le_refl _)
  have h2:s.data.toList.length=s.size:=by rw [Array.length_toList]; rfl
  have h3:(pcs s.data.toList).length≤s.data.toList.length:=this
  have h4:(9:Nat)<zcD:=by unfold zcD; omega
  omega) (fun p hp=>zxn p.r (ztA _ p hp))
 have hany:=zmn s.data.toList.length s.data.toList 0 (Nat.le_refl _)
 rw [List.drop_zero] at h
 have e:∀ r,x=some r→zaB (decide ((⟨#[13,10]⟩:zBA)=(⟨#[]⟩:zBA))) (some (-1)) (zaB ((((⟨#[13,10]⟩:zBA).size:Int):Int)==1) (zbE (fun (j1:Int→Option Int)=>zan (zkK (⟨#[13,10]⟩:zBA) 0) fun (c1:Int)=>grd (I32 c1)<|zaB (decide ((128:Int)≤c1)) (j1 65533) (j1 c1)) (fun (r1:Int)=>none)) (zbE (fun (j2:Option Int)=>zaB (decide (8<((s.size:Int):Int))) (none) (j2)) (zbE (fun (j3:Option Int)=>za1 (fun _=>none) (zbI s j3) zcD 0) (some (-1)))))=some r:=fun r hr =>
  zaK (by decide) (zaK (by decide) (zcj (zaK (decide_eq_false (by omega)) (zcj (hx.trans hr)))))
 rcases h with ⟨h1,k,rfl⟩ | ⟨h1,rfl⟩
 ·exact ⟨(k:Int),e _ rfl,by rw [decide_eq_true (by omega)]; exact (hany.symm.trans h1).symm⟩
 ·exact ⟨-1,e _ rfl,by rw [decide_eq_false (by omega)]; exact (hany.symm.trans h1).symm⟩
def iaV (s:zBA):Int:=if 8<s.size then Lib.indexAny s.data.toList [13,10] else (zdj s).getD 0
theorem zy8 (s:zBA) (h:s.size≤4294967280):FnP prog 117 [.string s,.string (⟨#[13,10]⟩:zBA)] (.int .i64 (iaV s)):=by
 unfold iaV
 split
 ·rename_i h8; exact zvn s h8 (by omega)
 ·rename_i h8
  obtain ⟨r,hr,_⟩:=zwr s (by omega)
  rw [hr]
  exact zhF hr
theorem zy9 (s:zBA):decide (0≤iaV s)=zn0 s:=by
 unfold iaV
 split
 ·rename_i h8
  unfold zn0
  generalize s.data.toList=l
  induction l with
  | nil=>rfl
  | cons b l ih =>
   have hge:=Lib.indexAny_ge [13,10] l
   have hc:([13,10]:List UInt8).contains b=isE b:=by unfold isE; simp only [List.contains_cons,List.contains_nil,Bool.or_false]
   rw [Lib.indexAny,hc,List.any_cons]
   cases hb:isE b with
   | true=>rfl
   | false =>
    rw [Bool.false_or,← ih,if_neg (by decide)]
    split
    ·rename_i h2; rw [beq_iff_eq.1 h2]
    ·rename_i h2
     have h3:Lib.indexAny l [13,10]≠-1:=fun e=>h2 (by rw [e]; rfl)
     rw [decide_eq_true (by omega),decide_eq_true (by omega)]
 ·rename_i h8
  obtain ⟨r,hr,h1⟩:=zwr s (by omega)
  rw [hr]; exact h1
end
def zdX (s1:zBA) (j1:(List zaU)→(List za6)→Int→Int→Int→Int→Int→Int→Int→Option ((Option zbR)×Int)) (ag1:(List zaU)→(List za6)→Int→Int→Int→Int→Int→Int→Int→Nat→Option ((Option zbR)×Int)) (m10:List zaU) (m11:List za6) (p16:Int) (p17:Int) (p18:Int) (p19:Int) (p20:Int) (line7:Int) (line8:Int) (m12:Nat):Option ((Option zbR)×Int) := zaB (decide (m12<(pcs s1.data.toList).length)) ( zan ((pcs s1.data.toList)[m12]?) fun (p21:Pc) => zbE (fun (j2:Int→Option ((Option zbR)×Int)) => grd (m10.length+1≤2147483648) <| grd (I64 (p17+1)) <| grd (I64 (p18+1)) <| grd (I64 (p20+1)) <| zaB (decide ((65536:Int)≤(p21.r:Int))) ( grd (I64 ((p18+1)+1)) <| j2 ((p18+1)+1)
) ( j2 (p18+1)
)
) (fun (p22:Int) => zbE (fun (j3:Int→Option ((Option zbR)×Int)) => zaB (((p21.r:Int):Int)==13) ( grd (I64 ((p21.i:Int)+1)) <| zaB (decide ((((p21.i:Int)+1):Int)<(s1.size:Int))) ( grd (I64 ((p21.i:Int)+1)) <| zan (zkK s1 ((p21.i:Int)+1)) fun (c1:Int) => zaB ((c1:Int)==10) ( ag1 (m10++[(⟨(p21.i:Int),p17,p18,p19,p20⟩:zaU)]) m11 (p21.i:Int) (p17+1) p22 p19 (p20+1) line7 line8 (m12+1)
) ( zaB (((p21.r:Int):Int)==10) ( zaB (decide ((0:Int)<(p21.i:Int))) ( grd (I64 ((p21.i:Int) - 1)) <| zan (zkK s1 ((p21.i:Int) - 1)) fun (c2:Int) => zaB ((c2:Int)==13) ( j3 2
) ( zaB (((p21.r:Int):Int) != 13) ( zaB (((p21.r:Int):Int) != 10) ( ag1 (m10++[(⟨(p21.i:Int),p17,p18,p19,p20⟩:zaU)]) m11 (p21.i:Int) (p17+1) p22 p19 (p20+1) line7 line8 (m12+1)
) ( j3 1
)
) ( j3 1
)
)
) ( zaB (((p21.r:Int):Int) != 13) ( zaB (((p21.r:Int):Int) != 10) ( ag1 (m10++[(⟨(p21.i:Int),p17,p18,p19,p20⟩:zaU)]) m11 (p21.i:Int) (p17+1) p22 p19 (p20+1) line7 line8 (m12+1)
) ( j3 1
)
) ( j3 1
)
)
) ( zaB (((p21.r:Int):Int) != 13) ( zaB (((p21.r:Int):Int) != 10) ( ag1 (m10++[(⟨(p21.i:Int),p17,p18,p19,p20⟩:zaU)]) m11 (p21.i:Int) (p17+1) p22 p19 (p20+1) line7 line8 (m12+1)
) ( j3 1
)
) ( j3 1
)
)
)
) ( zaB (((p21.r:Int):Int)==10) ( zaB (decide ((0:Int)<(p21.i:Int))) ( grd (I64 ((p21.i:Int) - 1)) <| zan (zkK s1 ((p21.i:Int) - 1)) fun (c3:Int) => zaB ((c3:Int)==13) ( j3 2
) ( zaB (((p21.r:Int):Int) != 13) ( zaB (((p21.r:Int):Int) != 10) ( ag1 (m10++[(⟨(p21.i:Int),p17,p18,p19,p20⟩:zaU)]) m11 (p21.i:Int) (p17+1) p22 p19 (p20+1) line7 line8 (m12+1)
) ( j3 1
)
) ( j3 1
)
)
) ( zaB (((p21.r:Int):Int) != 13) ( zaB (((p21.r:Int):Int) != 10) ( ag1 (m10++[(⟨(p21.i:Int),p17,p18,p19,p20⟩:zaU)]) m11 (p21.i:Int) (p17+1) p22 p19 (p20+1) line7 line8 (m12+1)
) ( j3 1
)
) ( j3 1
)
)
) ( zaB (((p21.r:Int):Int) != 13) ( zaB (((p21.r:Int):Int) != 10) ( ag1 (m10++[(⟨(p21.i:Int),p17,p18,p19,p20⟩:zaU)]) m11 (p21.i:Int) (p17+1) p22 p19 (p20+1) line7 line8 (m12+1)
) ( j3 1
)
) ( j3 1
)
)
)
) ( zaB (((p21.r:Int):Int)==10) ( zaB (decide ((0:Int)<(p21.i:Int))) ( grd (I64 ((p21.i:Int) - 1)) <| zan (zkK s1 ((p21.i:Int) - 1)) fun (c4:Int) => zaB ((c4:Int)==13) ( j3 2
) ( zaB (((p21.r:Int):Int) != 13) ( zaB (((p21.r:Int):Int) != 10) ( ag1 (m10++[(⟨(p21.i:Int),p17,p18,p19,p20⟩:zaU)]) m11 (p21.i:Int) (p17+1) p22 p19 (p20+1) line7 line8 (m12+1)
) ( j3 1
)
) ( j3 1
)
)
) ( zaB (((p21.r:Int):Int) != 13) ( zaB (((p21.r:Int):Int) != 10) ( ag1 (m10++[(⟨(p21.i:Int),p17,p18,p19,p20⟩:zaU)]) m11 (p21.i:Int) (p17+1) p22 p19 (p20+1) line7 line8 (m12+1)
) ( j3 1
)
) ( j3 1
)
)
) ( zaB (((p21.r:Int):Int) != 13) ( zaB (((p21.r:Int):Int) != 10) ( ag1 (m10++[(⟨(p21.i:Int),p17,p18,p19,p20⟩:zaU)]) m11 (p21.i:Int) (p17+1) p22 p19 (p20+1) line7 line8 (m12+1)
) ( j3 1
)
) ( j3 1
)
)
)
) (fun (width1:Int) => grd (I64 ((p21.i:Int)+1)) <| grd (I64 (((p21.i:Int)+1) - width1)) <| grd (m11.length+1≤2147483648) <| grd (I64 ((p21.i:Int)+1)) <| grd (I64 (p19+1)) <| ag1 (m10++[(⟨(p21.i:Int),p17,p18,p19,p20⟩:zaU)]) (m11++[(⟨line7,((p21.i:Int)+1) - width1,width1,line8⟩:za6)]) (p21.i:Int) (p17+1) p22 (p19+1) 0 ((p21.i:Int)+1) ((m10++[(⟨(p21.i:Int),p17,p18,p19,p20⟩:zaU)]).length:Int) (m12+1)
)
)
) ( j1 m10 m11 p16 p17 p18 p19 p20 line7 line8
)
def zfP (s1:zBA):Option ((Option zbR)×Int) := zaB (decide ((65536:Int)<(s1.size:Int))) ( some (none,3)
) ( zbE (fun (j1:(List zaU)→(List za6)→Int→Int→Int→Int→Int→Int→Int→Option ((Option zbR)×Int)) => za1 (fun _ _ _ _ _ _ _ _ _ _=>none) (zdX s1 j1) zcD ([]:List zaU) ([]:List za6) 0 0 0 0 0 0 0 0
) (fun (m1:List zaU) (m2:List za6) (p1:Int) (p2:Int) (p3:Int) (p4:Int) (p5:Int) (line1:Int) (line2:Int) => grd (m1.length+1≤2147483648) <| grd (m2.length+1≤2147483648) <| some ((some (⟨s1,m1++[(⟨(s1.size:Int),p2,p3,p4,p5⟩:zaU)],m2++[(⟨line1,(s1.size:Int),0,line2⟩:za6)]⟩:zbR)),0)
)
)
theorem zpf {s1:zBA} {r:((Option zbR)×Int)} (h:zfP s1=some r):Fn prog 21 [.string s1] [] (fun v0:Value=>.tuple #[v0,zI r.2]) (fun v0=>[zlg zfe zfa 128 v0 r.1]):=by
 unfold zfP at h
 refine Fn.intro func21 rfl ntmps21 (by simp) ?_
 intro w0 K
 refine zyG (zyR 2 rfl (zyN ?_))
 refine zfL (β:=Unit) (l:=0) (fun _=>False) (fun _=>[]) (fun _=>[]) rfl ?_ ?_
 ·
  refine zaE (zyG (zyR 1 rfl (zbC rfl dc rfl underlying9 (zaS rfl zc1 (zyN ?_)))))
  refine zyB rfl h (fun h => ?_) (fun h => ?_)
  ·
   refine zyG (zyR 2 rfl (zyN (zau (zaf (zcy (by simp) (zdQ zfe zfa 128 ?_))))))
   cases h
   exact zbt (rs:=[.tmp 2,.tmp 3]) (.pointer none) (.inl rfl) results21 (.cons (.tmp rfl) (.cons (.tmp rfl) .nil)) rfl (zab [0] kr rfl)
  refine zal (zay ?_)
  obtain ⟨j1,hj1,h⟩:=zbT h
  refine za8 (β:=(List zaU)×(List za6)×Int×Int×Int×Int×Int×Int×Int×Nat×Hd×Hd×Nat×Nat) 4 rfl (fun b=>j1 b.1 b.2.1 b.2.2.1 b.2.2.2.1 b.2.2.2.2.1 b.2.2.2.2.2.1 b.2.2.2.2.2.2.1 b.2.2.2.2.2.2.2.1 b.2.2.2.2.2.2.2.2.1=some r) (fun b=>[]) (fun b=>[(0,.string s1),(4,zP b.2.2.2.2.2.2.2.2.2.1),(5,zP b.2.2.2.2.2.2.2.2.2.2.2.2.1),(6,zP b.2.2.2.2.2.2.2.2.2.2.2.2.2)]) (fun b=>[cells b.2.2.2.2.2.2.2.2.2.1 [.string s1,b.2.2.2.2.2.2.2.2.2.2.1.v,b.2.2.2.2.2.2.2.2.2.2.2.1.v] 128,zv5 b.2.2.2.2.2.2.2.2.2.2.1.v b.1,zv4 b.2.2.2.2.2.2.2.2.2.2.2.1.v b.2.1,cells b.2.2.2.2.2.2.2.2.2.2.2.2.1 [zI b.2.2.1,zI b.2.2.2.1,zI b.2.2.2.2.1,zI b.2.2.2.2.2.1,zI b.2.2.2.2.2.2.1] 130,cells b.2.2.2.2.2.2.2.2.2.2.2.2.2 [zI b.2.2.2.2.2.2.2.1,zI 0,zI 0,zI b.2.2.2.2.2.2.2.2.1] 132]) (fun cut => ?_) ?_
  ·
   refine zyG (zyR 1 rfl ?_)
   refine zbA (v:=.agg #[.string s1,.slice none 0 0,.slice none 0 0]) (ps:=[(0,.tmp 13)]) rfl dc rfl (fun _=>by kernel_rfl) ?_
   refine zdi rfl dc rfl (fun b4 => ?_)
   refine zyR 1 rfl (zyH ?_)
   refine zbA (v:=.agg #[zI 0,zI 0,zI 0,zI 0,zI 0]) (ps:=[]) rfl dc rfl (fun _=>by kernel_rfl) ?_
   refine zbh zyr rfl dc (fun b5 => ?_)
   refine zaZ (k:=1) (vs:=[zI 0,zI 0,zI 0,zI 0,zI 0]) (l':=[zI 0,zI 0,zI 0,zI 0,zI 0]) zyM rfl rfl rfl rfl rfl (show _≤_ by simp) rfl rfl (zyH ?_)
   refine zbA (v:=.agg #[zI 0,zI 0,zI 0,zI 0]) (ps:=[]) rfl dc rfl (fun _=>by kernel_rfl) ?_
   refine zbh zyp rfl dc (fun b6 => ?_)
   refine zaZ (k:=2) (vs:=[zI 0,zI 0,zI 0,zI 0]) (l':=[zI 0,zI 0,zI 0,zI 0]) znD rfl rfl rfl rfl rfl (show _≤_ by simp) rfl rfl (zyN (zaE (zkq (zay (cut (zyG (zyR 1 rfl ?_)))))))
   refine zc9 underlying9 rfl dc rfl (fun b7 => ?_)
   refine zyN (zaG (zer (enc:=ze0) (e:=130) (size:=5) ?_))
   refine zer (enc:=zeh) (e:=132) (size:=4) ?_
   refine zbP (β:=Nat×(List zaU)×(List za6)×Int×Int×Int×Int×Int×Int×Int×Nat×Hd×Hd) (fun b=>za1 (fun _ _ _ _ _ _ _ _ _ _=>none) (zdX s1 j1) b.1 b.2.1 b.2.2.1 b.2.2.2.1 b.2.2.2.2.1 b.2.2.2.2.2.1 b.2.2.2.2.2.2.1 b.2.2.2.2.2.2.2.1 b.2.2.2.2.2.2.2.2.1 b.2.2.2.2.2.2.2.2.2.1 b.2.2.2.2.2.2.2.2.2.2.1=some r) (fun b=>[]) (fun b=>[(0,.string s1),(4,zP b4),(5,zP b5),(6,zP b6),(19,zP b7)]) (fun b=>[cells b4 [.string s1,b.2.2.2.2.2.2.2.2.2.2.2.1.v,b.2.2.2.2.2.2.2.2.2.2.2.2.v] 128,zv5 b.2.2.2.2.2.2.2.2.2.2.2.1.v b.2.1,zv4 b.2.2.2.2.2.2.2.2.2.2.2.2.v b.2.2.1,cells b5 [zI b.2.2.2.1,zI b.2.2.2.2.1,zI b.2.2.2.2.2.1,zI b.2.2.2.2.2.2.1,zI b.2.2.2.2.2.2.2.1] 130,cells b6 [zI b.2.2.2.2.2.2.2.2.1,zI 0,zI 0,zI b.2.2.2.2.2.2.2.2.2.1] 132,obj b7 (.stringIter s1 (zfl s1 b.2.2.2.2.2.2.2.2.2.2.1))]) (fun b=>b.1) (zcD,([]:List zaU),([]:List za6),0,0,0,0,0,0,0,0,Hd.nil,Hd.nil) (by exact h) rfl (zbf rfl) (zab [0,4,5,1,2,3] kr rfl) ?_
   rintro ⟨n1,m10,m11,p16,p17,p18,p19,p20,line7,line8,m12,hd8,hd9⟩ h
   cases n1 with
   | zero=>exact zdO h
   | succ n1 =>
    obtain ⟨ag1,hag1⟩:∃ ag,ag=za1 (fun _ _ _ _ _ _ _ _ _ _=>none) (zdX s1 j1) n1:=⟨_,rfl⟩
    have h:zdX s1 j1 ag1 m10 m11 p16 p17 p18 p19 p20 line7 line8 m12=some r:=by rw [hag1]; exact h
    unfold zdX at h
    refine zyG ?_
    refine zeG (b:=decide (m12<(pcs s1.data.toList).length)) (fun hb2 => ?_) (fun hb2 => ?_)
    ·
     have h:=zgT hb2 h
     obtain ⟨p21,hq1,h⟩:=zbL h
     refine zdy (k:=5) (m:=m12) (p:=p21) rfl dc rfl rfl hq1 (zaN rfl dc rfl rfl (zyN (zaE (zba rfl (zal (zay (zaG ?_)))))))
     obtain ⟨j2,hj2,h⟩:=zbT h
     refine za8 (β:=Int×Hd) 6 rfl (fun b=>j2 b.1=some r) (fun b=>[]) (fun b=>[(0,.string s1),(4,zP b4),(5,zP b5),(6,zP b6),(7,zI (p21.i:Int)),(8,.int .i32 (p21.r:Int)),(19,zP b7)]) (fun b=>[cells b4 [.string s1,b.2.v,hd9.v] 128,zv5 b.2.v (m10++[(⟨(p21.i:Int),p17,p18,p19,p20⟩:zaU)]),zv4 hd9.v m11,cells b5 [zI (p21.i:Int),zI (p17+1),zI b.1,zI p19,zI (p20+1)] 130,cells b6 [zI line7,zI 0,zI 0,zI line8] 132,obj b7 (.stringIter s1 (zfl s1 (m12+1)))]) (fun cut => ?_) ?_
     ·
      refine zyG (zaN rfl dc rfl rfl (zaN rfl dc rfl rfl (zyR 2 rfl (zyH (zyR 1 rfl (zaa zrI rfl dc rfl (show _=0 from rfl) ?_))))))
      refine zaT (k:=3) (l':=[zI (p21.i:Int),zI p17,zI p18,zI p19,zI p20]) zeI rfl rfl rfl rfl rfl (fun _ _=>rfl) rfl ?_
      refine zyN (zaE ?_)
      obtain ⟨hg1,h⟩:=zbQ h
      refine zgG 1 ?_
      refine let vals1:(Nat×Hd)→List (Nat×Nat×Value):=fun b=>[(0,26,zP b4),(1,27,zP b4),(2,28,zP b4),(3,29,.pointer (some ⟨b4,1,none⟩)),(4,30,hd8.v),(5,31,.agg #[zI (p21.i:Int),zI p17,zI p18,zI p19,zI p20]),(6,32,.slice (some ⟨b.1,0,none⟩) 1 1),(7,33,b.2.v)]; let LL1:(Nat→Prop)→(Nat×Hd)→List Asn:=fun D b=>[cells b4 [.string s1,hd8.v,hd9.v] 128,eD D (zv5 hd8.v m10) [(7,zv5 b.2.v (m10++[(⟨(p21.i:Int),p17,p18,p19,p20⟩:zaU)]))],zv4 hd9.v m11,cells b5 [zI (p21.i:Int),zI p17,zI p18,zI p19,zI p20] 130,cells b6 [zI line7,zI 0,zI 0,zI line8] 132,obj b7 (.stringIter s1 (zfl s1 (m12+1))),eD D emp [(6,cells b.1 [zI (p21.i:Int),zI p17,zI p18,zI p19,zI p20] 130)]]; ?_
      have zhq:zyQ [6,7] LL1:=fun i h D b=>zac rfl (zac (zkr rfl h) (zac rfl (zac rfl (zac rfl (zac rfl (zac (zkr rfl h) rfl))))))
      refine zeb (β:=Nat×Hd) 8 ((0:Nat),Hd.nil) vals1 LL1 mixed kr kr dc (fun _=>rfl) (zac rfl (zac zci (zfu (zac zci rfl)))) (zm5 zhq (fun _=>rfl) (fun _=>rfl) 2 0 (fun _=>rfl) rfl (zyq zhq rfl (fun _=>rfl) (fun _=>rfl) ?_ (zyq zhq rfl (fun _=>rfl) (fun _=>rfl) ?_ (zhC zhq rfl (fun _=>rfl) (fun _=>rfl) ?_ (zhC zhq rfl (fun _=>rfl) (fun _=>rfl) ?_ (zaF ?_ (zaF ?_ DrawG.nil))))))) ?_
      · exact fun D ⟨b8,hd11⟩ n d c u i=>zai rfl dc (zam 1 u d) (zar 2 u i)
      · exact fun D ⟨b8,hd11⟩ n d c u i=>zaa zj6 rfl dc (zam 2 u d) (show _=1 from rfl) (zar 3 u i)
      · exact fun D ⟨b8,hd11⟩ n d c u i=>⟨_,(zac rfl (zac (zah (fun hD=>n (c 7 _ rfl hD 4 dc)) zat) (zp7 rfl))),zaj (k:=0) ztm rfl dc (zam 3 u d) rfl rfl (zar 4 u i)⟩
      · exact fun D ⟨b8,hd11⟩ n d c u i=>⟨_,(zac rfl (zac (zah (fun hD=>n (c 6 _ rfl (c 7 _ rfl hD 6 dc) 5 dc)) zat) (zfu (zac (zah (fun hD=>n (c 6 _ rfl hD 5 dc)) zat) rfl)))),zaV (k:=3) (cs:=[zI (p21.i:Int),zI p17,zI p18,zI p19,zI p20]) zwi rfl dc (zbd (by rfl) rfl) rfl rfl rfl (zar 5 u i)⟩
      ·
       intro D b hn hd hcl
       obtain ⟨zb0,hd11⟩:=b
       refine zaY (zac rfl (zac (zah (fun hD=>hn (hcl 7 _ rfl hD 6 dc)) zat) (zfu (zac (zah hn zat) rfl)))) ?_
       refine zbc (cs:=[zI (p21.i:Int),zI p17,zI p18,zI p19,zI p20]) (te:=130) (ps:=[(0,.tmp 31)]) rfl dc (evP.cons (zaI (m:=5) rfl rfl (hd 5 dc)) evP.nil) (fun _=>by kernel_rfl) (fun b8 => ?_)
       refine zdg 6 rfl rfl ?_
       exact za4 (b:=(zb0,hd11)) (b8,hd11) 6 (by rfl) (by rfl) rfl (zvM (zaz (fun hD=>absurd hD hn) (zaz (fun _=>rfl) rfl))) (zac rfl (zac ((zav (by rfl)).trans (zah (fun hD=>hn (hcl 7 _ rfl hD 6 dc)) zat)) (zfu (zac (zaW (Or.inr rfl) rfl) rfl))))
      ·
       intro D b hn hd hcl
       obtain ⟨b8,zb1⟩:=b
       refine zaY (zac rfl (zac (zah hn zat) (zfu (zac (zaW (hd 6 dc) rfl) rfl)))) ?_
       refine zbx (k:=1) (k2:=6) (ys:=[(⟨(p21.i:Int),p17,p18,p19,p20⟩:zaU)]) underlying125 zwC zht zhs rfl dc (zaI (m:=4) rfl rfl (hd 4 dc)) (zaI (m:=6) rfl rfl (hd 6 dc)) rfl rfl rfl rfl hg1 (fun v1 => ?_)
       refine zbJ (k:=1) rfl (fun hd11 he1 => ?_)
       subst he1
       exact za4 (b:=(b8,zb1)) (b8,hd11) 7 (by rfl) (by rfl) rfl (zls (zaz (fun hD=>absurd hD hn) rfl)) (zac rfl (zac (zaW (Or.inr rfl) rfl) (zfu (zac ((zav (by rfl)).trans (zaW (hd 6 dc) rfl)) rfl))))
      intro D b hall
      obtain ⟨b8,hd11⟩:=b
      refine zaY (zac rfl (zac (zaW (hall 7 dc) rfl) (zfu (zac (zaW (hall 6 dc) rfl) rfl)))) (zai rfl dc rfl (zaa zj6 rfl dc rfl (show _=1 from rfl) ?_))
      refine zaT (k:=0) (l':=[.string s1,hd11.v,hd9.v]) zvZ rfl rfl rfl rfl rfl (fun _ _=>rfl) rfl ?_
      refine zyH (zaa zrH rfl dc rfl (show _=1 from rfl) (zaj (k:=3) zbW rfl dc rfl rfl rfl ?_))
      obtain ⟨hg2,h⟩:=zbQ h
      refine zaS rfl (zbb (r:=p17+1) (IntWalk.i64_in _ hg2)) (zaa zrH rfl dc rfl (show _=1 from rfl) ?_)
      refine zaT (k:=3) (l':=[zI (p21.i:Int),zI (p17+1),zI p18,zI p19,zI p20]) zeI rfl rfl rfl rfl rfl (fun _ _=>rfl) rfl ?_
      refine zyH (zaa zlW rfl dc rfl (show _=2 from rfl) (zaj (k:=3) zbW rfl dc rfl rfl rfl ?_))
      obtain ⟨hg3,h⟩:=zbQ h
      refine zaS rfl (zbb (r:=p18+1) (IntWalk.i64_in _ hg3)) (zaa zlW rfl dc rfl (show _=2 from rfl) ?_)
      refine zaT (k:=3) (l':=[zI (p21.i:Int),zI (p17+1),zI (p18+1),zI p19,zI p20]) zeI rfl rfl rfl rfl rfl (fun _ _=>rfl) rfl ?_
      refine zyH (zaa zoI rfl dc rfl (show _=4 from rfl) (zaj (k:=3) zbW rfl dc rfl rfl rfl ?_))
      obtain ⟨hg4,h⟩:=zbQ h
      refine zaS rfl (zbb (r:=p20+1) (IntWalk.i64_in _ hg4)) (zaa zoI rfl dc rfl (show _=4 from rfl) ?_)
      refine zaT (k:=3) (l':=[zI (p21.i:Int),zI (p17+1),zI (p18+1),zI p19,zI (p20+1)]) zeI rfl rfl rfl rfl rfl (fun _ _=>rfl) rfl ?_
      refine zyN (cut (zyG (zyR 1 rfl (zaS rfl zbG (zyN ?_)))))
      refine zyB rfl h (fun h => ?_) (fun h => ?_)
      ·
       refine zas (zaa zlW rfl dc rfl (show _=2 from rfl) (zaj (k:=3) zbW rfl dc rfl rfl rfl ?_))
       obtain ⟨hg5,h⟩:=zbQ h
       refine zaS rfl (zbb (r:=(p18+1)+1) (IntWalk.i64_in _ hg5)) (zaa zlW rfl dc rfl (show _=2 from rfl) ?_)
       refine zaT (k:=3) (l':=[zI (p21.i:Int),zI (p17+1),zI ((p18+1)+1),zI p19,zI (p20+1)]) zeI rfl rfl rfl rfl rfl (fun _ _=>rfl) rfl ?_
       refine zaP ?_
       exact zak ((p18+1)+1,hd11) h rfl (zbf rfl) (zab [0,1,2,3,4,5] kr rfl)
      refine zal ?_
      exact zak (p18+1,hd11) h rfl (zbf rfl) (zab [0,1,2,3,4,5] kr rfl)
     rintro ⟨p22,hd10⟩ h
     rw [hj2] at h
     obtain ⟨j3,hj3,h⟩:=zbT h
     refine za8 (β:=Int) 1 rfl (fun b=>j3 b=some r) (fun b=>[]) (fun b=>[(0,.string s1),(4,zP b4),(5,zP b5),(6,zP b6),(7,zI (p21.i:Int)),(9,zI b),(19,zP b7)]) (fun b=>[cells b4 [.string s1,hd10.v,hd9.v] 128,zv5 hd10.v (m10++[(⟨(p21.i:Int),p17,p18,p19,p20⟩:zaU)]),zv4 hd9.v m11,cells b5 [zI (p21.i:Int),zI (p17+1),zI p22,zI p19,zI (p20+1)] 130,cells b6 [zI line7,zI 0,zI 0,zI line8] 132,obj b7 (.stringIter s1 (zfl s1 (m12+1)))]) (fun cut => ?_) ?_
     ·
      refine zyG (zyR 1 rfl (zyN (cut (zaG (zyG (zyR 1 rfl (zaS rfl zaL (zyR 1 rfl ?_))))))))
      refine zyS (s:=57) rfl h (fun h => ?_) (fun h => ?_)
      ·
       refine zyR 1 rfl ?_
       obtain ⟨hg6,h⟩:=zbQ h
       refine zaS rfl (zbb (r:=(p21.i:Int)+1) (IntWalk.i64_in _ hg6)) (zyR 1 rfl (zbC rfl dc rfl underlying9 (zaS rfl zbF (zyR 2 rfl ?_))))
       refine zyS (s:=64) rfl h (fun h => ?_) (fun h => ?_)
       ·
        refine zyR 2 rfl ?_
        obtain ⟨hg7,h⟩:=zbQ h
        refine zaS rfl (zbb (r:=(p21.i:Int)+1) (IntWalk.i64_in _ hg7)) ?_
        obtain ⟨c1,hq2,h⟩:=zbL h
        refine zea rfl dc rfl rfl (zcc underlying9 hq2) (zaS rfl zaL (zyR 2 rfl (zyN ?_)))
        refine zyB rfl h (fun h => ?_) (fun h => ?_)
        ·
         refine zbu (zcZ dc (zaq (zaJ ?_)))
         subst hag1
         exact zbr (n1,m10++[(⟨(p21.i:Int),p17,p18,p19,p20⟩:zaU)],m11,(p21.i:Int),p17+1,p22,p19,p20+1,line7,line8,m12+1,hd10,hd9) h (Nat.lt_succ_self _) rfl (zbf rfl) (zab [0,1,2,3,4,5] kr rfl)
        refine zyG (zyR 1 rfl (zaS rfl zaL (zyR 1 rfl ?_)))
        refine zyS (s:=74) rfl h (fun h => ?_) (fun h => ?_)
        ·
         refine zyR 1 rfl (zaS rfl zc1 (zyR 2 rfl ?_))
         refine zyS (s:=78) rfl h (fun h => ?_) (fun h => ?_)
         ·
          refine zyR 2 rfl ?_
          obtain ⟨hg8,h⟩:=zbQ h
          refine zaS rfl (zce (r:=(p21.i:Int) - 1) (IntWalk.i64_in _ hg8)) ?_
          obtain ⟨c2,hq3,h⟩:=zbL h
          refine zea rfl dc rfl rfl (zcc underlying9 hq3) (zaS rfl zaL (zyR 2 rfl (zyN ?_)))
          refine zyB rfl h (fun h => ?_) (fun h => ?_)
          ·
           refine zas (zyR 1 rfl (zaP (zae ?_)))
           exact zak 2 h rfl (zbf rfl) (zab [0,1,2,3,4,5] kr rfl)
          refine zyG (zyR 1 rfl (zaS rfl zbH (zyR 1 rfl ?_)))
          refine zyS (s:=88) rfl h (fun h => ?_) (fun h => ?_)
          ·
           refine zyR 1 rfl (zaS rfl zbH (zyR 2 rfl (zyN ?_)))
           refine zyB rfl h (fun h => ?_) (fun h => ?_)
           ·
            refine zbu (zcZ dc (zaq (zaJ ?_)))
            subst hag1
            exact zbr (n1,m10++[(⟨(p21.i:Int),p17,p18,p19,p20⟩:zaU)],m11,(p21.i:Int),p17+1,p22,p19,p20+1,line7,line8,m12+1,hd10,hd9) h (Nat.lt_succ_self _) rfl (zbf rfl) (zab [0,1,2,3,4,5] kr rfl)
           refine zal (zae ?_)
           exact zak 1 h rfl (zbf rfl) (zab [0,1,2,3,4,5] kr rfl)
          refine zyR 4 rfl (zyN (zaM rfl (zal (zae ?_))))
          exact zak 1 h rfl (zbf rfl) (zab [0,1,2,3,4,5] kr rfl)
         refine zyR 7 rfl (zyN (zaM rfl (zyG (zyR 1 rfl (zaS rfl zbH ?_)))))
         refine zyR 1 rfl ?_
         refine zyS (s:=88) rfl h (fun h => ?_) (fun h => ?_)
         ·
          refine zyR 1 rfl (zaS rfl zbH (zyR 2 rfl (zyN ?_)))
          refine zyB rfl h (fun h => ?_) (fun h => ?_)
          ·
           refine zbu (zcZ dc (zaq (zaJ ?_)))
           subst hag1
           exact zbr (n1,m10++[(⟨(p21.i:Int),p17,p18,p19,p20⟩:zaU)],m11,(p21.i:Int),p17+1,p22,p19,p20+1,line7,line8,m12+1,hd10,hd9) h (Nat.lt_succ_self _) rfl (zbf rfl) (zab [0,1,2,3,4,5] kr rfl)
          refine zal (zae ?_)
          exact zak 1 h rfl (zbf rfl) (zab [0,1,2,3,4,5] kr rfl)
         refine zyR 4 rfl (zyN (zaM rfl (zal (zae ?_))))
         exact zak 1 h rfl (zbf rfl) (zab [0,1,2,3,4,5] kr rfl)
        refine zyR 11 rfl (zyN (zaM rfl ?_))
        refine zyG (zyR 1 rfl (zaS rfl zbH (zyR 1 rfl ?_)))
        refine zyS (s:=88) rfl h (fun h => ?_) (fun h => ?_)
        ·
         refine zyR 1 rfl (zaS rfl zbH (zyR 2 rfl (zyN ?_)))
         refine zyB rfl h (fun h => ?_) (fun h => ?_)
         ·
          refine zbu (zcZ dc (zaq (zaJ ?_)))
          subst hag1
          exact zbr (n1,m10++[(⟨(p21.i:Int),p17,p18,p19,p20⟩:zaU)],m11,(p21.i:Int),p17+1,p22,p19,p20+1,line7,line8,m12+1,hd10,hd9) h (Nat.lt_succ_self _) rfl (zbf rfl) (zab [0,1,2,3,4,5] kr rfl)
         refine zal (zae ?_)
         exact zak 1 h rfl (zbf rfl) (zab [0,1,2,3,4,5] kr rfl)
        refine zyR 4 rfl (zyN (zaM rfl (zal (zae ?_))))
        exact zak 1 h rfl (zbf rfl) (zab [0,1,2,3,4,5] kr rfl)
       refine zyR 7 rfl (zyN (zaM rfl (zyG (zyR 1 rfl (zaS rfl zaL ?_)))))
       refine zyR 1 rfl ?_
       refine zyS (s:=74) rfl h (fun h => ?_) (fun h => ?_)
       ·
        refine zyR 1 rfl (zaS rfl zc1 (zyR 2 rfl ?_))
        refine zyS (s:=78) rfl h (fun h => ?_) (fun h => ?_)
        ·
         refine zyR 2 rfl ?_
         obtain ⟨hg9,h⟩:=zbQ h
         refine zaS rfl (zce (r:=(p21.i:Int) - 1) (IntWalk.i64_in _ hg9)) ?_
         obtain ⟨c3,hq4,h⟩:=zbL h
         refine zea rfl dc rfl rfl (zcc underlying9 hq4) (zaS rfl zaL (zyR 2 rfl (zyN ?_)))
         refine zyB rfl h (fun h => ?_) (fun h => ?_)
         ·
          refine zas (zyR 1 rfl (zaP (zae ?_)))
          exact zak 2 h rfl (zbf rfl) (zab [0,1,2,3,4,5] kr rfl)
         refine zyG (zyR 1 rfl (zaS rfl zbH (zyR 1 rfl ?_)))
         refine zyS (s:=88) rfl h (fun h => ?_) (fun h => ?_)
         ·
          refine zyR 1 rfl (zaS rfl zbH (zyR 2 rfl (zyN ?_)))
          refine zyB rfl h (fun h => ?_) (fun h => ?_)
          ·
           refine zbu (zcZ dc (zaq (zaJ ?_)))
           subst hag1
           exact zbr (n1,m10++[(⟨(p21.i:Int),p17,p18,p19,p20⟩:zaU)],m11,(p21.i:Int),p17+1,p22,p19,p20+1,line7,line8,m12+1,hd10,hd9) h (Nat.lt_succ_self _) rfl (zbf rfl) (zab [0,1,2,3,4,5] kr rfl)
          refine zal (zae ?_)
          exact zak 1 h rfl (zbf rfl) (zab [0,1,2,3,4,5] kr rfl)
         refine zyR 4 rfl (zyN (zaM rfl (zal (zae ?_))))
         exact zak 1 h rfl (zbf rfl) (zab [0,1,2,3,4,5] kr rfl)
        refine zyR 7 rfl (zyN (zaM rfl (zyG (zyR 1 rfl (zaS rfl zbH ?_)))))
        refine zyR 1 rfl ?_
        refine zyS (s:=88) rfl h (fun h => ?_) (fun h => ?_)
        ·
         refine zyR 1 rfl (zaS rfl zbH (zyR 2 rfl (zyN ?_)))
         refine zyB rfl h (fun h => ?_) (fun h => ?_)
         ·
          refine zbu (zcZ dc (zaq (zaJ ?_)))
          subst hag1
          exact zbr (n1,m10++[(⟨(p21.i:Int),p17,p18,p19,p20⟩:zaU)],m11,(p21.i:Int),p17+1,p22,p19,p20+1,line7,line8,m12+1,hd10,hd9) h (Nat.lt_succ_self _) rfl (zbf rfl) (zab [0,1,2,3,4,5] kr rfl)
         refine zal (zae ?_)
         exact zak 1 h rfl (zbf rfl) (zab [0,1,2,3,4,5] kr rfl)
        refine zyR 4 rfl (zyN (zaM rfl (zal (zae ?_))))
        exact zak 1 h rfl (zbf rfl) (zab [0,1,2,3,4,5] kr rfl)
       refine zyR 11 rfl (zyN (zaM rfl ?_))
       refine zyG (zyR 1 rfl (zaS rfl zbH (zyR 1 rfl ?_)))
       refine zyS (s:=88) rfl h (fun h => ?_) (fun h => ?_)
       ·
        refine zyR 1 rfl (zaS rfl zbH (zyR 2 rfl (zyN ?_)))
        refine zyB rfl h (fun h => ?_) (fun h => ?_)
        ·
         refine zbu (zcZ dc (zaq (zaJ ?_)))
         subst hag1
         exact zbr (n1,m10++[(⟨(p21.i:Int),p17,p18,p19,p20⟩:zaU)],m11,(p21.i:Int),p17+1,p22,p19,p20+1,line7,line8,m12+1,hd10,hd9) h (Nat.lt_succ_self _) rfl (zbf rfl) (zab [0,1,2,3,4,5] kr rfl)
        refine zal (zae ?_)
        exact zak 1 h rfl (zbf rfl) (zab [0,1,2,3,4,5] kr rfl)
       refine zyR 4 rfl (zyN (zaM rfl (zal (zae ?_))))
       exact zak 1 h rfl (zbf rfl) (zab [0,1,2,3,4,5] kr rfl)
      refine zyR 14 rfl ?_
      refine zyN (zaM rfl (zyG (zyR 1 rfl (zaS rfl zaL (zyR 1 rfl ?_)))))
      refine zyS (s:=74) rfl h (fun h => ?_) (fun h => ?_)
      ·
       refine zyR 1 rfl (zaS rfl zc1 (zyR 2 rfl ?_))
       refine zyS (s:=78) rfl h (fun h => ?_) (fun h => ?_)
       ·
        refine zyR 2 rfl ?_
        obtain ⟨hg10,h⟩:=zbQ h
        refine zaS rfl (zce (r:=(p21.i:Int) - 1) (IntWalk.i64_in _ hg10)) ?_
        obtain ⟨c4,hq5,h⟩:=zbL h
        refine zea rfl dc rfl rfl (zcc underlying9 hq5) (zaS rfl zaL (zyR 2 rfl (zyN ?_)))
        refine zyB rfl h (fun h => ?_) (fun h => ?_)
        ·
         refine zas (zyR 1 rfl (zaP (zae ?_)))
         exact zak 2 h rfl (zbf rfl) (zab [0,1,2,3,4,5] kr rfl)
        refine zyG (zyR 1 rfl (zaS rfl zbH (zyR 1 rfl ?_)))
        refine zyS (s:=88) rfl h (fun h => ?_) (fun h => ?_)
        ·
         refine zyR 1 rfl (zaS rfl zbH (zyR 2 rfl (zyN ?_)))
         refine zyB rfl h (fun h => ?_) (fun h => ?_)
         ·
          refine zbu (zcZ dc (zaq (zaJ ?_)))
          subst hag1
          exact zbr (n1,m10++[(⟨(p21.i:Int),p17,p18,p19,p20⟩:zaU)],m11,(p21.i:Int),p17+1,p22,p19,p20+1,line7,line8,m12+1,hd10,hd9) h (Nat.lt_succ_self _) rfl (zbf rfl) (zab [0,1,2,3,4,5] kr rfl)
         refine zal (zae ?_)
         exact zak 1 h rfl (zbf rfl) (zab [0,1,2,3,4,5] kr rfl)
        refine zyR 4 rfl (zyN (zaM rfl (zal (zae ?_))))
        exact zak 1 h rfl (zbf rfl) (zab [0,1,2,3,4,5] kr rfl)
       refine zyR 7 rfl (zyN (zaM rfl (zyG (zyR 1 rfl (zaS rfl zbH ?_)))))
       refine zyR 1 rfl ?_
       refine zyS (s:=88) rfl h (fun h => ?_) (fun h => ?_)
       ·
        refine zyR 1 rfl (zaS rfl zbH (zyR 2 rfl (zyN ?_)))
        refine zyB rfl h (fun h => ?_) (fun h => ?_)
        ·
         refine zbu (zcZ dc (zaq (zaJ ?_)))
         subst hag1
         exact zbr (n1,m10++[(⟨(p21.i:Int),p17,p18,p19,p20⟩:zaU)],m11,(p21.i:Int),p17+1,p22,p19,p20+1,line7,line8,m12+1,hd10,hd9) h (Nat.lt_succ_self _) rfl (zbf rfl) (zab [0,1,2,3,4,5] kr rfl)
        refine zal (zae ?_)
        exact zak 1 h rfl (zbf rfl) (zab [0,1,2,3,4,5] kr rfl)
       refine zyR 4 rfl (zyN (zaM rfl (zal (zae ?_))))
       exact zak 1 h rfl (zbf rfl) (zab [0,1,2,3,4,5] kr rfl)
      refine zyR 11 rfl (zyN (zaM rfl ?_))
      refine zyG (zyR 1 rfl (zaS rfl zbH (zyR 1 rfl ?_)))
      refine zyS (s:=88) rfl h (fun h => ?_) (fun h => ?_)
      ·
       refine zyR 1 rfl (zaS rfl zbH (zyR 2 rfl (zyN ?_)))
       refine zyB rfl h (fun h => ?_) (fun h => ?_)
       ·
        refine zbu (zcZ dc (zaq (zaJ ?_)))
        subst hag1
        exact zbr (n1,m10++[(⟨(p21.i:Int),p17,p18,p19,p20⟩:zaU)],m11,(p21.i:Int),p17+1,p22,p19,p20+1,line7,line8,m12+1,hd10,hd9) h (Nat.lt_succ_self _) rfl (zbf rfl) (zab [0,1,2,3,4,5] kr rfl)
       refine zal (zae ?_)
       exact zak 1 h rfl (zbf rfl) (zab [0,1,2,3,4,5] kr rfl)
      refine zyR 4 rfl (zyN (zaM rfl (zal (zae ?_))))
      exact zak 1 h rfl (zbf rfl) (zab [0,1,2,3,4,5] kr rfl)
     rintro width1 h
     rw [hj3] at h
     refine zyG (zyR 1 rfl ?_)
     obtain ⟨hg11,h⟩:=zbQ h
     refine zaS rfl (zbb (r:=(p21.i:Int)+1) (IntWalk.i64_in _ hg11)) (zyR 1 rfl ?_)
     obtain ⟨hg12,h⟩:=zbQ h
     refine zaS rfl (zce (r:=((p21.i:Int)+1) - width1) (IntWalk.i64_in _ hg12)) (zaa zlV rfl dc rfl (show _=0 from rfl) (zaa zdK rfl dc rfl (show _=1 from rfl) ?_))
     refine zaT (k:=4) (l':=[zI line7,zI (((p21.i:Int)+1) - width1),zI 0,zI line8]) zeI rfl rfl rfl rfl rfl (fun _ _=>rfl) rfl ?_
     refine zyH (zyR 1 rfl (zaa zoH rfl dc rfl (show _=2 from rfl) ?_))
     refine zaT (k:=4) (l':=[zI line7,zI (((p21.i:Int)+1) - width1),zI width1,zI line8]) zeI rfl rfl rfl rfl rfl (fun _ _=>rfl) rfl ?_
     refine zyN (zaE ?_)
     obtain ⟨hg13,h⟩:=zbQ h
     refine zgG 1 ?_
     refine let vals2:(Nat×Hd)→List (Nat×Nat×Value):=fun b=>[(0,100,zP b4),(1,101,zP b4),(2,102,zP b4),(3,103,.pointer (some ⟨b4,2,none⟩)),(4,104,hd9.v),(5,105,.agg #[zI line7,zI (((p21.i:Int)+1) - width1),zI width1,zI line8]),(6,106,.slice (some ⟨b.1,0,none⟩) 1 1),(7,107,b.2.v)]; let LL2:(Nat→Prop)→(Nat×Hd)→List Asn:=fun D b=>[cells b4 [.string s1,hd10.v,hd9.v] 128,zv5 hd10.v (m10++[(⟨(p21.i:Int),p17,p18,p19,p20⟩:zaU)]),eD D (zv4 hd9.v m11) [(7,zv4 b.2.v (m11++[(⟨line7,((p21.i:Int)+1) - width1,width1,line8⟩:za6)]))],cells b5 [zI (p21.i:Int),zI (p17+1),zI p22,zI p19,zI (p20+1)] 130,cells b6 [zI line7,zI (((p21.i:Int)+1) - width1),zI width1,zI line8] 132,obj b7 (.stringIter s1 (zfl s1 (m12+1))),eD D emp [(6,cells b.1 [zI line7,zI (((p21.i:Int)+1) - width1),zI width1,zI line8] 132)]]; ?_
     refine zeb (β:=Nat×Hd) 8 ((0:Nat),Hd.nil) vals2 LL2 mixed kr kr dc (fun _=>rfl) (zez (zac zci (zcK (zac zci rfl)))) (zaF ?_ (zaF ?_ (zaF ?_ (zaF ?_ (zaF ?_ (zaF ?_ (zaF ?_ (zaF ?_ DrawG.nil)))))))) ?_
     ·
      intro D b hn hd hcl
      obtain ⟨b9,hd12⟩:=b
      refine zaY (zp3 rfl) (zgq rfl dc (zbd (by rfl) rfl) ?_)
      exact za4 (b:=(b9,hd12)) (b9,hd12) 0 (by rfl) (by rfl) rfl (zks rfl) (zez (zac (zav (by rfl)) (zcK (zac (zav (by rfl)) rfl))))
     ·
      intro D b hn hd hcl
      obtain ⟨b9,hd12⟩:=b
      refine zaY (zez (zac (zah (fun hD=>hn (hcl 2 _ rfl (hcl 3 _ rfl (hcl 4 _ rfl (hcl 7 _ rfl hD 4 dc) 3 dc) 2 dc) 1 dc)) zat) (zfu rfl))) ?_
      refine zgq rfl dc (zbd (by rfl) rfl) ?_
      exact za4 (b:=(b9,hd12)) (b9,hd12) 1 (by rfl) (by rfl) rfl (zks rfl) (zez (zac ((zav (by rfl)).trans (zah (fun hD=>hn (hcl 2 _ rfl (hcl 3 _ rfl (hcl 4 _ rfl (hcl 7 _ rfl hD 4 dc) 3 dc) 2 dc) 1 dc)) zat)) (zcK (zac (zav (by rfl)) rfl))))
     ·
      intro D b hn hd hcl
      obtain ⟨b9,hd12⟩:=b
      refine zaY (zez (zac (zah (fun hD=>hn (hcl 3 _ rfl (hcl 4 _ rfl (hcl 7 _ rfl hD 4 dc) 3 dc) 2 dc)) zat) (zfu rfl))) ?_
      refine zai rfl dc (zaI (m:=1) rfl rfl (hd 1 dc)) ?_
      exact za4 (b:=(b9,hd12)) (b9,hd12) 2 (by rfl) (by rfl) rfl (zks rfl) (zez (zac ((zav (by rfl)).trans (zah (fun hD=>hn (hcl 3 _ rfl (hcl 4 _ rfl (hcl 7 _ rfl hD 4 dc) 3 dc) 2 dc)) zat)) (zcK (zac (zav (by rfl)) rfl))))
     ·
      intro D b hn hd hcl
      obtain ⟨b9,hd12⟩:=b
      refine zaY (zez (zac (zah (fun hD=>hn (hcl 4 _ rfl (hcl 7 _ rfl hD 4 dc) 3 dc)) zat) (zfu rfl))) ?_
      refine zaa zgu rfl dc (zaI (m:=2) rfl rfl (hd 2 dc)) (show _=2 from rfl) ?_
      exact za4 (b:=(b9,hd12)) (b9,hd12) 3 (by rfl) (by rfl) rfl (zks rfl) (zez (zac ((zav (by rfl)).trans (zah (fun hD=>hn (hcl 4 _ rfl (hcl 7 _ rfl hD 4 dc) 3 dc)) zat)) (zcK (zac (zav (by rfl)) rfl))))
     ·
      intro D b hn hd hcl
      obtain ⟨b9,hd12⟩:=b
      refine zaY (zez (zac (zah (fun hD=>hn (hcl 7 _ rfl hD 4 dc)) zat) (zfu rfl))) ?_
      refine zaj (k:=0) zld rfl dc (zaI (m:=3) rfl rfl (hd 3 dc)) rfl rfl ?_
      exact za4 (b:=(b9,hd12)) (b9,hd12) 4 (by rfl) (by rfl) rfl (zks rfl) (zez (zac ((zav (by rfl)).trans (zah (fun hD=>hn (hcl 7 _ rfl hD 4 dc)) zat)) (zcK (zac (zav (by rfl)) rfl))))
     ·
      intro D b hn hd hcl
      obtain ⟨b9,hd12⟩:=b
      refine zaY (zez (zac (zah (fun hD=>hn (hcl 6 _ rfl (hcl 7 _ rfl hD 6 dc) 5 dc)) zat) (zcK (zac (zah (fun hD=>hn (hcl 6 _ rfl hD 5 dc)) zat) rfl)))) ?_
      refine zaV (k:=4) (cs:=[zI line7,zI (((p21.i:Int)+1) - width1),zI width1,zI line8]) zwh rfl dc (zbd (by rfl) rfl) rfl rfl rfl ?_
      exact za4 (b:=(b9,hd12)) (b9,hd12) 5 (by rfl) (by rfl) rfl (zks rfl) (zez (zac ((zav (by rfl)).trans (zah (fun hD=>hn (hcl 6 _ rfl (hcl 7 _ rfl hD 6 dc) 5 dc)) zat)) (zcK (zac ((zav (by rfl)).trans (zah (fun hD=>hn (hcl 6 _ rfl hD 5 dc)) zat)) rfl))))
     ·
      intro D b hn hd hcl
      obtain ⟨zb0,hd12⟩:=b
      refine zaY (zez (zac (zah (fun hD=>hn (hcl 7 _ rfl hD 6 dc)) zat) (zcK (zac (zah hn zat) rfl)))) ?_
      refine zbc (cs:=[zI line7,zI (((p21.i:Int)+1) - width1),zI width1,zI line8]) (te:=132) (ps:=[(0,.tmp 105)]) rfl dc (evP.cons (zaI (m:=5) rfl rfl (hd 5 dc)) evP.nil) (fun _=>by kernel_rfl) (fun b9 => ?_)
      refine zdg 6 rfl rfl ?_
      exact za4 (b:=(zb0,hd12)) (b9,hd12) 6 (by rfl) (by rfl) rfl (zvM (zaz (fun hD=>absurd hD hn) (zaz (fun _=>rfl) rfl))) (zez (zac ((zav (by rfl)).trans (zah (fun hD=>hn (hcl 7 _ rfl hD 6 dc)) zat)) (zcK (zac (zaW (Or.inr rfl) rfl) rfl))))
     ·
      intro D b hn hd hcl
      obtain ⟨b9,zb1⟩:=b
      refine zaY (zez (zac (zah hn zat) (zcK (zac (zaW (hd 6 dc) rfl) rfl)))) ?_
      refine zbx (k:=2) (k2:=6) (ys:=[(⟨line7,((p21.i:Int)+1) - width1,width1,line8⟩:za6)]) underlying126 zwB zdo zgO rfl dc (zaI (m:=4) rfl rfl (hd 4 dc)) (zaI (m:=6) rfl rfl (hd 6 dc)) rfl rfl rfl rfl hg13 (fun v2 => ?_)
      refine zbJ (k:=2) rfl (fun hd12 he2 => ?_)
      subst he2
      exact za4 (b:=(b9,zb1)) (b9,hd12) 7 (by rfl) (by rfl) rfl (zls (zaz (fun hD=>absurd hD hn) rfl)) (zez (zac (zaW (Or.inr rfl) rfl) (zcK (zac ((zav (by rfl)).trans (zaW (hd 6 dc) rfl)) rfl))))
     intro D b hall
     obtain ⟨b9,hd12⟩:=b
     refine zaY (zez (zac (zaW (hall 7 dc) rfl) (zcK (zac (zaW (hall 6 dc) rfl) rfl)))) (zai rfl dc rfl (zaa zgu rfl dc rfl (show _=2 from rfl) ?_))
     refine zaT (k:=0) (l':=[.string s1,hd10.v,hd12.v]) zvY rfl rfl rfl rfl rfl (fun _ _=>rfl) rfl ?_
     refine zyH (zyR 1 rfl ?_)
     obtain ⟨hg14,h⟩:=zbQ h
     refine zaS rfl (zbb (r:=(p21.i:Int)+1) (IntWalk.i64_in _ hg14)) ?_
     refine zbA (v:=.agg #[zI ((p21.i:Int)+1),zI 0]) (ps:=[(0,.tmp 111)]) rfl dc rfl (fun _=>by kernel_rfl) ?_
     refine zyR 1 rfl (zai rfl dc rfl (zaa zj6 rfl dc rfl (show _=1 from rfl) (zaj (k:=0) ztm rfl dc rfl rfl rfl (zdu (k:=1) rfl dc rfl rfl underlying125 ?_))))
     refine zbA (v:=.agg #[zI ((p21.i:Int)+1),zI 0,zI 0,zI ((m10++[(⟨(p21.i:Int),p17,p18,p19,p20⟩:zaU)]).length:Int)]) (ps:=[(0,.tmp 112),(2,.tmp 117)]) rfl dc rfl (fun _=>by kernel_rfl) ?_
     refine zaZ (k:=4) (vs:=[zI ((p21.i:Int)+1),zI 0,zI 0,zI ((m10++[(⟨(p21.i:Int),p17,p18,p19,p20⟩:zaU)]).length:Int)]) (l':=[zI ((p21.i:Int)+1),zI 0,zI 0,zI ((m10++[(⟨(p21.i:Int),p17,p18,p19,p20⟩:zaU)]).length:Int)]) znD rfl rfl rfl rfl rfl (show _≤_ by simp) rfl rfl ?_
     refine zyH (zaa zrG rfl dc rfl (show _=3 from rfl) (zaj (k:=3) zbW rfl dc rfl rfl rfl ?_))
     obtain ⟨hg15,h⟩:=zbQ h
     refine zaS rfl (zbb (r:=p19+1) (IntWalk.i64_in _ hg15)) (zaa zrG rfl dc rfl (show _=3 from rfl) ?_)
     refine zaT (k:=3) (l':=[zI (p21.i:Int),zI (p17+1),zI p22,zI (p19+1),zI (p20+1)]) zeI rfl rfl rfl rfl rfl (fun _ _=>rfl) rfl ?_
     refine zyN (zas (zaa zoI rfl dc rfl (show _=4 from rfl) ?_))
     refine zaT (k:=3) (l':=[zI (p21.i:Int),zI (p17+1),zI p22,zI (p19+1),zI 0]) zeI rfl rfl rfl rfl rfl (fun _ _=>rfl) rfl ?_
     refine zaP (zae ?_)
     subst hag1
     exact zbr (n1,m10++[(⟨(p21.i:Int),p17,p18,p19,p20⟩:zaU)],m11++[(⟨line7,((p21.i:Int)+1) - width1,width1,line8⟩:za6)],(p21.i:Int),p17+1,p22,p19+1,0,(p21.i:Int)+1,((m10++[(⟨(p21.i:Int),p17,p18,p19,p20⟩:zaU)]).length:Int),m12+1,hd10,hd12) h (Nat.lt_succ_self _) rfl (zbf rfl) (zab [0,1,2,3,4,5] kr rfl)
    have h:=zgU hb2 h
    refine zeF (k:=5) (m:=m12) rfl dc rfl rfl (Nat.le_of_not_lt (of_decide_eq_false hb2)) (zaN rfl dc rfl rfl (zyN (zaE (zaM rfl (zbu (zaq (zaq (zaJ ?_))))))))
    exact zak (m10,m11,p16,p17,p18,p19,p20,line7,line8,b4,hd8,hd9,b5,b6) h rfl (zbf rfl) (zab [0,1,2,3,4] kr rfl)
  rintro ⟨m1,m2,p1,p2,p3,p4,p5,line1,line2,b1,hd1,hd2,b2,b3⟩ h
  rw [hj1] at h
  refine zyG (zyR 1 rfl (zbC rfl dc rfl underlying9 (zaa zrI rfl dc rfl (show _=0 from rfl) ?_)))
  refine zaT (k:=3) (l':=[zI (s1.size:Int),zI p2,zI p3,zI p4,zI p5]) zeI rfl rfl rfl rfl rfl (fun _ _=>rfl) rfl ?_
  refine zyN (zaE ?_)
  obtain ⟨hg16,h⟩:=zbQ h
  refine zgG 1 ?_
  refine let vals3:(Nat×Hd)→List (Nat×Nat×Value):=fun b=>[(0,127,zP b1),(1,128,zP b1),(2,129,zP b1),(3,130,.pointer (some ⟨b1,1,none⟩)),(4,131,hd1.v),(5,132,.agg #[zI (s1.size:Int),zI p2,zI p3,zI p4,zI p5]),(6,133,.slice (some ⟨b.1,0,none⟩) 1 1),(7,134,b.2.v)]; let LL3:(Nat→Prop)→(Nat×Hd)→List Asn:=fun D b=>[cells b1 [.string s1,hd1.v,hd2.v] 128,eD D (zv5 hd1.v m1) [(7,zv5 b.2.v (m1++[(⟨(s1.size:Int),p2,p3,p4,p5⟩:zaU)]))],zv4 hd2.v m2,cells b2 [zI (s1.size:Int),zI p2,zI p3,zI p4,zI p5] 130,cells b3 [zI line1,zI 0,zI 0,zI line2] 132,eD D emp [(6,cells b.1 [zI (s1.size:Int),zI p2,zI p3,zI p4,zI p5] 130)]]; ?_
  refine zeb (β:=Nat×Hd) 8 ((0:Nat),Hd.nil) vals3 LL3 mixed kr kr dc (fun _=>rfl) (zac rfl (zac zci (zcK (zac zci rfl)))) (zaF ?_ (zaF ?_ (zaF ?_ (zaF ?_ (zaF ?_ (zaF ?_ (zaF ?_ (zaF ?_ DrawG.nil)))))))) ?_
  ·
   intro D b hn hd hcl
   obtain ⟨b10,hd13⟩:=b
   refine zaY (zwK rfl) (zgq rfl dc (zbd (by rfl) rfl) ?_)
   exact za4 (b:=(b10,hd13)) (b10,hd13) 0 (by rfl) (by rfl) rfl (zks rfl) (zac rfl (zac (zav (by rfl)) (zcK (zac (zav (by rfl)) rfl))))
  ·
   intro D b hn hd hcl
   obtain ⟨b10,hd13⟩:=b
   refine zaY (zac rfl (zac (zah (fun hD=>hn (hcl 2 _ rfl (hcl 3 _ rfl (hcl 4 _ rfl (hcl 7 _ rfl hD 4 dc) 3 dc) 2 dc) 1 dc)) zat) (zfu rfl))) ?_
   refine zgq rfl dc (zbd (by rfl) rfl) ?_
   exact za4 (b:=(b10,hd13)) (b10,hd13) 1 (by rfl) (by rfl) rfl (zks rfl) (zac rfl (zac ((zav (by rfl)).trans (zah (fun hD=>hn (hcl 2 _ rfl (hcl 3 _ rfl (hcl 4 _ rfl (hcl 7 _ rfl hD 4 dc) 3 dc) 2 dc) 1 dc)) zat)) (zcK (zac (zav (by rfl)) rfl))))
  ·
   intro D b hn hd hcl
   obtain ⟨b10,hd13⟩:=b
   refine zaY (zac rfl (zac (zah (fun hD=>hn (hcl 3 _ rfl (hcl 4 _ rfl (hcl 7 _ rfl hD 4 dc) 3 dc) 2 dc)) zat) (zfu rfl))) ?_
   refine zai rfl dc (zaI (m:=1) rfl rfl (hd 1 dc)) ?_
   exact za4 (b:=(b10,hd13)) (b10,hd13) 2 (by rfl) (by rfl) rfl (zks rfl) (zac rfl (zac ((zav (by rfl)).trans (zah (fun hD=>hn (hcl 3 _ rfl (hcl 4 _ rfl (hcl 7 _ rfl hD 4 dc) 3 dc) 2 dc)) zat)) (zcK (zac (zav (by rfl)) rfl))))
  ·
   intro D b hn hd hcl
   obtain ⟨b10,hd13⟩:=b
   refine zaY (zac rfl (zac (zah (fun hD=>hn (hcl 4 _ rfl (hcl 7 _ rfl hD 4 dc) 3 dc)) zat) (zfu rfl))) ?_
   refine zaa zj6 rfl dc (zaI (m:=2) rfl rfl (hd 2 dc)) (show _=1 from rfl) ?_
   exact za4 (b:=(b10,hd13)) (b10,hd13) 3 (by rfl) (by rfl) rfl (zks rfl) (zac rfl (zac ((zav (by rfl)).trans (zah (fun hD=>hn (hcl 4 _ rfl (hcl 7 _ rfl hD 4 dc) 3 dc)) zat)) (zcK (zac (zav (by rfl)) rfl))))
  ·
   intro D b hn hd hcl
   obtain ⟨b10,hd13⟩:=b
   refine zaY (zac rfl (zac (zah (fun hD=>hn (hcl 7 _ rfl hD 4 dc)) zat) (zfu rfl))) ?_
   refine zaj (k:=0) ztm rfl dc (zaI (m:=3) rfl rfl (hd 3 dc)) rfl rfl ?_
   exact za4 (b:=(b10,hd13)) (b10,hd13) 4 (by rfl) (by rfl) rfl (zks rfl) (zac rfl (zac ((zav (by rfl)).trans (zah (fun hD=>hn (hcl 7 _ rfl hD 4 dc)) zat)) (zcK (zac (zav (by rfl)) rfl))))
  ·
   intro D b hn hd hcl
   obtain ⟨b10,hd13⟩:=b
   refine zaY (zac rfl (zac (zah (fun hD=>hn (hcl 6 _ rfl (hcl 7 _ rfl hD 6 dc) 5 dc)) zat) (zcK (zac (zah (fun hD=>hn (hcl 6 _ rfl hD 5 dc)) zat) rfl)))) ?_
   refine zaV (k:=3) (cs:=[zI (s1.size:Int),zI p2,zI p3,zI p4,zI p5]) zwi rfl dc (zbd (by rfl) rfl) rfl rfl rfl ?_
   exact za4 (b:=(b10,hd13)) (b10,hd13) 5 (by rfl) (by rfl) rfl (zks rfl) (zac rfl (zac ((zav (by rfl)).trans (zah (fun hD=>hn (hcl 6 _ rfl (hcl 7 _ rfl hD 6 dc) 5 dc)) zat)) (zcK (zac ((zav (by rfl)).trans (zah (fun hD=>hn (hcl 6 _ rfl hD 5 dc)) zat)) rfl))))
  ·
   intro D b hn hd hcl
   obtain ⟨zb0,hd13⟩:=b
   refine zaY (zac rfl (zac (zah (fun hD=>hn (hcl 7 _ rfl hD 6 dc)) zat) (zcK (zac (zah hn zat) rfl)))) ?_
   refine zbc (cs:=[zI (s1.size:Int),zI p2,zI p3,zI p4,zI p5]) (te:=130) (ps:=[(0,.tmp 132)]) rfl dc (evP.cons (zaI (m:=5) rfl rfl (hd 5 dc)) evP.nil) (fun _=>by kernel_rfl) (fun b10 => ?_)
   refine zdg 5 rfl rfl ?_
   exact za4 (b:=(zb0,hd13)) (b10,hd13) 6 (by rfl) (by rfl) rfl (zvM (zaz (fun hD=>absurd hD hn) (zaz (fun _=>rfl) rfl))) (zac rfl (zac ((zav (by rfl)).trans (zah (fun hD=>hn (hcl 7 _ rfl hD 6 dc)) zat)) (zcK (zac (zaW (Or.inr rfl) rfl) rfl))))
  ·
   intro D b hn hd hcl
   obtain ⟨b10,zb1⟩:=b
   refine zaY (zac rfl (zac (zah hn zat) (zcK (zac (zaW (hd 6 dc) rfl) rfl)))) ?_
   refine zbx (k:=1) (k2:=5) (ys:=[(⟨(s1.size:Int),p2,p3,p4,p5⟩:zaU)]) underlying125 zwC zht zhs rfl dc (zaI (m:=4) rfl rfl (hd 4 dc)) (zaI (m:=6) rfl rfl (hd 6 dc)) rfl rfl rfl rfl hg16 (fun v3 => ?_)
   refine zbJ (k:=1) rfl (fun hd13 he3 => ?_)
   subst he3
   exact za4 (b:=(b10,zb1)) (b10,hd13) 7 (by rfl) (by rfl) rfl (zls (zaz (fun hD=>absurd hD hn) rfl)) (zac rfl (zac (zaW (Or.inr rfl) rfl) (zcK (zac ((zav (by rfl)).trans (zaW (hd 6 dc) rfl)) rfl))))
  intro D b hall
  obtain ⟨b10,hd13⟩:=b
  refine zaY (zac rfl (zac (zaW (hall 7 dc) rfl) (zcK (zac (zaW (hall 6 dc) rfl) rfl)))) (zai rfl dc rfl (zaa zj6 rfl dc rfl (show _=1 from rfl) ?_))
  refine zaT (k:=0) (l':=[.string s1,hd13.v,hd2.v]) zvZ rfl rfl rfl rfl rfl (fun _ _=>rfl) rfl ?_
  refine zyH (zyR 1 rfl (zbC rfl dc rfl underlying9 (zaa zlV rfl dc rfl (show _=0 from rfl) (zaa zdK rfl dc rfl (show _=1 from rfl) ?_))))
  refine zaT (k:=4) (l':=[zI line1,zI (s1.size:Int),zI 0,zI line2]) zeI rfl rfl rfl rfl rfl (fun _ _=>rfl) rfl ?_
  refine zyN (zaE ?_)
  obtain ⟨hg17,h⟩:=zbQ h
  refine zgG 1 ?_
  refine let vals4:(Nat×Hd)→List (Nat×Nat×Value):=fun b=>[(0,141,zP b1),(1,142,zP b1),(2,143,zP b1),(3,144,.pointer (some ⟨b1,2,none⟩)),(4,145,hd2.v),(5,146,.agg #[zI line1,zI (s1.size:Int),zI 0,zI line2]),(6,147,.slice (some ⟨b.1,0,none⟩) 1 1),(7,148,b.2.v)]; let LL4:(Nat→Prop)→(Nat×Hd)→List Asn:=fun D b=>[cells b1 [.string s1,hd13.v,hd2.v] 128,zv5 hd13.v (m1++[(⟨(s1.size:Int),p2,p3,p4,p5⟩:zaU)]),eD D (zv4 hd2.v m2) [(7,zv4 b.2.v (m2++[(⟨line1,(s1.size:Int),0,line2⟩:za6)]))],cells b2 [zI (s1.size:Int),zI p2,zI p3,zI p4,zI p5] 130,cells b3 [zI line1,zI (s1.size:Int),zI 0,zI line2] 132,cells b10 [zI (s1.size:Int),zI p2,zI p3,zI p4,zI p5] 130,eD D emp [(6,cells b.1 [zI line1,zI (s1.size:Int),zI 0,zI line2] 132)]]; ?_
  refine zeb (β:=Nat×Hd) 8 ((0:Nat),Hd.nil) vals4 LL4 mixed kr kr dc (fun _=>rfl) (zez (zac zci (zcK (zac zci rfl)))) (zaF ?_ (zaF ?_ (zaF ?_ (zaF ?_ (zaF ?_ (zaF ?_ (zaF ?_ (zaF ?_ DrawG.nil)))))))) ?_
  ·
   intro D b hn hd hcl
   obtain ⟨b11,hd14⟩:=b
   refine zaY (zp3 rfl) (zgq rfl dc (zbd (by rfl) rfl) ?_)
   exact za4 (b:=(b11,hd14)) (b11,hd14) 0 (by rfl) (by rfl) rfl (zks rfl) (zez (zac (zav (by rfl)) (zcK (zac (zav (by rfl)) rfl))))
  ·
   intro D b hn hd hcl
   obtain ⟨b11,hd14⟩:=b
   refine zaY (zez (zac (zah (fun hD=>hn (hcl 2 _ rfl (hcl 3 _ rfl (hcl 4 _ rfl (hcl 7 _ rfl hD 4 dc) 3 dc) 2 dc) 1 dc)) zat) (zfu rfl))) ?_
   refine zgq rfl dc (zbd (by rfl) rfl) ?_
   exact za4 (b:=(b11,hd14)) (b11,hd14) 1 (by rfl) (by rfl) rfl (zks rfl) (zez (zac ((zav (by rfl)).trans (zah (fun hD=>hn (hcl 2 _ rfl (hcl 3 _ rfl (hcl 4 _ rfl (hcl 7 _ rfl hD 4 dc) 3 dc) 2 dc) 1 dc)) zat)) (zcK (zac (zav (by rfl)) rfl))))
  ·
   intro D b hn hd hcl
   obtain ⟨b11,hd14⟩:=b
   refine zaY (zez (zac (zah (fun hD=>hn (hcl 3 _ rfl (hcl 4 _ rfl (hcl 7 _ rfl hD 4 dc) 3 dc) 2 dc)) zat) (zfu rfl))) ?_
   refine zai rfl dc (zaI (m:=1) rfl rfl (hd 1 dc)) ?_
   exact za4 (b:=(b11,hd14)) (b11,hd14) 2 (by rfl) (by rfl) rfl (zks rfl) (zez (zac ((zav (by rfl)).trans (zah (fun hD=>hn (hcl 3 _ rfl (hcl 4 _ rfl (hcl 7 _ rfl hD 4 dc) 3 dc) 2 dc)) zat)) (zcK (zac (zav (by rfl)) rfl))))
  ·
   intro D b hn hd hcl
   obtain ⟨b11,hd14⟩:=b
   refine zaY (zez (zac (zah (fun hD=>hn (hcl 4 _ rfl (hcl 7 _ rfl hD 4 dc) 3 dc)) zat) (zfu rfl))) ?_
   refine zaa zgu rfl dc (zaI (m:=2) rfl rfl (hd 2 dc)) (show _=2 from rfl) ?_
   exact za4 (b:=(b11,hd14)) (b11,hd14) 3 (by rfl) (by rfl) rfl (zks rfl) (zez (zac ((zav (by rfl)).trans (zah (fun hD=>hn (hcl 4 _ rfl (hcl 7 _ rfl hD 4 dc) 3 dc)) zat)) (zcK (zac (zav (by rfl)) rfl))))
  ·
   intro D b hn hd hcl
   obtain ⟨b11,hd14⟩:=b
   refine zaY (zez (zac (zah (fun hD=>hn (hcl 7 _ rfl hD 4 dc)) zat) (zfu rfl))) ?_
   refine zaj (k:=0) zld rfl dc (zaI (m:=3) rfl rfl (hd 3 dc)) rfl rfl ?_
   exact za4 (b:=(b11,hd14)) (b11,hd14) 4 (by rfl) (by rfl) rfl (zks rfl) (zez (zac ((zav (by rfl)).trans (zah (fun hD=>hn (hcl 7 _ rfl hD 4 dc)) zat)) (zcK (zac (zav (by rfl)) rfl))))
  ·
   intro D b hn hd hcl
   obtain ⟨b11,hd14⟩:=b
   refine zaY (zez (zac (zah (fun hD=>hn (hcl 6 _ rfl (hcl 7 _ rfl hD 6 dc) 5 dc)) zat) (zcK (zac (zah (fun hD=>hn (hcl 6 _ rfl hD 5 dc)) zat) rfl)))) ?_
   refine zaV (k:=4) (cs:=[zI line1,zI (s1.size:Int),zI 0,zI line2]) zwh rfl dc (zbd (by rfl) rfl) rfl rfl rfl ?_
   exact za4 (b:=(b11,hd14)) (b11,hd14) 5 (by rfl) (by rfl) rfl (zks rfl) (zez (zac ((zav (by rfl)).trans (zah (fun hD=>hn (hcl 6 _ rfl (hcl 7 _ rfl hD 6 dc) 5 dc)) zat)) (zcK (zac ((zav (by rfl)).trans (zah (fun hD=>hn (hcl 6 _ rfl hD 5 dc)) zat)) rfl))))
  ·
   intro D b hn hd hcl
   obtain ⟨zb0,hd14⟩:=b
   refine zaY (zez (zac (zah (fun hD=>hn (hcl 7 _ rfl hD 6 dc)) zat) (zcK (zac (zah hn zat) rfl)))) ?_
   refine zbc (cs:=[zI line1,zI (s1.size:Int),zI 0,zI line2]) (te:=132) (ps:=[(0,.tmp 146)]) rfl dc (evP.cons (zaI (m:=5) rfl rfl (hd 5 dc)) evP.nil) (fun _=>by kernel_rfl) (fun b11 => ?_)
   refine zdg 6 rfl rfl ?_
   exact za4 (b:=(zb0,hd14)) (b11,hd14) 6 (by rfl) (by rfl) rfl (zvM (zaz (fun hD=>absurd hD hn) (zaz (fun _=>rfl) rfl))) (zez (zac ((zav (by rfl)).trans (zah (fun hD=>hn (hcl 7 _ rfl hD 6 dc)) zat)) (zcK (zac (zaW (Or.inr rfl) rfl) rfl))))
  ·
   intro D b hn hd hcl
   obtain ⟨b11,zb1⟩:=b
   refine zaY (zez (zac (zah hn zat) (zcK (zac (zaW (hd 6 dc) rfl) rfl)))) ?_
   refine zbx (k:=2) (k2:=6) (ys:=[(⟨line1,(s1.size:Int),0,line2⟩:za6)]) underlying126 zwB zdo zgO rfl dc (zaI (m:=4) rfl rfl (hd 4 dc)) (zaI (m:=6) rfl rfl (hd 6 dc)) rfl rfl rfl rfl hg17 (fun v4 => ?_)
   refine zbJ (k:=2) rfl (fun hd14 he4 => ?_)
   subst he4
   exact za4 (b:=(b11,zb1)) (b11,hd14) 7 (by rfl) (by rfl) rfl (zls (zaz (fun hD=>absurd hD hn) rfl)) (zez (zac (zaW (Or.inr rfl) rfl) (zcK (zac ((zav (by rfl)).trans (zaW (hd 6 dc) rfl)) rfl))))
  intro D b hall
  obtain ⟨b11,hd14⟩:=b
  refine zaY (zez (zac (zaW (hall 7 dc) rfl) (zcK (zac (zaW (hall 6 dc) rfl) rfl)))) (zai rfl dc rfl (zaa zgu rfl dc rfl (show _=2 from rfl) ?_))
  refine zaT (k:=0) (l':=[.string s1,hd13.v,hd14.v]) zvY rfl rfl rfl rfl rfl (fun _ _=>rfl) rfl ?_
  refine zyH (zyR 3 rfl (zyN (zau (zcy (by simp) ?_))))
  refine zqX (As:=[cells b1 [.string s1,hd13.v,hd14.v] 128,zv5 hd13.v (m1++[(⟨(s1.size:Int),p2,p3,p4,p5⟩:zaU)]),zv4 hd14.v (m2++[(⟨line1,(s1.size:Int),0,line2⟩:za6)])]) (zab [0,1,2] kr rfl) (zk9 (enc:=zfe) (nest:=zfa) (t:=128) (x:=(⟨s1,m1++[(⟨(s1.size:Int),p2,p3,p4,p5⟩:zaU)],m2++[(⟨line1,(s1.size:Int),0,line2⟩:za6)]⟩:zbR)) (b:=b1) (hd:=(hd13,hd14))) (fun _ _ => ?_)
  cases h
  exact zbt (rs:=[.tmp 2,.tmp 3]) (zP b1) (.inl rfl) results21 (.cons (.tmp rfl) (.cons (.tmp rfl) .nil)) rfl (zab [7] kr rfl)
 exact fun b hb=>hb.elim
def zgl (m1:zbR):Option Int := some (m1.lines.length:Int)
theorem zjT {bm1:Nat} {m1:zbR} {m1_h0 m1_h1:Hd} {r:Int} (h:zgl m1=some r):FnR prog 22 [zP bm1] [cells bm1 [.string m1.text,m1_h0.v,m1_h1.v] 128,zv5 m1_h0.v m1.places,zv4 m1_h1.v m1.lines] [] (fun _:Unit=>(zI r)) (fun _=>[]):=by
 unfold zgl at h
 refine FnR.intro func22 rfl ntmps22 (by simp) ?_
 intro w0 K hrd
 refine zyG (zyR 1 rfl (zyN (zaE (zyG (zyR 1 rfl (zaS rfl (zcq underlying68) (zyN (zaM rfl (zal ?_)))))))))
 refine zay (zyG (zyR 1 rfl (zai rfl dc rfl (zaa zgu rfl dc rfl (show _=2 from rfl) (zbs (i:=0) hrd rfl zld rfl dc rfl rfl (zcO (hrd.vw (i:=2) rfl) rfl dc rfl underlying126 (zyR 1 rfl (zyN (zau ?_)))))))))
 cases h
 exact za2 2 results22
def zeT (m1:zbR) (line1:Int):Option (Gapi_Span×Int×Int) := zaB (decide ((line1:Int)<0)) ( some ((⟨0,0⟩:Gapi_Span),0,5)
) ( zaB (decide (((m1.lines.length:Int):Int)≤line1)) ( some ((⟨0,0⟩:Gapi_Span),0,5)
) ( zan (zdf m1.lines line1) fun (q1:za6) => some ((⟨q1.span_From,q1.span_To⟩:Gapi_Span),q1.end_,0)
)
)
theorem zkG {bm1:Nat} {m1:zbR} {m1_h0 m1_h1:Hd} {line1:Int} {r:(Gapi_Span×Int×Int)} (h:zeT m1 line1=some r):FnR prog 23 [zP bm1,zI line1] [cells bm1 [.string m1.text,m1_h0.v,m1_h1.v] 128,zv5 m1_h0.v m1.places,zv4 m1_h1.v m1.lines] [] (fun _:Unit=>(.tuple #[.agg (zr7 r.1).toArray,zI r.2.1,zI r.2.2])) (fun _=>[]):=by
 unfold zeT at h
 refine FnR.intro func23 rfl ntmps23 (by simp) ?_
 intro w0 K hrd
 refine zyG ?_
 refine zbh zwO rfl dc (fun b1 => ?_)
 refine zyR 2 rfl (zyN (zaE (zyG (zyR 1 rfl (zaS rfl (zcq underlying68) (zyN (zaM rfl (zal (zay ?_)))))))))
 refine zaE (zyG (zyR 1 rfl (zaS rfl zbF (zyR 1 rfl ?_))))
 refine zyS (s:=12) rfl h (fun h => ?_) (fun h => ?_)
 ·
  refine zyR 8 rfl (zyN (zba rfl (zyG ?_)))
  refine zbA (v:=.agg #[zI 0,zI 0]) (ps:=[]) rfl dc rfl (fun _=>by kernel_rfl) ?_
  refine zaZ (k:=0) (vs:=[zI 0,zI 0]) (l':=[zI 0,zI 0]) zsf rfl rfl rfl rfl rfl (show _≤_ by simp) rfl rfl ?_
  refine zyR 2 rfl (zyN (zau (zaf ?_)))
  cases h
  exact zbt (rs:=[.cell 4 48,.tmp 5,.tmp 6]) () (.inl rfl) results23 (.cons (.cells zne (k:=0) rfl rfl rfl) (.cons (.tmp rfl) (.cons (.tmp rfl) .nil))) rfl Splits.nil
 refine zyR 2 rfl (zai rfl dc rfl (zaa zgu rfl dc rfl (show _=2 from rfl) (zbs (i:=0) hrd rfl zld rfl dc rfl rfl (zcO (hrd.vw (i:=2) rfl) rfl dc rfl underlying126 (zaS rfl zbG (zyR 1 rfl (zyN ?_)))))))
 refine zyB rfl h (fun h => ?_) (fun h => ?_)
 ·
  refine zyG ?_
  refine zbA (v:=.agg #[zI 0,zI 0]) (ps:=[]) rfl dc rfl (fun _=>by kernel_rfl) ?_
  refine zaZ (k:=0) (vs:=[zI 0,zI 0]) (l':=[zI 0,zI 0]) zsf rfl rfl rfl rfl rfl (show _≤_ by simp) rfl rfl ?_
  refine zyR 2 rfl (zyN (zau (zaf ?_)))
  cases h
  exact zbt (rs:=[.cell 4 48,.tmp 5,.tmp 6]) () (.inl rfl) results23 (.cons (.cells zne (k:=0) rfl rfl rfl) (.cons (.tmp rfl) (.cons (.tmp rfl) .nil))) rfl Splits.nil
 refine zal (zay (zaE ?_))
 obtain ⟨q1,hq1,h⟩:=zbL h
 refine zgB (β:=Unit) 17 16 _ [(0,22,zP bm1),(1,23,zP bm1),(2,24,.pointer (some ⟨bm1,2,none⟩)),(3,25,m1_h1.v),(4,26,zI line1),(5,27,.pointer (some ⟨zdz m1_h1.v,(0+(line1:Int).toNat)*4,none⟩)),(6,28,.pointer (some ⟨zdz m1_h1.v,(0+(line1:Int).toNat)*4,none⟩)),(7,29,.agg #[zI q1.span_From,zI q1.span_To]),(8,30,zP bm1),(9,31,zP bm1),(10,32,.pointer (some ⟨bm1,2,none⟩)),(11,33,m1_h1.v),(12,34,zI line1),(13,35,.pointer (some ⟨zdz m1_h1.v,(0+(line1:Int).toNat)*4,none⟩)),(14,36,.pointer (some ⟨zdz m1_h1.v,(0+(line1:Int).toNat)*4+2,none⟩)),(15,37,zI q1.end_)] (fun _b=>[]) (fun _b=>[cells b1 [zI q1.span_From,zI q1.span_To] 48]) mixed kr kr rfl dc dc (by rfl) kr kr (zyE 1 0 rfl (zao ?_ (zao ?_ (zao ?_ (zyE 1 4 rfl (zao ?_ (zao ?_ (zao ?_ (zyE 1 8 rfl (zao ?_ (zao ?_ (zao ?_ (zyE 1 12 rfl (zao ?_ (zao ?_ (zao ?_ (zbU DrawPreX.nil))))))))))))))))) (fun _b=>(zyE 1 0 rfl (zao ?_ (zao ?_ (zao ?_ (zyE 1 4 rfl (zao ?_ (zao ?_ (zao ?_ (zyE 1 8 rfl (zao ?_ (zao ?_ (zao ?_ (zyE 1 12 rfl (zao ?_ (zao ?_ (zao ?_ (zbU DrawPreX.nil)))))))))))))))))) ?_ ?_
 · exact fun D n d c u i=>zai rfl dc (zam 0 u d) (zar 1 u i)
 · exact fun D n d c u i=>zaa zgu rfl dc (zam 1 u d) (show _=2 from rfl) (zar 2 u i)
 · exact fun D n d c u i=>zbs (i:=0) hrd rfl zld rfl dc (zam 2 u d) rfl (zar 3 u i)
 · exact fun D n d c u i=>zbv (hrd.vw (i:=2) rfl) hq1 underlying126 znD rfl dc (zam 3 u d) (zam 4 u d) rfl (zar 5 u i)
 · exact fun D n d c u i=>zaa zlV rfl dc (zam 5 u d) (show _=(0+(line1:Int).toNat)*4 from rfl) (zar 6 u i)
 · exact fun D n d c u i=>zdT (m:=0+(line1:Int).toNat) (j:=0) (i:=2) (q:=q1) (cs:=[zI q1.span_From,zI q1.span_To]) hrd rfl zne zdo rfl dc (zam 6 u d) (Vw.get (hrd.vw (i:=2) rfl) hq1) rfl rfl rfl (zar 7 u i)
 · exact fun D n d c u i=>zai rfl dc (zam 8 u d) (zar 9 u i)
 · exact fun D n d c u i=>zaa zgu rfl dc (zam 9 u d) (show _=2 from rfl) (zar 10 u i)
 · exact fun D n d c u i=>zbs (i:=0) hrd rfl zld rfl dc (zam 10 u d) rfl (zar 11 u i)
 · exact fun D n d c u i=>zbv (hrd.vw (i:=2) rfl) hq1 underlying126 znD rfl dc (zam 11 u d) (zam 12 u d) rfl (zar 13 u i)
 · exact fun D n d c u i=>zaa zoH rfl dc (zam 13 u d) (show _=(0+(line1:Int).toNat)*4+2 from rfl) (zar 14 u i)
 · exact fun D n d c u i=>zde (n:=0+(line1:Int).toNat) (j:=2) (i:=2) (q:=q1) hrd rfl zbW zdo rfl dc (zam 14 u d) (Vw.get (hrd.vw (i:=2) rfl) hq1) rfl dc rfl (zar 15 u i)
 · exact fun D n d c u i=>zai rfl dc (zam 0 u d) (zar 1 u i)
 · exact fun D n d c u i=>zaa zgu rfl dc (zam 1 u d) (show _=2 from rfl) (zar 2 u i)
 · exact fun D n d c u i=>zbs (i:=0) hrd rfl zld rfl dc (zam 2 u d) rfl (zar 3 u i)
 · exact fun D n d c u i=>zbv (hrd.vw (i:=2) rfl) hq1 underlying126 znD rfl dc (zam 3 u d) (zam 4 u d) rfl (zar 5 u i)
 · exact fun D n d c u i=>zaa zlV rfl dc (zam 5 u d) (show _=(0+(line1:Int).toNat)*4 from rfl) (zar 6 u i)
 · exact fun D n d c u i=>zdT (m:=0+(line1:Int).toNat) (j:=0) (i:=2) (q:=q1) (cs:=[zI q1.span_From,zI q1.span_To]) hrd rfl zne zdo rfl dc (zam 6 u d) (Vw.get (hrd.vw (i:=2) rfl) hq1) rfl rfl rfl (zar 7 u i)
 · exact fun D n d c u i=>zai rfl dc (zam 8 u d) (zar 9 u i)
 · exact fun D n d c u i=>zaa zgu rfl dc (zam 9 u d) (show _=2 from rfl) (zar 10 u i)
 · exact fun D n d c u i=>zbs (i:=0) hrd rfl zld rfl dc (zam 10 u d) rfl (zar 11 u i)
 · exact fun D n d c u i=>zbv (hrd.vw (i:=2) rfl) hq1 underlying126 znD rfl dc (zam 11 u d) (zam 12 u d) rfl (zar 13 u i)
 · exact fun D n d c u i=>zaa zoH rfl dc (zam 13 u d) (show _=(0+(line1:Int).toNat)*4+2 from rfl) (zar 14 u i)
 · exact fun D n d c u i=>zde (n:=0+(line1:Int).toNat) (j:=2) (i:=2) (q:=q1) hrd rfl zbW zdo rfl dc (zam 14 u d) (Vw.get (hrd.vw (i:=2) rfl) hq1) rfl dc rfl (zar 15 u i)
 ·
  intro D hn hd hcl
  refine zaZ (k:=0) (vs:=[zI q1.span_From,zI q1.span_To]) (l':=[zI q1.span_From,zI q1.span_To]) zsf rfl (zbd (by rfl) rfl) (zaI (m:=7) kr rfl (hd 7 dc)) rfl rfl (show _≤_ by simp) rfl rfl ?_
  exact fun a w ha hw=>⟨(),ha,hw⟩
 intro _b
 refine zyR 2 rfl (zyN (zau ?_))
 cases h
 exact zbt (rs:=[.cell 4 48,.tmp 5,.tmp 6]) () (.inl rfl) results23 (.cons (.cells zne (k:=0) rfl rfl rfl) (.cons (.tmp rfl) (.cons (.tmp rfl) .nil))) rfl Splits.nil
theorem zrS (s:zBA):s.data.toList.length=s.size:=by rw [Array.length_toList]; rfl
theorem zmC {s:zBA} {i:Nat} {b:UInt8} {t:List UInt8} (h:s.data.toList.drop i=b::t):zkK s (i:Int)=some (b.toNat:Int)∧i<s.size:=by
 have hl:i<s.data.toList.length:=by
  rcases Nat.lt_or_ge i s.data.toList.length with h1 | h1
  ·exact h1
  ·rw [List.drop_eq_nil_of_le h1] at h; cases h
 have hs:i<s.size:=by rw [← zrS]; exact hl
 refine ⟨?_,hs⟩
 rw [zqx rfl hs]
 rw [List.drop_eq_getElem_cons hl] at h
 have h2:=(List.cons.inj h).1
 rw [Array.getElem_toList] at h2
 rw [← h2]; rfl
theorem zh1 {s:zBA} {i:Nat} (h:s.data.toList.drop i=[]) (hi:i≤s.size):i=s.size:=by
 rw [List.drop_eq_nil_iff,zrS] at h; omega
theorem zki {l:List UInt8} {i:Nat} {b:UInt8} {t:List UInt8} (h:l.drop i=b::t):l.drop (i+1)=t:=by
 rw [← List.drop_drop,h]; rfl
theorem n13 (b:UInt8):((b.toNat:Int)==13)=decide (b=13):=by
 by_cases h:b=13
 ·subst h; rfl
 ·rw [decide_eq_false h]; exact beq_eq_false_iff_ne.2 (fun e=>h (UInt8.toNat.inj (by show b.toNat=13; omega)))
theorem n10 (b:UInt8):((b.toNat:Int)==10)=decide (b=10):=by
 by_cases h:b=10
 ·subst h; rfl
 ·rw [decide_eq_false h]; exact beq_eq_false_iff_ne.2 (fun e=>h (UInt8.toNat.inj (by show b.toNat=10; omega)))
def spP:Bool→Nat→Nat→List UInt8→List (Nat×Nat)
 | _,f,a,[]=>[(f,a)]
 | p,f,a,b::t =>
  if b=13 then (if t.head?=some 10 then spP true f (a+1) t else (f,a)::spP true (a+1) (a+1) t)
  else if b=10 then (f,if p then a - 1 else a)::spP false (a+1) (a+1) t
  else spP false f (a+1) t
def zfM (l:List UInt8):List (Nat×Nat):=spP false 0 0 l
def mkS (x:Nat×Nat):Gapi_Span:=⟨x.1,x.2⟩
theorem zpM {b:UInt8} {t:List UInt8} (hb:128≤b.toNat):128≤(decodeL (b::t)).1∧∀ x∈(b::t).take (decodeL (b::t)).2,128≤x.toNat:=by
 have hd:=zuj (b::t) (by simp)
 generalize (decodeL (b::t)).1=r at hd ⊢
 generalize (decodeL (b::t)).2=w at hd ⊢
 obtain ⟨w,rfl⟩:∃ v,w=v+1:=⟨w - 1,by have:=hd.pos; omega⟩
 by_cases hbr:r=65533∧w+1=1
 ·obtain ⟨rfl,hw⟩:=hbr
  obtain rfl:w=0:=by omega
  refine ⟨by omega,fun x hx => ?_⟩
  simp at hx; subst hx; omega
 ·have he:=hd.bytes hbr
  have hr:128≤r:=by
   rcases Nat.lt_or_ge r 128 with h1 | h1
   ·rw [zt8 r h1,List.take_succ_cons] at he
    have h2:r.toUInt8=b:=(List.cons.inj he).1
    have h3:b.toNat=r:=by rw [← h2]; simp; omega
    omega
   ·exact h1
  refine ⟨hr,?_⟩
  rw [← he]
  exact (zoL r hd.valid hr).2.2
def spE (e:za6):Gapi_Span:=⟨e.span_From,e.span_To⟩
def pv (l:List UInt8) (i:Nat):Bool:=decide (0<i)&&l.getD (i - 1) 0==13
theorem ztZ {l:List UInt8} {i:Nat} {b:UInt8} {t:List UInt8} (h:l.drop i=b::t):l.getD i 0=b:=by
 have h2:(l.drop i)[0]?=some b:=by rw [h]; rfl
 rw [List.getElem?_drop] at h2
 rw [List.getD_eq_getElem?_getD,show i=i+0 from rfl,h2]; rfl
theorem ztv {l:List UInt8} {i:Nat} {b:UInt8} {t:List UInt8} (h:l.drop i=b::t):pv l (i+1)=(b==13):=by
 unfold pv
 rw [Nat.add_sub_cancel,ztZ h,decide_eq_true (by omega),Bool.true_and]
theorem zw8 {l:List UInt8} {i w:Nat} (hw:1≤w) (hle:w≤(l.drop i).length) (h:∀ x∈(l.drop i).take w,128≤x.toNat):pv l (i+w)=false:=by
 unfold pv
 obtain ⟨w,rfl⟩:∃ v,w=v+1:=⟨w - 1,by omega⟩
 have hlt:w<(l.drop i).length:=by omega
 have h1:(l.drop i)[w]?=some ((l.drop i)[w]):=List.getElem?_eq_getElem hlt
 have h2:(l.drop i)[w]∈(l.drop i).take (w+1):=by
  refine List.mem_of_getElem? (i:=w) ?_
  rw [List.getElem?_take,if_pos (by omega)]; exact h1
 have h3:=h _ h2
 rw [List.getElem?_drop] at h1
 rw [show i+(w+1) - 1=i+w by omega,List.getD_eq_getElem?_getD,h1,Option.getD_some]
 have:((l.drop i)[w]==13)=false:=beq_eq_false_iff_ne.2 (fun e=>by rw [e] at h3; exact absurd h3 (by decide))
 rw [this,Bool.and_false]
theorem zta:∀ (x t:List UInt8) (p:Bool) (f i:Nat),(∀ b∈x,128≤b.toNat)→x≠[]→spP p f i (x++t)=spP false f (i+x.length) t
 | [],t,p,f,i,h,hx=>absurd rfl hx
 | b::x,t,p,f,i,h,hx=>by
  have hb:=h b (by simp)
  have h13:b≠13:=fun e=>by rw [e] at hb; exact absurd hb (by decide)
  have h10:b≠10:=fun e=>by rw [e] at hb; exact absurd hb (by decide)
  rw [List.cons_append,spP,if_neg h13,if_neg h10]
  by_cases hx2:x=[]
  ·subst hx2; rfl
  ·rw [zta x t false f (i+1) (fun y hy=>h y (by simp [hy])) hx2,List.length_cons]
   rw [show i+1+x.length=i+(x.length+1) by omega]
section
variable {s:zBA} {j1:(List zaU)→(List za6)→Int→Int→Int→Int→Int→Int→Int→Option ((Option zbR)×Int)} {ag:(List zaU)→(List za6)→Int→Int→Int→Int→Int→Int→Int→Nat→Option ((Option zbR)×Int)}
 {M:List zaU} {E:List za6} {p16 p17 p18 p19 p20 f7 f8:Int} {m:Nat} {p:Pc}
def u22 (p:Pc) (p18:Int):Int:=if 65536≤p.r then p18+1+1 else p18+1
theorem zAc {X:Option ((Option zbR)×Int)} {A B C D:Prop} [Decidable A] [Decidable B] [Decidable C] [Decidable D] (hA:A) (hB:B) (hC:C) (hD:D) (h18:I64 (p18+1+1)) {K:Int→Option ((Option zbR)×Int)} (h:K (u22 p p18)=X) :
  zbE (fun (j2:Int→Option ((Option zbR)×Int))=>grd A<|grd B<|grd C<|grd D<|zaB (decide ((65536:Int)≤(p.r:Int))) (grd (I64 ((p18+1)+1))<|j2 ((p18+1)+1)) (j2 (p18+1))) K=X:=by
 refine zcj (zcm hA (zcm hB (zcm hC (zcm hD ?_))))
 unfold u22 at h
 by_cases h1:65536≤p.r
 ·rw [if_pos h1] at h; exact zaR (decide_eq_true (by omega)) (zcm h18 h)
 ·rw [if_neg h1] at h; exact zaK (decide_eq_false (by omega)) h
theorem zvf {X:Option ((Option zbR)×Int)} (hp:(pcs s.data.toList)[m]?=some p) (hm:M.length+1≤2147483648) (h17:I64 (p17+1)) (h18:I64 (p18+1+1)) (h18':I64 (p18+1)) (h20:I64 (p20+1))
  (hi:p.i<s.size) (hs:s.size≤65536) (hE:E.length+1≤2147483648) (h19:I64 (p19+1))
  (hX:(p.r≠13∧p.r≠10∨p.r=13∧∃ c u,s.data.toList.drop (p.i+1)=c::u∧c=10)∧ag (M++[(⟨p.i,p17,p18,p19,p20⟩:zaU)]) E p.i (p17+1) (u22 p p18) p19 (p20+1) f7 f8 (m+1)=X ∨
   ∃ w:Nat,w≤p.i+1∧(p.r=13∧s.data.toList[p.i+1]?≠some 10∧w=1∨p.r=10∧w=(if pv s.data.toList p.i then 2 else 1)) ∧
    ag (M++[(⟨p.i,p17,p18,p19,p20⟩:zaU)]) (E++[(⟨f7,((p.i+1 - w:Nat):Int),w,f8⟩:za6)]) p.i (p17+1) (u22 p p18) (p19+1) 0 ((p.i+1:Nat):Int) ((M.length+1:Nat):Int) (m+1)=X) :
  zdX s j1 ag M E p16 p17 p18 p19 p20 f7 f8 m=X:=by
 have hl:=(List.getElem?_eq_some_iff.1 hp).1
 unfold zdX
 refine zaR (decide_eq_true hl) (za7 hp (zAc hm h17 h18' h20 h18 ?_))
 refine zcj ?_
 have e13:((p.r:Int)==13)=decide (p.r=13):=by
  by_cases h:p.r=13
  ·rw [h]; rfl
  ·rw [decide_eq_false h]; exact beq_eq_false_iff_ne.2 (by omega)
 have e10:((p.r:Int)==10)=decide (p.r=10):=by
  by_cases h:p.r=10
  ·rw [h]; rfl
  ·rw [decide_eq_false h]; exact beq_eq_false_iff_ne.2 (by omega)
 have n13':((p.r:Int) != 13)=!decide (p.r=13):=by unfold bne; rw [e13]
 have n10':((p.r:Int) != 10)=!decide (p.r=10):=by unfold bne; rw [e10]
 have hsucc:(p.i:Int)+1=((p.i+1:Nat):Int):=by omega
 have fin:∀ w:Nat,w≤p.i+1→ag (M++[(⟨p.i,p17,p18,p19,p20⟩:zaU)]) (E++[(⟨f7,((p.i+1 - w:Nat):Int),w,f8⟩:za6)]) p.i (p17+1) (u22 p p18) (p19+1) 0 ((p.i+1:Nat):Int) ((M.length+1:Nat):Int) (m+1)=X →
   (grd (I64 ((p.i:Int)+1))<|grd (I64 (((p.i:Int)+1) - (w:Int)))<|grd (E.length+1≤2147483648)<|grd (I64 ((p.i:Int)+1))<|grd (I64 (p19+1)) <|
    ag (M++[(⟨(p.i:Int),p17,p18,p19,p20⟩:zaU)]) (E++[(⟨f7,((p.i:Int)+1) - (w:Int),(w:Int),f8⟩:za6)]) (p.i:Int) (p17+1) (u22 p p18) (p19+1) 0 ((p.i:Int)+1) ((M++[(⟨(p.i:Int),p17,p18,p19,p20⟩:zaU)]).length:Int) (m+1))=X:=fun w hw h=>by
  refine zcm ⟨by omega,by omega⟩ (zcm ⟨by omega,by omega⟩ (zcm hE (zcm ⟨by omega,by omega⟩ (zcm h19 ?_))))
  rw [← h]
  rw [show ((p.i:Int)+1) - (w:Int)=((p.i+1 - w:Nat):Int) by omega,show (p.i:Int)+1=((p.i+1:Nat):Int) by omega,List.length_append]
  rfl
 by_cases h13:p.r=13
 ·refine zaR (by rw [e13]; exact decide_eq_true h13) (zcm ⟨by omega,by omega⟩ ?_)
  have no10:p.r≠10:=by omega
  rcases hX with ⟨hc,hX⟩ | ⟨w,hw,hc,hX⟩
  ·rcases hc with ⟨h,_⟩ | ⟨_,c,u,hd,hc⟩
   ·exact absurd h13 h
   ·obtain ⟨hg,hlt⟩:=zmC hd
    refine zaR (decide_eq_true (by omega)) (zcm ⟨by omega,by omega⟩ (za7 (by rw [hsucc]; exact hg) (zaR (by rw [n10]; exact decide_eq_true hc) hX)))
  ·have hw1:w=1∧s.data.toList[p.i+1]?≠some 10:=by
    rcases hc with ⟨_,h,rfl⟩ | ⟨h,_⟩
    ·exact ⟨rfl,h⟩
    ·exact absurd h no10
   obtain ⟨rfl,hne⟩:=hw1
   have tail:(zaB (((p.r:Int):Int) != 13) (zaB (((p.r:Int):Int) != 10) (ag (M++[(⟨(p.i:Int),p17,p18,p19,p20⟩:zaU)]) E (p.i:Int) (p17+1) (u22 p p18) p19 (p20+1) f7 f8 (m+1)) ((grd (I64 ((p.i:Int)+1))<|grd (I64 (((p.i:Int)+1) - (1:Int)))<|grd (E.length+1≤2147483648)<|grd (I64 ((p.i:Int)+1))<|grd (I64 (p19+1)) <|
    ag (M++[(⟨(p.i:Int),p17,p18,p19,p20⟩:zaU)]) (E++[(⟨f7,((p.i:Int)+1) - (1:Int),(1:Int),f8⟩:za6)]) (p.i:Int) (p17+1) (u22 p p18) (p19+1) 0 ((p.i:Int)+1) ((M++[(⟨(p.i:Int),p17,p18,p19,p20⟩:zaU)]).length:Int) (m+1)))) ((grd (I64 ((p.i:Int)+1))<|grd (I64 (((p.i:Int)+1) - (1:Int)))<|grd (E.length+1≤2147483648)<|grd (I64 ((p.i:Int)+1))<|grd (I64 (p19+1)) <|
    ag (M++[(⟨(p.i:Int),p17,p18,p19,p20⟩:zaU)]) (E++[(⟨f7,((p.i:Int)+1) - (1:Int),(1:Int),f8⟩:za6)]) (p.i:Int) (p17+1) (u22 p p18) (p19+1) 0 ((p.i:Int)+1) ((M++[(⟨(p.i:Int),p17,p18,p19,p20⟩:zaU)]).length:Int) (m+1))))=X :=
    zaK (by rw [n13',decide_eq_true h13]; rfl) (fin 1 hw hX)
   cases hd:s.data.toList.drop (p.i+1) with
   | nil =>
    have hsz:=zh1 hd (by omega)
    refine zaK (decide_eq_false (by omega)) (zaK (by rw [e10]; exact decide_eq_false no10) tail)
   | cons c u =>
    obtain ⟨hg,hlt⟩:=zmC hd
    have hc10:c≠10:=fun e=>hne (by
     have:(s.data.toList.drop (p.i+1))[0]?=some c:=by rw [hd]; rfl
     rw [List.getElem?_drop] at this; rw [← e]; exact this)
    refine zaR (decide_eq_true (by omega)) (zcm ⟨by omega,by omega⟩ (za7 (by rw [hsucc]; exact hg) (zaK (by rw [n10]; exact decide_eq_false hc10) (zaK (by rw [e10]; exact decide_eq_false no10) tail))))
 ·refine zaK (by rw [e13]; exact decide_eq_false h13) ?_
  by_cases h10:p.r=10
  ·refine zaR (by rw [e10]; exact decide_eq_true h10) ?_
   rcases hX with ⟨hc,hX⟩ | ⟨w,hw,hc,hX⟩
   ·rcases hc with ⟨_,h⟩ | ⟨h,_⟩
    ·exact absurd h10 h
    ·exact absurd h h13
   ·have hw1:w=(if pv s.data.toList p.i then 2 else 1):=by
     rcases hc with ⟨h,_⟩ | ⟨_,h⟩
     ·exact absurd h h13
     ·exact h
    have t13:((p.r:Int) != 13)=true:=by rw [n13',decide_eq_false h13]; rfl
    have t10:((p.r:Int) != 10)=false:=by rw [n10',decide_eq_true h10]; rfl
    by_cases h0:0<p.i
    ·refine zaR (decide_eq_true (by omega)) (zcm ⟨by omega,by omega⟩ ?_)
     obtain ⟨c,u,hd⟩:∃ c u,s.data.toList.drop (p.i - 1)=c::u:=by
      cases hd:s.data.toList.drop (p.i - 1) with
      | nil=>have:=zh1 hd (by omega); omega
      | cons c u=>exact ⟨c,u,rfl⟩
     obtain ⟨hg,_⟩:=zmC hd
     have hpv:pv s.data.toList p.i=(c==13):=by
      have:=ztv hd
      rwa [show p.i - 1+1=p.i by omega] at this
     refine za7 (by rw [show (p.i:Int) - 1=((p.i - 1:Nat):Int) by omega]; exact hg) ?_
     by_cases hc13:c=13
     ·have:w=2:=by rw [hw1,hpv,hc13]; rfl
      subst this
      exact zaR (by rw [n13]; exact decide_eq_true hc13) (fin 2 hw hX)
     ·have:w=1:=by rw [hw1,hpv,beq_eq_false_iff_ne.2 hc13]; rfl
      subst this
      exact zaK (by rw [n13]; exact decide_eq_false hc13) (zaR t13 (zaK t10 (fin 1 hw hX)))
    ·have:w=1:=by rw [hw1]; unfold pv; rw [decide_eq_false h0]; rfl
     subst this
     exact zaK (decide_eq_false (by omega)) (zaR t13 (zaK t10 (fin 1 hw hX)))
  ·refine zaK (by rw [e10]; exact decide_eq_false h10) ?_
   rcases hX with ⟨hc,hX⟩ | ⟨w,hw,hc,hX⟩
   ·exact zaR (by rw [n13',decide_eq_false h13]; rfl) (zaR (by rw [n10',decide_eq_false h10]; rfl) hX)
   ·rcases hc with ⟨h,_⟩ | ⟨h,_⟩
    ·exact absurd h h13
    ·exact absurd h h10
end
theorem zvg (s:zBA) (J:(List zaU)→(List za6)→Int→Int→Int→Int→Int→Int→Int→Option ((Option zbR)×Int)) (hs:s.size≤65536) :
  ∀ (n m i:Nat) (M:List zaU) (E:List za6) (p16 p17 p18 p19 p20 f8:Int) (f:Nat),(pcs s.data.toList).drop m=zdS i (s.data.toList.drop i)→i≤s.size→s.size - i<n→M.length≤i→E.length≤i →
   0≤p17→p17≤i→0≤p18→p18≤2*i→0≤p19→p19≤i→0≤p20→p20≤i →
   ∃ M' E' q1 q2 q3 q4 q5 g8,∃ g:Nat,za1 (fun _ _ _ _ _ _ _ _ _ _=>none) (zdX s J) n M E p16 p17 p18 p19 p20 (f:Int) f8 m=J M' E' q1 q2 q3 q4 q5 (g:Int) g8∧M'.length≤s.size∧E'.length≤s.size ∧
    E'.map spE++[mkS (g,s.size)]=E.map spE++(spP (pv s.data.toList i) f i (s.data.toList.drop i)).map mkS:=by
 intro n
 induction n with
 | zero=>intro m i M E p16 p17 p18 p19 p20 f8 f h1 h2 h3; omega
 | succ n ih =>
  intro m i M E p16 p17 p18 p19 p20 f8 f hd hi hn hM hE a1 a2 a3 a4 a5 a6 a7 a8
  rw [zdv]
  obtain ⟨ag,hag⟩:∃ ag,ag=za1 (fun _ _ _ _ _ _ _ _ _ _=>none) (zdX s J) n:=⟨_,rfl⟩
  rw [← hag] at ih ⊢
  cases hl:s.data.toList.drop i with
  | nil =>
   have hsz:=zh1 hl hi
   rw [hl,zcT] at hd
   have hge:=List.drop_eq_nil_iff.1 hd
   refine ⟨M,E,p16,p17,p18,p19,p20,f8,f,?_,by omega,by omega,?_⟩
   ·unfold zdX
    exact zaK (decide_eq_false (by omega)) rfl
   ·subst hsz; rfl
  | cons b t =>
   have hlt:=(zmC hl).2
   rw [hl,zcU i (b::t) (by simp)] at hd
   have hlm:m<(pcs s.data.toList).length:=by
    rcases Nat.lt_or_ge m (pcs s.data.toList).length with h | h
    ·exact h
    ·rw [List.drop_eq_nil_of_le h] at hd; cases hd
   have hq:(pcs s.data.toList)[m]?=some ⟨i,(decodeL (b::t)).2,(decodeL (b::t)).1⟩:=by
    rw [List.drop_eq_getElem_cons hlm] at hd
    rw [List.getElem?_eq_getElem hlm,(List.cons.inj hd).1]
   have hw1:=zgM (b::t)
   have hwl:=zlq (b::t) (by simp)
   have hd2:(pcs s.data.toList).drop (m+1)=zdS (i+(decodeL (b::t)).2) (s.data.toList.drop (i+(decodeL (b::t)).2)):=by
    rw [← List.drop_drop,hd,← List.drop_drop,hl]; rfl
   have hisz:i+(decodeL (b::t)).2≤s.size:=by
    have:(s.data.toList.drop i).length=(b::t).length:=by rw [hl]
    rw [List.length_drop,zrS] at this; omega
   have hup:∀ (q:Pc),0≤u22 q p18∧u22 q p18≤p18+2:=fun q=>by unfold u22; split <;> omega
   obtain ⟨hu1,hu2⟩:=hup ⟨i,(decodeL (b::t)).2,(decodeL (b::t)).1⟩
   have hst:=@zvf s J ag M E p16 p17 p18 p19 p20 (f:Int) f8 m ⟨i,(decodeL (b::t)).2,(decodeL (b::t)).1⟩
   by_cases hb:128≤b.toNat
   ·obtain ⟨hr,hall⟩:=zpM (t:=t) hb
    obtain ⟨M',E',q1,q2,q3,q4,q5,g8,g,h1,h2,h3,h4⟩:=ih (m+1) (i+(decodeL (b::t)).2) (M++[(⟨i,p17,p18,p19,p20⟩:zaU)]) E i (p17+1) (u22 ⟨i,(decodeL (b::t)).2,(decodeL (b::t)).1⟩ p18) p19 (p20+1) f8 f hd2 hisz (by omega) (by simp; omega) (by omega) (by omega) (by omega) hu1 (by omega) a5 (by omega) (by omega) (by omega)
    refine ⟨M',E',q1,q2,q3,q4,q5,g8,g,hst hq (by omega) ⟨by omega,by omega⟩ ⟨by omega,by omega⟩ ⟨by omega,by omega⟩ ⟨by omega,by omega⟩ hlt hs (by omega) ⟨by omega,by omega⟩ (.inl ⟨.inl ⟨by show (decodeL (b::t)).1≠13; omega,by show (decodeL (b::t)).1≠10; omega⟩,h1⟩),h2,h3,?_⟩
    rw [h4,zw8 hw1 (by rw [hl]; exact hwl) (by rw [hl]; exact hall)]
    congr 2
    have hsplit:b::t=(b::t).take (decodeL (b::t)).2++(b::t).drop (decodeL (b::t)).2:=(List.take_append_drop _ _).symm
    have hlen:((b::t).take (decodeL (b::t)).2).length=(decodeL (b::t)).2:=by rw [List.length_take]; omega
    conv=>rhs; rw [hsplit]
    rw [zta _ _ _ _ _ hall (by intro e; rw [e] at hlen; simp at hlen; omega),hlen,← List.drop_drop,hl]
   ·have hdec:=decodeL_ascii b t (by omega)
    rw [hdec] at hst hq hd2 hisz
    dsimp only at hst hq hd2 hisz
    obtain ⟨hu3,hu4⟩:=hup ⟨i,1,b.toNat⟩
    clear hu1 hu2
    have hd1:=zki hl
    have hpn:=ztv hl
    by_cases h13:b=13
    ·by_cases ht:t.head?=some 10
     ·obtain ⟨c,u,rfl⟩:∃ c u,t=c::u:=by cases t with | nil=>cases ht | cons c u=>exact ⟨c,u,rfl⟩
      have hc:c=10:=Option.some.inj ht
      obtain ⟨M',E',q1,q2,q3,q4,q5,g8,g,h1,h2,h3,h4⟩:=ih (m+1) (i+1) (M++[(⟨i,p17,p18,p19,p20⟩:zaU)]) E i (p17+1) (u22 ⟨i,1,b.toNat⟩ p18) p19 (p20+1) f8 f hd2 hisz (by omega) (by simp; omega) (by omega) (by omega) (by omega) hu3 (by omega) a5 (by omega) (by omega) (by omega)
      refine ⟨M',E',q1,q2,q3,q4,q5,g8,g,hst hq (by omega) ⟨by omega,by omega⟩ ⟨by omega,by omega⟩ ⟨by omega,by omega⟩ ⟨by omega,by omega⟩ hlt hs (by omega) ⟨by omega,by omega⟩ (.inl ⟨.inr ⟨by rw [h13]; rfl,c,u,hd1,hc⟩,h1⟩),h2,h3,?_⟩
      rw [h4,hpn,hd1]
      congr 2
      conv=>rhs; rw [spP,if_pos h13,if_pos ht]
      rw [h13]; rfl
     ·obtain ⟨M',E',q1,q2,q3,q4,q5,g8,g,h1,h2,h3,h4⟩:=ih (m+1) (i+1) (M++[(⟨i,p17,p18,p19,p20⟩:zaU)]) (E++[(⟨f,((i+1 - 1:Nat):Int),(1:Nat),f8⟩:za6)]) i (p17+1) (u22 ⟨i,1,b.toNat⟩ p18) (p19+1) 0 ((M.length+1:Nat):Int) (i+1) hd2 hisz (by omega) (by simp; omega) (by simp; omega) (by omega) (by omega) hu3 (by omega) (by omega) (by omega) (by omega) (by omega)
      refine ⟨M',E',q1,q2,q3,q4,q5,g8,g,hst hq (by omega) ⟨by omega,by omega⟩ ⟨by omega,by omega⟩ ⟨by omega,by omega⟩ ⟨by omega,by omega⟩ hlt hs (by omega) ⟨by omega,by omega⟩ (.inr ⟨1,by show 1≤i+1; omega,.inl ⟨by rw [h13]; rfl,?_,rfl⟩,h1⟩),h2,h3,?_⟩
      ·show s.data.toList[i+1]?≠some 10
       rw [← hd1,List.head?_eq_getElem?,List.getElem?_drop] at ht
       exact ht
      ·rw [h4,hpn,hd1,List.map_append,List.append_assoc]
       congr 1
       conv=>rhs; rw [spP,if_pos h13,if_neg ht]
       rw [h13]
       show spE _::List.map mkS (spP true (i+1) (i+1) t)=mkS (f,i)::_
       rfl
    ·by_cases h10:b=10
     ·have hw2:(if pv s.data.toList i then 2 else 1)≤i+1:=by
       split
       ·rename_i h; unfold pv at h; rw [Bool.and_eq_true,decide_eq_true_iff] at h; omega
       ·omega
      obtain ⟨M',E',q1,q2,q3,q4,q5,g8,g,h1,h2,h3,h4⟩:=ih (m+1) (i+1) (M++[(⟨i,p17,p18,p19,p20⟩:zaU)]) (E++[(⟨f,((i+1 - (if pv s.data.toList i then 2 else 1):Nat):Int),((if pv s.data.toList i then 2 else 1:Nat):Int),f8⟩:za6)]) i (p17+1) (u22 ⟨i,1,b.toNat⟩ p18) (p19+1) 0 ((M.length+1:Nat):Int) (i+1) hd2 hisz (by omega) (by simp; omega) (by simp; omega) (by omega) (by omega) hu3 (by omega) (by omega) (by omega) (by omega) (by omega)
      refine ⟨M',E',q1,q2,q3,q4,q5,g8,g,hst hq (by omega) ⟨by omega,by omega⟩ ⟨by omega,by omega⟩ ⟨by omega,by omega⟩ ⟨by omega,by omega⟩ hlt hs (by omega) ⟨by omega,by omega⟩ (.inr ⟨_,hw2,.inr ⟨by rw [h10]; rfl,rfl⟩,h1⟩),h2,h3,?_⟩
      rw [h4,hpn,hd1,List.map_append,List.append_assoc]
      congr 1
      conv=>rhs; rw [spP,if_neg h13,if_pos h10]
      show spE _::List.map mkS (spP (b==13) (i+1) (i+1) t)=mkS (f,_)::_
      rw [beq_eq_false_iff_ne.2 h13]
      congr 1
      unfold spE mkS
      congr 1
      cases pv s.data.toList i <;> rfl
     ·obtain ⟨M',E',q1,q2,q3,q4,q5,g8,g,h1,h2,h3,h4⟩:=ih (m+1) (i+1) (M++[(⟨i,p17,p18,p19,p20⟩:zaU)]) E i (p17+1) (u22 ⟨i,1,b.toNat⟩ p18) p19 (p20+1) f8 f hd2 hisz (by omega) (by simp; omega) (by omega) (by omega) (by omega) hu3 (by omega) a5 (by omega) (by omega) (by omega)
      refine ⟨M',E',q1,q2,q3,q4,q5,g8,g,hst hq (by omega) ⟨by omega,by omega⟩ ⟨by omega,by omega⟩ ⟨by omega,by omega⟩ ⟨by omega,by omega⟩ hlt hs (by omega) ⟨by omega,by omega⟩ (.inl ⟨.inl ⟨fun e=>h13 (UInt8.toNat.inj e),fun e=>h10 (UInt8.toNat.inj e)⟩,h1⟩),h2,h3,?_⟩
      rw [h4,hpn,hd1,beq_eq_false_iff_ne.2 h13]
      congr 2
      conv=>rhs; rw [spP,if_neg h13,if_neg h10]
theorem zAb (s:zBA) (hs:s.size≤65536):∃ m:zbR,zfP s=some (some m,0)∧m.text=s∧m.lines.map spE=(zfM s.data.toList).map mkS:=by
 obtain ⟨M',E',q1,q2,q3,q4,q5,g8,g,h1,h2,h3,h4⟩:=zvg s (fun (m1:List zaU) (m2:List za6) (p1:Int) (p2:Int) (p3:Int) (p4:Int) (p5:Int) (line1:Int) (line2:Int) =>
  grd (m1.length+1≤2147483648)<|grd (m2.length+1≤2147483648)<|some ((some (⟨s,m1++[(⟨(s.size:Int),p2,p3,p4,p5⟩:zaU)],m2++[(⟨line1,(s.size:Int),0,line2⟩:za6)]⟩:zbR)),0)) hs zcD 0 0 [] [] 0 0 0 0 0 0 0
  (by rw [List.drop_zero,List.drop_zero]; rfl) (Nat.zero_le _) (by unfold zcD; omega) (Nat.le_refl _) (Nat.le_refl _) (by omega) (by omega) (by omega) (by omega) (by omega) (by omega) (by omega) (by omega)
 refine ⟨⟨s,M'++[(⟨(s.size:Int),q2,q3,q4,q5⟩:zaU)],E'++[(⟨(g:Int),(s.size:Int),0,g8⟩:za6)]⟩,?_,rfl,?_⟩
 ·unfold zfP
  refine zaK (decide_eq_false (by omega)) (zcj (h1.trans ?_))
  exact zcm (by omega) (zcm (by omega) rfl)
 ·show List.map spE (E'++[_])=_
  rw [List.map_append]
  exact h4
theorem zvh (s:zBA) (hs:65536<s.size):zfP s=some (none,3):=by
 unfold zfP
 exact zaR (decide_eq_true (by omega)) rfl
def zb4 (s1:zBA) (prefix1:zBA):Option Bool := zaB (decide (((prefix1.size:Int):Int)≤(s1.size:Int))) ( grd (0≤(0:Int)∧(0:Int)≤(prefix1.size:Int)∧((prefix1.size:Int):Int)≤(s1.size:Int)) <| some (decide (zdR s1 0 (prefix1.size:Int)=prefix1))
) ( some false
)
theorem zeo {s1:zBA} {prefix1:zBA} {r:Bool} (h:zb4 s1 prefix1=some r):FnP prog 56 [.string s1,.string prefix1] (.bool r):=by
 unfold zb4 at h
 refine FnP.intro func56 rfl ntmps56 (by simp) ?_
 intro w0 K
 refine zyG (zyR 1 rfl (zyH (zyR 1 rfl (zbC rfl dc rfl underlying9 (zyR 1 rfl (zbC rfl dc rfl underlying9 (zaS rfl zbG (zyR 1 rfl ?_))))))))
 refine zyS (s:=10) rfl h (fun h => ?_) (fun h => ?_)
 ·
  refine zyR 2 rfl (zbC rfl dc rfl underlying9 ?_)
  obtain ⟨hg1,h⟩:=zbQ h
  refine zdA rfl dc rfl rfl rfl (zcX (i:=0) (j:=(prefix1.size:Int)) underlying9 (.inl ⟨rfl,rfl⟩) (.inr rfl) hg1) (zyR 1 rfl (zaS rfl zhv (zyR 2 rfl (zyN (zau ?_)))))
  cases h
  exact za2 4 results56
 refine zyR 8 rfl (zyN (zau ?_))
 cases h
 exact za2 4 results56
def zcB (s1:zBA) (prefix1:zBA):Option Bool := zan (zb4 s1 prefix1) fun (r1:Bool) => some r1
theorem zgN {s1:zBA} {prefix1:zBA} {r:Bool} (h:zcB s1 prefix1=some r):FnP prog 34 [.string s1,.string prefix1] (.bool r):=by
 unfold zcB at h
 refine FnP.intro func34 rfl ntmps34 (by simp) ?_
 intro w0 K
 refine zyG (zyR 1 rfl (zyH (zyR 2 rfl ?_)))
 obtain ⟨r1,hq1,h⟩:=zbL h
 refine zbg (v:=.bool r1) (vs:=[.string s1,.string prefix1]) rfl dc rfl rfl rfl zzl (zeo hq1) (zyR 1 rfl (zyN (zau ?_)))
 cases h
 exact za2 4 results34
def zcI (s1:zBA) (prefix1:zBA):Option zBA := zan (zb4 s1 prefix1) fun (r1:Bool) => zaB (r1) ( grd (0≤((prefix1.size:Int):Int)∧((prefix1.size:Int):Int)≤(s1.size:Int)∧((s1.size:Int):Int)≤(s1.size:Int)) <| some (zdR s1 (prefix1.size:Int) (s1.size:Int))
) ( some s1
)
theorem zfZ {s1:zBA} {prefix1:zBA} {r:zBA} (h:zcI s1 prefix1=some r):FnP prog 52 [.string s1,.string prefix1] (.string r):=by
 unfold zcI at h
 refine FnP.intro func52 rfl ntmps52 (by simp) ?_
 intro w0 K
 refine zyG (zyR 1 rfl (zyN (zaE (zyG (zyR 2 rfl ?_)))))
 obtain ⟨r1,hq1,h⟩:=zbL h
 refine zbg (v:=.bool r1) (vs:=[.string s1,.string prefix1]) rfl dc rfl rfl rfl zzl (zeo hq1) (zyN ?_)
 refine zyB rfl h (fun h => ?_) (fun h => ?_)
 ·
  refine zyG (zyR 2 rfl (zbC rfl dc rfl underlying9 ?_))
  obtain ⟨hg1,h⟩:=zbQ h
  refine zdA rfl dc rfl rfl rfl (zcX (i:=(prefix1.size:Int)) (j:=(s1.size:Int)) underlying9 (.inr rfl) (.inl ⟨rfl,rfl⟩) hg1) (zyR 1 rfl (zyN (zau (zaf ?_))))
  cases h
  exact za2 4 results52
 refine zal (zay (zyG (zyR 2 rfl (zyN (zau ?_)))))
 cases h
 exact za2 4 results52
def zdM (s1:zBA) (prefix1:zBA):Option zBA := zan (zcI s1 prefix1) fun (r1:zBA) => some r1
theorem zin {s1:zBA} {prefix1:zBA} {r:zBA} (h:zdM s1 prefix1=some r):FnP prog 26 [.string s1,.string prefix1] (.string r):=by
 unfold zdM at h
 refine FnP.intro func26 rfl ntmps26 (by simp) ?_
 intro w0 K
 refine zyG (zyR 1 rfl (zyH (zyR 2 rfl ?_)))
 obtain ⟨r1,hq1,h⟩:=zbL h
 refine zbg (v:=.string r1) (vs:=[.string s1,.string prefix1]) rfl dc rfl rfl rfl zAu (zfZ hq1) (zyR 1 rfl (zyN (zau ?_)))
 cases h
 exact za2 4 results26
def ze9 (s1:zBA):Option Bool := grd (s1.size≤9223372036854775807) <| some (decide (zq9 s1=(⟨#[]⟩:zBA)))
theorem zjQ {s1:zBA} {r:Bool} (h:ze9 s1=some r):FnP prog 24 [.string s1] (.bool r):=by
 unfold ze9 at h
 refine FnP.intro func24 rfl ntmps24 (by simp) ?_
 intro w0 K
 refine zyG (zyR 1 rfl (zyH (zyR 1 rfl ?_)))
 obtain ⟨hg1,h⟩:=zbQ h
 refine zbg (v:=.string (zq9 s1)) (vs:=[.string s1,.string (⟨#[32,9]⟩:zBA)]) rfl dc rfl rfl rfl zAv (zyy s1 hg1) (zaS rfl zhv (zyR 1 rfl (zyN (zau ?_))))
 cases h
 exact za2 2 results24
def zfm (s1:zBA):Option Bool := zaB (decide (s1=(⟨#[35]⟩:zBA))) ( some true
) ( zan (zcB s1 (⟨#[35,32]⟩:zBA)) fun (r1:Bool) => some r1
)
theorem zji {s1:zBA} {r:Bool} (h:zfm s1=some r):FnP prog 25 [.string s1] (.bool r):=by
 unfold zfm at h
 refine FnP.intro func25 rfl ntmps25 (by simp) ?_
 intro w0 K
 refine zyG (zyR 1 rfl (zyH (zyR 1 rfl (zaS rfl zhv (zyR 1 rfl ?_)))))
 refine zyS (s:=5) rfl h (fun h => ?_) (fun h => ?_)
 ·
  refine zyR 4 rfl (zyN (zau ?_))
  cases h
  exact za2 2 results25
 refine zyR 1 rfl ?_
 obtain ⟨r1,hq1,h⟩:=zbL h
 refine zbg (v:=.bool r1) (vs:=[.string s1,.string (⟨#[35,32]⟩:zBA)]) rfl dc rfl rfl rfl zzs (zgN hq1) (zyR 2 rfl (zyN (zau ?_)))
 cases h
 exact za2 2 results25
def zdV (s1:zBA) (j1:Int→Option Int) (ag1:Int→Nat→Option Int) (n4:Int) (m3:Nat):Option Int := zaB (decide (m3<(pcs s1.data.toList).length)) ( zan ((pcs s1.data.toList)[m3]?) fun (p1:Pc) => zaB (((p1.r:Int):Int) != 32) ( j1 n4
) ( grd (I64 (n4+1)) <| ag1 (n4+1) (m3+1)
)
) ( j1 n4
)
def zeM (s1:zBA):Option Int := zbE (fun (j1:Int→Option Int) => za1 (fun _ _=>none) (zdV s1 j1) zcD 0 0
) (fun (n1:Int) => some n1
)
theorem znj {s1:zBA} {r:Int} (h:zeM s1=some r):FnP prog 27 [.string s1] (zI r):=by
 unfold zeM at h
 refine FnP.intro func27 rfl ntmps27 (by simp) ?_
 intro w0 K
 obtain ⟨j1,hj1,h⟩:=zbT h
 refine za8 (β:=Int) 2 rfl (fun b=>j1 b=some r) (fun b=>[]) (fun b=>[(3,zI b)]) (fun b=>[]) (fun cut => ?_) ?_
 ·
  refine zyG (zyR 1 rfl (zyH (zyR 1 rfl (zyN (cut (zyG (zyR 1 rfl ?_)))))))
  refine zc9 underlying9 rfl dc rfl (fun b1 => ?_)
  refine zyN (zaG ?_)
  refine zbP (β:=Nat×Int×Nat) (fun b=>za1 (fun _ _=>none) (zdV s1 j1) b.1 b.2.1 b.2.2=some r) (fun b=>[]) (fun b=>[(3,zI b.2.1),(7,zP b1)]) (fun b=>[obj b1 (.stringIter s1 (zfl s1 b.2.2))]) (fun b=>b.1) (zcD,0,0) (by exact h) rfl (zbf rfl) (zab [0] kr rfl) ?_
  rintro ⟨n5,n4,m3⟩ h
  cases n5 with
  | zero=>exact zdO h
  | succ n5 =>
   obtain ⟨ag1,hag1⟩:∃ ag,ag=za1 (fun _ _=>none) (zdV s1 j1) n5:=⟨_,rfl⟩
   have h:zdV s1 j1 ag1 n4 m3=some r:=by rw [hag1]; exact h
   unfold zdV at h
   refine zyG ?_
   refine zeG (b:=decide (m3<(pcs s1.data.toList).length)) (fun hb1 => ?_) (fun hb1 => ?_)
   ·
    have h:=zgT hb1 h
    obtain ⟨p1,hq1,h⟩:=zbL h
    refine zdy (k:=0) (m:=m3) (p:=p1) rfl dc rfl rfl hq1 (zaN rfl dc rfl rfl (zyN (zaE (zba rfl (zal (zay (zaG (zyG (zaN rfl dc rfl rfl (zyR 1 rfl (zaP ?_)))))))))))
    refine zay (zaE (zyG (zyR 1 rfl (zaS rfl zbH (zyN ?_)))))
    refine zyB rfl h (fun h => ?_) (fun h => ?_)
    ·
     refine zbu (zaq (zcZ dc (zaq (zaJ ?_))))
     exact zak n4 h rfl (zbf rfl) Splits.nil
    refine zal (zay (zas (zyR 1 rfl ?_)))
    obtain ⟨hg1,h⟩:=zbQ h
    refine zaS rfl (zbb (r:=n4+1) (IntWalk.i64_in _ hg1)) (zyR 1 rfl (zaP (zae ?_)))
    subst hag1
    exact zbr (n5,n4+1,m3+1) h (Nat.lt_succ_self _) rfl (zbf rfl) (zab [0] kr rfl)
   have h:=zgU hb1 h
   refine zeF (k:=0) (m:=m3) rfl dc rfl rfl (Nat.le_of_not_lt (of_decide_eq_false hb1)) (zaN rfl dc rfl rfl (zyN (zaE (zaM rfl (zbu (zaq (zaq (zaJ ?_))))))))
   exact zak n4 h rfl (zbf rfl) Splits.nil
 rintro n1 h
 rw [hj1] at h
 refine zyG (zyR 2 rfl (zyN (zau ?_)))
 cases h
 exact za2 2 results27
def zdW (text1:zBA) (j1:zBA→(List zax)→(List Gapi_Span)→Option ((Option zaC)×zbS)) (p4:zbR) (r2:Int) (ag1:zBA→(List zax)→(List Gapi_Span)→Bool→Bool→Int→Option ((Option zaC)×zbS)) (p14:zBA) (p15:List zax) (p16:List Gapi_Span) (first3:Bool) (row3:Bool) (x3:Int):Option ((Option zaC)×zbS) := zaB (decide ((x3:Int)<r2)) ( zbE (fun (j2:zBA→(List zax)→(List Gapi_Span)→Bool→Bool→Option ((Option zaC)×zbS)) => zbE (fun (j3:Int→Int→zBA→Option ((Option zaC)×zbS)) => zan (zeT p4 x3) fun (r3:(Gapi_Span×Int×Int)) => grd (0≤(r3.1.From:Int)∧(r3.1.From:Int)≤r3.1.To∧(r3.1.To:Int)≤(text1.size:Int)) <| zan (ze9 (zdR text1 r3.1.From r3.1.To)) fun (r4:Bool) => zaB (r4) ( j2 p14 p15 p16 first3 false
) ( zaB (decide ((1024:Int)<((zdR text1 r3.1.From r3.1.To).size:Int))) ( grd (I64 (r3.1.From+1024)) <| some (none,(⟨3,r3.1.From+1024⟩:zbS))
) ( zaB (first3) ( zan (zfm (zdR text1 r3.1.From r3.1.To)) fun (r5:Bool) => zaB (r5) ( grd (0≤(1:Int)∧(1:Int)≤((zdR text1 r3.1.From r3.1.To).size:Int)∧(((zdR text1 r3.1.From r3.1.To).size:Int):Int)≤((zdR text1 r3.1.From r3.1.To).size:Int)) <| zan (zdM (zdR (zdR text1 r3.1.From r3.1.To) 1 ((zdR text1 r3.1.From r3.1.To).size:Int)) (⟨#[32]⟩:zBA)) fun (r6:zBA) => j2 r6 p15 p16 false row3
) ( zaB (((p15.length:Int):Int)==512) ( some (none,(⟨3,r3.1.From⟩:zbS))
) ( j3 r3.1.From r3.1.To (zdR text1 r3.1.From r3.1.To)
)
)
) ( zaB (((p15.length:Int):Int)==512) ( some (none,(⟨3,r3.1.From⟩:zbS))
) ( j3 r3.1.From r3.1.To (zdR text1 r3.1.From r3.1.To)
)
)
)
)
) (fun (span1:Int) (span2:Int) (line1:zBA) => zbE (fun (j4:(List Gapi_Span)→Option ((Option zaC)×zbS)) => zaB (!row3) ( grd (p16.length+1≤2147483648) <| j4 (p16++[(⟨(p15.length:Int),(p15.length:Int)⟩:Gapi_Span)])
) ( j4 p16
)
) (fun (p20:List Gapi_Span) => grd (I64 ((p20.length:Int) - 1)) <| zan (zdf p20 ((p20.length:Int) - 1)) fun (q1:Gapi_Span) => zan (zeM line1) fun (r7:Int) => grd (0≤(r7:Int)∧(r7:Int)≤(line1.size:Int)∧((line1.size:Int):Int)≤(line1.size:Int)) <| grd (I64 ((p20.length:Int) - 1)) <| grd (I64 ((p15.length:Int) - q1.From)) <| grd (I64 (span1+r7)) <| grd (p15.length+1≤2147483648) <| grd (I64 ((p15.length:Int)+1)) <| j2 p14 (p15++[(⟨zdR line1 r7 (line1.size:Int),r7,(p20.length:Int) - 1,(p15.length:Int) - q1.From,span1+r7,span2⟩:zax)]) (p20.set ((p20.length:Int) - 1:Int).toNat (⟨q1.From,(p15.length:Int)+1⟩:Gapi_Span)) false true
)
)
) (fun (p17:zBA) (p18:List zax) (p19:List Gapi_Span) (first4:Bool) (row4:Bool) => grd (I64 (x3+1)) <| ag1 p17 p18 p19 first4 row4 (x3+1)
)
) ( j1 p14 p15 p16
)
def zet (text1:zBA):Option ((Option zaC)×zbS) := zan (zfP text1) fun (r1:((Option zbR)×Int)) => zaB ((r1.2:Int) != 0) ( some (none,(⟨r1.2,65536⟩:zbS))
) ( zbE (fun (j1:zBA→(List zax)→(List Gapi_Span)→Option ((Option zaC)×zbS)) => zan (r1.1) fun (p4:zbR) => zan (zgl p4) fun (r2:Int) => za1 (fun _ _ _ _ _ _=>none) (zdW text1 j1 p4 r2) zcD ByteArray.empty ([]:List zax) ([]:List Gapi_Span) true false 0
) (fun (p1:zBA) (p2:List zax) (p3:List Gapi_Span) => some ((some (⟨p1,p2,p3,text1⟩:zaC)),(⟨0,0⟩:zbS))
)
)
theorem zlf {text1:zBA} {r:((Option zaC)×zbS)} (h:zet text1=some r):Fn prog 5 [.string text1] [] (fun v0:Value=>.tuple #[v0,.agg (zr6 r.2).toArray]) (fun v0=>[zlg zbl zbk 76 v0 r.1]):=by
 unfold zet at h
 refine Fn.intro func5 rfl ntmps5 (by simp) ?_
 intro w0 K
 refine zyG (zyR 1 rfl ?_)
 refine zbh zwP rfl dc (fun b1 => ?_)
 refine zyN ?_
 refine zfL (β:=Unit) (l:=0) (fun _=>False) (fun _=>[]) (fun _=>[]) rfl ?_ ?_
 ·
  refine zyG (zyR 1 rfl ?_)
  obtain ⟨r1,hq1,h⟩:=zbL h
  refine zcE (vs:=[.string text1]) rfl dc rfl rfl rfl zAO (zpf hq1) Splits.nil ?_
  rintro v1
  refine zcs (L':=[cells b1 [zI 0,zI 0] 31,zlg zfe zfa 128 v1 r1.1]) (zab [0,1] kr rfl) (zyR 1 rfl (zaN rfl dc rfl rfl (zaN rfl dc rfl rfl (zyR 2 rfl (zyN (zaE (zyG (zyR 1 rfl (zaS rfl zbH (zaP ?_))))))))))
  refine zay ?_
  refine zyB rfl h (fun h => ?_) (fun h => ?_)
  ·
   refine zyG (zyR 1 rfl ?_)
   refine zbA (v:=.agg #[zI r1.2,zI 65536]) (ps:=[(0,.tmp 24),(1,.const (zI 65536))]) rfl dc rfl (fun _=>by kernel_rfl) ?_
   refine zyR 1 rfl (zaZ (k:=0) (vs:=[zI r1.2,zI 65536]) (l':=[zI r1.2,zI 65536]) zqe rfl rfl rfl rfl rfl (show _≤_ by simp) rfl rfl (zyN (zau (zaf (zcy (by simp) (zdQ zbl zbk 76 ?_))))))
   cases h
   exact zbt (rs:=[.tmp 2,.cell 3 31]) (.pointer none) (.inl rfl) results5 (.cons (.tmp rfl) (.cons (.cells zto (k:=0) rfl rfl rfl) .nil)) rfl (zab [2] kr rfl)
  refine zal (zay ?_)
  obtain ⟨j1,hj1,h⟩:=zbT h
  refine za8 (β:=zBA×(List zax)×(List Gapi_Span)×Nat×Hd×Hd) 3 rfl (fun b=>j1 b.1 b.2.1 b.2.2.1=some r) (fun b=>[]) (fun b=>[(3,zP b1),(6,zP b.2.2.2.1)]) (fun b=>[cells b1 [zI 0,zI 0] 31,cells b.2.2.2.1 [.string b.1,b.2.2.2.2.1.v,b.2.2.2.2.2.v,.string text1] 76,zv7 b.2.2.2.2.1.v b.2.1,zv8 b.2.2.2.2.2.v b.2.2.1]) (fun cut => ?_) ?_
  ·
   refine zyG (zyR 1 rfl ?_)
   refine zbA (v:=.agg #[.string ByteArray.empty,.slice none 0 0,.slice none 0 0,.string text1]) (ps:=[(1,.tmp 26)]) rfl dc rfl (fun _=>by kernel_rfl) ?_
   refine zdi rfl dc rfl (fun b3 => ?_)
   refine zyR 1 rfl (zyH (zyR 2 rfl (zyN (zaE (zkq (zay (cut (zaE ?_))))))))
   refine zas (zyR 1 rfl ?_)
   obtain ⟨p4,hq2,h⟩:=zbL h
   refine zmU (As:=[zlg zfe zfa 128 v1 r1.1]) (zab [1] kr rfl) (zgH hq2) ?_
   rintro ⟨b4,hd3,hd4⟩ hv1
   have hkp:=h
   subst hv1
   have h:=hkp
   obtain ⟨r2,hq3,h⟩:=zbL h
   refine zbK (v:=zI r2) (vs:=[zP b4]) (Rd.nil:Rd _ _ []) rfl dc rfl rfl rfl zAN (zjT (bm1:=b4) (m1:=p4) (m1_h0:=hd3) (m1_h1:=hd4) hq3) (.own (zab [3] kr rfl) (fun _ _ h=>sepL.one1.1 h) (.own (zab [4] kr rfl) (fun _ _ h=>sepL.one1.1 h) (.own (zab [5] kr rfl) (fun _ _ h=>sepL.one1.1 h) .nil))) ?_
   refine zyR 1 rfl (zyN (zaG (zer (enc:=zeZ) (e:=50) (size:=6) ?_)))
   refine zer (enc:=zfq) (e:=48) (size:=2) ?_
   refine zbP (β:=Nat×zBA×(List zax)×(List Gapi_Span)×Bool×Bool×Int×Hd×Hd) (fun b=>za1 (fun _ _ _ _ _ _=>none) (zdW text1 j1 p4 r2) b.1 b.2.1 b.2.2.1 b.2.2.2.1 b.2.2.2.2.1 b.2.2.2.2.2.1 b.2.2.2.2.2.2.1=some r) (fun b=>[]) (fun b=>[(0,.string text1),(3,zP b1),(4,zP b4),(6,zP b3),(7,.bool b.2.2.2.2.1),(8,.bool b.2.2.2.2.2.1),(30,zI r2),(31,zI b.2.2.2.2.2.2.1)]) (fun b=>[cells b1 [zI 0,zI 0] 31,cells b4 [.string p4.text,hd3.v,hd4.v] 128,zv5 hd3.v p4.places,zv4 hd4.v p4.lines,cells b3 [.string b.2.1,b.2.2.2.2.2.2.2.1.v,b.2.2.2.2.2.2.2.2.v,.string text1] 76,zv7 b.2.2.2.2.2.2.2.1.v b.2.2.1,zv8 b.2.2.2.2.2.2.2.2.v b.2.2.2.1]) (fun b=>b.1) (zcD,ByteArray.empty,([]:List zax),([]:List Gapi_Span),true,false,0,Hd.nil,Hd.nil) h rfl (zbf rfl) (zab [0,3,4,5,2,6,7] kr rfl) ?_
   rintro ⟨n1,p14,p15,p16,first3,row3,x3,hd10,hd11⟩ h
   cases n1 with
   | zero=>exact zdO h
   | succ n1 =>
    obtain ⟨ag1,hag1⟩:∃ ag,ag=za1 (fun _ _ _ _ _ _=>none) (zdW text1 j1 p4 r2) n1:=⟨_,rfl⟩
    have h:zdW text1 j1 p4 r2 ag1 p14 p15 p16 first3 row3 x3=some r:=by rw [hag1]; exact h
    unfold zdW at h
    refine zyG (zaS rfl zbF (zyN (zaE ?_)))
    refine zyB rfl h (fun h => ?_) (fun h => ?_)
    ·
     refine zal (zay ?_)
     obtain ⟨j2,hj2,h⟩:=zbT h
     refine za8 (β:=zBA×(List zax)×(List Gapi_Span)×Bool×Bool×Hd×Hd) 0 rfl (fun b=>j2 b.1 b.2.1 b.2.2.1 b.2.2.2.1 b.2.2.2.2.1=some r) (fun b=>[]) (fun b=>[(0,.string text1),(3,zP b1),(4,zP b4),(6,zP b3),(7,.bool b.2.2.2.1),(8,.bool b.2.2.2.2.1),(30,zI r2),(31,zI x3)]) (fun b=>[cells b1 [zI 0,zI 0] 31,cells b4 [.string p4.text,hd3.v,hd4.v] 128,zv5 hd3.v p4.places,zv4 hd4.v p4.lines,cells b3 [.string b.1,b.2.2.2.2.2.1.v,b.2.2.2.2.2.2.v,.string text1] 76,zv7 b.2.2.2.2.2.1.v b.2.1,zv8 b.2.2.2.2.2.2.v b.2.2.1]) (fun cut => ?_) ?_
     ·
      refine cut (zaG ?_)
      obtain ⟨j3,hj3,h⟩:=zbT h
      refine za8 (β:=Int×Int×zBA×Nat) 3 rfl (fun b=>j3 b.1 b.2.1 b.2.2.1=some r) (fun b=>[]) (fun b=>[(0,.string text1),(3,zP b1),(4,zP b4),(6,zP b3),(8,.bool row3),(10,zP b.2.2.2),(13,.string b.2.2.1),(30,zI r2),(31,zI x3)]) (fun b=>[cells b1 [zI 0,zI 0] 31,cells b4 [.string p4.text,hd3.v,hd4.v] 128,zv5 hd3.v p4.places,zv4 hd4.v p4.lines,cells b3 [.string p14,hd10.v,hd11.v,.string text1] 76,zv7 hd10.v p15,zv8 hd11.v p16,cells b.2.2.2 [zI b.1,zI b.2.1] 48]) (fun cut => ?_) ?_
      ·
       refine zyG (zyR 2 rfl (zyH (zyR 2 rfl ?_)))
       obtain ⟨r3,hq4,h⟩:=zbL h
       refine zbK (v:=.tuple #[.agg (zr7 r3.1).toArray,zI r3.2.1,zI r3.2.2]) (vs:=[zP b4,zI x3]) (Rd.nil:Rd _ _ []) rfl dc rfl rfl rfl zAM (zkG (bm1:=b4) (m1:=p4) (m1_h0:=hd3) (m1_h1:=hd4) hq4) (.own (zab [1] kr rfl) (fun _ _ h=>sepL.one1.1 h) (.own (zab [2] kr rfl) (fun _ _ h=>sepL.one1.1 h) (.own (zab [3] kr rfl) (fun _ _ h=>sepL.one1.1 h) .nil))) ?_
       refine zyR 1 rfl (zaN rfl dc rfl rfl (zaN rfl dc rfl rfl (zaN rfl dc rfl rfl ?_)))
       refine zbh zwO rfl dc (fun b6 => ?_)
       refine zaZ (k:=7) (vs:=(zr7 r3.1)) (l':=(zr7 r3.1)) zsf rfl rfl rfl rfl rfl (show _≤_ by simp) rfl rfl ?_
       refine zyR 2 rfl (zyH (zyR 1 rfl (zaa zhb rfl dc rfl (show _=0 from rfl) (zaj (k:=7) zbW rfl dc rfl rfl rfl (zaa zdK rfl dc rfl (show _=1 from rfl) (zaj (k:=7) zbW rfl dc rfl rfl rfl ?_))))))
       obtain ⟨hg1,h⟩:=zbQ h
       refine zdA rfl dc rfl rfl rfl (zcX (i:=r3.1.From) (j:=r3.1.To) underlying9 (.inr rfl) (.inr rfl) hg1) (zyR 1 rfl (zyN (cut (zaG (zyG (zyR 1 rfl ?_))))))
       obtain ⟨r4,hq5,h⟩:=zbL h
       refine zbg (v:=.bool r4) (vs:=[.string (zdR text1 r3.1.From r3.1.To)]) rfl dc rfl rfl rfl zzu (zjQ hq5) (zyR 1 rfl (zyN ?_))
       refine zyB rfl h (fun h => ?_) (fun h => ?_)
       ·
        refine zyG (zyR 1 rfl (zyN (zbu (zcZ dc (zaq (zaJ ?_))))))
        exact zak (p14,p15,p16,first3,false,hd10,hd11) h rfl (zbf rfl) (zab [0,1,2,3,4,5,6] kr rfl)
       refine zyG (zyR 1 rfl (zbC rfl dc rfl underlying9 (zaS rfl zc1 (zyR 1 rfl (zyN ?_)))))
       refine zyB rfl h (fun h => ?_) (fun h => ?_)
       ·
        refine zaE ?_
        obtain ⟨hg2,h⟩:=zbQ h
        refine zbB 5 [(0,54,zP b6),(1,55,zI r3.1.From),(2,56,zI (r3.1.From+1024)),(3,57,.agg #[zI 3,zI (r3.1.From+1024)]),(4,2,.pointer none)] mixed kr kr dc (by rfl) kr kr (zad ?_ (zad ?_ (zad ?_ (zad ?_ (zad ?_ DrawPre.nil))))) ?_
        · exact fun D n d c u i=>zaa zhb rfl dc (zbd (by rfl) rfl) (show _=0 from rfl) (zar 0 u i)
        · exact fun D n d c u i=>zaj (k:=7) zbW rfl dc (zam 0 u d) rfl rfl (zar 1 u i)
        · exact fun D n d c u i=>zb6 rfl dc (zam 1 u d) rfl (zbb (r:=r3.1.From+1024) (IntWalk.i64_in _ hg2)) (zar 2 u i)
        · exact fun D n d c u i=>zbA (v:=.agg #[zI 3,zI (r3.1.From+1024)]) (ps:=[(0,.const (zI 3)),(1,.tmp 56)]) rfl dc (evP.cons rfl (evP.cons (zam 2 u d) evP.nil)) (fun _=>by kernel_rfl) (zar 3 u i)
        · exact fun D n d c u i=>zyR 1 rfl (zar 4 u i)
        refine zaZ (k:=0) (vs:=[zI 3,zI (r3.1.From+1024)]) (l':=[zI 3,zI (r3.1.From+1024)]) zqe rfl rfl rfl rfl rfl (show _≤_ by simp) rfl rfl (zyN (zau (zag (zaf (zag (zaf (zaf (zag (zaf (zcy (by simp) (zdQ zbl zbk 76 ?_)))))))))))
        cases h
        exact zbt (rs:=[.tmp 2,.cell 3 31]) (.pointer none) (.inl rfl) results5 (.cons (.tmp rfl) (.cons (.cells zto (k:=0) rfl rfl rfl) .nil)) rfl (zab [8] kr rfl)
       refine zyG (zyR 2 rfl ?_)
       refine zyS (s:=60) rfl h (fun h => ?_) (fun h => ?_)
       ·
        refine zyR 1 rfl ?_
        obtain ⟨r5,hq6,h⟩:=zbL h
        refine zbg (v:=.bool r5) (vs:=[.string (zdR text1 r3.1.From r3.1.To)]) rfl dc rfl rfl rfl zzt (zji hq6) (zyR 2 rfl (zyN ?_))
        refine zyB rfl h (fun h => ?_) (fun h => ?_)
        ·
         refine zyG (zyR 1 rfl (zyH (zyR 2 rfl ?_)))
         obtain ⟨hg3,h⟩:=zbQ h
         refine zdA rfl dc rfl rfl rfl (zcX (i:=1) (j:=((zdR text1 r3.1.From r3.1.To).size:Int)) underlying9 (.inr rfl) (.inl ⟨rfl,rfl⟩) hg3) ?_
         obtain ⟨r6,hq7,h⟩:=zbL h
         refine zbg (v:=.string r6) (vs:=[.string (zdR (zdR text1 r3.1.From r3.1.To) 1 ((zdR text1 r3.1.From r3.1.To).size:Int)),.string (⟨#[32]⟩:zBA)]) rfl dc rfl rfl rfl zAL (zin hq7) (zai rfl dc rfl (zaa zdr rfl dc rfl (show _=0 from rfl) (zaa ziK rfl dc rfl (show _=0 from rfl) ?_)))
         refine zaT (k:=4) (l':=[.string r6,hd10.v,hd11.v,.string text1]) zof rfl rfl rfl rfl rfl (fun _ _=>rfl) rfl ?_
         refine zyN (zbu (zcZ dc (zaq (zaJ ?_))))
         exact zak (r6,p15,p16,false,row3,hd10,hd11) h rfl (zbf rfl) (zab [0,1,2,3,4,5,6] kr rfl)
        refine zyG (zyR 1 rfl (zai rfl dc rfl (zaa zdr rfl dc rfl (show _=0 from rfl) (zaa zfT rfl dc rfl (show _=1 from rfl) (zaj (k:=4) zjL rfl dc rfl rfl rfl (zdu (k:=5) rfl dc rfl rfl underlying71 (zaS rfl zaL (zyR 1 rfl (zyN ?_)))))))))
        refine zyB rfl h (fun h => ?_) (fun h => ?_)
        ·
         refine zaE ?_
         refine zbB 4 [(0,79,zP b6),(1,80,zI r3.1.From),(2,81,.agg #[zI 3,zI r3.1.From]),(3,2,.pointer none)] mixed kr kr dc (by rfl) kr kr (zad ?_ (zad ?_ (zad ?_ (zad ?_ DrawPre.nil)))) ?_
         · exact fun D n d c u i=>zaa zhb rfl dc (zbd (by rfl) rfl) (show _=0 from rfl) (zar 0 u i)
         · exact fun D n d c u i=>zaj (k:=7) zbW rfl dc (zam 0 u d) rfl rfl (zar 1 u i)
         · exact fun D n d c u i=>zbA (v:=.agg #[zI 3,zI r3.1.From]) (ps:=[(0,.const (zI 3)),(1,.tmp 80)]) rfl dc (evP.cons rfl (evP.cons (zam 1 u d) evP.nil)) (fun _=>by kernel_rfl) (zar 2 u i)
         · exact fun D n d c u i=>zyR 1 rfl (zar 3 u i)
         refine zaZ (k:=0) (vs:=[zI 3,zI r3.1.From]) (l':=[zI 3,zI r3.1.From]) zqe rfl rfl rfl rfl rfl (show _≤_ by simp) rfl rfl (zyN (zau (zag (zaf (zag (zaf (zaf (zag (zaf (zcy (by simp) (zdQ zbl zbk 76 ?_)))))))))))
         cases h
         exact zbt (rs:=[.tmp 2,.cell 3 31]) (.pointer none) (.inl rfl) results5 (.cons (.tmp rfl) (.cons (.cells zto (k:=0) rfl rfl rfl) .nil)) rfl (zab [8] kr rfl)
        refine zal (zae ?_)
        exact zak (r3.1.From,r3.1.To,zdR text1 r3.1.From r3.1.To,b6) h rfl (zbf rfl) (zab [0,1,2,3,4,5,6,7] kr rfl)
       refine zyR 4 rfl (zyN (zaM rfl (zyG (zyR 1 rfl (zai rfl dc rfl (zaa zdr rfl dc rfl (show _=0 from rfl) (zaa zfT rfl dc rfl (show _=1 from rfl) (zaj (k:=4) zjL rfl dc rfl rfl rfl ?_))))))))
       refine zdu (k:=5) rfl dc rfl rfl underlying71 (zaS rfl zaL (zyR 1 rfl (zyN ?_)))
       refine zyB rfl h (fun h => ?_) (fun h => ?_)
       ·
        refine zaE ?_
        refine zbB 4 [(0,79,zP b6),(1,80,zI r3.1.From),(2,81,.agg #[zI 3,zI r3.1.From]),(3,2,.pointer none)] mixed kr kr dc (by rfl) kr kr (zad ?_ (zad ?_ (zad ?_ (zad ?_ DrawPre.nil)))) ?_
        · exact fun D n d c u i=>zaa zhb rfl dc (zbd (by rfl) rfl) (show _=0 from rfl) (zar 0 u i)
        · exact fun D n d c u i=>zaj (k:=7) zbW rfl dc (zam 0 u d) rfl rfl (zar 1 u i)
        · exact fun D n d c u i=>zbA (v:=.agg #[zI 3,zI r3.1.From]) (ps:=[(0,.const (zI 3)),(1,.tmp 80)]) rfl dc (evP.cons rfl (evP.cons (zam 1 u d) evP.nil)) (fun _=>by kernel_rfl) (zar 2 u i)
        · exact fun D n d c u i=>zyR 1 rfl (zar 3 u i)
        refine zaZ (k:=0) (vs:=[zI 3,zI r3.1.From]) (l':=[zI 3,zI r3.1.From]) zqe rfl rfl rfl rfl rfl (show _≤_ by simp) rfl rfl (zyN (zau (zag (zaf (zag (zaf (zaf (zag (zaf (zcy (by simp) (zdQ zbl zbk 76 ?_)))))))))))
        cases h
        exact zbt (rs:=[.tmp 2,.cell 3 31]) (.pointer none) (.inl rfl) results5 (.cons (.tmp rfl) (.cons (.cells zto (k:=0) rfl rfl rfl) .nil)) rfl (zab [8] kr rfl)
       refine zal (zae ?_)
       exact zak (r3.1.From,r3.1.To,zdR text1 r3.1.From r3.1.To,b6) h rfl (zbf rfl) (zab [0,1,2,3,4,5,6,7] kr rfl)
      rintro ⟨span1,span2,line1,b5⟩ h
      rw [hj3] at h
      obtain ⟨j4,hj4,h⟩:=zbT h
      refine za8 (β:=(List Gapi_Span)×Hd) 2 rfl (fun b=>j4 b.1=some r) (fun b=>[]) (fun b=>[(0,.string text1),(3,zP b1),(4,zP b4),(6,zP b3),(7,.bool false),(10,zP b5),(13,.string line1),(14,zI (p15.length:Int)),(30,zI r2),(31,zI x3)]) (fun b=>[cells b1 [zI 0,zI 0] 31,cells b4 [.string p4.text,hd3.v,hd4.v] 128,zv5 hd3.v p4.places,zv4 hd4.v p4.lines,cells b3 [.string p14,hd10.v,b.2.v,.string text1] 76,zv7 hd10.v p15,zv8 b.2.v b.1,cells b5 [zI span1,zI span2] 48]) (fun cut => ?_) ?_
      ·
       refine zyG (zyR 1 rfl (zyH (zyR 1 rfl (zai rfl dc rfl (zaa zdr rfl dc rfl (show _=0 from rfl) (zaa zfT rfl dc rfl (show _=1 from rfl) (zaj (k:=4) zjL rfl dc rfl rfl rfl (zdu (k:=5) rfl dc rfl rfl underlying71 (zyR 1 rfl ?_)))))))))
       refine zyN (cut (zyG (zyR 1 rfl (zdt rfl dc rfl zct (zyN ?_)))))
       refine zyB rfl h (fun h => ?_) (fun h => ?_)
       ·
        refine zas (zyR 2 rfl (zai rfl dc rfl (zaa zdr rfl dc rfl (show _=0 from rfl) (zaa zmK rfl dc rfl (show _=2 from rfl) (zaj (k:=4) zu7 rfl dc rfl rfl rfl (zyR 2 rfl ?_))))))
        refine zbA (v:=.agg #[zI (p15.length:Int),zI (p15.length:Int)]) (ps:=[(0,.tmp 96),(1,.tmp 97)]) rfl dc rfl (fun _=>by kernel_rfl) ?_
        refine zbc (cs:=[zI (p15.length:Int),zI (p15.length:Int)]) (te:=48) (ps:=[(0,.tmp 98)]) rfl dc rfl (fun _=>by kernel_rfl) (fun b7 => ?_)
        obtain ⟨hg4,h⟩:=zbQ h
        refine zbx (k:=6) (k2:=8) (ys:=[(⟨(p15.length:Int),(p15.length:Int)⟩:Gapi_Span)]) underlying72 zAZ zgp zkX rfl dc rfl rfl rfl rfl rfl rfl hg4 (fun v2 => ?_)
        refine zbJ (k:=6) rfl (fun hd15 he1 => ?_)
        subst he1
        refine zai rfl dc rfl (zaa zdr rfl dc rfl (show _=0 from rfl) (zaa zmK rfl dc rfl (show _=2 from rfl) ?_))
        refine zaT (k:=4) (l':=[.string p14,hd10.v,hd15.v,.string text1]) zz3 rfl rfl rfl rfl rfl (fun _ _=>rfl) rfl ?_
        refine zaP ?_
        exact zak (p16++[(⟨(p15.length:Int),(p15.length:Int)⟩:Gapi_Span)],hd15) h rfl (zbf rfl) (zab [0,1,2,3,4,5,6,7] kr rfl)
       refine zal ?_
       exact zak (p16,hd11) h rfl (zbf rfl) (zab [0,1,2,3,4,5,6,7] kr rfl)
      rintro ⟨p20,hd14⟩ h
      rw [hj4] at h
      refine zyG (zyR 1 rfl (zyN (zaE ?_)))
      obtain ⟨hg5,h⟩:=zbQ h
      obtain ⟨q1,hq8,h⟩:=zbL h
      refine zbB 12 [(0,104,zP b3),(1,105,zP b3),(2,106,zP b3),(3,107,.pointer (some ⟨b3,2,none⟩)),(4,108,hd14.v),(5,109,zP b3),(6,110,zP b3),(7,111,zP b3),(8,112,.pointer (some ⟨b3,2,none⟩)),(9,113,hd14.v),(10,114,zI (p20.length:Int)),(11,115,zI ((p20.length:Int) - 1))] mixed kr kr dc (by rfl) kr kr (zyP 1 0 rfl (zad ?_ (zad ?_ (zad ?_ (zad ?_ (zyP 1 5 rfl (zad ?_ (zad ?_ (zad ?_ (zad ?_ (zad ?_ (zad ?_ DrawPre.nil)))))))))))) ?_
      · exact fun D n d c u i=>zai rfl dc (zam 0 u d) (zar 1 u i)
      · exact fun D n d c u i=>zaa zdr rfl dc (zam 1 u d) (show _=0 from rfl) (zar 2 u i)
      · exact fun D n d c u i=>zaa zmK rfl dc (zam 2 u d) (show _=2 from rfl) (zar 3 u i)
      · exact fun D n d c u i=>zaj (k:=4) zu7 rfl dc (zam 3 u d) rfl rfl (zar 4 u i)
      · exact fun D n d c u i=>zai rfl dc (zam 5 u d) (zar 6 u i)
      · exact fun D n d c u i=>zaa zdr rfl dc (zam 6 u d) (show _=0 from rfl) (zar 7 u i)
      · exact fun D n d c u i=>zaa zmK rfl dc (zam 7 u d) (show _=2 from rfl) (zar 8 u i)
      · exact fun D n d c u i=>zaj (k:=4) zu7 rfl dc (zam 8 u d) rfl rfl (zar 9 u i)
      · exact fun D n d c u i=>zdu (k:=6) rfl dc (zam 9 u d) rfl underlying72 (zar 10 u i)
      · exact fun D n d c u i=>zb6 rfl dc (zam 10 u d) rfl (zce (r:=(p20.length:Int) - 1) (IntWalk.i64_in _ hg5)) (zar 11 u i)
      refine za3 (k:=6) hq8 underlying72 zsf rfl dc rfl rfl rfl rfl (zyR 1 rfl (zyH (zyR 1 rfl ?_)))
      obtain ⟨r7,hq9,h⟩:=zbL h
      refine zbg (v:=zI r7) (vs:=[.string line1]) rfl dc rfl rfl rfl zAK (znj hq9) (zyR 1 rfl (zyN (zaE ?_)))
      obtain ⟨hg6,h⟩:=zbQ h
      obtain ⟨hg7,h⟩:=zbQ h
      obtain ⟨hg8,h⟩:=zbQ h
      obtain ⟨hg9,h⟩:=zbQ h
      obtain ⟨hg10,h⟩:=zbQ h
      refine zgG 1 ?_
      refine let vals1:(Nat×Hd)→List (Nat×Nat×Value):=fun b=>[(0,119,zP b3),(1,120,zP b3),(2,121,zP b3),(3,122,zP b3),(4,123,.pointer (some ⟨b3,1,none⟩)),(5,124,hd10.v),(6,125,.string line1),(7,126,zI r7),(8,127,.string (zdR line1 r7 (line1.size:Int))),(9,128,zI r7),(10,129,zP b3),(11,130,zP b3),(12,131,zP b3),(13,132,.pointer (some ⟨b3,2,none⟩)),(14,133,hd14.v),(15,134,zI (p20.length:Int)),(16,135,zI ((p20.length:Int) - 1)),(17,136,zI (p15.length:Int)),(18,137,.pointer (some ⟨zdz hd14.v,((p20.length:Int) - 1:Int).toNat*2,none⟩)),(19,138,.pointer (some ⟨zdz hd14.v,((p20.length:Int) - 1:Int).toNat*2,none⟩)),(20,139,.pointer (some ⟨zdz hd14.v,(((p20.length:Int) - 1:Int).toNat)*2,none⟩)),(21,140,zI q1.From),(22,141,zI ((p15.length:Int) - q1.From)),(23,142,zP b5),(24,143,zI span1),(25,144,zI r7),(26,145,zI (span1+r7)),(27,146,.pointer (some ⟨b5,1,none⟩)),(28,147,zI span2),(29,148,.agg #[zI (span1+r7),zI span2]),(30,149,.agg #[.string (zdR line1 r7 (line1.size:Int)),zI r7,zI ((p20.length:Int) - 1),zI ((p15.length:Int) - q1.From),zI (span1+r7),zI span2]),(31,150,.slice (some ⟨b.1,0,none⟩) 1 1),(32,151,b.2.v)]; let LL1:(Nat→Prop)→(Nat×Hd)→List Asn:=fun D b=>[cells b1 [zI 0,zI 0] 31,cells b4 [.string p4.text,hd3.v,hd4.v] 128,zv5 hd3.v p4.places,zv4 hd4.v p4.lines,cells b3 [.string p14,hd10.v,hd14.v,.string text1] 76,eD D (zv7 hd10.v p15) [(32,zv7 b.2.v (p15++[(⟨zdR line1 r7 (line1.size:Int),r7,(p20.length:Int) - 1,(p15.length:Int) - q1.From,span1+r7,span2⟩:zax)]))],zv8 hd14.v p20,cells b5 [zI span1,zI span2] 48,eD D emp [(31,cells b.1 [.string (zdR line1 r7 (line1.size:Int)),zI r7,zI ((p20.length:Int) - 1),zI ((p15.length:Int) - q1.From),zI (span1+r7),zI span2] 50)]]; ?_
      have zhq:zyQ [31,32] LL1:=fun i h D b=>zac rfl (zac rfl (zac rfl (zac rfl (zac rfl (zac (zkr rfl h) (zac rfl (zac rfl (zac (zkr rfl h) rfl))))))))
      refine zeb (β:=Nat×Hd) 33 ((0:Nat),Hd.nil) vals1 LL1 mixed kr kr dc (fun _=>rfl) (zp7 (zac zci (zez (zac zci rfl)))) (zm5 zhq (fun _=>rfl) (fun _=>rfl) 2 0 (fun _=>rfl) rfl (zyq zhq rfl (fun _=>rfl) (fun _=>rfl) ?_ (zyq zhq rfl (fun _=>rfl) (fun _=>rfl) ?_ (zyq zhq rfl (fun _=>rfl) (fun _=>rfl) ?_ (zhC zhq rfl (fun _=>rfl) (fun _=>rfl) ?_ (zm5 zhq (fun _=>rfl) (fun _=>rfl) 2 6 (fun _=>rfl) rfl (zhC zhq rfl (fun _=>rfl) (fun _=>rfl) ?_ (zm5 zhq (fun _=>rfl) (fun _=>rfl) 2 9 (fun _=>rfl) rfl (zyq zhq rfl (fun _=>rfl) (fun _=>rfl) ?_ (zyq zhq rfl (fun _=>rfl) (fun _=>rfl) ?_ (zyq zhq rfl (fun _=>rfl) (fun _=>rfl) ?_ (zhC zhq rfl (fun _=>rfl) (fun _=>rfl) ?_ (zhC zhq rfl (fun _=>rfl) (fun _=>rfl) ?_ (zyq zhq rfl (fun _=>rfl) (fun _=>rfl) ?_ (zm5 zhq (fun _=>rfl) (fun _=>rfl) 2 17 (fun _=>rfl) rfl (zyq zhq rfl (fun _=>rfl) (fun _=>rfl) ?_ (zyq zhq rfl (fun _=>rfl) (fun _=>rfl) ?_ (zhC zhq rfl (fun _=>rfl) (fun _=>rfl) ?_ (zyq zhq rfl (fun _=>rfl) (fun _=>rfl) ?_ (zyq zhq rfl (fun _=>rfl) (fun _=>rfl) ?_ (zhC zhq rfl (fun _=>rfl) (fun _=>rfl) ?_ (zm5 zhq (fun _=>rfl) (fun _=>rfl) 1 25 (fun _=>rfl) rfl (zyq zhq rfl (fun _=>rfl) (fun _=>rfl) ?_ (zyq zhq rfl (fun _=>rfl) (fun _=>rfl) ?_ (zhC zhq rfl (fun _=>rfl) (fun _=>rfl) ?_ (zyq zhq rfl (fun _=>rfl) (fun _=>rfl) ?_ (zyq zhq rfl (fun _=>rfl) (fun _=>rfl) ?_ (zaF ?_ (zaF ?_ DrawG.nil))))))))))))))))))))))))))))) ?_
      · exact fun D ⟨b8,hd16⟩ n d c u i=>zai rfl dc (zam 1 u d) (zar 2 u i)
      · exact fun D ⟨b8,hd16⟩ n d c u i=>zaa zdr rfl dc (zam 2 u d) (show _=0 from rfl) (zar 3 u i)
      · exact fun D ⟨b8,hd16⟩ n d c u i=>zaa zfT rfl dc (zam 3 u d) (show _=1 from rfl) (zar 4 u i)
      · exact fun D ⟨b8,hd16⟩ n d c u i=>⟨_,(zp7 (zac (zah (fun hD=>n (c 32 _ rfl hD 5 dc)) zat) (zcK rfl))),zaj (k:=4) zjL rfl dc (zam 4 u d) rfl rfl (zar 5 u i)⟩
      · exact fun D ⟨b8,hd16⟩ n d c u i=>⟨_,(zp7 (zac (zah (fun hD=>n (c 30 _ rfl (c 31 _ rfl (c 32 _ rfl hD 31 dc) 30 dc) 8 dc)) zat) (zez (zac (zah (fun hD=>n (c 30 _ rfl (c 31 _ rfl hD 30 dc) 8 dc)) zat) rfl)))),zdA rfl dc (zam 6 u d) (evO.some (zam 7 u d)) zj7 (zcX (i:=r7) (j:=(line1.size:Int)) underlying9 (.inr rfl) (.inl ⟨rfl,rfl⟩) hg6) (zar 8 u i)⟩
      · exact fun D ⟨b8,hd16⟩ n d c u i=>zai rfl dc (zam 10 u d) (zar 11 u i)
      · exact fun D ⟨b8,hd16⟩ n d c u i=>zaa zdr rfl dc (zam 11 u d) (show _=0 from rfl) (zar 12 u i)
      · exact fun D ⟨b8,hd16⟩ n d c u i=>zaa zmK rfl dc (zam 12 u d) (show _=2 from rfl) (zar 13 u i)
      · exact fun D ⟨b8,hd16⟩ n d c u i=>⟨_,(zp7 (zac (zah (fun hD=>n (c 15 _ rfl (c 16 _ rfl (c 30 _ rfl (c 31 _ rfl (c 32 _ rfl hD 31 dc) 30 dc) 16 dc) 15 dc) 14 dc)) zat) (zez (zac (zah (fun hD=>n (c 15 _ rfl (c 16 _ rfl (c 30 _ rfl (c 31 _ rfl hD 30 dc) 16 dc) 15 dc) 14 dc)) zat) rfl)))),zaj (k:=4) zu7 rfl dc (zam 13 u d) rfl rfl (zar 14 u i)⟩
      · exact fun D ⟨b8,hd16⟩ n d c u i=>⟨_,(zp7 (zac (zah (fun hD=>n (c 16 _ rfl (c 30 _ rfl (c 31 _ rfl (c 32 _ rfl hD 31 dc) 30 dc) 16 dc) 15 dc)) zat) (zez (zac (zah (fun hD=>n (c 16 _ rfl (c 30 _ rfl (c 31 _ rfl hD 30 dc) 16 dc) 15 dc)) zat) rfl)))),zdu (k:=6) rfl dc (zam 14 u d) rfl underlying72 (zar 15 u i)⟩
      · exact fun D ⟨b8,hd16⟩ n d c u i=>zb6 rfl dc (zam 15 u d) rfl (zce (r:=(p20.length:Int) - 1) (IntWalk.i64_in _ hg7)) (zar 16 u i)
      · exact fun D ⟨b8,hd16⟩ n d c u i=>zai rfl dc (zam 18 u d) (zar 19 u i)
      · exact fun D ⟨b8,hd16⟩ n d c u i=>zaa zhb rfl dc (zam 19 u d) (show _=(((p20.length:Int) - 1:Int).toNat)*2 from rfl) (zar 20 u i)
      · exact fun D ⟨b8,hd16⟩ n d c u i=>⟨_,(zp7 (zac (zah (fun hD=>n (c 22 _ rfl (c 30 _ rfl (c 31 _ rfl (c 32 _ rfl hD 31 dc) 30 dc) 22 dc) 21 dc)) zat) (zez (zac (zah (fun hD=>n (c 22 _ rfl (c 30 _ rfl (c 31 _ rfl hD 30 dc) 22 dc) 21 dc)) zat) rfl)))),zbD (i:=((p20.length:Int) - 1:Int).toNat) (j:=0) (k:=6) (q:=q1) zbW zgp rfl dc (zam 20 u d) rfl (zbo hq8) rfl dc rfl (zar 21 u i)⟩
      · exact fun D ⟨b8,hd16⟩ n d c u i=>zb6 rfl dc (zam 17 u d) (zam 21 u d) (zce (r:=(p15.length:Int) - q1.From) (IntWalk.i64_in _ hg8)) (zar 22 u i)
      · exact fun D ⟨b8,hd16⟩ n d c u i=>zaa zhb rfl dc (zbd (by rfl) rfl) (show _=0 from rfl) (zar 23 u i)
      · exact fun D ⟨b8,hd16⟩ n d c u i=>⟨_,(zp7 (zac (zah (fun hD=>n (c 26 _ rfl (c 29 _ rfl (c 30 _ rfl (c 31 _ rfl (c 32 _ rfl hD 31 dc) 30 dc) 29 dc) 26 dc) 24 dc)) zat) (zez (zac (zah (fun hD=>n (c 26 _ rfl (c 29 _ rfl (c 30 _ rfl (c 31 _ rfl hD 30 dc) 29 dc) 26 dc) 24 dc)) zat) rfl)))),zaj (k:=7) zbW rfl dc (zam 23 u d) rfl rfl (zar 24 u i)⟩
      · exact fun D ⟨b8,hd16⟩ n d c u i=>zb6 rfl dc (zam 24 u d) (zam 25 u d) (zbb (r:=span1+r7) (IntWalk.i64_in _ hg9)) (zar 26 u i)
      · exact fun D ⟨b8,hd16⟩ n d c u i=>zaa zdK rfl dc (zbd (by rfl) rfl) (show _=1 from rfl) (zar 27 u i)
      · exact fun D ⟨b8,hd16⟩ n d c u i=>⟨_,(zp7 (zac (zah (fun hD=>n (c 29 _ rfl (c 30 _ rfl (c 31 _ rfl (c 32 _ rfl hD 31 dc) 30 dc) 29 dc) 28 dc)) zat) (zez (zac (zah (fun hD=>n (c 29 _ rfl (c 30 _ rfl (c 31 _ rfl hD 30 dc) 29 dc) 28 dc)) zat) rfl)))),zaj (k:=7) zbW rfl dc (zam 27 u d) rfl rfl (zar 28 u i)⟩
      · exact fun D ⟨b8,hd16⟩ n d c u i=>zbA (v:=.agg #[zI (span1+r7),zI span2]) (ps:=[(0,.tmp 145),(1,.tmp 147)]) rfl dc (evP.cons (zam 26 u d) (evP.cons (zam 28 u d) evP.nil)) (fun _=>by kernel_rfl) (zar 29 u i)
      · exact fun D ⟨b8,hd16⟩ n d c u i=>zbA (v:=.agg #[.string (zdR line1 r7 (line1.size:Int)),zI r7,zI ((p20.length:Int) - 1),zI ((p15.length:Int) - q1.From),zI (span1+r7),zI span2]) (ps:=[(0,.tmp 127),(1,.tmp 128),(2,.tmp 135),(3,.tmp 141),(4,.tmp 148)]) rfl dc (evP.cons (zam 8 u d) (evP.cons (zam 9 u d) (evP.cons (zam 16 u d) (evP.cons (zam 22 u d) (evP.cons (zam 29 u d) evP.nil))))) (fun _=>by kernel_rfl) (zar 30 u i)
      ·
       intro D b hn hd hcl
       obtain ⟨zb0,hd16⟩:=b
       refine zaY (zp7 (zac (zah (fun hD=>hn (hcl 32 _ rfl hD 31 dc)) zat) (zez (zac (zah hn zat) rfl)))) ?_
       refine zbc (cs:=[.string (zdR line1 r7 (line1.size:Int)),zI r7,zI ((p20.length:Int) - 1),zI ((p15.length:Int) - q1.From),zI (span1+r7),zI span2]) (te:=50) (ps:=[(0,.tmp 149)]) rfl dc (evP.cons (zaI (m:=30) rfl rfl (hd 30 dc)) evP.nil) (fun _=>by kernel_rfl) (fun b8 => ?_)
       refine zdg 8 rfl rfl ?_
       exact za4 (b:=(zb0,hd16)) (b8,hd16) 31 (by rfl) (by rfl) rfl (zls (zd5 (zd5 (zaz (fun hD=>absurd hD hn) (zaz (fun _=>rfl) rfl))))) (zp7 (zac ((zav (by rfl)).trans (zah (fun hD=>hn (hcl 32 _ rfl hD 31 dc)) zat)) (zez (zac (zaW (Or.inr rfl) rfl) rfl))))
      ·
       intro D b hn hd hcl
       obtain ⟨b8,zb1⟩:=b
       refine zaY (zp7 (zac (zah hn zat) (zez (zac (zaW (hd 31 dc) rfl) rfl)))) ?_
       refine zbx (k:=5) (k2:=8) (ys:=[(⟨zdR line1 r7 (line1.size:Int),r7,(p20.length:Int) - 1,(p15.length:Int) - q1.From,span1+r7,span2⟩:zax)]) underlying71 zAY zeq zkf rfl dc (zaI (m:=5) rfl rfl (hd 5 dc)) (zaI (m:=31) rfl rfl (hd 31 dc)) rfl rfl rfl rfl hg10 (fun v3 => ?_)
       refine zbJ (k:=5) rfl (fun hd16 he2 => ?_)
       subst he2
       exact za4 (b:=(b8,zb1)) (b8,hd16) 32 (by rfl) (by rfl) rfl (zks (zd5 (zd5 (zaz (fun hD=>absurd hD hn) rfl)))) (zp7 (zac (zaW (Or.inr rfl) rfl) (zez (zac ((zav (by rfl)).trans (zaW (hd 31 dc) rfl)) rfl))))
      intro D b hall
      obtain ⟨b8,hd16⟩:=b
      refine zaY (zp7 (zac (zaW (hall 32 dc) rfl) (zez (zac (zaW (hall 31 dc) rfl) rfl)))) (zai rfl dc rfl (zaa zdr rfl dc rfl (show _=0 from rfl) (zaa zfT rfl dc rfl (show _=1 from rfl) ?_)))
      refine zaT (k:=4) (l':=[.string p14,hd16.v,hd14.v,.string text1]) zz4 rfl rfl rfl rfl rfl (fun _ _=>rfl) rfl ?_
      refine zyN (zas (zyR 2 rfl ?_))
      obtain ⟨hg11,h⟩:=zbQ h
      refine zaS rfl (zbb (r:=(p15.length:Int)+1) (IntWalk.i64_in _ hg11)) (zai rfl dc rfl (zaa zdK rfl dc rfl (show _=(((p20.length:Int) - 1:Int).toNat)*2+1 from rfl) ?_))
      refine zex (i:=((p20.length:Int) - 1:Int).toNat) (j:=1) (k:=6) (q:=q1) (q':=(⟨q1.From,(p15.length:Int)+1⟩:Gapi_Span)) zeI zgp rfl rfl rfl rfl (zbo hq8) rfl dc rfl (fun _ _=>rfl) ?_
      refine zaP (zae ?_)
      exact zak (p14,p15++[(⟨zdR line1 r7 (line1.size:Int),r7,(p20.length:Int) - 1,(p15.length:Int) - q1.From,span1+r7,span2⟩:zax)],p20.set ((p20.length:Int) - 1:Int).toNat (⟨q1.From,(p15.length:Int)+1⟩:Gapi_Span),false,true,hd16,hd14) h rfl (zbf rfl) (zab [0,1,2,3,4,5,6] kr rfl)
     rintro ⟨p17,p18,p19,first4,row4,hd12,hd13⟩ h
     rw [hj2] at h
     refine zas ?_
     obtain ⟨hg12,h⟩:=zbQ h
     refine zaS rfl (zbb (r:=x3+1) (IntWalk.i64_in _ hg12)) (zyR 1 rfl (zaP ?_))
     subst hag1
     exact zbr (n1,p17,p18,p19,first4,row4,x3+1,hd12,hd13) h (Nat.lt_succ_self _) rfl (zbf rfl) (zab [0,1,2,3,4,5,6] kr rfl)
    refine zbu (zaq (zaq (zaJ ?_)))
    exact zak (p14,p15,p16,b3,hd10,hd11) h rfl (zbf rfl) (zab [0,4,5,6] kr rfl)
  rintro ⟨p1,p2,p3,b2,hd1,hd2⟩ h
  rw [hj1] at h
  refine zyG (zyR 1 rfl ?_)
  refine zbA (v:=.agg #[zI 0,zI 0]) (ps:=[]) rfl dc rfl (fun _=>by kernel_rfl) ?_
  refine zyR 1 rfl (zaZ (k:=0) (vs:=[zI 0,zI 0]) (l':=[zI 0,zI 0]) zqe rfl rfl rfl rfl rfl (show _≤_ by simp) rfl rfl (zyN (zau (zcy (by simp) ?_))))
  refine zqX (As:=[cells b2 [.string p1,hd1.v,hd2.v,.string text1] 76,zv7 hd1.v p2,zv8 hd2.v p3]) (zab [1,2,3] kr rfl) (zk9 (enc:=zbl) (nest:=zbk) (t:=76) (x:=(⟨p1,p2,p3,text1⟩:zaC)) (b:=b2) (hd:=(hd1,hd2))) (fun _ _ => ?_)
  cases h
  exact zbt (rs:=[.tmp 2,.cell 3 31]) (zP b2) (.inl rfl) results5 (.cons (.tmp rfl) (.cons (.cells zto (k:=0) rfl rfl rfl) .nil)) rfl (zab [4] kr rfl)
 exact fun b hb=>hb.elim
def mkB (l:List UInt8):zBA:=⟨l.toArray⟩
theorem zhW (l:List UInt8):(mkB l).data.toList=l:=rfl
theorem zcr (l:List UInt8):(mkB l).size=l.length:=by rw [← zrS,zhW]
theorem zkI {a b:List UInt8} (h:mkB a=mkB b):a=b:=by
 have:=congrArg (fun s:zBA=>s.data.toList) h
 exact this
theorem zy2 (s:zBA):∃ l,s=mkB l:=⟨s.data.toList,rfl⟩
theorem zqP (l:List UInt8) (i j:Nat):zdR (mkB l) (i:Int) (j:Int)=mkB ((l.drop i).take (j - i)):=by
 unfold zdR
 have h:∀ a b:zBA,a.data.toList=b.data.toList→a=b:=fun a b h=>by
  have:mkB a.data.toList=mkB b.data.toList:=by rw [h]
  exact this
 apply h
 rw [zhW]
 simp only [Int.toNat_natCast,ByteArray.data_extract,Array.toList_extract,List.extract,zhW]
theorem zqO (l:List UInt8) (i:Nat):zdR (mkB l) (i:Int) ((mkB l).size:Int)=mkB (l.drop i):=by
 rw [zqP,zcr,List.take_of_length_le (by rw [List.length_drop]; omega)]
def isB (b:UInt8):Bool:=b==32||b==9
def zje (l:List UInt8):Bool:=l.all isB
theorem zjo {p:UInt8→Bool}:∀ {l:List UInt8} {c:UInt8} {t:List UInt8},l.dropWhile p=c::t→p c=false
 | [],c,t,h=>by cases h
 | b::l,c,t,h=>by
  rw [List.dropWhile_cons] at h
  split at h
  ·exact zjo h
  ·rename_i hb
   rw [← (List.cons.inj h).1]; simpa using hb
theorem zgS {p:UInt8→Bool}:∀ (l:List UInt8),l.dropWhile p=[]↔l.all p=true
 | []=>by simp
 | b::l=>by
  rw [List.dropWhile_cons,List.all_cons]
  split
  ·rename_i h; rw [zgS l,h,Bool.true_and]
  ·rename_i h; rw [Bool.not_eq_true] at h; rw [h]; simp
theorem zny (l:List UInt8):Lib.trimS l [32,9]=[]↔zje l=true:=by
 have hc:(fun x=>([32,9]:List UInt8).contains x)=isB:=by
  funext x; unfold isB; simp only [List.contains_cons,List.contains_nil,Bool.or_false]
 unfold Lib.trimS Lib.trimLeftS Lib.trimRightS zje
 rw [hc]
 cases hd:l.reverse.dropWhile isB with
 | nil =>
  have:=(zgS l.reverse).1 hd
  rw [List.all_reverse] at this
  rw [this]; simp
 | cons c t =>
  have h1:=zjo hd
  rw [zgS,List.all_reverse,List.all_cons,h1]
  have h2:l.all isB=false:=by
   cases h:l.all isB with
   | false=>rfl
   | true =>
    rw [← List.all_reverse,← zgS,hd] at h; cases h
  rw [h2]; simp
theorem zud (l:List UInt8) (h:l.length≤9223372036854775807):ze9 (mkB l)=some (zje l):=by
 unfold ze9
 refine zcm (by rw [zcr]; exact h) (congrArg some ?_)
 unfold zq9
 rw [zhW]
 have:(⟨(Lib.trimS l [32,9]).toArray⟩:zBA)=mkB (Lib.trimS l [32,9]):=rfl
 rw [this,show (⟨#[]⟩:zBA)=mkB [] from rfl]
 cases hb:zje l with
 | true=>exact decide_eq_true (by rw [(zny l).2 hb])
 | false=>exact decide_eq_false (fun e=>by have:=(zny l).1 (zkI e); rw [hb] at this; cases this)
def zp4:List UInt8→Bool
 | []=>false
 | [b]=>b==35
 | b::c::_=>b==35&&c==32
theorem zw9 (l p:List UInt8):zb4 (mkB l) (mkB p)=some (decide (p.length≤l.length)&&decide (l.take p.length=p)):=by
 unfold zb4
 rw [zcr,zcr]
 by_cases h:p.length≤l.length
 ·refine zaR (decide_eq_true (by omega)) (zcm ⟨by omega,by omega,by omega⟩ (congrArg some ?_))
  have:=zqP l 0 p.length
  rw [show ((0:Nat):Int)=0 from rfl] at this
  rw [this,List.drop_zero,Nat.sub_zero,decide_eq_true h,Bool.true_and]
  by_cases e:l.take p.length=p
  ·rw [decide_eq_true e,decide_eq_true (by rw [e])]
  ·rw [decide_eq_false e,decide_eq_false (fun x=>e (zkI x))]
 ·refine zaK (decide_eq_false (by omega)) ?_
  rw [decide_eq_false h]; rfl
theorem zrb (l:List UInt8):zfm (mkB l)=some (zp4 l):=by
 unfold zfm zcB
 rw [show (⟨#[35]⟩:zBA)=mkB [35] from rfl,show (⟨#[35,32]⟩:zBA)=mkB [35,32] from rfl]
 by_cases h:l=[35]
 ·subst h; exact zaR (decide_eq_true rfl) rfl
 ·refine zaK (decide_eq_false (fun e=>h (zkI e))) (za7 (za7 (zw9 _ _) rfl) (congrArg some ?_))
  match l with
  | []=>rfl
  | [b] =>
   have hb:b≠35:=fun e=>h (by rw [e])
   show _=(b==35)
   rw [beq_eq_false_iff_ne.2 hb]; rfl
  | b::c::t =>
   show _=(b==35&&c==32)
   rw [decide_eq_true (by simp),Bool.true_and]
   show decide ([b,c]=[35,32])=_
   by_cases hb:b=35 <;> by_cases hc:c=32 <;> simp [hb,hc]
theorem zwT (l:List UInt8) (h:zp4 l=true):zdM (mkB (l.drop 1)) (mkB [32])=some (mkB (l.drop 2)):=by
 unfold zdM zcI
 refine za7 (za7 (zw9 _ _) (?_:_=some (mkB (l.drop 2)))) rfl
 match l with
 | []=>cases h
 | [b]=>exact zaK (by simp) rfl
 | b::c::t =>
  have hc:c=32:=by
   unfold zp4 at h; rw [Bool.and_eq_true] at h; exact beq_iff_eq.1 h.2
  subst hc
  refine zaR (by simp) (zcm ⟨by omega,by rw [zcr,zcr,List.drop_one,List.tail_cons,List.length_cons]; simp only [List.length_cons,List.length_nil]; omega,by omega⟩ (congrArg some ?_))
  exact zqO (32::t) 1
def ind (l:List UInt8):Nat:=(l.takeWhile (· == 32)).length
theorem zlR (b:UInt8) (l:List UInt8):ind (b::l)=if b=32 then ind l+1 else 0:=by
 unfold ind
 rw [List.takeWhile_cons]
 by_cases h:b=32
 ·subst h; simp
 ·rw [if_neg h,beq_eq_false_iff_ne.2 h]; rfl
theorem ztU (l:List UInt8):ind l≤l.length:=by
 induction l with
 | nil=>exact Nat.le_refl _
 | cons b l ih=>rw [zlR,List.length_cons]; split <;> omega
theorem zvl (l:List UInt8) (h:l.length≤1073741824):zeM (mkB l)=some (ind l:Int):=by
 unfold zeM
 refine zcj ?_
 have key:∀ (n i:Nat),i≤l.length→l.length - i<n→(pcs l).drop i=zdS i (l.drop i)→za1 (fun _ _=>none) (zdV (mkB l) (fun (n1:Int)=>some n1)) n (i:Int) i=some ((i+ind (l.drop i):Nat):Int):=by
  intro n
  induction n with
  | zero=>intro i h1 h2; omega
  | succ n ih =>
   intro i hi hn hp
   rw [zdv]
   obtain ⟨ag,hag⟩:∃ ag,ag=za1 (fun _ _=>none) (zdV (mkB l) (fun (n1:Int)=>some n1)) n:=⟨_,rfl⟩
   rw [← hag] at ih ⊢
   unfold zdV
   rw [zhW]
   cases hd:l.drop i with
   | nil =>
    rw [hd,zcT] at hp
    have:=List.drop_eq_nil_iff.1 hp
    exact zaK (decide_eq_false (by omega)) rfl
   | cons b t =>
    obtain ⟨hb,hlt⟩:=zmC (s:=mkB l) hd
    rw [zcr] at hlt
    rw [hd,zcU i (b::t) (by simp)] at hp
    have hlm:i<(pcs l).length:=by
     rcases Nat.lt_or_ge i (pcs l).length with h | h
     ·exact h
     ·rw [List.drop_eq_nil_of_le h] at hp; cases hp
    have hq:(pcs l)[i]?=some ⟨i,(decodeL (b::t)).2,(decodeL (b::t)).1⟩:=by
     have hp2:=hp
     rw [List.drop_eq_getElem_cons hlm] at hp2
     rw [List.getElem?_eq_getElem hlm,(List.cons.inj hp2).1]
    refine zaR (decide_eq_true hlm) (za7 hq ?_)
    rw [zlR]
    by_cases h32:b=32
    ·subst h32
     have hdec:=decodeL_ascii 32 t (by decide)
     rw [hdec] at hp ⊢
     refine zaK rfl (zcm ⟨by omega,by omega⟩ ?_)
     have:=ih (i+1) (by omega) (by omega) (by
      rw [← List.drop_drop,hp,zki hd]; rfl)
     rw [zki hd] at this
     rw [if_pos rfl,show (i:Int)+1=((i+1:Nat):Int) by omega]
     refine this.trans ?_
     congr 2; omega
    ·refine zaR ?_ (by rw [if_neg h32]; rfl)
     show (((decodeL (b::t)).1:Int) != 32)=true
     refine bne_iff_ne.2 (fun e => ?_)
     by_cases hbig:128≤b.toNat
     ·have:=(zpM (t:=t) hbig).1; omega
     ·rw [decodeL_ascii b t (by omega)] at e
      exact h32 (UInt8.toNat.inj (by show b.toNat=32; have:((b.toNat:Nat):Int)=32:=e; omega))
 have:=key zcD 0 (Nat.zero_le _) (by unfold zcD; omega) (by rw [List.drop_zero,List.drop_zero]; rfl)
 rw [List.drop_zero,Nat.zero_add] at this
 exact this
theorem zoX (T:List UInt8):∀ (l:List UInt8) (p:Bool) (f a:Nat),T.drop a=l→f≤a→(p=true→l.head?=some 10→f+1≤a) →
  (∀ b∈(T.drop f).take ((if p=true∧l.head?=some 10 then a - 1 else a) - f),isE b=false)→a≤T.length →
  ∀ x∈spP p f a l,x.1≤x.2∧x.2≤T.length∧∀ b∈(T.drop x.1).take (x.2 - x.1),isE b=false
 | [],p,f,a,hd,hf,hp,hb,ha=>by
  intro x hx
  rw [spP,List.mem_singleton] at hx
  subst hx
  have:T.length≤a:=List.drop_eq_nil_iff.1 hd
  refine ⟨hf,ha,?_⟩
  rw [if_neg (by simp)] at hb
  exact hb
 | b::t,p,f,a,hd,hf,hp,hb,ha=>by
  intro x hx
  have hlt:a<T.length:=by
   rcases Nat.lt_or_ge a T.length with h | h
   ·exact h
   ·rw [List.drop_eq_nil_of_le h] at hd; cases hd
  have hd1:=zki hd
  have hsnoc:∀ f',f'≤a→(T.drop f').take (a+1 - f')=(T.drop f').take (a - f')++[b]:=fun f' hf'=>by
   rw [show a+1 - f'=(a - f')+1 by omega,List.take_add_one,List.getElem?_drop,show f'+(a - f')=a by omega]
   have:T[a]?=some b:=by
    have h0:(T.drop a)[0]?=some b:=by rw [hd]; rfl
    rw [List.getElem?_drop] at h0; exact h0
   rw [this]; rfl
  rw [spP] at hx
  by_cases h13:b=13
  ·rw [if_pos h13] at hx
   have hne:¬ (p=true∧(b::t).head?=some 10):=by rw [h13]; simp
   rw [if_neg hne] at hb
   by_cases ht:t.head?=some 10
   ·rw [if_pos ht] at hx
    refine zoX T t true f (a+1) hd1 (by omega) (fun _ _=>by omega) ?_ (by omega) x hx
    rw [if_pos ⟨rfl,ht⟩]; exact hb
   ·rw [if_neg ht] at hx
    rcases List.mem_cons.1 hx with rfl | hx
    ·exact ⟨hf,ha,hb⟩
    ·refine zoX T t true (a+1) (a+1) hd1 (Nat.le_refl _) (fun _ h=>absurd h ht) ?_ (by omega) x hx
     rw [if_neg (fun h=>ht h.2),Nat.sub_self,List.take_zero]
     intro y hy; cases hy
  ·rw [if_neg h13] at hx
   by_cases h10:b=10
   ·rw [if_pos h10] at hx
    rcases List.mem_cons.1 hx with rfl | hx
    ·cases p with
     | true =>
      have:=hp rfl (by rw [h10]; rfl)
      rw [if_pos ⟨rfl,by rw [h10]; rfl⟩] at hb
      exact ⟨by show f≤a - 1; omega,by show a - 1≤_; omega,hb⟩
     | false =>
      rw [if_neg (by simp)] at hb
      exact ⟨hf,ha,hb⟩
    ·refine zoX T t false (a+1) (a+1) hd1 (Nat.le_refl _) (fun h=>by cases h) ?_ (by omega) x hx
     rw [if_neg (by simp),Nat.sub_self,List.take_zero]
     intro y hy; cases hy
   ·rw [if_neg h10] at hx
    refine zoX T t false f (a+1) hd1 (by omega) (fun h=>by cases h) ?_ (by omega) x hx
    rw [if_neg (by simp),hsnoc f hf]
    have hne:¬ (p=true∧(b::t).head?=some 10):=fun h=>h10 (Option.some.inj h.2)
    rw [if_neg hne] at hb
    intro y hy
    rcases List.mem_append.1 hy with hy | hy
    ·exact hb y hy
    ·rw [List.mem_singleton] at hy
     subst hy
     unfold isE
     rw [beq_eq_false_iff_ne.2 h13,beq_eq_false_iff_ne.2 h10]; rfl
theorem zrg (T:List UInt8):∀ x∈zfM T,x.1≤x.2∧x.2≤T.length∧∀ b∈(T.drop x.1).take (x.2 - x.1),isE b=false :=
 zoX T T false 0 0 (List.drop_zero) (Nat.le_refl _) (fun h=>by cases h) (by intro b hb; simp at hb) (Nat.zero_le _)
theorem zkB:∀ (l:List UInt8) (p:Bool) (f a:Nat),(spP p f a l).length≤l.length+1
 | [],p,f,a=>Nat.le_refl _
 | b::t,p,f,a=>by
  rw [spP,List.length_cons]
  split
  ·split
   ·have:=zkB t true f (a+1); omega
   ·rw [List.length_cons]; have:=zkB t true (a+1) (a+1); omega
  ·split
   ·rw [List.length_cons]; have:=zkB t false (a+1) (a+1); omega
   ·have:=zkB t false f (a+1); omega
def zlx (T:List UInt8):List (Nat×List UInt8):=(zfM T).map fun x=>(x.1,(T.drop x.1).take (x.2 - x.1))
structure RS where
 t:List UInt8
 stz:List (List (List UInt8))
 vs:List zax
 first:Bool
 row:Bool
def zgQ (z:List (List (List UInt8))):List (List UInt8):=z.getLastD []
def zdN (st:RS):List (List (List UInt8)):=if st.row then st.stz else st.stz++[[]]
def zkz (f:Nat) (x:List UInt8) (z:List (List (List UInt8))):zax:=⟨mkB (x.drop (ind x)),ind x,(z.length:Int) - 1,(zgQ z).length,(f:Int)+ind x,((f+x.length:Nat):Int)⟩
def zp6 (st:RS) (f:Nat) (x:List UInt8):RS :=
 ⟨st.t,(zdN st).dropLast++[zgQ (zdN st)++[x]],st.vs++[zkz f x (zdN st)],false,true⟩
def zgh (st:RS) (x:Nat×List UInt8):Except zbS RS :=
 if zje x.2=true then .ok { st with row:=false }
 else if 1024<x.2.length then .error ⟨3,(x.1:Int)+1024⟩
 else if st.first=true∧zp4 x.2=true then .ok { st with first:=false,t:=x.2.drop 2 }
 else if st.vs.length=512 then .error ⟨3,x.1⟩
 else .ok (zp6 st x.1 x.2)
def zeR:RS→List (Nat×List UInt8)→Except zbS RS
 | st,[]=>.ok st
 | st,x::xs=>match zgh st x with
  | .ok st'=>zeR st' xs
  | .error e=>.error e
def rs0:RS:=⟨[],[],[],true,false⟩
def rd (T:List UInt8):Except zbS RS:=if 65536<T.length then .error ⟨3,65536⟩ else zeR rs0 (zlx T)
def tot (z:List (List (List UInt8))):Nat:=(z.map List.length).sum
def zkt:Nat→List (List (List UInt8))→List Gapi_Span
 | _,[]=>[]
 | n,r::rs=>⟨n,((n+r.length:Nat):Int)⟩::zkt (n+r.length) rs
theorem zlN:∀ (a b:List (List (List UInt8))) (n:Nat),zkt n (a++b)=zkt n a++zkt (n+tot a) b
 | [],b,n=>rfl
 | r::a,b,n=>by
  show _::zkt (n+r.length) (a++b)=_
  rw [zlN a b]
  have:n+tot (r::a)=n+r.length+tot a:=by unfold tot; rw [List.map_cons,List.sum_cons]; omega
  rw [this]; rfl
theorem ziW:∀ (a:List (List (List UInt8))) (n:Nat),(zkt n a).length=a.length
 | [],n=>rfl
 | r::a,n=>by rw [zkt,List.length_cons,List.length_cons,ziW a]
theorem zl6 (a b:List (List (List UInt8))):tot (a++b)=tot a+tot b:=by unfold tot; rw [List.map_append,List.sum_append]
theorem zl5 (r:List (List UInt8)):tot [r]=r.length:=by unfold tot; simp
theorem zmx {z:List (List (List UInt8))} (h:z≠[]):z=z.dropLast++[zgQ z]:=by
 unfold zgQ
 rw [List.getLastD_eq_getLast?,List.getLast?_eq_some_getLast h]
 exact (List.dropLast_concat_getLast h).symm
structure RInv (st:RS):Prop where
 tot:st.vs.length=tot st.stz
 row:st.row=true→st.stz≠[]
 most:st.vs.length≤512
 ne:∀ r∈st.stz,r≠[]
 t0:st.first=true→st.t=[]
theorem znz:∀ (z:List (List (List UInt8))),(∀ r∈z,r≠[])→z.length≤tot z
 | [],h=>Nat.le_refl _
 | r::z,h=>by
  have h1:=znz z fun y hy=>h y (by simp [hy])
  have h2:0<r.length:=List.length_pos_iff.2 (h r (by simp))
  have:tot (r::z)=r.length+tot z:=by unfold tot; rw [List.map_cons,List.sum_cons]
  rw [this,List.length_cons]; omega
theorem RInv.stzLen {st:RS} (h:RInv st):st.stz.length≤512:=Nat.le_trans (znz _ h.ne) (h.tot ▸ h.most)
theorem zrt {st:RS} (h:RInv st):zdN st≠[]:=by
 unfold zdN
 split
 ·rename_i hr; exact h.row hr
 ·simp
theorem ztF {st:RS} {n:Nat} (h:st.stz.length≤n):(zdN st).length≤n+1:=by
 unfold zdN
 split
 ·omega
 ·rw [List.length_append,List.length_singleton]; omega
theorem zmq (st:RS):tot (zdN st)=tot st.stz:=by
 unfold zdN
 split
 ·rfl
 ·rw [zl6,zl5]; rfl
theorem RInv.step {st st':RS} {x:Nat×List UInt8} (h:RInv st) (hs:zgh st x=.ok st'):RInv st':=by
 unfold zgh at hs
 split at hs
 ·cases hs; exact ⟨h.tot,(fun e=>by cases e),h.most,h.ne,h.t0⟩
 ·split at hs
  ·cases hs
  ·split at hs
   ·cases hs; exact ⟨h.tot,h.row,h.most,h.ne,(fun e=>by cases e)⟩
   ·split at hs
    ·cases hs
    ·rename_i h512
     cases hs
     have e:=zmx (zrt h)
     refine ⟨?_,(fun _=>by simp [zp6]),?_,?_,(fun e=>by cases e)⟩
     ·show (st.vs++[_]).length=Go.Proofs.YtmmhmppcemfdcaaGreatDoor.tot ((zdN st).dropLast++[zgQ (zdN st)++[x.2]])
      have h2:=zmq st
      rw [e,zl6,zl5] at h2
      rw [zl6,zl5,List.length_append,List.length_append,List.length_singleton,List.length_singleton,h.tot,← h2]
      omega
     ·show (st.vs++[_]).length≤512
      rw [List.length_append,List.length_singleton]
      have:=h.most; omega
     ·intro r hr
      rcases List.mem_append.1 hr with hr | hr
      ·have hm:r∈zdN st:=(List.dropLast_sublist _).mem hr
       unfold zdN at hm hr
       split at hm
       ·exact h.ne r hm
       ·rename_i hrow
        rw [if_neg hrow,List.dropLast_concat] at hr
        exact h.ne r hr
      ·rw [List.mem_singleton] at hr
       subst hr; simp
theorem ztp:RInv rs0:=⟨rfl,(fun e=>by cases e),Nat.zero_le _,(fun r hr=>by cases hr),(fun _=>rfl)⟩
theorem zma {α:Type} (a:List α) (x y:α):(a++[x]).set a.length y=a++[y]:=by simp
def mkZ (z:List (List (List UInt8))):List (List zBA):=z.map (·.map mkB)
section
variable {T:List UInt8} {st:RS} {sp:Nat×Nat} {k:Nat}
theorem zqu {st:RS} (h:RInv st):∃ init r,zdN st=init++[r]∧zgQ (zdN st)=r∧(zdN st).dropLast=init∧tot init+r.length=st.vs.length∧zkt 0 (zdN st)=zkt 0 init++[⟨(tot init:Int),(st.vs.length:Int)⟩]:=by
 have e:=zmx (zrt h)
 refine ⟨_,_,e,rfl,rfl,?_,?_⟩
 ·have h2:=zmq st
  rw [e,zl6,zl5] at h2
  rw [h.tot]; exact h2
 ·have h2:=zmq st
  rw [e,zl6,zl5] at h2
  conv=>lhs; rw [e]
  rw [zlN,Nat.zero_add]
  show _++[(⟨(tot (zdN st).dropLast:Int),((tot (zdN st).dropLast+(zgQ (zdN st)).length:Nat):Int)⟩:Gapi_Span)]=_
  rw [h2,h.tot]
theorem zts {J:zBA→(List zax)→(List Gapi_Span)→Option ((Option zaC)×zbS)} {m:zbR} {n:Int} {ag:zBA→(List zax)→(List Gapi_Span)→Bool→Bool→Int→Option ((Option zaC)×zbS)}
  (hT:T.length≤65536) (hI:RInv st) (hk:(zfM T)[k]?=some sp) (hm:m.lines.map spE=(zfM T).map mkS) (hn:(k:Int)<n) :
  zdW (mkB T) J m n ag (mkB st.t) st.vs (zkt 0 st.stz) st.first st.row (k:Int) =
   match zgh st (sp.1,(T.drop sp.1).take (sp.2 - sp.1)) with
   | .error e=>some (none,e)
   | .ok st'=>ag (mkB st'.t) st'.vs (zkt 0 st'.stz) st'.first st'.row ((k+1:Nat):Int):=by
 obtain ⟨h1,h2,_⟩:=zrg T sp (List.mem_of_getElem? hk)
 have hkl:=(List.getElem?_eq_some_iff.1 hk).1
 have hkb:=zkB T false 0 0
 have hkb2:(zfM T).length≤T.length+1:=hkb
 obtain ⟨q,hq,hqs⟩:∃ q,m.lines[k]?=some q∧spE q=mkS sp:=by
  have h3:(m.lines.map spE)[k]?=some (mkS sp):=by rw [hm,List.getElem?_map,hk]; rfl
  rw [List.getElem?_map] at h3
  obtain ⟨q,a,b⟩:=Option.map_eq_some_iff.1 h3
  exact ⟨q,a,b⟩
 have hlen:m.lines.length=(zfM T).length:=by have:=congrArg List.length hm; simpa using this
 have hq1:q.span_From=(sp.1:Int):=congrArg Gapi_Span.From hqs
 have hq2:q.span_To=(sp.2:Int):=congrArg Gapi_Span.To hqs
 have hspan:zeT m (k:Int)=some ((⟨(sp.1:Int),(sp.2:Int)⟩:Gapi_Span),q.end_,0):=by
  unfold zeT
  refine zaK (decide_eq_false (by omega)) (zaK (decide_eq_false (by omega)) (za7 (zcY hq) ?_))
  rw [hq1,hq2]
 have hcut:zdR (mkB T) (sp.1:Int) (sp.2:Int)=mkB ((T.drop sp.1).take (sp.2 - sp.1)):=zqP T sp.1 sp.2
 generalize hx:(T.drop sp.1).take (sp.2 - sp.1)=x at hcut ⊢
 have hxl:x.length=sp.2 - sp.1:=by rw [← hx,List.length_take,List.length_drop]; omega
 unfold zdW
 refine zaR (decide_eq_true hn) (zcj (zcj (za7 hspan (zcm ⟨by show (0:Int)≤(sp.1:Int); omega,by show (sp.1:Int)≤sp.2; omega,by show (sp.2:Int)≤_; rw [zcr]; omega⟩ ?_))))
 show zan (ze9 (zdR (mkB T) (sp.1:Int) (sp.2:Int))) _=_
 rw [hcut]
 refine za7 (zud x (by omega)) ?_
 unfold zgh
 have goOn:∀ (a:zBA) (b:List zax) (c:List Gapi_Span) (d e:Bool),(grd (I64 ((k:Int)+1))<|ag a b c d e ((k:Int)+1))=ag a b c d e ((k+1:Nat):Int):=fun a b c d e=>zcm ⟨by omega,by omega⟩ (by rw [show (k:Int)+1=((k+1:Nat):Int) by omega])
 cases hb:zje x with
 | true =>
  rw [if_pos rfl]
  exact zaR rfl (goOn _ _ _ _ _)
 | false =>
  rw [if_neg (by decide)]
  refine zaK rfl ?_
  by_cases hbig:1024<x.length
  ·rw [if_pos hbig]
   exact zaR (decide_eq_true (by rw [zcr]; omega)) (zcm ⟨by show _≤(sp.1:Int)+1024; omega,by show (sp.1:Int)+1024≤_; omega⟩ rfl)
  ·rw [if_neg hbig]
   refine zaK (decide_eq_false (by rw [zcr]; omega)) ?_
   have h512:=hI.most
   have verse:¬ (st.first=true∧zp4 x=true)→(zaB (((st.vs.length:Int):Int)==512) (some (none,(⟨3,(sp.1:Int)⟩:zbS))) (zbE (fun (j4:(List Gapi_Span)→Option ((Option zaC)×zbS)) =>
     zaB (!st.row) (grd ((zkt 0 st.stz).length+1≤2147483648)<|j4 (zkt 0 st.stz++[(⟨(st.vs.length:Int),(st.vs.length:Int)⟩:Gapi_Span)])) (j4 (zkt 0 st.stz))) (fun (p20:List Gapi_Span) =>
      grd (I64 ((p20.length:Int) - 1)) <|
      zan (zdf p20 ((p20.length:Int) - 1)) fun (q1:Gapi_Span) =>
      zan (zeM (mkB x)) fun (r7:Int) =>
      grd (0≤(r7:Int)∧(r7:Int)≤((mkB x).size:Int)∧(((mkB x).size:Int):Int)≤((mkB x).size:Int)) <|
      grd (I64 ((p20.length:Int) - 1)) <|
      grd (I64 ((st.vs.length:Int) - q1.From)) <|
      grd (I64 ((sp.1:Int)+r7)) <|
      grd (st.vs.length+1≤2147483648) <|
      grd (I64 ((st.vs.length:Int)+1)) <|
      (grd (I64 ((k:Int)+1))<|ag (mkB st.t) (st.vs++[(⟨zdR (mkB x) r7 ((mkB x).size:Int),r7,(p20.length:Int) - 1,(st.vs.length:Int) - q1.From,(sp.1:Int)+r7,(sp.2:Int)⟩:zax)]) (p20.set ((p20.length:Int) - 1:Int).toNat (⟨q1.From,(st.vs.length:Int)+1⟩:Gapi_Span)) false true ((k:Int)+1))))) =
     match (if st.vs.length=512 then Except.error (⟨3,(sp.1:Int)⟩:zbS) else Except.ok (zp6 st sp.1 x)) with
     | .error e=>some (none,e)
     | .ok st'=>ag (mkB st'.t) st'.vs (zkt 0 st'.stz) st'.first st'.row ((k+1:Nat):Int):=fun hnt=>by
    by_cases hfull:st.vs.length=512
    ·rw [if_pos hfull]; exact zaR (beq_iff_eq.2 (by omega)) rfl
    ·rw [if_neg hfull]
     refine zaK (beq_eq_false_iff_ne.2 (by omega)) (zcj ?_)
     obtain ⟨init,r,he,hl,hdl,htot,hsp⟩:=zqu hI
     have hzl:=hI.stzLen
     have hol:(zdN st).length≤513:=ztF hzl
     have hil:init.length+1=(zdN st).length:=by rw [he]; simp
     have tail:∀ p20:List Gapi_Span,p20=zkt 0 (zdN st)→(grd (I64 ((p20.length:Int) - 1)) <|
      zan (zdf p20 ((p20.length:Int) - 1)) fun (q1:Gapi_Span) =>
      zan (zeM (mkB x)) fun (r7:Int) =>
      grd (0≤(r7:Int)∧(r7:Int)≤((mkB x).size:Int)∧(((mkB x).size:Int):Int)≤((mkB x).size:Int)) <|
      grd (I64 ((p20.length:Int) - 1)) <|
      grd (I64 ((st.vs.length:Int) - q1.From)) <|
      grd (I64 ((sp.1:Int)+r7)) <|
      grd (st.vs.length+1≤2147483648) <|
      grd (I64 ((st.vs.length:Int)+1)) <|
      (grd (I64 ((k:Int)+1))<|ag (mkB st.t) (st.vs++[(⟨zdR (mkB x) r7 ((mkB x).size:Int),r7,(p20.length:Int) - 1,(st.vs.length:Int) - q1.From,(sp.1:Int)+r7,(sp.2:Int)⟩:zax)]) (p20.set ((p20.length:Int) - 1:Int).toNat (⟨q1.From,(st.vs.length:Int)+1⟩:Gapi_Span)) false true ((k:Int)+1))) =
       ag (mkB (zp6 st sp.1 x).t) (zp6 st sp.1 x).vs (zkt 0 (zp6 st sp.1 x).stz) (zp6 st sp.1 x).first (zp6 st sp.1 x).row ((k+1:Nat):Int):=fun p20 hp=>by
      have hpl:p20.length=(zdN st).length:=by rw [hp,ziW]
      have hg:zdf p20 ((p20.length:Int) - 1)=some ⟨(tot init:Int),(st.vs.length:Int)⟩:=by
       refine zfy (n:=init.length) (by omega) ?_
       rw [hp,hsp,List.getElem?_append_right (by rw [ziW]; exact Nat.le_refl _),ziW,Nat.sub_self]; rfl
      have hind:=ztU x
      refine zcm ⟨by omega,by omega⟩ (za7 hg (za7 (zvl x (by omega)) (zcm ⟨by omega,by rw [zcr]; omega,by omega⟩ (zcm ⟨by omega,by omega⟩ (zcm ⟨by show _≤(st.vs.length:Int) - (tot init:Int); omega,by show (st.vs.length:Int) - (tot init:Int)≤_; omega⟩ (zcm ⟨by omega,by omega⟩ (zcm (by omega) (zcm ⟨by omega,by omega⟩ ?_))))))))
      refine (goOn _ _ _ _ _).trans ?_
      have e1:(p20.set ((p20.length:Int) - 1:Int).toNat (⟨(tot init:Int),(st.vs.length:Int)+1⟩:Gapi_Span))=zkt 0 (zp6 st sp.1 x).stz:=by
       rw [show ((p20.length:Int) - 1:Int).toNat=(zkt 0 init).length by rw [ziW]; omega,hp,hsp,zma]
       show _=zkt 0 ((zdN st).dropLast++[zgQ (zdN st)++[x]])
       rw [hdl,hl,zlN,Nat.zero_add]
       show _=_++[(⟨(tot init:Int),((tot init+(r++[x]).length:Nat):Int)⟩:Gapi_Span)]
       rw [List.length_append,List.length_singleton]
       congr 3
       omega
      have e2:(⟨zdR (mkB x) (ind x:Int) ((mkB x).size:Int),(ind x:Int),(p20.length:Int) - 1,(st.vs.length:Int) - (tot init:Int),(sp.1:Int)+(ind x:Int),(sp.2:Int)⟩:zax)=zkz sp.1 x (zdN st):=by
       unfold zkz
       rw [zqO,hpl,hl]
       congr 1
       ·omega
       ·omega
      show ag _ (st.vs++[_]) _ _ _ _=_
      rw [e2]
      show ag _ _ (p20.set _ _) _ _ _=_
      rw [e1]
      rfl
     cases hr:st.row with
     | true =>
      refine zaK rfl ?_
      exact tail _ (by unfold zdN; rw [hr]; rfl)
     | false =>
      refine zaR rfl (zcm (by rw [ziW]; omega) ?_)
      refine tail _ ?_
      unfold zdN; rw [hr,if_neg (by decide),zlN,Nat.zero_add,← hI.tot]
      rfl
   cases hf:st.first with
   | true =>
    refine zaR rfl (za7 (zrb x) ?_)
    cases ht:zp4 x with
    | true =>
     rw [if_pos ⟨rfl,rfl⟩]
     have hx1:1≤x.length:=by
      cases x with
      | nil=>cases ht
      | cons b t=>simp
     refine zaR rfl (zcm ⟨by omega,by rw [zcr]; omega,by omega⟩ (za7 (a:=mkB (x.drop 2)) ?_ (goOn _ _ _ _ _)))
     have:=zqO x 1
     rw [show ((1:Nat):Int)=1 from rfl] at this
     rw [this]
     exact zwT x ht
    | false =>
     rw [if_neg (by simp)]
     refine zaK rfl ?_
     exact verse (by rw [ht]; simp)
   | false =>
    rw [if_neg (by simp)]
    refine zaK rfl ?_
    exact verse (by rw [hf]; simp)
end
theorem ztt {T:List UInt8} {J:zBA→(List zax)→(List Gapi_Span)→Option ((Option zaC)×zbS)} {m:zbR} (hT:T.length≤65536) (hm:m.lines.map spE=(zfM T).map mkS) :
  ∀ (n k:Nat) (st:RS),RInv st→k≤(zfM T).length→(zfM T).length - k<n →
   za1 (fun _ _ _ _ _ _=>none) (zdW (mkB T) J m (m.lines.length:Int)) n (mkB st.t) st.vs (zkt 0 st.stz) st.first st.row (k:Int) =
    match zeR st ((zlx T).drop k) with
    | .error e=>some (none,e)
    | .ok st'=>J (mkB st'.t) st'.vs (zkt 0 st'.stz):=by
 have hlen:m.lines.length=(zfM T).length:=by have:=congrArg List.length hm; simpa using this
 intro n
 induction n with
 | zero=>intro k st h1 h2 h3; omega
 | succ n ih =>
  intro k st hI hk hn
  rw [zdv]
  obtain ⟨ag,hag⟩:∃ ag,ag=za1 (fun _ _ _ _ _ _=>none) (zdW (mkB T) J m (m.lines.length:Int)) n:=⟨_,rfl⟩
  rw [← hag] at ih ⊢
  rcases Nat.lt_or_ge k (zfM T).length with h | h
  ·obtain ⟨sp,hsp⟩:∃ sp,(zfM T)[k]?=some sp:=⟨_,List.getElem?_eq_getElem h⟩
   rw [zts hT hI hsp hm (by omega)]
   have hi:(zlx T).drop k=(sp.1,(T.drop sp.1).take (sp.2 - sp.1))::(zlx T).drop (k+1):=by
    have hl:k<(zlx T).length:=by unfold zlx; rw [List.length_map]; exact h
    rw [List.drop_eq_getElem_cons hl]
    congr 1
    have:(zlx T)[k]?=some (sp.1,(T.drop sp.1).take (sp.2 - sp.1)):=by unfold zlx; rw [List.getElem?_map,hsp]; rfl
    rw [List.getElem?_eq_getElem hl] at this
    exact Option.some.inj this
   rw [hi,zeR]
   cases hs:zgh st (sp.1,(T.drop sp.1).take (sp.2 - sp.1)) with
   | error e=>rfl
   | ok st'=>exact ih (k+1) st' (hI.step hs) (by omega) (by omega)
  ·rw [List.drop_eq_nil_of_le (by unfold zlx; rw [List.length_map]; exact h)]
   unfold zdW
   exact zaK (decide_eq_false (by omega)) rfl
theorem zwk (T:List UInt8):zet (mkB T)=match rd T with
  | .error e=>some (none,e)
  | .ok st=>some (some (⟨mkB st.t,st.vs,zkt 0 st.stz,mkB T⟩:zaC),(⟨0,0⟩:zbS)):=by
 unfold zet rd
 by_cases h:65536<T.length
 ·rw [if_pos h]
  exact za7 (zvh _ (by rw [zcr]; exact h)) (zaR rfl rfl)
 ·rw [if_neg h]
  obtain ⟨m,h1,h2,h3⟩:=zAb (mkB T) (by rw [zcr]; omega)
  refine za7 h1 (zaK rfl (zcj (za7 rfl (za7 rfl ?_))))
  have hl:=zkB T false 0 0
  have hl2:(zfM T).length≤T.length+1:=hl
  have:=ztt (J:=fun (p1:zBA) (p2:List zax) (p3:List Gapi_Span)=>some ((some (⟨p1,p2,p3,mkB T⟩:zaC)),(⟨0,0⟩:zbS))) (T:=T) (m:=m) (by omega) h3 zcD 0 rs0 ztp (Nat.zero_le _) (by unfold zcD; omega)
  rw [List.drop_zero] at this
  exact this
theorem zot (a b:List (List (List UInt8))):mkZ (a++b)=mkZ a++mkZ b:=List.map_append
theorem zgK (a:List (List (List UInt8))):(mkZ a).length=a.length:=List.length_map ..
section
variable {T:List UInt8} {st:RS} {sp:Nat×Nat} {k:Nat}
end
def zcS (c0:zaC) (ag1:Int→Option (List (Int×zax))) (x3:Int):Option (List (Int×zax)) := zaB (decide ((x3:Int)<(c0.told_lines.length:Int))) ( zan (zdf c0.told_lines x3) fun (q1:zax) => zih (x3,q1) <| grd (I64 (x3+1)) <| ag1 (x3+1)
) ( some []
)
def zdk (c0:zaC):Option (List (Int×zax)) := za1 (fun _=>none) (zcS c0) zcD 0
theorem zfw {b_c0 p_c0:Nat} {c0:zaC} {c0_h0 c0_h1:Hd} {xs:(List (Int×zax))} (h:zdk c0=some xs):ItrR prog 32 [zP b_c0] (fun q:Int×zax=>[zI q.1,.agg (zr1 q.2).toArray]) xs [cells b_c0 [zP p_c0] 28,cells p_c0 [.string c0.told_title,c0_h0.v,c0_h1.v,.string c0.source] 76,zv7 c0_h0.v c0.told_lines,zv8 c0_h1.v c0.told_stanzas]:=by
 unfold zdk at h
 refine ItrR.intro func32 rfl ntmps32 (by simp) ?_
 intro l w0 K I X hrd hy
 obtain ⟨r0,hx0⟩:∃ r,xs=[]++r:=⟨xs,rfl⟩
 have hr0:xs=r0:=hx0
 rw [hr0] at h
 refine zaE (zyG (zbs (i:=0) hrd rfl zyV rfl dc rfl rfl (zaS rfl (zcq underlying28) (zyN (zaM rfl (zal (zay (zyG (zbs (i:=0) hrd rfl zyV rfl dc rfl rfl (zai rfl dc rfl ?_))))))))))
 refine zaa zdr rfl dc rfl (show _=0 from rfl) (zaa zfT rfl dc rfl (show _=1 from rfl) (zbs (i:=1) hrd rfl zjL rfl dc rfl rfl (zcO (hrd.vw (i:=2) rfl) rfl dc rfl underlying71 (zyR 1 rfl (zyN (zaG ?_))))))
 refine zbP (β:=Nat×Int×(List (Int×zax))×(List (Int×zax))) (fun b=>za1 (fun _=>none) (zcS c0) b.1 b.2.1=some b.2.2.2∧xs=b.2.2.1++b.2.2.2) (fun b=>[]) (fun b=>[(0,.func (.yield l) #[] #[]),(11,c0_h0.v),(12,zI (c0.told_lines.length:Int)),(13,zI b.2.1)]) (fun b=>[I b.2.2.1]) (fun b=>b.1) (zcD,0,([]:List (Int×zax)),r0) ⟨h,hx0⟩ rfl (zbf rfl) (zab [0] kr rfl) ?_
 rintro ⟨n1,x3,acc3,rr3⟩ ⟨h,hx3⟩
 cases n1 with
 | zero=>exact zdO h
 | succ n1 =>
  obtain ⟨ag1,hag1⟩:∃ ag,ag=za1 (fun _=>none) (zcS c0) n1:=⟨_,rfl⟩
  have h:zcS c0 ag1 x3=some rr3:=by rw [hag1]; exact h
  unfold zcS at h
  refine zyG (zaS rfl zbF (zyN (zaE ?_)))
  refine zyB rfl h (fun h => ?_) (fun h => ?_)
  ·
   refine zal (zay (zaE (zaG (zyG (zyR 1 rfl ?_)))))
   obtain ⟨q1,hq1,h⟩:=zbL h
   refine zbv (hrd.vw (i:=2) rfl) hq1 underlying71 zjH rfl dc rfl rfl rfl (zdT (m:=0+(x3:Int).toNat) (j:=0) (i:=2) (q:=q1) (cs:=(zr1 q1)) hrd rfl zo2 zeq rfl dc rfl (Vw.get (hrd.vw (i:=2) rfl) hq1) rfl rfl rfl ?_)
   refine zbh zoU rfl dc (fun b1 => ?_)
   refine zyR 1 rfl (zaZ (k:=1) (vs:=(zr1 q1)) (l':=(zr1 q1)) zjH rfl rfl rfl rfl rfl (show _≤_ by simp) rfl rfl ?_)
   refine zyH (zyR 2 rfl (zaV (k:=1) (cs:=(zr1 q1)) zo2 rfl dc rfl rfl rfl rfl ?_))
   obtain ⟨rr4,hr1,h⟩:=zlE h
   have hx4:xs=acc3++(x3,q1)::rr4:=by rw [hx3,hr1]
   refine zdm hy rfl dc rfl hx4 rfl (k:=0) rfl ?_ ?_
   ·
    have hx5:xs=(acc3++[(x3,q1)])++rr4:=by rw [hx4]; simp
    refine zdt rfl dc rfl zct (zyN (zaM rfl (zal (zae (zay (zas ?_))))))
    obtain ⟨hg1,h⟩:=zbQ h
    refine zaS rfl (zbb (r:=x3+1) (IntWalk.i64_in _ hg1)) (zyR 1 rfl (zaP ?_))
    subst hag1
    exact zbr (n1,x3+1,acc3++[(x3,q1)],rr4) ⟨h,hx5⟩ (Nat.lt_succ_self _) rfl (zbf rfl) (zab [0] kr rfl)
   refine zdt rfl dc rfl zct (zyN (zba rfl (zau (zag (zaf (zaf (zag ?_)))))))
   exact zhg (ds:=[]) acc3 (x3,q1) rr4 hx4 (.inl rfl) Splits.nil results32 (zab [0] kr rfl)
  refine zbu (zaq (zaq (zaJ ?_)))
  cases h
  exact zhA (ds:=[]) (.inr rfl) Splits.nil results32 (congrArg I (hx3.trans (List.append_nil _))) (zab [0] kr rfl)
def zef (p1:zaC):Option Unit := some ()
theorem zgk {bp1:Nat} {p1:zaC} {p1_h0 p1_h1:Hd} {r:Unit} (h:zef p1=some r):FnR prog 10 [zP bp1] [cells bp1 [.string p1.told_title,p1_h0.v,p1_h1.v,.string p1.source] 76,zv7 p1_h0.v p1.told_lines,zv8 p1_h1.v p1.told_stanzas] [] (fun v0:Nat=>.func (.func 32) #[] #[zP v0]) (fun v0=>[cells v0 [zP bp1] 28]):=by
 unfold zef at h
 refine FnR.intro func10 rfl ntmps10 (by simp) ?_
 intro w0 K hrd
 refine zyG ?_
 refine zdi rfl dc rfl (fun b1 => ?_)
 refine zyR 1 rfl (zyH (zfU (x1:=[]) (x2:=[.tmp 1]) rfl dc rfl rfl (zyR 1 rfl (zyN (zau ?_)))))
 cases h
 exact zbt (rs:=[.tmp 2]) b1 (.inl rfl) results10 (.cons (.tmp rfl) .nil) rfl (zab [0] kr rfl)
def zc0 (s1:zBA):Option Bool := grd (s1.size≤4294967280) <| some (decide ((0:Int)≤(iaV s1)))
theorem zg2 {s1:zBA} {r:Bool} (h:zc0 s1=some r):FnP prog 94 [.string s1,.string (⟨#[13,10]⟩:zBA)] (.bool r):=by
 unfold zc0 at h
 refine FnP.intro func94 rfl ntmps94 (by simp) ?_
 intro w0 K
 refine zyG (zyR 1 rfl (zyH (zyR 2 rfl ?_)))
 obtain ⟨hg1,h⟩:=zbQ h
 refine zbg (v:=zI (iaV s1)) (vs:=[.string s1,.string (⟨#[13,10]⟩:zBA)]) rfl dc rfl rfl rfl zzz (zy8 s1 hg1) (zaS rfl zbG (zyR 1 rfl (zyN (zau ?_))))
 cases h
 exact za2 4 results94
def zkD (s1:zBA) (most1:Int):Option Bool := zaB (decide (((s1.size:Int):Int)≤most1)) ( zan (zc0 s1) fun (r1:Bool) => some (!r1)
) ( some false
)
theorem zqm {s1:zBA} {most1:Int} {r:Bool} (h:zkD s1 most1=some r):FnP prog 62 [.string s1,zI most1] (.bool r):=by
 unfold zkD at h
 refine FnP.intro func62 rfl ntmps62 (by simp) ?_
 intro w0 K
 refine zyG (zyR 1 rfl (zyH (zyR 1 rfl (zbC rfl dc rfl underlying9 (zyR 1 rfl (zaS rfl zbM (zyR 1 rfl ?_)))))))
 refine zyS (s:=9) rfl h (fun h => ?_) (fun h => ?_)
 ·
  refine zyR 1 rfl ?_
  obtain ⟨r1,hq1,h⟩:=zbL h
  refine zbg (v:=.bool r1) (vs:=[.string s1,.string (⟨#[13,10]⟩:zBA)]) rfl dc rfl rfl rfl zAi (zg2 hq1) (zdt rfl dc rfl zct (zyR 2 rfl (zyN (zau ?_))))
  cases h
  exact za2 4 results62
 refine zyR 5 rfl (zyN (zau ?_))
 cases h
 exact za2 4 results62
section
open Go.Shelf
def zsP (s:zBA) (n:Int):Bool:=decide ((s.size:Int)≤n)&&!zn0 s
theorem zsF (s:zBA) (h:s.size≤4294967280):zc0 s=some (zn0 s):=by
 unfold zc0
 exact zcm h (congrArg some (zy9 s))
theorem zy3 (s:zBA) (n:Int) (h:n≤4294967280):FnP prog 62 [.string s,.int .i64 n] (.bool (zsP s n)):=by
 refine zqm ?_
 unfold zkD zsP
 cases hc:decide ((s.size:Int)≤n) with
 | true=>exact zaR rfl (za7 (zsF s (by have:=of_decide_eq_true hc; omega)) rfl)
 | false=>exact zaK rfl rfl
end
def zcw (p1:zaC):Option Int := some (p1.told_lines.length:Int)
theorem zej {bp1:Nat} {p1:zaC} {p1_h0 p1_h1:Hd} {r:Int} (h:zcw p1=some r):FnR prog 7 [zP bp1] [cells bp1 [.string p1.told_title,p1_h0.v,p1_h1.v,.string p1.source] 76,zv7 p1_h0.v p1.told_lines,zv8 p1_h1.v p1.told_stanzas] [] (fun _:Unit=>(zI r)) (fun _=>[]):=by
 unfold zcw at h
 refine FnR.intro func7 rfl ntmps7 (by simp) ?_
 intro w0 K hrd
 refine zyG (zyR 1 rfl (zyN (zaE (zyG (zyR 1 rfl (zaS rfl (zcq underlying28) (zyN (zaM rfl (zal ?_)))))))))
 refine zay (zyG (zyR 1 rfl (zai rfl dc rfl (zaa zdr rfl dc rfl (show _=0 from rfl) (zaa zfT rfl dc rfl (show _=1 from rfl) (zbs (i:=0) hrd rfl zjL rfl dc rfl rfl (zcO (hrd.vw (i:=1) rfl) rfl dc rfl underlying71 (zyR 1 rfl (zyN (zau ?_))))))))))
 cases h
 exact za2 2 results7
def zgj (p1:zaC):Option zBA := some p1.told_title
theorem zjR {bp1:Nat} {p1:zaC} {p1_h0 p1_h1:Hd} {r:zBA} (h:zgj p1=some r):FnR prog 12 [zP bp1] [cells bp1 [.string p1.told_title,p1_h0.v,p1_h1.v,.string p1.source] 76,zv7 p1_h0.v p1.told_lines,zv8 p1_h1.v p1.told_stanzas] [] (fun _:Unit=>(.string r)) (fun _=>[]):=by
 unfold zgj at h
 refine FnR.intro func12 rfl ntmps12 (by simp) ?_
 intro w0 K hrd
 refine zyG (zyR 1 rfl (zyN (zaE (zyG (zyR 1 rfl (zaS rfl (zcq underlying28) (zyN (zaM rfl (zal ?_)))))))))
 refine zay (zyG (zyR 1 rfl (zai rfl dc rfl (zaa zdr rfl dc rfl (show _=0 from rfl) (zaa ziK rfl dc rfl (show _=0 from rfl) (zbs (i:=0) hrd rfl zhk rfl dc rfl rfl (zyR 1 rfl (zyN (zau ?_)))))))))
 cases h
 exact za2 2 results12
def zeS (p1:zaC) (k1:Int):Option (zax×Int) := zaB (decide ((k1:Int)<0)) ( some ((⟨ByteArray.empty,0,0,0,0,0⟩:zax),5)
) ( zaB (decide (((p1.told_lines.length:Int):Int)≤k1)) ( some ((⟨ByteArray.empty,0,0,0,0,0⟩:zax),5)
) ( zan (zdf p1.told_lines k1) fun (q1:zax) => some (q1,0)
)
)
theorem zkF {bp1:Nat} {p1:zaC} {p1_h0 p1_h1:Hd} {k1:Int} {r:(zax×Int)} (h:zeS p1 k1=some r):FnR prog 39 [zP bp1,zI k1] [cells bp1 [.string p1.told_title,p1_h0.v,p1_h1.v,.string p1.source] 76,zv7 p1_h0.v p1.told_lines,zv8 p1_h1.v p1.told_stanzas] [] (fun _:Unit=>(.tuple #[.agg (zr1 r.1).toArray,zI r.2])) (fun _=>[]):=by
 unfold zeS at h
 refine FnR.intro func39 rfl ntmps39 (by simp) ?_
 intro w0 K hrd
 refine zyG ?_
 refine zbh zoU rfl dc (fun b1 => ?_)
 refine zyR 1 rfl (zyN (zaE (zaG (zyG (zyR 1 rfl (zaS rfl (zcq underlying28) (zyR 1 rfl (zyN (zaM rfl (zaE ?_))))))))))
 refine zas (zyR 1 rfl (zaS rfl zbF (zyR 1 rfl ?_)))
 refine zyS (s:=13) rfl h (fun h => ?_) (fun h => ?_)
 ·
  refine zyR 10 rfl (zyN (zba rfl (zaE ?_)))
  refine zas ?_
  refine zbA (v:=.agg #[.string ByteArray.empty,zI 0,zI 0,zI 0,zI 0,zI 0]) (ps:=[]) rfl dc rfl (fun _=>by kernel_rfl) ?_
  refine zaZ (k:=0) (vs:=[.string ByteArray.empty,zI 0,zI 0,zI 0,zI 0,zI 0]) (l':=[.string ByteArray.empty,zI 0,zI 0,zI 0,zI 0,zI 0]) zjH rfl rfl rfl rfl rfl (show _≤_ by simp) rfl rfl ?_
  refine zyR 1 rfl (zyN (zau (zag (zaf ?_))))
  cases h
  exact zbt (rs:=[.cell 4 50,.tmp 5]) () (.inl rfl) results39 (.cons (.cells zo2 (k:=0) rfl rfl rfl) (.cons (.tmp rfl) .nil)) rfl Splits.nil
 refine zyR 2 rfl (zai rfl dc rfl (zaa zdr rfl dc rfl (show _=0 from rfl) (zaa zfT rfl dc rfl (show _=1 from rfl) (zbs (i:=0) hrd rfl zjL rfl dc rfl rfl (zcO (hrd.vw (i:=1) rfl) rfl dc rfl underlying71 (zaS rfl zbG (zyR 2 rfl (zyN ?_))))))))
 refine zyB rfl h (fun h => ?_) (fun h => ?_)
 ·
  refine zyG ?_
  refine zbA (v:=.agg #[.string ByteArray.empty,zI 0,zI 0,zI 0,zI 0,zI 0]) (ps:=[]) rfl dc rfl (fun _=>by kernel_rfl) ?_
  refine zaZ (k:=0) (vs:=[.string ByteArray.empty,zI 0,zI 0,zI 0,zI 0,zI 0]) (l':=[.string ByteArray.empty,zI 0,zI 0,zI 0,zI 0,zI 0]) zjH rfl rfl rfl rfl rfl (show _≤_ by simp) rfl rfl ?_
  refine zyR 1 rfl (zyN (zau (zag (zaf ?_))))
  cases h
  exact zbt (rs:=[.cell 4 50,.tmp 5]) () (.inl rfl) results39 (.cons (.cells zo2 (k:=0) rfl rfl rfl) (.cons (.tmp rfl) .nil)) rfl Splits.nil
 refine zal (zae (zay (zyG (zyR 1 rfl (zai rfl dc rfl (zaa zdr rfl dc rfl (show _=0 from rfl) (zaa zfT rfl dc rfl (show _=1 from rfl) (zbs (i:=0) hrd rfl zjL rfl dc rfl rfl (zyR 1 rfl ?_)))))))))
 obtain ⟨q1,hq1,h⟩:=zbL h
 refine zbv (hrd.vw (i:=1) rfl) hq1 underlying71 zjH rfl dc rfl rfl rfl (zdT (m:=0+(k1:Int).toNat) (j:=0) (i:=1) (q:=q1) (cs:=(zr1 q1)) hrd rfl zo2 zeq rfl dc rfl (Vw.get (hrd.vw (i:=1) rfl) hq1) rfl rfl rfl (zaZ (k:=0) (vs:=(zr1 q1)) (l':=(zr1 q1)) zjH rfl rfl rfl rfl rfl (show _≤_ by simp) rfl rfl ?_))
 refine zyR 1 rfl (zyN (zau ?_))
 cases h
 exact zbt (rs:=[.cell 4 50,.tmp 5]) () (.inl rfl) results39 (.cons (.cells zo2 (k:=0) rfl rfl rfl) (.cons (.tmp rfl) .nil)) rfl Splits.nil
def zdc (p1:zaC) (q1:zaC) (j1:Option Bool) (ag1:Int→Option Bool) (x3:Int):Option Bool := zaB (decide ((x3:Int)<(p1.told_lines.length:Int))) ( zan (zdf p1.told_lines x3) fun (q2:zax) => zan (zdf q1.told_lines x3) fun (q3:zax) => zaB (!decide (q2.Text=q3.Text)) ( some false
) ( zaB ((q2.Indent:Int) != q3.Indent) ( some false
) ( zaB ((q2.Stanza:Int) != q3.Stanza) ( some false
) ( grd (I64 (x3+1)) <| ag1 (x3+1)
)
)
)
) ( j1
)
def zee (p1:zaC) (q1:zaC):Option Bool := zaB (!decide (p1.told_title=q1.told_title)) ( some false
) ( zaB (((p1.told_lines.length:Int):Int) != (q1.told_lines.length:Int)) ( some false
) ( zbE (fun (j1:Option Bool) => za1 (fun _=>none) (zdc p1 q1 j1) zcD 0
) ( some true
)
)
)
theorem zhI {bp1:Nat} {p1:zaC} {p1_h0 p1_h1:Hd} {bq1:Nat} {q1:zaC} {q1_h0 q1_h1:Hd} {r:Bool} (h:zee p1 q1=some r):FnR prog 14 [zP bp1,zP bq1] [cells bp1 [.string p1.told_title,p1_h0.v,p1_h1.v,.string p1.source] 76,zv7 p1_h0.v p1.told_lines,zv8 p1_h1.v p1.told_stanzas,cells bq1 [.string q1.told_title,q1_h0.v,q1_h1.v,.string q1.source] 76,zv7 q1_h0.v q1.told_lines,zv8 q1_h1.v q1.told_stanzas] [] (fun _:Unit=>(.bool r)) (fun _=>[]):=by
 unfold zee at h
 refine FnR.intro func14 rfl ntmps14 (by simp) ?_
 intro w0 K hrd
 refine zyG (zyR 1 rfl (zyN (zaE (zaE ?_))))
 refine zeH (b:=!decide (p1.told_title=q1.told_title)) (fun hb1 => ?_) (fun hb1 => ?_)
 ·
  have h:=zgT hb1 h
  refine zbB 32 [(0,8,zP bp1),(1,9,.bool false),(2,10,.bool false),(3,11,zP bq1),(4,12,.bool false),(5,13,.bool false),(6,14,.bool false),(7,15,zP bp1),(8,16,zP bp1),(9,17,zP bp1),(10,18,zP bp1),(11,19,.string p1.told_title),(12,20,zP bq1),(13,21,zP bq1),(14,22,zP bq1),(15,23,zP bq1),(16,24,.string q1.told_title),(17,25,.bool true),(18,26,.bool true),(19,27,.bool true),(20,28,undef),(21,29,undef),(22,30,undef),(23,31,undef),(24,32,undef),(25,33,undef),(26,34,undef),(27,35,undef),(28,36,undef),(29,37,undef),(30,38,undef),(31,39,undef)] mixed kr kr dc (by rfl) kr kr (zyP 1 0 rfl (zad ?_ (zyP 2 2 rfl (zad ?_ (zyP 3 5 rfl (zad ?_ (zad ?_ (zad ?_ (zad ?_ (zyP 1 12 rfl (zad ?_ (zad ?_ (zad ?_ (zad ?_ (zad ?_ (zyP 14 18 rfl DrawPre.nil)))))))))))))))) ?_
  · exact fun D n d c u i=>zb6 rfl dc (zam 0 u d) rfl (zcq underlying28) (zar 1 u i)
  · exact fun D n d c u i=>zb6 (zeV rfl (zam 2 u d)) dc (zam 3 u d) rfl (zcq underlying28) (zar 4 u i)
  · exact fun D n d c u i=>zai (zeV rfl (zam 6 u d)) dc (zam 7 u d) (zar 8 u i)
  · exact fun D n d c u i=>zaa zdr (zeV rfl (zam 6 u d)) dc (zam 8 u d) (show _=0 from rfl) (zar 9 u i)
  · exact fun D n d c u i=>zaa ziK (zeV rfl (zam 6 u d)) dc (zam 9 u d) (show _=0 from rfl) (zar 10 u i)
  · exact fun D n d c u i=>zbs (i:=0) hrd rfl zhk (zeV rfl (zam 6 u d)) dc (zam 10 u d) rfl (zar 11 u i)
  · exact fun D n d c u i=>zai (zeV rfl (zam 6 u d)) dc (zam 12 u d) (zar 13 u i)
  · exact fun D n d c u i=>zaa zdr (zeV rfl (zam 6 u d)) dc (zam 13 u d) (show _=0 from rfl) (zar 14 u i)
  · exact fun D n d c u i=>zaa ziK (zeV rfl (zam 6 u d)) dc (zam 14 u d) (show _=0 from rfl) (zar 15 u i)
  · exact fun D n d c u i=>zbs (i:=3) hrd rfl zhk (zeV rfl (zam 6 u d)) dc (zam 15 u d) rfl (zar 16 u i)
  · exact fun D n d c u i=>zb6 (zeV rfl (zam 6 u d)) dc (zam 11 u d) (zam 16 u d) zgW (zdF (show Value.bool (!decide (p1.told_title=q1.told_title))=Value.bool true from congrArg Value.bool hb1) (zar 17 u i))
  refine zyR 2 rfl (zyN (zba rfl (zyG (zyR 1 rfl (zyN (zau (zaf ?_)))))))
  cases h
  exact za2 4 results14
 have h:=zgU hb1 h
 refine zbB 32 [(0,8,zP bp1),(1,9,.bool false),(2,10,.bool false),(3,11,zP bq1),(4,12,.bool false),(5,13,.bool false),(6,14,.bool false),(7,15,zP bp1),(8,16,zP bp1),(9,17,zP bp1),(10,18,zP bp1),(11,19,.string p1.told_title),(12,20,zP bq1),(13,21,zP bq1),(14,22,zP bq1),(15,23,zP bq1),(16,24,.string q1.told_title),(17,25,.bool false),(18,26,.bool false),(19,27,.bool false),(20,28,zP bp1),(21,29,zP bp1),(22,30,zP bp1),(23,31,.pointer (some ⟨bp1,1,none⟩)),(24,32,p1_h0.v),(25,33,zI (p1.told_lines.length:Int)),(26,34,zP bq1),(27,35,zP bq1),(28,36,zP bq1),(29,37,.pointer (some ⟨bq1,1,none⟩)),(30,38,q1_h0.v),(31,39,zI (q1.told_lines.length:Int))] mixed kr kr dc (by rfl) kr kr (zyP 1 0 rfl (zad ?_ (zyP 2 2 rfl (zad ?_ (zyP 3 5 rfl (zad ?_ (zad ?_ (zad ?_ (zad ?_ (zyP 1 12 rfl (zad ?_ (zad ?_ (zad ?_ (zad ?_ (zad ?_ (zyP 3 18 rfl (zad ?_ (zad ?_ (zad ?_ (zad ?_ (zad ?_ (zyP 1 26 rfl (zad ?_ (zad ?_ (zad ?_ (zad ?_ (zad ?_ DrawPre.nil))))))))))))))))))))))))))) ?_
 · exact fun D n d c u i=>zb6 rfl dc (zam 0 u d) rfl (zcq underlying28) (zar 1 u i)
 · exact fun D n d c u i=>zb6 (zeV rfl (zam 2 u d)) dc (zam 3 u d) rfl (zcq underlying28) (zar 4 u i)
 · exact fun D n d c u i=>zai (zeV rfl (zam 6 u d)) dc (zam 7 u d) (zar 8 u i)
 · exact fun D n d c u i=>zaa zdr (zeV rfl (zam 6 u d)) dc (zam 8 u d) (show _=0 from rfl) (zar 9 u i)
 · exact fun D n d c u i=>zaa ziK (zeV rfl (zam 6 u d)) dc (zam 9 u d) (show _=0 from rfl) (zar 10 u i)
 · exact fun D n d c u i=>zbs (i:=0) hrd rfl zhk (zeV rfl (zam 6 u d)) dc (zam 10 u d) rfl (zar 11 u i)
 · exact fun D n d c u i=>zai (zeV rfl (zam 6 u d)) dc (zam 12 u d) (zar 13 u i)
 · exact fun D n d c u i=>zaa zdr (zeV rfl (zam 6 u d)) dc (zam 13 u d) (show _=0 from rfl) (zar 14 u i)
 · exact fun D n d c u i=>zaa ziK (zeV rfl (zam 6 u d)) dc (zam 14 u d) (show _=0 from rfl) (zar 15 u i)
 · exact fun D n d c u i=>zbs (i:=3) hrd rfl zhk (zeV rfl (zam 6 u d)) dc (zam 15 u d) rfl (zar 16 u i)
 · exact fun D n d c u i=>zb6 (zeV rfl (zam 6 u d)) dc (zam 11 u d) (zam 16 u d) zgW (zdF (show Value.bool (!decide (p1.told_title=q1.told_title))=Value.bool false from congrArg Value.bool hb1) (zar 17 u i))
 · exact fun D n d c u i=>zai (zeV rfl (zam 19 u d)) dc (zam 20 u d) (zar 21 u i)
 · exact fun D n d c u i=>zaa zdr (zeV rfl (zam 19 u d)) dc (zam 21 u d) (show _=0 from rfl) (zar 22 u i)
 · exact fun D n d c u i=>zaa zfT (zeV rfl (zam 19 u d)) dc (zam 22 u d) (show _=1 from rfl) (zar 23 u i)
 · exact fun D n d c u i=>zbs (i:=0) hrd rfl zjL (zeV rfl (zam 19 u d)) dc (zam 23 u d) rfl (zar 24 u i)
 · exact fun D n d c u i=>zcO (hrd.vw (i:=1) rfl) (zeV rfl (zam 19 u d)) dc (zam 24 u d) underlying71 (zar 25 u i)
 · exact fun D n d c u i=>zai (zeV rfl (zam 19 u d)) dc (zam 26 u d) (zar 27 u i)
 · exact fun D n d c u i=>zaa zdr (zeV rfl (zam 19 u d)) dc (zam 27 u d) (show _=0 from rfl) (zar 28 u i)
 · exact fun D n d c u i=>zaa zfT (zeV rfl (zam 19 u d)) dc (zam 28 u d) (show _=1 from rfl) (zar 29 u i)
 · exact fun D n d c u i=>zbs (i:=3) hrd rfl zjL (zeV rfl (zam 19 u d)) dc (zam 29 u d) rfl (zar 30 u i)
 · exact fun D n d c u i=>zcO (hrd.vw (i:=4) rfl) (zeV rfl (zam 19 u d)) dc (zam 30 u d) underlying71 (zar 31 u i)
 refine zaS rfl zbH (zyR 1 rfl (zyN ?_))
 refine zyB rfl h (fun h => ?_) (fun h => ?_)
 ·
  refine zyG (zyR 1 rfl (zyN (zau (zaf ?_))))
  cases h
  exact za2 4 results14
 refine zal (zay ?_)
 obtain ⟨j1,hj1,h⟩:=zbT h
 refine za8 (β:=Unit) 0 rfl (fun b=>j1=some r) (fun b=>[]) (fun b=>[]) (fun b=>[]) (fun cut => ?_) ?_
 ·
  refine cut (zyG (zyR 1 rfl (zai rfl dc rfl (zaa zdr rfl dc rfl (show _=0 from rfl) (zaa zfT rfl dc rfl (show _=1 from rfl) (zbs (i:=0) hrd rfl zjL rfl dc rfl rfl (zcO (hrd.vw (i:=1) rfl) rfl dc rfl underlying71 (zyR 1 rfl (zyN (zaG ?_))))))))))
  refine zbP (β:=Nat×Int) (fun b=>za1 (fun _=>none) (zdc p1 q1 j1) b.1 b.2=some r) (fun b=>[]) (fun b=>[(1,zP bq1),(46,p1_h0.v),(47,zI (p1.told_lines.length:Int)),(48,zI b.2)]) (fun b=>[]) (fun b=>b.1) (zcD,0) h rfl (zbf rfl) Splits.nil ?_
  rintro ⟨n1,x3⟩ h
  cases n1 with
  | zero=>exact zdO h
  | succ n1 =>
   obtain ⟨ag1,hag1⟩:∃ ag,ag=za1 (fun _=>none) (zdc p1 q1 j1) n1:=⟨_,rfl⟩
   have h:zdc p1 q1 j1 ag1 x3=some r:=by rw [hag1]; exact h
   unfold zdc at h
   refine zyG (zaS rfl zbF (zyN (zaE ?_)))
   refine zyB rfl h (fun h => ?_) (fun h => ?_)
   ·
    refine zal (zay (zaE (zaG (zyG (zyR 1 rfl ?_)))))
    obtain ⟨q2,hq1,h⟩:=zbL h
    refine zbv (hrd.vw (i:=1) rfl) hq1 underlying71 zjH rfl dc rfl rfl rfl (zdT (m:=0+(x3:Int).toNat) (j:=0) (i:=1) (q:=q2) (cs:=(zr1 q2)) hrd rfl zo2 zeq rfl dc rfl (Vw.get (hrd.vw (i:=1) rfl) hq1) rfl rfl rfl ?_)
    refine zbh zoU rfl dc (fun b1 => ?_)
    refine zyR 1 rfl (zaZ (k:=0) (vs:=(zr1 q2)) (l':=(zr1 q2)) zjH rfl rfl rfl rfl rfl (show _≤_ by simp) rfl rfl ?_)
    refine zyH (zyR 1 rfl (zai rfl dc rfl (zaa zdr rfl dc rfl (show _=0 from rfl) (zaa zfT rfl dc rfl (show _=1 from rfl) (zbs (i:=3) hrd rfl zjL rfl dc rfl rfl (zyR 1 rfl ?_))))))
    obtain ⟨q3,hq2,h⟩:=zbL h
    refine zbv (hrd.vw (i:=4) rfl) hq2 underlying71 zjH rfl dc rfl rfl rfl (zdT (m:=0+(x3:Int).toNat) (j:=0) (i:=4) (q:=q3) (cs:=(zr1 q3)) hrd rfl zo2 zeq rfl dc rfl (Vw.get (hrd.vw (i:=4) rfl) hq2) rfl rfl rfl ?_)
    refine zbh zoU rfl dc (fun b2 => ?_)
    refine zaZ (k:=1) (vs:=(zr1 q3)) (l':=(zr1 q3)) zjH rfl rfl rfl rfl rfl (show _≤_ by simp) rfl rfl ?_
    refine zyH (zaa ziN rfl dc rfl (show _=0 from rfl) (zaj (k:=0) zhk rfl dc rfl rfl rfl (zaa ziN rfl dc rfl (show _=0 from rfl) (zaj (k:=1) zhk rfl dc rfl rfl rfl (zaS rfl zgW (zyR 1 rfl ?_))))))
    refine zyS (s:=66) rfl h (fun h => ?_) (fun h => ?_)
    ·
     refine zyR 13 rfl (zaP ?_)
     refine zay (zba rfl (zyG (zyR 1 rfl (zyN (zau (zag (zaf (zaf (zag (zaf ?_))))))))))
     cases h
     exact za2 4 results14
    refine zaa ziM rfl dc rfl (show _=1 from rfl) (zaj (k:=0) zbW rfl dc rfl rfl rfl (zaa ziM rfl dc rfl (show _=1 from rfl) (zaj (k:=1) zbW rfl dc rfl rfl rfl (zaS rfl zbH (zyR 2 rfl ?_)))))
    refine zyS (s:=73) rfl h (fun h => ?_) (fun h => ?_)
    ·
     refine zyR 6 rfl (zyN (zba rfl (zyG (zyR 1 rfl (zyN ?_)))))
     refine zau (zag (zaf (zaf (zag (zaf ?_)))))
     cases h
     exact za2 4 results14
    refine zaa ziL rfl dc rfl (show _=2 from rfl) (zaj (k:=0) zbW rfl dc rfl rfl rfl (zaa ziL rfl dc rfl (show _=2 from rfl) (zaj (k:=1) zbW rfl dc rfl rfl rfl (zaS rfl zbH (zyR 1 rfl (zyN ?_))))))
    refine zyB rfl h (fun h => ?_) (fun h => ?_)
    ·
     refine zyG (zyR 1 rfl (zyN (zau (zag (zaf (zaf (zag (zaf ?_))))))))
     cases h
     exact za2 4 results14
    refine zal (zae (zay (zas ?_)))
    obtain ⟨hg1,h⟩:=zbQ h
    refine zaS rfl (zbb (r:=x3+1) (IntWalk.i64_in _ hg1)) (zyR 1 rfl (zaP ?_))
    subst hag1
    exact zbr (n1,x3+1) h (Nat.lt_succ_self _) rfl (zbf rfl) Splits.nil
   refine zbu (zaq (zaq (zaJ ?_)))
   exact zak () h rfl (ziU) Splits.nil
 rintro _ h
 rw [hj1] at h
 refine zyG (zyR 1 rfl (zyN (zau ?_)))
 cases h
 exact za2 4 results14
def zdB (j3:zBA→Option zBA) (x5:List zBA) (ag2:zBA→Int→Option zBA) (b12:zBA) (x8:Int):Option zBA := zaB (decide ((x8:Int)<(x5.length:Int))) ( zan (zdf x5 x8) fun (q2:zBA) => grd (q2.size+(⟨#[10]⟩:zBA).size≤9223372036854775807) <| grd (b12.size+(q2++(⟨#[10]⟩:zBA)).size≤140737488355328) <| grd (I64 (x8+1)) <| ag2 (b12++(q2++(⟨#[10]⟩:zBA))) (x8+1)
) ( j3 b12
)
def zcR (stanzas1:List (List zBA)) (j2:zBA→Option zBA) (ag1:zBA→Int→Option zBA) (b7:zBA) (x4:Int):Option zBA := zaB (decide ((x4:Int)<(stanzas1.length:Int))) ( zbE (fun (j3:zBA→Option zBA) => zan (zdf stanzas1 x4) fun (x5:List zBA) => zbE (fun (j4:zBA→Option zBA) => zaB (decide ((0:Int)<(b7.size:Int))) ( grd (b7.size+(⟨#[10]⟩:zBA).size≤140737488355328) <| j4 (b7++(⟨#[10]⟩:zBA))
) ( j4 b7
)
) (fun (b9:zBA) => za1 (fun _ _=>none) (zdB j3 x5) zcD b9 0
)
) (fun (b8:zBA) => grd (I64 (x4+1)) <| ag1 b8 (x4+1)
)
) ( j2 b7
)
def zdU (title1:zBA) (stanzas1:List (List zBA)):Option zBA := zbE (fun (j1:zBA→Option zBA) => zaB (!decide (title1=(⟨#[]⟩:zBA))) ( grd ((⟨#[35,32]⟩:zBA).size+title1.size≤9223372036854775807) <| grd (((⟨#[35,32]⟩:zBA)++title1).size+(⟨#[10]⟩:zBA).size≤9223372036854775807) <| grd ((⟨#[]⟩:zBA).size+(((⟨#[35,32]⟩:zBA)++title1)++(⟨#[10]⟩:zBA)).size≤140737488355328) <| j1 ((⟨#[]⟩:zBA)++(((⟨#[35,32]⟩:zBA)++title1)++(⟨#[10]⟩:zBA)))
) ( zaB (decide ((0:Int)<(stanzas1.length:Int))) ( zan (zdf stanzas1 0) fun (x1:List zBA) => zan (zdf x1 0) fun (q1:zBA) => zan (zfm q1) fun (r1:Bool) => zaB (r1) ( grd ((⟨#[35,32]⟩:zBA).size+title1.size≤9223372036854775807) <| grd (((⟨#[35,32]⟩:zBA)++title1).size+(⟨#[10]⟩:zBA).size≤9223372036854775807) <| grd ((⟨#[]⟩:zBA).size+(((⟨#[35,32]⟩:zBA)++title1)++(⟨#[10]⟩:zBA)).size≤140737488355328) <| j1 ((⟨#[]⟩:zBA)++(((⟨#[35,32]⟩:zBA)++title1)++(⟨#[10]⟩:zBA)))
) ( j1 (⟨#[]⟩:zBA)
)
) ( j1 (⟨#[]⟩:zBA)
)
)
) (fun (b2:zBA) => zbE (fun (j2:zBA→Option zBA) => za1 (fun _ _=>none) (zcR stanzas1 j2) zcD b2 0
) (fun (b4:zBA) => some b4
)
)
theorem ziz {title1:zBA} {vvstanzas1:Value} {vstanzas1:Hd} {Zstanzas1:List ((List zBA)×Hd)} {kstanzas1:Nat} {zstanzas1:List ((List zBA)×Hd)} {stanzas1:List (List zBA)} (hwstanzas1:Vw vvstanzas1 Zstanzas1 1 kstanzas1 vstanzas1.v zstanzas1) (hzstanzas1:zstanzas1.map Prod.fst=stanzas1) {r:zBA} (h:zdU title1 stanzas1=some r):FnR prog 37 [.string title1,vstanzas1.v] [zeJ za9 1 vvstanzas1 kstanzas1 Zstanzas1,zhU zcG Zstanzas1] [] (fun _:Unit=>(.string r)) (fun _=>[]):=by
 unfold zdU at h
 refine FnR.intro func37 rfl ntmps37 (by simp) ?_
 intro w0 K hrd
 obtain ⟨j1,hj1,h⟩:=zbT h
 refine za8 (β:=zBA×Nat) 2 rfl (fun b=>j1 b.1=some r) (fun b=>[]) (fun b=>[(1,vstanzas1.v),(5,zP b.2)]) (fun b=>[zqS b.2 b.1]) (fun cut => ?_) ?_
 ·
  refine zyG (zyR 1 rfl (zyH ?_))
  refine zbh zvQ rfl dc (fun b3 => ?_)
  refine zwG (k:=0) rfl zsO ?_
  refine zyN (cut (zyG (zyR 1 rfl (zaS rfl zgW (zyR 1 rfl ?_)))))
  refine zyS (s:=12) rfl h (fun h => ?_) (fun h => ?_)
  ·
   refine zyR 12 rfl (zyN ?_)
   refine zba rfl (zas (zyR 1 rfl ?_))
   obtain ⟨hg1,h⟩:=zbQ h
   refine zaS rfl (zgX hg1) ?_
   obtain ⟨hg2,h⟩:=zbQ h
   refine zaS rfl (zgX hg2) ?_
   obtain ⟨hg3,h⟩:=zbQ h
   refine zcE (vs:=[zP b3,.string (((⟨#[35,32]⟩:zBA)++title1)++(⟨#[10]⟩:zBA))]) rfl dc rfl rfl rfl zqI (zjp b3 (⟨#[]⟩:zBA) (((⟨#[35,32]⟩:zBA)++title1)++(⟨#[10]⟩:zBA)) hg3) (zab [0] kr rfl) ?_
   rintro u1
   refine zaP ?_
   exact zak ((⟨#[]⟩:zBA)++(((⟨#[35,32]⟩:zBA)++title1)++(⟨#[10]⟩:zBA)),b3) h rfl (zbf rfl) (zab [1] kr rfl)
  refine zyR 1 rfl (zhi hzstanzas1 hwstanzas1 rfl dc rfl underlying94 (zaS rfl zc1 (zyR 1 rfl ?_)))
  refine zyS (s:=16) rfl h (fun h => ?_) (fun h => ?_)
  ·
   refine zyR 1 rfl ?_
   obtain ⟨x1,hq1,h⟩:=zbL h
   obtain ⟨eh1,eq1⟩:=zjk hzstanzas1 hq1
   have hrd:Rd _ _ [zeJ za9 1 vvstanzas1 kstanzas1 Zstanzas1,zhU zcG Zstanzas1,zrp zkv 1 eh1 x1]:=hrd.openEl (i:=1) (z:=(x1,eh1)) rfl (Vw.get hwstanzas1 eq1)
   obtain ⟨vv1,k1,L1,hV1,hrd⟩:=hrd.openSl (i:=2) rfl
   replace hrd:Rd _ _ [zeJ za9 1 vvstanzas1 kstanzas1 Zstanzas1,zhU zcG Zstanzas1,zrp zkv 1 eh1 x1,zeJ zkv 1 vv1 k1 L1]:=hrd
   refine zbv hwstanzas1 eq1 underlying94 znb rfl dc rfl rfl rfl (zcW (n:=kstanzas1+(0:Int).toNat) (j:=0) (i:=0) (q:=(x1,eh1)) hrd rfl (by omega) znd rfl dc rfl (Vw.get hwstanzas1 eq1) rfl rfl ?_)
   obtain ⟨q1,hq2,h⟩:=zbL h
   refine zbv hV1 hq2 underlying38 zof rfl dc rfl rfl rfl (zcW (n:=k1+(0:Int).toNat) (j:=0) (i:=3) (q:=q1) hrd rfl (by omega) zhk rfl dc rfl (Vw.get hV1 hq2) rfl rfl ?_)
   obtain ⟨r1,hq3,h⟩:=zbL h
   refine zbg (v:=.bool r1) (vs:=[.string q1]) rfl dc rfl rfl rfl zzt (zji hq3) (zyR 2 rfl (zyN ?_))
   refine zyB rfl h (fun h => ?_) (fun h => ?_)
   ·
    refine zas (zyR 1 rfl ?_)
    obtain ⟨hg4,h⟩:=zbQ h
    refine zaS rfl (zgX hg4) ?_
    obtain ⟨hg5,h⟩:=zbQ h
    refine zaS rfl (zgX hg5) ?_
    obtain ⟨hg6,h⟩:=zbQ h
    refine zcE (vs:=[zP b3,.string (((⟨#[35,32]⟩:zBA)++title1)++(⟨#[10]⟩:zBA))]) rfl dc rfl rfl rfl zqI (zjp b3 (⟨#[]⟩:zBA) (((⟨#[35,32]⟩:zBA)++title1)++(⟨#[10]⟩:zBA)) hg6) (zab [0] kr rfl) ?_
    rintro u2
    refine zaP ?_
    exact zak ((⟨#[]⟩:zBA)++(((⟨#[35,32]⟩:zBA)++title1)++(⟨#[10]⟩:zBA)),b3) h rfl (zbf rfl) (zab [1] kr rfl)
   refine zal ?_
   exact zak ((⟨#[]⟩:zBA),b3) h rfl (zbf rfl) (zab [0] kr rfl)
  refine zyR 8 rfl (zyN (zaM rfl (zal ?_)))
  exact zak ((⟨#[]⟩:zBA),b3) h rfl (zbf rfl) (zab [0] kr rfl)
 rintro ⟨b2,b1⟩ h
 rw [hj1] at h
 obtain ⟨j2,hj2,h⟩:=zbT h
 refine za8 (β:=zBA) 0 rfl (fun b=>j2 b=some r) (fun b=>[]) (fun b=>[(5,zP b1)]) (fun b=>[zqS b1 b]) (fun cut => ?_) ?_
 ·
  refine cut (zyG (zyR 1 rfl (zhi hzstanzas1 hwstanzas1 rfl dc rfl underlying94 (zyR 1 rfl (zyN (zaG ?_))))))
  refine zbP (β:=Nat×zBA×Int) (fun b=>za1 (fun _ _=>none) (zcR stanzas1 j2) b.1 b.2.1 b.2.2=some r) (fun b=>[]) (fun b=>[(5,zP b1),(29,vstanzas1.v),(30,zI (stanzas1.length:Int)),(31,zI b.2.2)]) (fun b=>[zqS b1 b.2.1]) (fun b=>b.1) (zcD,b2,0) h rfl (zbf rfl) (zab [0] kr rfl) ?_
  rintro ⟨n1,b7,x4⟩ h
  cases n1 with
  | zero=>exact zdO h
  | succ n1 =>
   obtain ⟨ag1,hag1⟩:∃ ag,ag=za1 (fun _ _=>none) (zcR stanzas1 j2) n1:=⟨_,rfl⟩
   have h:zcR stanzas1 j2 ag1 b7 x4=some r:=by rw [hag1]; exact h
   unfold zcR at h
   refine zyG (zaS rfl zbF (zyN (zaE ?_)))
   refine zyB rfl h (fun h => ?_) (fun h => ?_)
   ·
    refine zal (zay ?_)
    obtain ⟨j3,hj3,h⟩:=zbT h
    refine za8 (β:=zBA) 0 rfl (fun b=>j3 b=some r) (fun b=>[]) (fun b=>[(5,zP b1),(29,vstanzas1.v),(30,zI (stanzas1.length:Int)),(31,zI x4)]) (fun b=>[zqS b1 b]) (fun cut => ?_) ?_
    ·
     refine cut (zaG (zyG ?_))
     obtain ⟨x5,hq4,h⟩:=zbL h
     obtain ⟨eh2,eq2⟩:=zjk hzstanzas1 hq4
     have hrd:Rd _ _ [zeJ za9 1 vvstanzas1 kstanzas1 Zstanzas1,zhU zcG Zstanzas1,zrp zkv 1 eh2 x5]:=hrd.openEl (i:=1) (z:=(x5,eh2)) rfl (Vw.get hwstanzas1 eq2)
     obtain ⟨vv2,k2,L2,hV2,hrd⟩:=hrd.openSl (i:=2) rfl
     replace hrd:Rd _ _ [zeJ za9 1 vvstanzas1 kstanzas1 Zstanzas1,zhU zcG Zstanzas1,zrp zkv 1 eh2 x5,zeJ zkv 1 vv2 k2 L2]:=hrd
     refine zbv hwstanzas1 eq2 underlying94 znb rfl dc rfl rfl rfl (zcW (n:=kstanzas1+(x4:Int).toNat) (j:=0) (i:=0) (q:=(x5,eh2)) hrd rfl (by omega) znd rfl dc rfl (Vw.get hwstanzas1 eq2) rfl rfl (zyR 1 rfl (zyN ?_)))
     obtain ⟨j4,hj4,h⟩:=zbT h
     refine za8 (β:=zBA) 0 rfl (fun b=>j4 b=some r) (fun b=>[]) (fun b=>[(5,zP b1),(7,eh2.v),(29,vstanzas1.v),(30,zI (stanzas1.length:Int)),(31,zI x4)]) (fun b=>[zqS b1 b]) (fun cut => ?_) ?_
     ·
      refine cut (zyG (zi7 (v:=zI (b7.size:Int)) (vs:=[zP b1]) rfl dc rfl rfl rfl zAr (zxT b1 b7) [0] kr rfl (zaS rfl zc1 (zyN ?_))))
      refine zyB rfl h (fun h => ?_) (fun h => ?_)
      ·
       refine zas ?_
       obtain ⟨hg7,h⟩:=zbQ h
       refine zcE (vs:=[zP b1,.string (⟨#[10]⟩:zBA)]) rfl dc rfl rfl rfl zqI (zjp b1 b7 (⟨#[10]⟩:zBA) hg7) (zab [0] kr rfl) ?_
       rintro u3
       refine zaP ?_
       exact zak (b7++(⟨#[10]⟩:zBA)) h rfl (zbf rfl) (zab [1] kr rfl)
      refine zal ?_
      exact zak b7 h rfl (zbf rfl) (zab [0] kr rfl)
     rintro b9 h
     rw [hj4] at h
     refine zyG (zyR 1 rfl (zcO hV2 rfl dc rfl underlying38 (zyR 1 rfl (zyN (zaG ?_)))))
     refine zbP (β:=Nat×zBA×Int) (fun b=>za1 (fun _ _=>none) (zdB j3 x5) b.1 b.2.1 b.2.2=some r) (fun b=>[]) (fun b=>[(5,zP b1),(29,vstanzas1.v),(30,zI (stanzas1.length:Int)),(31,zI x4),(38,eh2.v),(39,zI (x5.length:Int)),(40,zI b.2.2)]) (fun b=>[zqS b1 b.2.1]) (fun b=>b.1) (zcD,b9,0) h rfl (zbf rfl) (zab [0] kr rfl) ?_
     rintro ⟨n2,b12,x8⟩ h
     cases n2 with
     | zero=>exact zdO h
     | succ n2 =>
      obtain ⟨ag2,hag2⟩:∃ ag,ag=za1 (fun _ _=>none) (zdB j3 x5) n2:=⟨_,rfl⟩
      have h:zdB j3 x5 ag2 b12 x8=some r:=by rw [hag2]; exact h
      unfold zdB at h
      refine zyG (zaS rfl zbF (zyN (zaE ?_)))
      refine zyB rfl h (fun h => ?_) (fun h => ?_)
      ·
       refine zal (zay (zaE (zaG (zyG ?_))))
       obtain ⟨q2,hq5,h⟩:=zbL h
       refine zbv hV2 hq5 underlying38 zof rfl dc rfl rfl rfl (zcW (n:=k2+(x8:Int).toNat) (j:=0) (i:=3) (q:=q2) hrd rfl (by omega) zhk rfl dc rfl (Vw.get hV2 hq5) rfl rfl (zyR 1 rfl (zyN (zas (zyR 1 rfl ?_)))))
       obtain ⟨hg8,h⟩:=zbQ h
       refine zaS rfl (zgX hg8) ?_
       obtain ⟨hg9,h⟩:=zbQ h
       refine zcE (vs:=[zP b1,.string (q2++(⟨#[10]⟩:zBA))]) rfl dc rfl rfl rfl zqI (zjp b1 b12 (q2++(⟨#[10]⟩:zBA)) hg9) (zab [0] kr rfl) ?_
       rintro u4
       refine zaP (zae (zay (zas ?_)))
       obtain ⟨hg10,h⟩:=zbQ h
       refine zaS rfl (zbb (r:=x8+1) (IntWalk.i64_in _ hg10)) (zyR 1 rfl (zaP ?_))
       subst hag2
       exact zbr (n2,b12++(q2++(⟨#[10]⟩:zBA)),x8+1) h (Nat.lt_succ_self _) rfl (zbf rfl) (zab [1] kr rfl)
      refine zbu (zaq (zaq (zaJ (zae ?_))))
      exact zak b12 h rfl (zbf rfl) (zab [0] kr rfl)
    rintro b8 h
    rw [hj3] at h
    refine zas ?_
    obtain ⟨hg11,h⟩:=zbQ h
    refine zaS rfl (zbb (r:=x4+1) (IntWalk.i64_in _ hg11)) (zyR 1 rfl (zaP ?_))
    subst hag1
    exact zbr (n1,b8,x4+1) h (Nat.lt_succ_self _) rfl (zbf rfl) (zab [0] kr rfl)
   refine zbu (zaq (zaq (zaJ ?_)))
   exact zak b7 h rfl (zbf rfl) (zab [0] kr rfl)
 rintro b4 h
 rw [hj2] at h
 refine zyG (zcE (vs:=[zP b1]) rfl dc rfl rfl rfl zzk (zus b1 b4) (zab [0] kr rfl) ?_)
 rintro _
 refine zyR 1 rfl (zyN (zau ?_))
 cases h
 exact za2 4 results37
def zdb (from1:Int) (to1:Int) (x1:Int×zax) (ag1:(List (List zBA))→Int→Option (List (List zBA))) (out4:List (List zBA)) (stanza3:Int):Option (List (List zBA)) := zaB (decide ((x1.1:Int)<from1)) ( ag1 out4 stanza3
) ( zaB (decide ((to1:Int)≤x1.1)) ( ag1 out4 stanza3
) ( zbE (fun (j2:(List (List zBA))→Int→Option (List (List zBA))) => zaB ((x1.2.Stanza:Int) != stanza3) ( grd (out4.length+1≤2147483648) <| j2 (out4++[([]:List zBA)]) x1.2.Stanza
) ( j2 out4 stanza3
)
) (fun (out5:List (List zBA)) (stanza4:Int) => grd (I64 ((out5.length:Int) - 1)) <| zan (zdf out5 ((out5.length:Int) - 1)) fun (x2:List zBA) => grd (0≤x1.2.Indent∧x1.2.Indent≤140737488355328) <| grd ((zcv x1.2.Indent).size+x1.2.Text.size≤9223372036854775807) <| grd (x2.length+1≤2147483648) <| ag1 (out5.set ((out5.length:Int) - 1:Int).toNat (x2++[(zcv x1.2.Indent)++x1.2.Text])) stanza4
)
)
)
def zed (p1:zaC) (from1:Int) (to1:Int):Option (List (List zBA)) := zbE (fun (j1:(List (List zBA))→Option (List (List zBA))) => zan (zef p1) fun (r1:Unit) => zan (zdk p1) fun (its1:(List (Int×zax))) => zbE (fun (dn1:(List (List zBA))→Int→Option (List (List zBA))) => zcQ dn1 (zdb from1 to1) its1 ([]:List (List zBA)) (-1)
) (fun (out4:List (List zBA)) (stanza3:Int) => j1 out4
)
) (fun (out1:List (List zBA)) => some out1
)
theorem zkE {bp1:Nat} {p1:zaC} {p1_h0 p1_h1:Hd} {from1:Int} {to1:Int} {r:(List (List zBA))} (h:zed p1 from1 to1=some r):FnR prog 38 [zP bp1,zI from1,zI to1] [cells bp1 [.string p1.told_title,p1_h0.v,p1_h1.v,.string p1.source] 76,zv7 p1_h0.v p1.told_lines,zv8 p1_h1.v p1.told_stanzas] [] (fun v0:Value=>v0) (fun v0=>[zgf za9 zbn 38 1 v0 r]):=by
 unfold zed at h
 refine FnR.intro func38 rfl ntmps38 (by simp) ?_
 intro w0 K hrd
 refine zgz ?_
 obtain ⟨j1,hj1,h⟩:=zbT h
 refine za8 (β:=(List (List zBA))×Nat×Hd×(List Nat)) 3 rfl (fun b=>j1 b.1=some r) (fun b=>zec b.2.2.2) (fun b=>[(7,zP b.2.1)]) (fun b=>[cells b.2.1 [b.2.2.1.v] 94,zgf za9 zbn 38 1 b.2.2.1.v b.1,zhG ((b.2.2.2:List Nat).map zib)]) (fun cut => ?_) ?_
 ·
  refine zyG ?_
  refine zdi rfl dc rfl (fun b2 => ?_)
  refine zdi rfl dc rfl (fun b3 => ?_)
  refine zyR 1 rfl (zyH ?_)
  refine zbh zzY rfl dc (fun b4 => ?_)
  refine zyH ?_
  refine zbh zyk rfl dc (fun b5 => ?_)
  refine zaT (k:=4) (l':=[zI (-1)]) zeI rfl rfl rfl rfl rfl (fun _ _=>rfl) rfl ?_
  refine zyN (cut (zyG (zyR 1 rfl ?_)))
  obtain ⟨r1,hq1,h⟩:=zbL h
  refine zft (vs:=[zP bp1]) hrd rfl dc rfl rfl rfl zxK (zgk (bp1:=bp1) (p1:=p1) (p1_h0:=p1_h0) (p1_h1:=p1_h1) hq1) Splits.nil (.ro 0 rfl (.ro 1 rfl (.ro 2 rfl .nil))) ?_
  rintro b6
  refine zcs (L':=[zhG ((([]:List Nat):List Nat).map zib),cells b2 [zI from1] 3,cells b3 [zI to1] 3,cells b4 [.slice none 0 0] 94,cells b5 [zI (-1)] 3,cells b6 [zP bp1] 28]) (zab [0,1,2,3,4,5] kr rfl) (zyN (zaG ?_))
  obtain ⟨its1,hq2,h⟩:=zbL h
  refine zoQ (enc:=za9) (nest:=zbn) (e:=38) (size:=1) ?_
  obtain ⟨dn1,hdn1,h⟩:=zbT h
  refine zmY (α:=Int×zax) (β:=(List (List zBA))×Int×Hd) (γ:=Unit) (δ:=Nat) (ps:=[14,15]) hrd Ro.nil rfl zxI (zfw hq2) (fun pre b=>∀ post,its1=pre++post→zcQ dn1 (zdb from1 to1) post b.1 b.2.1=some r) (fun pre b=>[cells b2 [zI from1] 3,cells b3 [zI to1] 3,cells b4 [b.2.2.v] 94,zgf za9 zbn 38 1 b.2.2.v b.1,cells b5 [zI b.2.1] 3]) (fun c pre g=>False) (fun c pre g=>[]) (fun pre x b j=>[(4,zP b2),(5,zP b3),(6,.slice none 0 0),(7,zP b4),(8,zP b5),(13,.func (.func 32) #[] #[zP b6]),(9,zI x.1),(10,zP j)]) (fun pre x b j=>[cells b2 [zI from1] 3,cells b3 [zI to1] 3,cells b4 [b.2.2.v] 94,zgf za9 zbn 38 1 b.2.2.v b.1,cells b5 [zI b.2.1] 3,cells j (zr1 x.2) 50]) (([]:List (List zBA)),(-1),Hd.nil) (fun post e=>by rw [List.nil_append] at e; subst e; exact h) (zab [1,2,3,6,4] kr rfl) (.own (As:=[cells b6 [zP bp1] 28]) (zab [5] kr rfl) (fun _ _ h=>sepL.one1.1 h) (.ro 0 rfl (.ro 1 rfl (.ro 2 rfl .nil)))) (fun _=>rfl) dc ?_ ?_ ?_ ?_
  ·
   rintro lp rc pre x1 post ⟨out4,stanza3,hd4⟩ w1 K1 hxs1 hext hro hinv
   have hrd:=hrd.ext hext
   refine zyG (zyR 1 rfl (zyN (zas ?_)))
   refine zbh zoU rfl dc (fun b7 => ?_)
   refine zaZ (k:=5) (vs:=(zr1 x1.2)) (l':=(zr1 x1.2)) zjH rfl rfl rfl rfl rfl (show _≤_ by simp) rfl rfl ?_
   refine zaP ?_
   exact fun a w ha hw=>⟨b7,(zbf rfl) _ _ _ ha,hw.weaken (zab [0,1,2,3,4,5] kr rfl)⟩
  ·
   rintro lp rc pre x1 post1 ⟨out4,stanza3,hd4⟩ jb1 w1 K1 hxs1 hext hro hinv
   have hrd:=hrd.ext hext
   have h:=hinv (x1::post1) hxs1
   obtain ⟨ag1,hag1⟩:∃ ag,ag=zcQ dn1 (zdb from1 to1) post1:=⟨_,rfl⟩
   have h:zdb from1 to1 x1 ag1 out4 stanza3=some r:=by rw [hag1]; exact h
   unfold zdb at h
   refine zaG (zaE (zyG (zyR 1 rfl (zaj (k:=0) zbW rfl dc rfl rfl rfl (zaS rfl zbF (zyR 1 rfl ?_))))))
   refine zyS (s:=19) rfl h (fun h => ?_) (fun h => ?_)
   ·
    refine zyR 4 rfl (zyN (zba rfl (zbu (zaq (zaJ ?_)))))
    exact zcN (out4,stanza3,hd4) (fun post2 e2=>by have e9:=zds hxs1 e2; subst e9; subst hag1; exact h) (zab [0,1,2,3,4] kr rfl)
   refine zyR 1 rfl (zaj (k:=1) zbW rfl dc rfl rfl rfl (zaS rfl zbG (zyR 1 rfl (zyN ?_))))
   refine zyB rfl h (fun h => ?_) (fun h => ?_)
   ·
    refine zbu (zaq (zaJ ?_))
    exact zcN (out4,stanza3,hd4) (fun post2 e2=>by have e9:=zds hxs1 e2; subst e9; subst hag1; exact h) (zab [0,1,2,3,4] kr rfl)
   refine zal (zay ?_)
   obtain ⟨j2,hj2,h⟩:=zbT h
   refine za8 (β:=(List (List zBA))×Int×Hd) 0 rfl (fun b=>j2 b.1 b.2.1=some r) (fun b=>[]) (fun b=>[(4,zP b2),(5,zP b3),(6,.slice none 0 0),(7,zP b4),(8,zP b5),(10,zP jb1),(13,.func (.func 32) #[] #[zP b6])]) (fun b=>[cells b2 [zI from1] 3,cells b3 [zI to1] 3,cells b4 [b.2.2.v] 94,zgf za9 zbn 38 1 b.2.2.v b.1,cells b5 [zI b.2.1] 3,cells jb1 (zr1 x1.2) 50]) (fun cut => ?_) ?_
   ·
    refine cut (zyG (zaa ziL rfl dc rfl (show _=2 from rfl) (zaj (k:=5) zbW rfl dc rfl rfl rfl (zaj (k:=4) zbW rfl dc rfl rfl rfl (zaS rfl zbH (zyN ?_))))))
    refine zyB rfl h (fun h => ?_) (fun h => ?_)
    ·
     refine zyG (zaj (k:=2) ztj rfl dc rfl rfl rfl ?_)
     refine zbc (cs:=[.slice none 0 0]) (te:=38) (ps:=[(0,.const (.slice none 0 0))]) rfl dc rfl (fun _=>by kernel_rfl) (fun b8 => ?_)
     refine zfi (enc:=zkv) (e:=9) (size:=1) ?_
     refine zeE (k:=3) rfl znk (fun zs1 hz1 => ?_)
     obtain ⟨hg1,h⟩:=zbQ h
     refine zbx (k:=3) (k2:=6) (ys:=[(([]:List zBA),Hd.nil)]) underlying94 zzD zcx zhO rfl dc rfl rfl rfl rfl rfl rfl (by rw [zx9 hz1]; exact hg1) (fun v1 => ?_)
     refine zbJ (k:=3) rfl (fun hd6 he1 => ?_)
     subst he1
     refine zfs (k:=8) rfl (zab [7] kr rfl) rfl (zpi (nest:=zbn) (zs:=zs1) (z:=(([]:List zBA),Hd.nil))) ?_
     refine zfs (k:=3) rfl (zab [8] kr rfl) rfl (ziR (enc:=za9) (nest:=zbn) (zyv hz1)) ?_
     refine zcs (L':=[cells b2 [zI from1] 3,cells b3 [zI to1] 3,cells b4 [hd4.v] 94,zgf za9 zbn 38 1 hd6.v (out4++[([]:List zBA)]),cells b5 [zI stanza3] 3,cells jb1 (zr1 x1.2) 50,cells b8 [.slice none 0 0] 38]) (zab [0,1,2,3,4,5,6] kr rfl) ?_
     refine zaT (k:=2) (l':=[hd6.v]) zz1 rfl rfl rfl rfl rfl (fun _ _=>rfl) rfl ?_
     refine zyN (zas (zaa ziL rfl dc rfl (show _=2 from rfl) (zaj (k:=5) zbW rfl dc rfl rfl rfl ?_)))
     refine zaT (k:=4) (l':=[zI x1.2.Stanza]) zeI rfl rfl rfl rfl rfl (fun _ _=>rfl) rfl ?_
     refine zaP ?_
     exact zak (out4++[([]:List zBA)],x1.2.Stanza,hd6) h rfl (zbf rfl) (zab [0,1,2,3,4,5] kr rfl)
    refine zal ?_
    exact zak (out4,stanza3,hd4) h rfl (zbf rfl) (zab [0,1,2,3,4,5] kr rfl)
   rintro ⟨out5,stanza4,hd5⟩ h
   rw [hj2] at h
   refine zyG (zaj (k:=2) ztj rfl dc rfl rfl rfl (zi6 (k:=3) rfl dc rfl rfl underlying94 ?_))
   obtain ⟨hg2,h⟩:=zbQ h
   refine zaS rfl (zce (r:=(out5.length:Int) - 1) (IntWalk.i64_in _ hg2)) (zyR 1 rfl (zyN ?_))
   refine zi8 (k:=3) rfl znk (fun zs2 hz2 => ?_)
   obtain ⟨x2,hq3,h⟩:=zbL h
   obtain ⟨eh1,eq1⟩:=zjk hz2 hq3
   obtain ⟨hg3,h⟩:=zbQ h
   obtain ⟨hg4,h⟩:=zbQ h
   obtain ⟨hg5,h⟩:=zbQ h
   refine zi8 (k:=6) rfl (zsj (zbo eq1)) (fun _ _ => ?_)
   refine zgG 1 ?_
   refine let vals1:(Nat×Hd)→List (Nat×Nat×Value):=fun b=>[(0,36,hd5.v),(1,37,zI ((out5.length:Int) - 1)),(2,38,hd5.v),(3,39,zI ((out5.length:Int) - 1)),(4,40,.pointer (some ⟨zdz hd5.v,((out5.length:Int) - 1:Int).toNat*1,none⟩)),(5,41,eh1.v),(6,42,.pointer (some ⟨jb1,1,none⟩)),(7,43,zI x1.2.Indent),(8,44,.string (zcv x1.2.Indent)),(9,45,zP jb1),(10,46,.string x1.2.Text),(11,47,.string ((zcv x1.2.Indent)++x1.2.Text)),(12,48,.slice (some ⟨b.1,0,none⟩) 1 1),(13,49,b.2.v)]; let LL1:(Nat→Prop)→(Nat×Hd)→List Asn:=fun D b=>[cells b2 [zI from1] 3,cells b3 [zI to1] 3,cells b4 [hd5.v] 94,zA9 hd5.v zs2,cells b5 [zI stanza4] 3,cells jb1 (zr1 x1.2) 50,own zbn (zs2.eraseIdx (((out5.length:Int) - 1:Int).toNat)),eD D (zv2 eh1.v x2) [(13,zv2 b.2.v (x2++[(zcv x1.2.Indent)++x1.2.Text]))],eD D emp [(12,cells b.1 [.string ((zcv x1.2.Indent)++x1.2.Text)] 9)]]; ?_
   have zhq:zyQ [12,13] LL1:=fun i h D b=>zac rfl (zac rfl (zac rfl (zac rfl (zac rfl (zac rfl (zac rfl (zac (zkr rfl h) (zac (zkr rfl h) rfl))))))))
   refine zeb (β:=Nat×Hd) 14 ((0:Nat),Hd.nil) vals1 LL1 mixed kr kr dc (fun _=>rfl) (zp3 (zac zci (zac zci rfl))) (zhC zhq rfl (fun _=>rfl) (fun _=>rfl) ?_ (zm5 zhq (fun _=>rfl) (fun _=>rfl) 1 1 (fun _=>rfl) rfl (zhC zhq rfl (fun _=>rfl) (fun _=>rfl) ?_ (zm5 zhq (fun _=>rfl) (fun _=>rfl) 1 3 (fun _=>rfl) rfl (zhC zhq rfl (fun _=>rfl) (fun _=>rfl) ?_ (zhC zhq rfl (fun _=>rfl) (fun _=>rfl) ?_ (zyq zhq rfl (fun _=>rfl) (fun _=>rfl) ?_ (zhC zhq rfl (fun _=>rfl) (fun _=>rfl) ?_ (zhC zhq rfl (fun _=>rfl) (fun _=>rfl) ?_ (zyq zhq rfl (fun _=>rfl) (fun _=>rfl) ?_ (zhC zhq rfl (fun _=>rfl) (fun _=>rfl) ?_ (zyq zhq rfl (fun _=>rfl) (fun _=>rfl) ?_ (zaF ?_ (zaF ?_ DrawG.nil)))))))))))))) ?_
   · exact fun D ⟨b9,hd7⟩ n d c u i=>⟨_,(zzP rfl),zaj (k:=2) ztj rfl dc (zbd (by rfl) rfl) rfl rfl (zar 0 u i)⟩
   · exact fun D ⟨b9,hd7⟩ n d c u i=>⟨_,(zp3 (zac (zah (fun hD=>n (c 4 _ rfl (c 5 _ rfl (c 13 _ rfl hD 5 dc) 4 dc) 2 dc)) zat) rfl)),zaj (k:=2) ztj rfl dc (zbd (by rfl) rfl) rfl rfl (zar 2 u i)⟩
   · exact fun D ⟨b9,hd7⟩ n d c u i=>⟨_,(zp3 (zac (zah (fun hD=>n (c 5 _ rfl (c 13 _ rfl hD 5 dc) 4 dc)) zat) rfl)),za3 (k:=3) eq1 underlying94 znb rfl dc (zam 2 u d) (zam 3 u d) rfl rfl (zar 4 u i)⟩
   · exact fun D ⟨b9,hd7⟩ n d c u i=>⟨_,(zp3 (zac (zah (fun hD=>n (c 13 _ rfl hD 5 dc)) zat) rfl)),zbD (i:=((out5.length:Int) - 1:Int).toNat) (j:=0) (k:=3) (q:=(x2,eh1)) znd zcx rfl dc (zam 4 u d) rfl (zbo eq1) rfl dc rfl (zar 5 u i)⟩
   · exact fun D ⟨b9,hd7⟩ n d c u i=>zaa ziM rfl dc (zbd (by rfl) rfl) (show _=1 from rfl) (zar 6 u i)
   · exact fun D ⟨b9,hd7⟩ n d c u i=>⟨_,(zp3 (zac (zah (fun hD=>n (c 8 _ rfl (c 13 _ rfl hD 8 dc) 7 dc)) zat) (zac (zah (fun hD=>n (c 8 _ rfl (c 11 _ rfl (c 12 _ rfl hD 11 dc) 8 dc) 7 dc)) zat) rfl))),zaj (k:=5) zbW rfl dc (zam 6 u d) rfl rfl (zar 7 u i)⟩
   · exact fun D ⟨b9,hd7⟩ n d c u i=>⟨_,(zp3 (zac (zah (fun hD=>n (c 13 _ rfl hD 8 dc)) zat) (zac (zah (fun hD=>n (c 11 _ rfl (c 12 _ rfl hD 11 dc) 8 dc)) zat) rfl))),zbg (v:=.string (zcv x1.2.Indent)) (vs:=[.string (⟨#[32]⟩:zBA),zI x1.2.Indent]) rfl dc rfl (evL.cons rfl (evL.cons (zam 7 u d) evL.nil)) rfl zzr (zrh x1.2.Indent hg3) (zar 8 u i)⟩
   · exact fun D ⟨b9,hd7⟩ n d c u i=>zaa ziN rfl dc (zbd (by rfl) rfl) (show _=0 from rfl) (zar 9 u i)
   · exact fun D ⟨b9,hd7⟩ n d c u i=>⟨_,(zp3 (zac (zah (fun hD=>n (c 11 _ rfl (c 12 _ rfl (c 13 _ rfl hD 12 dc) 11 dc) 10 dc)) zat) (zac (zah (fun hD=>n (c 11 _ rfl (c 12 _ rfl hD 11 dc) 10 dc)) zat) rfl))),zaj (k:=5) zhk rfl dc (zam 9 u d) rfl rfl (zar 10 u i)⟩
   · exact fun D ⟨b9,hd7⟩ n d c u i=>zb6 rfl dc (zam 8 u d) (zam 10 u d) (zgX hg4) (zar 11 u i)
   ·
    intro D b hn hd hcl
    obtain ⟨zb0,hd7⟩:=b
    refine zaY (zp3 (zac (zah (fun hD=>hn (hcl 13 _ rfl hD 12 dc)) zat) (zac (zah hn zat) rfl))) ?_
    refine zbc (cs:=[.string ((zcv x1.2.Indent)++x1.2.Text)]) (te:=9) (ps:=[(0,.tmp 47)]) rfl dc (evP.cons (zaI (m:=11) rfl rfl (hd 11 dc)) evP.nil) (fun _=>by kernel_rfl) (fun b9 => ?_)
    refine zdg 8 rfl rfl ?_
    exact za4 (b:=(zb0,hd7)) (b9,hd7) 12 (by rfl) (by rfl) rfl (zd5 (zaz (fun hD=>absurd hD hn) (zaz (fun _=>rfl) rfl))) (zp3 (zac ((zav (by rfl)).trans (zah (fun hD=>hn (hcl 13 _ rfl hD 12 dc)) zat)) (zac (zaW (Or.inr rfl) rfl) rfl)))
   ·
    intro D b hn hd hcl
    obtain ⟨b9,zb1⟩:=b
    refine zaY (zp3 (zac (zah hn zat) (zac (zaW (hd 12 dc) rfl) rfl))) ?_
    refine zbx (k:=7) (k2:=8) (ys:=[(zcv x1.2.Indent)++x1.2.Text]) underlying38 zyc zey zkg rfl dc (zaI (m:=5) rfl rfl (hd 5 dc)) (zaI (m:=12) rfl rfl (hd 12 dc)) rfl rfl rfl rfl hg5 (fun v2 => ?_)
    refine zbJ (k:=7) rfl (fun hd7 he2 => ?_)
    subst he2
    exact za4 (b:=(b9,zb1)) (b9,hd7) 13 (by rfl) (by rfl) rfl (zaz (fun _=>rfl) (zd5 (zaz (fun hD=>absurd hD hn) rfl))) (zp3 (zac (zaW (Or.inr rfl) rfl) (zac ((zav (by rfl)).trans (zaW (hd 12 dc) rfl)) rfl)))
   intro D b hall
   obtain ⟨b9,hd7⟩:=b
   refine zaY (zp3 (zac (zaW (hall 13 dc) rfl) (zac (zaW (hall 12 dc) rfl) rfl))) (za3 (k:=3) eq1 underlying94 znb rfl dc rfl rfl rfl rfl ?_)
   refine zex (i:=((out5.length:Int) - 1:Int).toNat) (j:=0) (k:=3) (q:=(x2,eh1)) (q':=(x2++[(zcv x1.2.Indent)++x1.2.Text],hd7)) znb zcx rfl rfl rfl rfl (zbo eq1) rfl dc rfl (fun _ _=>rfl) ?_
   refine zfs (k:=6) rfl (zab [7] kr rfl) rfl (zpa (nest:=zbn) (zs:=zs2) (z:=(x2++[(zcv x1.2.Indent)++x1.2.Text],hd7)) (zom (zbo eq1)) zjJ) ?_
   refine zaP (zae (zgy (k:=3) rfl (zab [6] kr rfl) rfl (ziR (enc:=za9) (nest:=zbn) (zzS hz2)) ?_))
   exact zcN (out5.set ((out5.length:Int) - 1:Int).toNat (x2++[(zcv x1.2.Indent)++x1.2.Text]),stanza4,hd5) (fun post2 e2=>by have e9:=zds hxs1 e2; subst e9; subst hag1; exact h) (zab [0,1,2,3,4] kr rfl)
  ·
   rintro dm1 ⟨out4,stanza3,hd4⟩ hinv
   have h:dn1 out4 stanza3=some r:=hinv [] (List.append_nil _).symm
   rw [hdn1] at h
   refine zew (k:=12) (j:=0) rfl rfl dc ?_
   refine zae ?_
   exact zak (out4,b4,hd4,dm1::([]:List Nat)) h rfl (zbf rfl) (zab [9,10,0] kr rfl)
  rintro dm1 c pre x1 post g hxs hX
  exact (show False from hX).elim
 rintro ⟨out1,b1,hd1,ds1⟩ h
 rw [hj1] at h
 refine zyG (zaj (k:=0) ztj rfl dc rfl rfl rfl (zyR 1 rfl (zyN (zau ?_))))
 cases h
 exact zdh (rs:=[.tmp 6]) ds1 hd1.v (.inl rfl) (zbq (k:=2) rfl) results38 (.cons (.tmp rfl) .nil) rfl (zab [1] kr rfl)
def zeK (stanzas1:List (List zBA)) (j1:Int→Option ((Option zaC)×Int)) (ag1:Int→Int→Option ((Option zaC)×Int)) (n4:Int) (x3:Int):Option ((Option zaC)×Int) := zaB (decide ((x3:Int)<(stanzas1.length:Int))) ( zan (zdf stanzas1 x3) fun (x4:List zBA) => grd (I64 (n4+(x4.length:Int))) <| grd (I64 (x3+1)) <| ag1 (n4+(x4.length:Int)) (x3+1)
) ( j1 n4
)
def zes (title1:zBA) (stanzas1:List (List zBA)):Option ((Option zaC)×Int) := zbE (fun (j1:Int→Option ((Option zaC)×Int)) => za1 (fun _ _=>none) (zeK stanzas1 j1) zcD 0 0
) (fun (n1:Int) => zan (zdU title1 stanzas1) fun (r1:zBA) => zaB (decide ((512:Int)<n1)) ( some (none,3)
) ( zaB (decide ((65536:Int)<(r1.size:Int))) ( some (none,3)
) ( zan (zet r1) fun (r2:((Option zaC)×zbS)) => some (r2.1,0)
)
)
)
theorem zpc {title1:zBA} {vvstanzas1:Value} {vstanzas1:Hd} {Zstanzas1:List ((List zBA)×Hd)} {kstanzas1:Nat} {zstanzas1:List ((List zBA)×Hd)} {stanzas1:List (List zBA)} (hwstanzas1:Vw vvstanzas1 Zstanzas1 1 kstanzas1 vstanzas1.v zstanzas1) (hzstanzas1:zstanzas1.map Prod.fst=stanzas1) {r:((Option zaC)×Int)} (h:zes title1 stanzas1=some r):FnR prog 63 [.string title1,vstanzas1.v] [zeJ za9 1 vvstanzas1 kstanzas1 Zstanzas1,zhU zcG Zstanzas1] [] (fun v0:Value=>.tuple #[v0,zI r.2]) (fun v0=>[zlg zbl zbk 76 v0 r.1]):=by
 unfold zes at h
 refine FnR.intro func63 rfl ntmps63 (by simp) ?_
 intro w0 K hrd
 obtain ⟨j1,hj1,h⟩:=zbT h
 refine za8 (β:=Int) 2 rfl (fun b=>j1 b=some r) (fun b=>[]) (fun b=>[(0,.string title1),(1,vstanzas1.v),(6,zI b)]) (fun b=>[]) (fun cut => ?_) ?_
 ·
  refine zyG (zyR 2 rfl (zyH (zyR 1 rfl (zyN (cut (zyG ?_))))))
  refine zyR 1 rfl (zhi hzstanzas1 hwstanzas1 rfl dc rfl underlying94 (zyR 1 rfl (zyN (zaG ?_))))
  refine zbP (β:=Nat×Int×Int) (fun b=>za1 (fun _ _=>none) (zeK stanzas1 j1) b.1 b.2.1 b.2.2=some r) (fun b=>[]) (fun b=>[(0,.string title1),(1,vstanzas1.v),(6,zI b.2.1),(12,vstanzas1.v),(13,zI (stanzas1.length:Int)),(14,zI b.2.2)]) (fun b=>[]) (fun b=>b.1) (zcD,0,0) h rfl (zbf rfl) Splits.nil ?_
  rintro ⟨n5,n4,x3⟩ h
  cases n5 with
  | zero=>exact zdO h
  | succ n5 =>
   obtain ⟨ag1,hag1⟩:∃ ag,ag=za1 (fun _ _=>none) (zeK stanzas1 j1) n5:=⟨_,rfl⟩
   have h:zeK stanzas1 j1 ag1 n4 x3=some r:=by rw [hag1]; exact h
   unfold zeK at h
   refine zyG (zaS rfl zbF (zyN (zaE ?_)))
   refine zyB rfl h (fun h => ?_) (fun h => ?_)
   ·
    refine zal (zay (zaE (zaG (zyG ?_))))
    obtain ⟨x4,hq1,h⟩:=zbL h
    obtain ⟨eh1,eq1⟩:=zjk hzstanzas1 hq1
    have hrd:Rd _ _ [zeJ za9 1 vvstanzas1 kstanzas1 Zstanzas1,zhU zcG Zstanzas1,zrp zkv 1 eh1 x4]:=hrd.openEl (i:=1) (z:=(x4,eh1)) rfl (Vw.get hwstanzas1 eq1)
    obtain ⟨vv1,k1,L1,hV1,hrd⟩:=hrd.openSl (i:=2) rfl
    replace hrd:Rd _ _ [zeJ za9 1 vvstanzas1 kstanzas1 Zstanzas1,zhU zcG Zstanzas1,zrp zkv 1 eh1 x4,zeJ zkv 1 vv1 k1 L1]:=hrd
    refine zbv hwstanzas1 eq1 underlying94 znb rfl dc rfl rfl rfl (zcW (n:=kstanzas1+(x3:Int).toNat) (j:=0) (i:=0) (q:=(x4,eh1)) hrd rfl (by omega) znd rfl dc rfl (Vw.get hwstanzas1 eq1) rfl rfl (zyR 1 rfl (zyN (zas (zyR 2 rfl (zcO hV1 rfl dc rfl underlying38 ?_))))))
    obtain ⟨hg1,h⟩:=zbQ h
    refine zaS rfl (zbb (r:=n4+(x4.length:Int)) (IntWalk.i64_in _ hg1)) (zyR 1 rfl (zaP (zae (zay (zas ?_)))))
    obtain ⟨hg2,h⟩:=zbQ h
    refine zaS rfl (zbb (r:=x3+1) (IntWalk.i64_in _ hg2)) (zyR 1 rfl (zaP ?_))
    subst hag1
    exact zbr (n5,n4+(x4.length:Int),x3+1) h (Nat.lt_succ_self _) rfl (zbf rfl) Splits.nil
   refine zbu (zaq (zaq (zaJ ?_)))
   exact zak n4 h rfl (zbf rfl) Splits.nil
 rintro n1 h
 rw [hj1] at h
 refine zyG (zyR 2 rfl ?_)
 obtain ⟨r1,hq2,h⟩:=zbL h
 refine zbK (v:=.string r1) (vs:=[.string title1,vstanzas1.v]) hrd rfl dc rfl rfl rfl zzq (ziz (vstanzas1:=vstanzas1) hwstanzas1 hzstanzas1 hq2) (.ro 0 rfl (.ro 1 rfl .nil)) (zyR 1 rfl (zyN (zaE (zyG (zyR 1 rfl (zaS rfl zc1 (zyR 1 rfl ?_)))))))
 refine zyS (s:=28) rfl h (fun h => ?_) (fun h => ?_)
 ·
  refine zyR 4 rfl (zyN (zba rfl (zyG (zyR 2 rfl (zyN (zau ?_))))))
  refine zaf (zdQ zbl zbk 76 ?_)
  cases h
  exact zbt (rs:=[.tmp 4,.tmp 5]) (.pointer none) (.inl rfl) results63 (.cons (.tmp rfl) (.cons (.tmp rfl) .nil)) rfl (zab [0] kr rfl)
 refine zyR 1 rfl (zbC rfl dc rfl underlying9 (zaS rfl zc1 (zyR 1 rfl (zyN ?_))))
 refine zyB rfl h (fun h => ?_) (fun h => ?_)
 ·
  refine zyG (zyR 2 rfl (zyN (zau (zaf (zdQ zbl zbk 76 ?_)))))
  cases h
  exact zbt (rs:=[.tmp 4,.tmp 5]) (.pointer none) (.inl rfl) results63 (.cons (.tmp rfl) (.cons (.tmp rfl) .nil)) rfl (zab [0] kr rfl)
 refine zal (zay (zyG (zyR 1 rfl ?_)))
 obtain ⟨r2,hq3,h⟩:=zbL h
 refine zcE (vs:=[.string r1]) rfl dc rfl rfl rfl zBf (zlf hq3) Splits.nil ?_
 rintro v1
 refine zcs (L':=[zlg zbl zbk 76 v1 r2.1]) (zab [0] kr rfl) (zyR 1 rfl (zaN rfl dc rfl rfl (zaN rfl dc rfl rfl ?_)))
 refine zbh zwP rfl dc (fun b1 => ?_)
 refine zyR 1 rfl (zaZ (k:=1) (vs:=(zr6 r2.2)) (l':=(zr6 r2.2)) zqe rfl rfl rfl rfl rfl (show _≤_ by simp) rfl rfl ?_)
 refine zyH (zyR 3 rfl (zyN (zau ?_)))
 cases h
 exact zbt (rs:=[.tmp 4,.tmp 5]) v1 (.inl rfl) results63 (.cons (.tmp rfl) (.cons (.tmp rfl) .nil)) rfl (zab [0] kr rfl)
def zeL (j2:Option ((Option zaC)×Int)) (x4:List zBA) (ag2:Int→Option ((Option zaC)×Int)) (x7:Int):Option ((Option zaC)×Int) := zaB (decide ((x7:Int)<(x4.length:Int))) ( zan (zdf x4 x7) fun (q1:zBA) => zaB (!(zsP q1 1024)) ( some (none,170)
) ( zan (ze9 q1) fun (r1:Bool) => zaB (r1) ( some (none,170)
) ( grd (I64 (x7+1)) <| ag2 (x7+1)
)
)
) ( j2
)
def zek (stanzas1:List (List zBA)) (j1:Option ((Option zaC)×Int)) (ag1:Int→Option ((Option zaC)×Int)) (x3:Int):Option ((Option zaC)×Int) := zaB (decide ((x3:Int)<(stanzas1.length:Int))) ( zbE (fun (j2:Option ((Option zaC)×Int)) => zan (zdf stanzas1 x3) fun (x4:List zBA) => zaB (((x4.length:Int):Int)==0) ( some (none,170)
) ( za1 (fun _=>none) (zeL j2 x4) zcD 0
)
) ( grd (I64 (x3+1)) <| ag1 (x3+1)
)
) ( j1
)
def zfO (title1:zBA) (stanzas1:List (List zBA)):Option ((Option zaC)×Int) := zaB (!(zsP title1 1022)) ( some (none,170)
) ( zbE (fun (j1:Option ((Option zaC)×Int)) => za1 (fun _=>none) (zek stanzas1 j1) zcD 0
) ( zan (zes title1 stanzas1) fun (r2:((Option zaC)×Int)) => some (r2.1,r2.2)
)
)
theorem zpd {title1:zBA} {vvstanzas1:Value} {vstanzas1:Hd} {Zstanzas1:List ((List zBA)×Hd)} {kstanzas1:Nat} {zstanzas1:List ((List zBA)×Hd)} {stanzas1:List (List zBA)} (hwstanzas1:Vw vvstanzas1 Zstanzas1 1 kstanzas1 vstanzas1.v zstanzas1) (hzstanzas1:zstanzas1.map Prod.fst=stanzas1) {r:((Option zaC)×Int)} (h:zfO title1 stanzas1=some r):FnR prog 36 [.string title1,vstanzas1.v] [zeJ za9 1 vvstanzas1 kstanzas1 Zstanzas1,zhU zcG Zstanzas1] [] (fun v0:Value=>.tuple #[v0,zI r.2]) (fun v0=>[zlg zbl zbk 76 v0 r.1]):=by
 unfold zfO at h
 refine FnR.intro func36 rfl ntmps36 (by simp) ?_
 intro w0 K hrd
 refine zyG (zyR 2 rfl (zyN (zaE (zyG (zyR 1 rfl (zbg (v:=.bool (zsP title1 1022)) (vs:=[.string title1,zI 1022]) rfl dc rfl rfl rfl zzj (zy3 title1 1022 dc) (zdt rfl dc rfl zct (zyN ?_))))))))
 refine zyB rfl h (fun h => ?_) (fun h => ?_)
 ·
  refine zyG (zyR 2 rfl (zyN (zau (zaf (zdQ zbl zbk 76 ?_)))))
  cases h
  exact zbt (rs:=[.tmp 4,.tmp 5]) (.pointer none) (.inl rfl) results36 (.cons (.tmp rfl) (.cons (.tmp rfl) .nil)) rfl (zab [0] kr rfl)
 refine zal (zay ?_)
 obtain ⟨j1,hj1,h⟩:=zbT h
 refine za8 (β:=Unit) 0 rfl (fun b=>j1=some r) (fun b=>[]) (fun b=>[(0,.string title1),(1,vstanzas1.v)]) (fun b=>[]) (fun cut => ?_) ?_
 ·
  refine cut (zyG (zyR 1 rfl (zhi hzstanzas1 hwstanzas1 rfl dc rfl underlying94 (zyR 1 rfl (zyN (zaG ?_))))))
  refine zbP (β:=Nat×Int) (fun b=>za1 (fun _=>none) (zek stanzas1 j1) b.1 b.2=some r) (fun b=>[]) (fun b=>[(0,.string title1),(1,vstanzas1.v),(13,vstanzas1.v),(14,zI (stanzas1.length:Int)),(15,zI b.2)]) (fun b=>[]) (fun b=>b.1) (zcD,0) h rfl (zbf rfl) Splits.nil ?_
  rintro ⟨n1,x3⟩ h
  cases n1 with
  | zero=>exact zdO h
  | succ n1 =>
   obtain ⟨ag1,hag1⟩:∃ ag,ag=za1 (fun _=>none) (zek stanzas1 j1) n1:=⟨_,rfl⟩
   have h:zek stanzas1 j1 ag1 x3=some r:=by rw [hag1]; exact h
   unfold zek at h
   refine zyG (zaS rfl zbF (zyN (zaE ?_)))
   refine zyB rfl h (fun h => ?_) (fun h => ?_)
   ·
    refine zal (zay ?_)
    obtain ⟨j2,hj2,h⟩:=zbT h
    refine za8 (β:=Unit) 0 rfl (fun b=>j2=some r) (fun b=>[]) (fun b=>[(0,.string title1),(1,vstanzas1.v),(13,vstanzas1.v),(14,zI (stanzas1.length:Int)),(15,zI x3)]) (fun b=>[]) (fun cut => ?_) ?_
    ·
     refine cut (zaG (zyG ?_))
     obtain ⟨x4,hq1,h⟩:=zbL h
     obtain ⟨eh1,eq1⟩:=zjk hzstanzas1 hq1
     have hrd:Rd _ _ [zeJ za9 1 vvstanzas1 kstanzas1 Zstanzas1,zhU zcG Zstanzas1,zrp zkv 1 eh1 x4]:=hrd.openEl (i:=1) (z:=(x4,eh1)) rfl (Vw.get hwstanzas1 eq1)
     obtain ⟨vv1,k1,L1,hV1,hrd⟩:=hrd.openSl (i:=2) rfl
     replace hrd:Rd _ _ [zeJ za9 1 vvstanzas1 kstanzas1 Zstanzas1,zhU zcG Zstanzas1,zrp zkv 1 eh1 x4,zeJ zkv 1 vv1 k1 L1]:=hrd
     refine zbv hwstanzas1 eq1 underlying94 znb rfl dc rfl rfl rfl (zcW (n:=kstanzas1+(x3:Int).toNat) (j:=0) (i:=0) (q:=(x4,eh1)) hrd rfl (by omega) znd rfl dc rfl (Vw.get hwstanzas1 eq1) rfl rfl (zyR 1 rfl (zyN (zaE (zyG (zyR 1 rfl (zcO hV1 rfl dc rfl underlying38 (zaS rfl zaL (zyN ?_)))))))))
     refine zyB rfl h (fun h => ?_) (fun h => ?_)
     ·
      refine zyG (zyR 2 rfl (zyN (zau (zaf (zag (zaf (zaf (zag (zaf (zdQ zbl zbk 76 ?_))))))))))
      cases h
      exact zbt (rs:=[.tmp 4,.tmp 5]) (.pointer none) (.inl rfl) results36 (.cons (.tmp rfl) (.cons (.tmp rfl) .nil)) rfl (zab [0] kr rfl)
     refine zal (zay (zyG (zyR 1 rfl (zcO hV1 rfl dc rfl underlying38 (zyR 1 rfl (zyN (zaG ?_)))))))
     refine zbP (β:=Nat×Int) (fun b=>za1 (fun _=>none) (zeL j2 x4) b.1 b.2=some r) (fun b=>[]) (fun b=>[(0,.string title1),(1,vstanzas1.v),(13,vstanzas1.v),(14,zI (stanzas1.length:Int)),(15,zI x3),(22,eh1.v),(23,zI (x4.length:Int)),(24,zI b.2)]) (fun b=>[]) (fun b=>b.1) (zcD,0) h rfl (zbf rfl) Splits.nil ?_
     rintro ⟨n2,x7⟩ h
     cases n2 with
     | zero=>exact zdO h
     | succ n2 =>
      obtain ⟨ag2,hag2⟩:∃ ag,ag=za1 (fun _=>none) (zeL j2 x4) n2:=⟨_,rfl⟩
      have h:zeL j2 x4 ag2 x7=some r:=by rw [hag2]; exact h
      unfold zeL at h
      refine zyG (zaS rfl zbF (zyN (zaE ?_)))
      refine zyB rfl h (fun h => ?_) (fun h => ?_)
      ·
       refine zal (zay (zaE (zaG (zyG ?_))))
       obtain ⟨q1,hq2,h⟩:=zbL h
       refine zbv hV1 hq2 underlying38 zof rfl dc rfl rfl rfl (zcW (n:=k1+(x7:Int).toNat) (j:=0) (i:=3) (q:=q1) hrd rfl (by omega) zhk rfl dc rfl (Vw.get hV1 hq2) rfl rfl (zyR 1 rfl (zyH (zyR 1 rfl (zbg (v:=.bool (zsP q1 1024)) (vs:=[.string q1,zI 1024]) rfl dc rfl rfl rfl zzj (zy3 q1 1024 dc) (zdt rfl dc rfl zct (zyR 1 rfl ?_)))))))
       refine zyS (s:=31) rfl h (fun h => ?_) (fun h => ?_)
       ·
        refine zyR 3 rfl (zyN (zba rfl (zyG (zyR 2 rfl (zyN (zau (zag ?_)))))))
        refine zaf (zaf (zag (zag (zaf (zaf (zag (zaf (zdQ zbl zbk 76 ?_))))))))
        cases h
        exact zbt (rs:=[.tmp 4,.tmp 5]) (.pointer none) (.inl rfl) results36 (.cons (.tmp rfl) (.cons (.tmp rfl) .nil)) rfl (zab [0] kr rfl)
       refine zyR 1 rfl ?_
       obtain ⟨r1,hq3,h⟩:=zbL h
       refine zbg (v:=.bool r1) (vs:=[.string q1]) rfl dc rfl rfl rfl zzu (zjQ hq3) (zyR 1 rfl (zyN ?_))
       refine zyB rfl h (fun h => ?_) (fun h => ?_)
       ·
        refine zyG (zyR 2 rfl (zyN (zau (zag (zaf (zaf (zag (zag (zaf (zaf ?_))))))))))
        refine zag (zaf (zdQ zbl zbk 76 ?_))
        cases h
        exact zbt (rs:=[.tmp 4,.tmp 5]) (.pointer none) (.inl rfl) results36 (.cons (.tmp rfl) (.cons (.tmp rfl) .nil)) rfl (zab [0] kr rfl)
       refine zal (zae (zay (zas ?_)))
       obtain ⟨hg1,h⟩:=zbQ h
       refine zaS rfl (zbb (r:=x7+1) (IntWalk.i64_in _ hg1)) (zyR 1 rfl (zaP ?_))
       subst hag2
       exact zbr (n2,x7+1) h (Nat.lt_succ_self _) rfl (zbf rfl) Splits.nil
      refine zbu (zaq (zaq (zaJ (zae ?_))))
      exact zak () h rfl (zbf rfl) Splits.nil
    rintro _ h
    rw [hj2] at h
    refine zas ?_
    obtain ⟨hg2,h⟩:=zbQ h
    refine zaS rfl (zbb (r:=x3+1) (IntWalk.i64_in _ hg2)) (zyR 1 rfl (zaP ?_))
    subst hag1
    exact zbr (n1,x3+1) h (Nat.lt_succ_self _) rfl (zbf rfl) Splits.nil
   refine zbu (zaq (zaq (zaJ ?_)))
   exact zak () h rfl (zbf rfl) Splits.nil
 rintro _ h
 rw [hj1] at h
 refine zyG (zyR 2 rfl ?_)
 obtain ⟨r2,hq4,h⟩:=zbL h
 refine zft (vs:=[.string title1,vstanzas1.v]) hrd rfl dc rfl rfl rfl zAq (zpc (vstanzas1:=vstanzas1) hwstanzas1 hzstanzas1 hq4) Splits.nil (.ro 0 rfl (.ro 1 rfl .nil)) ?_
 rintro v1
 refine zcs (L':=[zlg zbl zbk 76 v1 r2.1]) (zab [0] kr rfl) (zaN rfl dc rfl rfl (zaN rfl dc rfl rfl (zyR 2 rfl (zyN (zau ?_)))))
 cases h
 exact zbt (rs:=[.tmp 4,.tmp 5]) v1 (.inl rfl) results36 (.cons (.tmp rfl) (.cons (.tmp rfl) .nil)) rfl (zab [0] kr rfl)
def zeA (p1:zaC):Option zBA := zan (zed p1 0 (p1.told_lines.length:Int)) fun (r1:(List (List zBA))) => zan (zdU p1.told_title r1) fun (r2:zBA) => some r2
theorem zjS {bp1:Nat} {p1:zaC} {p1_h0 p1_h1:Hd} {r:zBA} (h:zeA p1=some r):FnR prog 13 [zP bp1] [cells bp1 [.string p1.told_title,p1_h0.v,p1_h1.v,.string p1.source] 76,zv7 p1_h0.v p1.told_lines,zv8 p1_h1.v p1.told_stanzas] [] (fun _:Unit=>(.string r)) (fun _=>[]):=by
 unfold zeA at h
 refine FnR.intro func13 rfl ntmps13 (by simp) ?_
 intro w0 K hrd
 refine zyG (zyR 1 rfl (zyN (zaE (zyG (zyR 1 rfl (zaS rfl (zcq underlying28) (zyN (zaM rfl (zal ?_)))))))))
 refine zay (zaE ?_)
 obtain ⟨r1,hq1,h⟩:=zbL h
 obtain ⟨r2,hq2,h⟩:=zbL h
 refine zgB (β:=Hd) 13 12 _ [(0,5,zP bp1),(1,6,zP bp1),(2,7,zP bp1),(3,8,zP bp1),(4,9,.string p1.told_title),(5,10,zP bp1),(6,11,zP bp1),(7,12,zP bp1),(8,13,zP bp1),(9,14,.pointer (some ⟨bp1,1,none⟩)),(10,15,p1_h0.v),(11,16,zI (p1.told_lines.length:Int))] (fun hd1=>[(17,hd1.v)]) (fun hd1=>[zgf za9 zbn 38 1 hd1.v r1]) mixed kr kr rfl dc dc (by rfl) kr kr (zyE 1 0 rfl (zao ?_ (zao ?_ (zao ?_ (zao ?_ (zyE 2 5 rfl (zao ?_ (zao ?_ (zao ?_ (zao ?_ (zao ?_ (zbU DrawPreX.nil)))))))))))) (fun hd1=>(zyE 1 0 rfl (zao ?_ (zao ?_ (zao ?_ (zao ?_ (zyE 2 5 rfl (zao ?_ (zao ?_ (zao ?_ (zao ?_ (zao ?_ (zbU DrawPreX.nil))))))))))))) ?_ ?_
 · exact fun D n d c u i=>zai rfl dc (zam 0 u d) (zar 1 u i)
 · exact fun D n d c u i=>zaa zdr rfl dc (zam 1 u d) (show _=0 from rfl) (zar 2 u i)
 · exact fun D n d c u i=>zaa ziK rfl dc (zam 2 u d) (show _=0 from rfl) (zar 3 u i)
 · exact fun D n d c u i=>zbs (i:=0) hrd rfl zhk rfl dc (zam 3 u d) rfl (zar 4 u i)
 · exact fun D n d c u i=>zai rfl dc (zam 6 u d) (zar 7 u i)
 · exact fun D n d c u i=>zaa zdr rfl dc (zam 7 u d) (show _=0 from rfl) (zar 8 u i)
 · exact fun D n d c u i=>zaa zfT rfl dc (zam 8 u d) (show _=1 from rfl) (zar 9 u i)
 · exact fun D n d c u i=>zbs (i:=0) hrd rfl zjL rfl dc (zam 9 u d) rfl (zar 10 u i)
 · exact fun D n d c u i=>zcO (hrd.vw (i:=1) rfl) rfl dc (zam 10 u d) underlying71 (zar 11 u i)
 · exact fun D n d c u i=>zai rfl dc (zam 0 u d) (zar 1 u i)
 · exact fun D n d c u i=>zaa zdr rfl dc (zam 1 u d) (show _=0 from rfl) (zar 2 u i)
 · exact fun D n d c u i=>zaa ziK rfl dc (zam 2 u d) (show _=0 from rfl) (zar 3 u i)
 · exact fun D n d c u i=>zbs (i:=0) hrd rfl zhk rfl dc (zam 3 u d) rfl (zar 4 u i)
 · exact fun D n d c u i=>zai rfl dc (zam 6 u d) (zar 7 u i)
 · exact fun D n d c u i=>zaa zdr rfl dc (zam 7 u d) (show _=0 from rfl) (zar 8 u i)
 · exact fun D n d c u i=>zaa zfT rfl dc (zam 8 u d) (show _=1 from rfl) (zar 9 u i)
 · exact fun D n d c u i=>zbs (i:=0) hrd rfl zjL rfl dc (zam 9 u d) rfl (zar 10 u i)
 · exact fun D n d c u i=>zcO (hrd.vw (i:=1) rfl) rfl dc (zam 10 u d) underlying71 (zar 11 u i)
 ·
  intro D hn hd hcl
  refine zft (vs:=[zP bp1,zI 0,zI (p1.told_lines.length:Int)]) hrd rfl dc rfl (evL.cons (zaI (m:=5) kr rfl (hd 5 dc)) (evL.cons rfl (evL.cons (zaI (m:=11) kr rfl (hd 11 dc)) evL.nil))) rfl zAE (zkE (bp1:=bp1) (p1:=p1) (p1_h0:=p1_h0) (p1_h1:=p1_h1) hq1) Splits.nil (.ro 0 rfl (.ro 1 rfl (.ro 2 rfl .nil))) ?_
  rintro v1
  refine zn1 (k:=0) rfl (fun hd1 he1 => ?_)
  subst he1
  exact fun a w ha hw=>⟨hd1,zuI (by rfl) _ _ _ ha,hw⟩
 intro hd1
 refine zbK (v:=.string r2) (vs:=[.string p1.told_title,hd1.v]) hrd rfl dc rfl rfl rfl zzq (zn5 (nest:=zbn) (e:=38) (v:=hd1.v) (xs:=r1) (RD1:=[]) (RD2:=[]) zcx zjj (fun zs_c0 hz_c0 hV_c0=>(ziz (vstanzas1:=hd1) hV_c0 hz_c0 hq2))) (.own (zab [0] kr rfl) (fun _ _ h=>sepL.one1.1 h) .nil) ?_
 refine zyR 1 rfl (zyN (zau ?_))
 cases h
 exact za2 2 results13
theorem zjx (a b:List UInt8):mkB a++mkB b=mkB (a++b):=by
 have h:∀ a b:zBA,a.data.toList=b.data.toList→a=b:=fun a b h=>by
  have:mkB a.data.toList=mkB b.data.toList:=by rw [h]
  exact this
 apply h
 rw [ByteArray.data_append,Array.toList_append]
 rfl
abbrev Row:=List (List UInt8)
def lnT (r:Row):List UInt8:=r.flatMap (· ++ [10])
def ztf (a:List UInt8):List UInt8:=if a=[] then a else a++[10]
def zms (t:List UInt8):List Row→Bool
 | (x::_)::_=>decide (t≠[])||zp4 x
 | _=>decide (t≠[])
def zpo (t:List UInt8) (z:List Row):List UInt8:=if zms t z then 35::32::t++[10] else []
def prF (a:List UInt8) (z:List Row):List UInt8:=z.foldl (fun a r=>ztf a++lnT r) a
def prT (t:List UInt8) (z:List Row):List UInt8:=prF (zpo t z) z
def wtR (r:Row):Nat:=(r.map fun x=>x.length+1).sum
def wtZ (z:List Row):Nat:=(z.map fun r=>1+wtR r).sum
theorem ziV (x:List UInt8) (r:Row):wtR (x::r)=x.length+1+wtR r:=by unfold wtR; rw [List.map_cons,List.sum_cons]
theorem zlM (r:Row) (z:List Row):wtZ (r::z)=1+wtR r+wtZ z:=by unfold wtZ; rw [List.map_cons,List.sum_cons]
theorem ziY (x:List UInt8) (r:Row):lnT (x::r)=x++[10]++lnT r:=List.flatMap_cons
theorem zxh (r:Row):(lnT r).length=wtR r:=by
 induction r with
 | nil=>rfl
 | cons x r ih=>rw [ziY,ziV,List.length_append,List.length_append,ih]; rfl
theorem zp9 (r:Row):r.length≤wtR r:=by
 induction r with
 | nil=>exact Nat.le_refl _
 | cons x r ih=>rw [ziV,List.length_cons]; omega
theorem zp8 (z:List Row):z.length≤wtZ z:=by
 induction z with
 | nil=>exact Nat.le_refl _
 | cons r z ih=>rw [zlM,List.length_cons]; omega
theorem zu2 (a:List UInt8):(ztf a).length≤a.length+1:=by
 unfold ztf; split
 ·omega
 ·rw [List.length_append]; simp
theorem ztX (t:List UInt8) (z:List Row):(zpo t z).length≤t.length+3:=by
 unfold zpo; split
 ·simp
 ·simp
theorem zsk (r:Row) (J:zBA→Option zBA) (a0:List UInt8) (hb:a0.length+wtR r≤140737488354000):∀ (n i:Nat) (a:List UInt8),i≤r.length→r.length - i<n→a.length+wtR (r.drop i)≤140737488354000 →
  za1 (fun _ _=>none) (zdB J (r.map mkB)) n (mkB a) (i:Int)=J (mkB (a++lnT (r.drop i))):=by
 intro n
 induction n with
 | zero=>intro i a h1 h2; omega
 | succ n ih =>
  intro i a hi hn ha
  rw [zdv]
  obtain ⟨ag,hag⟩:∃ ag,ag=za1 (fun _ _=>none) (zdB J (r.map mkB)) n:=⟨_,rfl⟩
  rw [← hag] at ih ⊢
  unfold zdB
  have hrl:=zp9 r
  rcases Nat.lt_or_ge i r.length with h | h
  ·have hd:r.drop i=r[i]::r.drop (i+1):=List.drop_eq_getElem_cons h
   rw [hd,ziV] at ha
   have hg:zdf (r.map mkB) (i:Int)=some (mkB r[i]):=zcY (by rw [List.getElem?_map,List.getElem?_eq_getElem h]; rfl)
   refine zaR (decide_eq_true (by rw [List.length_map]; omega)) (za7 hg ?_)
   rw [show (⟨#[10]⟩:zBA)=mkB [10] from rfl,zjx,zjx]
   refine zcm (by rw [zcr,zcr]; simp only [List.length_singleton]; omega) (zcm (by rw [zcr,zcr,List.length_append]; simp only [List.length_singleton]; omega) (zcm ⟨by omega,by omega⟩ ?_))
   rw [show (i:Int)+1=((i+1:Nat):Int) by omega,ih (i+1) _ (by omega) (by omega) (by rw [List.length_append,List.length_append]; simp only [List.length_singleton]; omega),hd,ziY]
   simp only [List.append_assoc]
  ·rw [List.drop_eq_nil_of_le h]
   refine zaK (decide_eq_false (by rw [List.length_map]; omega)) ?_
   show J (mkB a)=J (mkB (a++[]))
   rw [List.append_nil]
theorem zql (z:List Row) (hz:z.length≤140737488354000) (J:zBA→Option zBA):∀ (n i:Nat) (a:List UInt8),i≤z.length→z.length - i<n→a.length+wtZ (z.drop i)≤140737488354000 →
  za1 (fun _ _=>none) (zcR (mkZ z) J) n (mkB a) (i:Int)=J (mkB (prF a (z.drop i))):=by
 intro n
 induction n with
 | zero=>intro i a h1 h2; omega
 | succ n ih =>
  intro i a hi hn ha
  rw [zdv]
  obtain ⟨ag,hag⟩:∃ ag,ag=za1 (fun _ _=>none) (zcR (mkZ z) J) n:=⟨_,rfl⟩
  rw [← hag] at ih ⊢
  unfold zcR
  rcases Nat.lt_or_ge i z.length with h | h
  ·have hd:z.drop i=z[i]::z.drop (i+1):=List.drop_eq_getElem_cons h
   have hdl:=zp8 (z.drop i)
   rw [List.length_drop] at hdl
   rw [hd,zlM] at ha
   have hg:zdf (mkZ z) (i:Int)=some (z[i].map mkB):=zcY (by unfold mkZ; rw [List.getElem?_map,List.getElem?_eq_getElem h]; rfl)
   have hsl:=zu2 a
   refine zaR (decide_eq_true (by rw [zgK]; omega)) (zcj (za7 hg (zcj ?_)))
   have hin:=zsk z[i] (fun (b8:zBA)=>grd (I64 ((i:Int)+1))<|ag b8 ((i:Int)+1)) (ztf a) (by omega) zcD 0 (ztf a) (Nat.zero_le _) (by have:=zp9 z[i]; unfold zcD; omega) (by rw [List.drop_zero]; omega)
   have fin:(grd (I64 ((i:Int)+1))<|ag (mkB (ztf a++lnT z[i])) ((i:Int)+1))=J (mkB (prF a (z.drop i))):=by
    rw [hd]
    refine zcm ⟨by omega,by omega⟩ ?_
    rw [show (i:Int)+1=((i+1:Nat):Int) by omega,ih (i+1) _ (by omega) (by omega) (by rw [List.length_append,zxh]; omega)]
    rfl
   by_cases ha0:a=[]
   ·subst ha0
    refine zaK (decide_eq_false (by rw [zcr]; simp)) ?_
    refine hin.trans ?_
    rw [List.drop_zero]; exact fin
   ·have hpos:0<a.length:=List.length_pos_iff.2 ha0
    refine zaR (decide_eq_true (by rw [zcr]; omega)) (zcm (by rw [zcr]; show a.length+1≤_; omega) ?_)
    have e:ztf a=a++[10]:=if_neg ha0
    rw [show (⟨#[10]⟩:zBA)=mkB [10] from rfl,zjx,← e]
    refine hin.trans ?_
    rw [List.drop_zero]; exact fin
  ·rw [List.drop_eq_nil_of_le h]
   exact zaK (decide_eq_false (by rw [zgK]; omega)) rfl
theorem zpb (t:List UInt8) (z:List Row) (hne:∀ r∈z,r≠[]) (hw:t.length+3+wtZ z≤140737488354000):zdU (mkB t) (mkZ z)=some (mkB (prT t z)):=by
 have hzl:=zp8 z
 unfold zdU
 refine zcj ?_
 have tail:∀ b:List UInt8,b=zpo t z→(zbE (fun (j2:zBA→Option zBA)=>za1 (fun _ _=>none) (zcR (mkZ z) j2) zcD (mkB b) 0) (fun (b4:zBA)=>some b4))=some (mkB (prT t z)):=fun b hb=>by
  have hl:=ztX t z
  have:=zql z (by omega) (fun (b4:zBA)=>some b4) zcD 0 b (Nat.zero_le _) (by unfold zcD; omega) (by rw [List.drop_zero,hb]; omega)
  rw [List.drop_zero] at this
  refine zcj (this.trans ?_)
  rw [hb]; rfl
 have hd:(grd ((⟨#[35,32]⟩:zBA).size+(mkB t).size≤9223372036854775807)<|grd (((⟨#[35,32]⟩:zBA)++mkB t).size+(⟨#[10]⟩:zBA).size≤9223372036854775807) <|
   grd ((⟨#[]⟩:zBA).size+(((⟨#[35,32]⟩:zBA)++mkB t)++(⟨#[10]⟩:zBA)).size≤140737488355328) <|
   (zbE (fun (j2:zBA→Option zBA)=>za1 (fun _ _=>none) (zcR (mkZ z) j2) zcD ((⟨#[]⟩:zBA)++(((⟨#[35,32]⟩:zBA)++mkB t)++(⟨#[10]⟩:zBA))) 0) (fun (b4:zBA)=>some b4))) =
    (zbE (fun (j2:zBA→Option zBA)=>za1 (fun _ _=>none) (zcR (mkZ z) j2) zcD (mkB (35::32::t++[10])) 0) (fun (b4:zBA)=>some b4)):=by
  rw [show (⟨#[35,32]⟩:zBA)=mkB [35,32] from rfl,show (⟨#[10]⟩:zBA)=mkB [10] from rfl,show (⟨#[]⟩:zBA)=mkB [] from rfl,zjx,zjx,zjx]
  refine zcm ?_ (zcm ?_ (zcm ?_ rfl))
  ·rw [zcr,zcr]; simp only [List.length_cons,List.length_nil]; omega
  ·rw [zcr,zcr,List.length_append]; simp only [List.length_cons,List.length_nil]; omega
  ·rw [zcr,zcr,List.length_append,List.length_append]; simp only [List.length_cons,List.length_nil]; omega
 by_cases ht:t=[]
 ·subst ht
  refine zaK (by rw [show (⟨#[]⟩:zBA)=mkB [] from rfl]; simp) ?_
  cases z with
  | nil=>exact zaK (decide_eq_false (by simp [mkZ])) (tail [] rfl)
  | cons r z =>
   have hr:=hne r (by simp)
   obtain ⟨x,r',rfl⟩:=List.exists_cons_of_ne_nil hr
   refine zaR (decide_eq_true (by rw [zgK,List.length_cons]; omega)) (za7 (a:=(x::r').map mkB) rfl (za7 (a:=mkB x) rfl (za7 (zrb x) ?_)))
   cases hti:zp4 x with
   | true =>
    refine zaR rfl (hd.trans (tail _ ?_))
    have:zms [] ((x::r')::z)=true:=by show (decide (([]:List UInt8)≠[])||zp4 x)=true; rw [hti]; rfl
    unfold zpo; rw [this]; rfl
   | false =>
    refine zaK rfl (tail [] ?_)
    have:zms [] ((x::r')::z)=false:=by show (decide (([]:List UInt8)≠[])||zp4 x)=false; rw [hti]; rfl
    unfold zpo; rw [this]; rfl
 ·refine zaR (by rw [show (⟨#[]⟩:zBA)=mkB [] from rfl,decide_eq_false (fun e=>ht (zkI e))]; rfl) (hd.trans (tail _ ?_))
  unfold zpo
  have:zms t z=true:=by
   unfold zms
   split <;> simp [ht]
  rw [this]; rfl
theorem zfH (r:Row) (z:List Row):tot (r::z)=r.length+tot z:=by unfold tot; rw [List.map_cons,List.sum_cons]
theorem zvU:∀ (z:List Row),tot z≤wtZ z
 | []=>Nat.le_refl _
 | r::z=>by have:=zvU z; have:=zp9 r; rw [zfH,zlM]; omega
theorem zra:∀ (z:List Row) (i:Nat) (r:Row),z[i]?=some r→tot (z.take (i+1))=tot (z.take i)+r.length
 | [],i,r,h=>by simp at h
 | y::z,0,r,h=>by
  have:y=r:=by simpa using h
  subst this
  rw [List.take_succ_cons,List.take_zero,List.take_zero,zfH]; show y.length+0=0+y.length; omega
 | y::z,i+1,r,h=>by
  rw [List.take_succ_cons,List.take_succ_cons,zfH,zfH,zra z i r (by simpa using h)]; omega
theorem zl4:∀ (z:List Row) (i:Nat),tot (z.take i)≤tot z
 | [],i=>by simp
 | y::z,0=>by simp [tot]
 | y::z,i+1=>by rw [List.take_succ_cons,zfH,zfH]; have:=zl4 z i; omega
theorem zsE {R:Type} {F:(Int→Int→Option R)→Int→Int→Option R} (z:List Row) (hz:tot z≤140737488354000) (hzl:z.length≤140737488354000) (J:Int→Option R)
  (hs:∀ ag (n i:Int) r,zdf (mkZ z) i=some r→(i:Int)<(z.length:Int)→I64 (n+(r.length:Int))→I64 (i+1)→F ag n i=ag (n+(r.length:Int)) (i+1)) (he:∀ ag n,F ag n (z.length:Int)=J n) :
  ∀ (n i:Nat),i≤z.length→z.length - i<n→za1 (fun _ _=>none) F n (tot (z.take i):Int) (i:Int)=J (tot z:Int):=by
 intro n
 induction n with
 | zero=>intro i h1 h2; omega
 | succ n ih =>
  intro i hi hn
  rw [zdv]
  rcases Nat.lt_or_ge i z.length with h | h
  ·have hg:zdf (mkZ z) (i:Int)=some (z[i].map mkB):=zcY (by unfold mkZ; rw [List.getElem?_map,List.getElem?_eq_getElem h]; rfl)
   have h1:=zra z i z[i] (List.getElem?_eq_getElem h)
   have h2:=zl4 z (i+1)
   rw [hs _ _ _ _ hg (by omega) (by rw [List.length_map]; exact ⟨by omega,by omega⟩) ⟨by omega,by omega⟩,List.length_map]
   rw [show (tot (z.take i):Int)+(z[i].length:Int)=(tot (z.take (i+1)):Int) by omega,show (i:Int)+1=((i+1:Nat):Int) by omega]
   exact ih (i+1) (by omega) (by omega)
  ·obtain rfl:i=z.length:=by omega
   rw [he,List.take_length]
theorem zwp (t:List UInt8) (z:List Row) (hne:∀ r∈z,r≠[]) (hw:t.length+3+wtZ z≤140737488354000):zes (mkB t) (mkZ z) =
  if 512<tot z∨65536<(prT t z).length then some (none,3) else (zet (mkB (prT t z))).bind fun r=>some (r.1,0):=by
 unfold zes
 have h1:=zvU z
 have h2:=zp8 z
 have key:=zsE (F:=zeK (mkZ z) (fun (n1:Int)=>zan (zdU (mkB t) (mkZ z)) fun (r1:zBA)=>zaB (decide ((512:Int)<n1)) (some (none,3)) (zaB (decide ((65536:Int)<(r1.size:Int))) (some (none,3)) (zan (zet r1) fun (r2:((Option zaC)×zbS))=>some (r2.1,0))))) z (by omega) (by omega)
  (fun (n1:Int)=>zan (zdU (mkB t) (mkZ z)) fun (r1:zBA)=>zaB (decide ((512:Int)<n1)) (some (none,3)) (zaB (decide ((65536:Int)<(r1.size:Int))) (some (none,3)) (zan (zet r1) fun (r2:((Option zaC)×zbS))=>some (r2.1,0))))
  (fun ag n i r hg hi h1 h2=>by
   unfold zeK
   exact zaR (decide_eq_true (by rw [zgK]; exact hi)) (za7 hg (zcm h1 (zcm h2 rfl))))
  (fun ag n=>by
   unfold zeK
   exact zaK (decide_eq_false (by rw [zgK]; omega)) rfl) zcD 0 (Nat.zero_le _) (by unfold zcD; omega)
 refine zcj (key.trans ?_)
 refine za7 (zpb t z hne hw) ?_
 by_cases h512:512<tot z
 ·rw [if_pos (.inl h512)]; exact zaR (decide_eq_true (by omega)) rfl
 ·refine zaK (decide_eq_false (by omega)) ?_
  by_cases hl:65536<(prT t z).length
  ·rw [if_pos (.inr hl)]; exact zaR (decide_eq_true (by rw [zcr]; omega)) rfl
  ·rw [if_neg (by omega)]
   exact zaK (decide_eq_false (by rw [zcr]; omega)) rfl
def noE (x:List UInt8):Prop:=∀ b∈x,isE b=false
structure GLn (x:List UInt8):Prop where
 bl:zje x=false
 le:x.length≤1024
 ne:noE x
def zgL:Nat→Row→List (Nat×List UInt8)
 | _,[]=>[]
 | i,x::r=>(i,x)::zgL (i+1) r
def zfc:Nat→List Row→List (Nat×Nat×List UInt8)
 | _,[]=>[]
 | k,r::z=>(zgL 0 r).map (fun p=>(k,p))++zfc (k+1) z
def zmv (v:zax):zBA×Int×Int×Int:=(v.Text,v.Indent,v.Stanza,v.In)
def zkJ (p:Nat×Nat×List UInt8):zBA×Int×Int×Int:=(mkB (p.2.2.drop (ind p.2.2)),(ind p.2.2:Int),(p.1:Int),(p.2.1:Int))
def VOk (vs:List zax) (z:List Row):Prop:=vs.map zmv=(zfc 0 z).map zkJ
theorem zpw (x:List UInt8):∀ (r:Row) (i:Nat),zgL i (r++[x])=zgL i r++[(i+r.length,x)]
 | [],i=>rfl
 | y::r,i=>by
  show (i,y)::zgL (i+1) (r++[x])=_
  rw [zpw x r (i+1),List.length_cons,show i+1+r.length=i+(r.length+1) by omega]; rfl
theorem zj2:∀ (a b:List Row) (k:Nat),zfc k (a++b)=zfc k a++zfc (k+a.length) b
 | [],b,k=>rfl
 | r::a,b,k=>by
  show _++zfc (k+1) (a++b)=_
  rw [zj2 a b (k+1),List.length_cons,show k+1+a.length=k+(a.length+1) by omega,← List.append_assoc]; rfl
theorem zmG (r:Row) (k:Nat):zfc k [r]=(zgL 0 r).map (fun p=>(k,p)):=List.append_nil _
structure PInv (st:RS):Prop extends RInv st where
 vok:VOk st.vs st.stz
 tE:noE st.t
 tL:st.t.length≤1022
 ln:∀ r∈st.stz,∀ x∈r,GLn x
 fr:∀ v∈st.vs,0≤v.Span_From
theorem zsA (st:RS):zfc 0 (zdN st)=zfc 0 st.stz:=by
 unfold zdN
 split
 ·rfl
 ·rw [zj2,zmG]; exact List.append_nil _
theorem PInv.step {st st':RS} {x:Nat×List UInt8} (h:PInv st) (hx:noE x.2) (hs:zgh st x=.ok st'):PInv st':=by
 refine ⟨h.toRInv.step hs,?_,?_,?_,?_,?_⟩ <;> unfold zgh at hs
 all_goals
  split at hs
  ·cases hs; first | exact h.vok | exact h.tE | exact h.tL | exact h.ln | exact h.fr
  split at hs
  ·cases hs
  split at hs
 ·cases hs; exact h.vok
 ·split at hs
  ·cases hs
  ·cases hs
   obtain ⟨init,r,he,hl,hdl,htot,hsp⟩:=zqu h.toRInv
   show (st.vs++[zkz x.1 x.2 (zdN st)]).map zmv=(zfc 0 ((zdN st).dropLast++[zgQ (zdN st)++[x.2]])).map zkJ
   rw [hdl,hl,zj2,zmG,zpw,List.map_append,List.map_append,List.map_append,List.map_append,← List.append_assoc]
   have h2:zfc 0 st.stz=zfc 0 init++(zgL 0 r).map (fun p=>(init.length,p)):=by
    rw [← zsA,he,zj2,zmG,Nat.zero_add]
   have h3:=h.vok
   unfold VOk at h3
   rw [h3,h2,List.map_append,Nat.zero_add]
   congr 1
   unfold zkz zmv
   rw [hl,he]
   simp [zkJ]
 ·rename_i ht
  cases hs
  intro b hb
  exact hx b (List.mem_of_mem_drop hb)
 ·split at hs
  ·cases hs
  ·cases hs; exact h.tE
 ·rename_i hl ht
  cases hs
  show (x.2.drop 2).length≤1022
  rw [List.length_drop]; omega
 ·split at hs
  ·cases hs
  ·cases hs; exact h.tL
 ·cases hs; exact h.ln
 ·rename_i hb hl ht
  split at hs
  ·cases hs
  ·cases hs
   obtain ⟨init,r,he,hl2,hdl,htot,hsp⟩:=zqu h.toRInv
   intro r' hr' y hy
   have hold:∀ r∈zdN st,∀ x∈r,GLn x:=fun r hr x hx=>by
    unfold zdN at hr
    split at hr
    ·exact h.ln r hr x hx
    ·rcases List.mem_append.1 hr with hr | hr
     ·exact h.ln r hr x hx
     ·rw [List.mem_singleton] at hr; subst hr; cases hx
   have hr2:r'∈(zdN st).dropLast++[zgQ (zdN st)++[x.2]]:=hr'
   rw [hdl,hl2] at hr2
   rcases List.mem_append.1 hr2 with hr2 | hr2
   ·exact hold r' (by rw [he]; exact List.mem_append_left _ hr2) y hy
   ·rw [List.mem_singleton] at hr2
    subst hr2
    rcases List.mem_append.1 hy with hy | hy
    ·exact hold r (by rw [he]; simp) y hy
    ·rw [List.mem_singleton] at hy
     subst hy
     exact ⟨by simpa using hb,by omega,hx⟩
 ·cases hs; exact h.fr
 ·split at hs
  ·cases hs
  ·cases hs
   intro v hv
   rcases List.mem_append.1 (show v∈st.vs++[zkz x.1 x.2 (zdN st)] from hv) with hv | hv
   ·exact h.fr v hv
   ·rw [List.mem_singleton] at hv; subst hv
    show (0:Int)≤(x.1:Int)+(ind x.2:Int)
    omega
theorem zz8:PInv rs0:=⟨ztp,rfl,(fun b hb=>by cases hb),Nat.zero_le _,(fun r hr=>by cases hr),(fun v hv=>by cases hv)⟩
theorem PInv.fold:∀ {xs:List (Nat×List UInt8)} {st st':RS},PInv st→(∀ x∈xs,noE x.2)→zeR st xs=.ok st'→PInv st'
 | [],st,st',h,hx,hs=>by cases hs; exact h
 | x::xs,st,st',h,hx,hs=>by
  unfold zeR at hs
  cases he:zgh st x with
  | ok s1=>rw [he] at hs; exact PInv.fold (h.step (hx x (by simp)) he) (fun y hy=>hx y (by simp [hy])) hs
  | error e=>rw [he] at hs; cases hs
theorem ztT (T:List UInt8):∀ x∈zlx T,noE x.2:=by
 intro x hx
 obtain ⟨y,hy,rfl⟩:=List.mem_map.1 hx
 exact (zrg T y hy).2.2
theorem zy0 {T:List UInt8} {st:RS} (h:rd T=.ok st):PInv st∧T.length≤65536:=by
 unfold rd at h
 split at h
 ·cases h
 ·exact ⟨PInv.fold zz8 (ztT T) h,by omega⟩
def plL:Bool→List Row→Row
 | _,[]=>[]
 | a,r::z=>(if a then [[]] else [])++r++plL true z
def zsw (t:List UInt8) (z:List Row):Row:=if zms t z then [35::32::t] else []
theorem zqs (a b:Row):lnT (a++b)=lnT a++lnT b:=List.flatMap_append
theorem zy5 {r:Row} (h:r≠[]):lnT r≠[]:=by
 obtain ⟨x,r,rfl⟩:=List.exists_cons_of_ne_nil h
 rw [ziY]; simp
theorem zwl:∀ (z:List Row) (a:List UInt8),(∀ r∈z,r≠[])→prF a z=a++lnT (plL (decide (a≠[])) z)
 | [],a,h=>(List.append_nil _).symm
 | r::z,a,h=>by
  show prF (ztf a++lnT r) z=_
  have hne:ztf a++lnT r≠[]:=by
   intro e
   exact zy5 (h r (by simp)) (List.append_eq_nil_iff.1 e).2
  rw [zwl z _ (fun y hy=>h y (by simp [hy])),decide_eq_true hne]
  show _=a++lnT ((if decide (a≠[])=true then [[]] else [])++r++plL true z)
  rw [zqs,zqs]
  by_cases ha:a=[]
  ·subst ha
   simp [ztf,lnT]
  ·have e:ztf a=a++[10]:=if_neg ha
   rw [decide_eq_true ha,if_pos rfl,e]
   show a++[10]++lnT r++_=a++([10]++lnT r++_)
   simp only [List.append_assoc]
def prL (t:List UInt8) (z:List Row):Row:=zsw t z++plL (zms t z) z
theorem ztx (t:List UInt8) (z:List Row) (h:∀ r∈z,r≠[]):prT t z=lnT (prL t z):=by
 unfold prT prL zsw zpo
 rw [zwl z _ h,zqs]
 cases zms t z with
 | true =>
  have e1:((if true=true then (35::32::t++[10]) else []):List UInt8)=35::32::t++[10]:=rfl
  have e2:decide ((35::32::t++[10]:List UInt8)≠[])=true:=decide_eq_true (by simp)
  rw [e1,e2]
  show _=lnT [35::32::t]++_
  rw [ziY]
  show _=35::32::t++[10]++[]++_
  rw [List.append_nil]
 | false=>rfl
def itL:Nat→Row→List (Nat×List UInt8)
 | _,[]=>[]
 | f,x::r=>(f,x)::itL (f+x.length+1) r
theorem zov:∀ (a b:Row) (f:Nat),itL f (a++b)=itL f a++itL (f+wtR a) b
 | [],b,f=>rfl
 | x::a,b,f=>by
  show _::itL (f+x.length+1) (a++b)=_
  rw [zov a b,ziV,show f+x.length+1+wtR a=f+(x.length+1+wtR a) by omega]; rfl
def zz6:Nat→Row→List (Nat×Nat)
 | f,[]=>[(f,f)]
 | f,x::r=>(f,f+x.length)::zz6 (f+x.length+1) r
theorem zs9:∀ (x t:List UInt8) (f a:Nat),noE x→spP false f a (x++t)=spP false f (a+x.length) t
 | [],t,f,a,h=>rfl
 | b::x,t,f,a,h=>by
  have hb:=h b (by simp)
  have h13:b≠13:=fun e=>by rw [e] at hb; cases hb
  have h10:b≠10:=fun e=>by rw [e] at hb; cases hb
  rw [List.cons_append,spP,if_neg h13,if_neg h10,zs9 x t f (a+1) (fun y hy=>h y (by simp [hy])),List.length_cons,show a+1+x.length=a+(x.length+1) by omega]
theorem zoY:∀ (r:Row) (f:Nat),(∀ x∈r,noE x)→spP false f f (lnT r)=zz6 f r
 | [],f,h=>rfl
 | x::r,f,h=>by
  rw [ziY,List.append_assoc,zs9 x _ f f (h x (by simp))]
  show spP false f (f+x.length) (10::lnT r)=_
  rw [spP,if_neg (by decide),if_pos rfl,zoY r _ (fun y hy=>h y (by simp [hy]))]
  rfl
theorem zmw:∀ (r:Row) (pre:List UInt8) (f:Nat),pre.length=f→(zz6 f r).map (fun x=>(x.1,((pre++lnT r).drop x.1).take (x.2 - x.1)))=itL f r++[(f+wtR r,[])]
 | [],pre,f,h=>by
  show [(f,_)]=[(f+0,[])]
  rw [Nat.sub_self,List.take_zero]; rfl
 | x::r,pre,f,h=>by
  show (f,_)::_=(f,x)::_
  have h2:=zmw r (pre++(x++[10])) (f+x.length+1) (by rw [List.length_append,List.length_append]; simp; omega)
  rw [ziY]
  congr 1
  ·congr 1
   rw [← h,List.drop_left,show pre.length+x.length - pre.length=x.length by omega,List.append_assoc,List.take_left]
  ·rw [List.append_assoc] at h2
   rw [h2,ziV,show f+x.length+1+wtR r=f+(x.length+1+wtR r) by omega]
   rfl
theorem zvk (r:Row) (h:∀ x∈r,noE x):zlx (lnT r)=itL 0 r++[(wtR r,[])]:=by
 unfold zlx zfM
 rw [zoY r 0 h]
 have:=zmw r [] 0 rfl
 rw [Nat.zero_add] at this
 exact this
theorem zix:∀ (xs ys:List (Nat×List UInt8)) (st st':RS),zeR st xs=.ok st'→zeR st (xs++ys)=zeR st' ys
 | [],ys,st,st',h=>by cases h; rfl
 | x::xs,ys,st,st',h=>by
  unfold zeR at h
  rw [List.cons_append]
  conv=>lhs; unfold zeR
  cases he:zgh st x with
  | ok s1=>rw [he] at h; exact zix xs ys s1 st' h
  | error e=>rw [he] at h; cases h
theorem znE {st:RS} {f:Nat} {x:List UInt8} (hx:GLn x) (ht:¬ (st.first=true∧zp4 x=true)) (hl:st.vs.length<512):zgh st (f,x)=.ok (zp6 st f x):=by
 unfold zgh
 rw [if_neg (by rw [hx.bl]; decide),if_neg (by have:=hx.le; show ¬ 1024<x.length; omega),if_neg ht,if_neg (by omega)]
theorem zrB:∀ (r:Row) (st:RS) (f:Nat) (init:List Row) (cur:Row),(∀ x∈r,GLn x)→st.row=true→st.first=false→st.stz=init++[cur]→st.vs.length+r.length≤512 →
  ∃ st',zeR st (itL f r)=.ok st'∧st'.t=st.t∧st'.stz=init++[cur++r]∧st'.row=true∧st'.first=false∧st'.vs.length=st.vs.length+r.length
 | [],st,f,init,cur,hg,hr,hf,hz,hl=>⟨st,rfl,rfl,by rw [hz,List.append_nil],hr,hf,rfl⟩
 | x::r,st,f,init,cur,hg,hr,hf,hz,hl=>by
  rw [List.length_cons] at hl
  have hs:zgh st (f,x)=.ok (zp6 st f x):=znE (hg x (by simp)) (by rw [hf]; simp) (by omega)
  have ho:zdN st=init++[cur]:=by unfold zdN; rw [hr,if_pos rfl,hz]
  have hz':(zp6 st f x).stz=init++[cur++[x]]:=by
   show (zdN st).dropLast++[zgQ (zdN st)++[x]]=_
   rw [ho,List.dropLast_concat]
   congr 2
   unfold zgQ; rw [List.getLastD_concat]
  obtain ⟨st',h1,h2,h3,h4,h5,h6⟩:=zrB r (zp6 st f x) (f+x.length+1) init (cur++[x]) (fun y hy=>hg y (by simp [hy])) rfl rfl hz' (by show (st.vs++[_]).length+r.length≤512; rw [List.length_append,List.length_singleton]; omega)
  refine ⟨st',?_,h2,by rw [h3,List.append_assoc]; rfl,h4,h5,?_⟩
  ·show zeR st ((f,x)::itL (f+x.length+1) r)=_
   unfold zeR
   rw [hs]; exact h1
  ·rw [h6]
   show (st.vs++[_]).length+_=_
   rw [List.length_append,List.length_singleton,List.length_cons]; omega
theorem zvs (r:Row) (st:RS) (f:Nat) (hg:∀ x∈r,GLn x) (hne:r≠[]) (hr:st.row=false) (hf:st.first=true→∀ x,r.head?=some x→zp4 x=false) (hl:st.vs.length+r.length≤512) :
  ∃ st',zeR st (itL f r)=.ok st'∧st'.t=st.t∧st'.stz=st.stz++[r]∧st'.row=true∧st'.first=false∧st'.vs.length=st.vs.length+r.length:=by
 obtain ⟨x,r,rfl⟩:=List.exists_cons_of_ne_nil hne
 rw [List.length_cons] at hl
 have hs:zgh st (f,x)=.ok (zp6 st f x):=znE (hg x (by simp)) (fun ⟨a,b⟩=>by rw [hf a x rfl] at b; cases b) (by omega)
 have ho:zdN st=st.stz++[[]]:=by unfold zdN; rw [hr,if_neg (by decide)]
 have hz':(zp6 st f x).stz=st.stz++[[x]]:=by
  show (zdN st).dropLast++[zgQ (zdN st)++[x]]=_
  rw [ho,List.dropLast_concat]
  congr 2
  unfold zgQ; rw [List.getLastD_concat]; rfl
 obtain ⟨st',h1,h2,h3,h4,h5,h6⟩:=zrB r (zp6 st f x) (f+x.length+1) st.stz [x] (fun y hy=>hg y (by simp [hy])) rfl rfl hz' (by show (st.vs++[_]).length+r.length≤512; rw [List.length_append,List.length_singleton]; omega)
 refine ⟨st',?_,h2,h3,h4,h5,?_⟩
 ·show zeR st ((f,x)::itL (f+x.length+1) r)=_
  unfold zeR
  rw [hs]; exact h1
 ·rw [h6]
  show (st.vs++[_]).length+_=_
  rw [List.length_append,List.length_singleton,List.length_cons]; omega
theorem zt1:∀ (z:List Row) (a:Bool) (st:RS) (f:Nat),(∀ r∈z,r≠[])→(∀ r∈z,∀ x∈r,GLn x)→(a=false→st.row=false)→(st.first=true→∀ r x,z.head?=some r→r.head?=some x→zp4 x=false)→st.vs.length+tot z≤512 →
  ∃ st',zeR st (itL f (plL a z))=.ok st'∧st'.t=st.t∧st'.stz=st.stz++z∧st'.vs.length=st.vs.length+tot z
 | [],a,st,f,hne,hg,hr,hf,hl=>⟨st,rfl,rfl,by rw [List.append_nil],rfl⟩
 | r::z,a,st,f,hne,hg,hr,hf,hl=>by
  rw [zfH] at hl
  have hb:∃ st1 f1,zeR st (itL f (if a then [[]] else []))=.ok st1∧f1=f+wtR (if a then [[]] else [])∧st1.row=false∧st1.t=st.t∧st1.stz=st.stz∧st1.vs=st.vs∧st1.first=st.first:=by
   cases a with
   | false=>exact ⟨st,_,rfl,rfl,hr rfl,rfl,rfl,rfl,rfl⟩
   | true=>exact ⟨{ st with row:=false },_,rfl,rfl,rfl,rfl,rfl,rfl,rfl⟩
  obtain ⟨st1,f1,e1,rfl,hr1,ht1,hz1,hv1,hf1⟩:=hb
  obtain ⟨st2,e2,ht2,hz2,hr2,hf2,hl2⟩:=zvs r st1 (f+wtR (if a then [[]] else [])) (hg r (by simp)) (hne r (by simp)) hr1 (fun h x hx=>hf (by rw [← hf1]; exact h) r x rfl hx) (by rw [hv1]; omega)
  obtain ⟨st3,e3,ht3,hz3,hl3⟩:=zt1 z true st2 (f+wtR ((if a then [[]] else [])++r)) (fun y hy=>hne y (by simp [hy])) (fun y hy=>hg y (by simp [hy])) (fun h=>by cases h) (fun h=>by rw [hf2] at h; cases h) (by rw [hl2,hv1]; omega)
  refine ⟨st3,?_,by rw [ht3,ht2,ht1],by rw [hz3,hz2,hz1,List.append_assoc]; rfl,by rw [hl3,hl2,hv1,zfH]; omega⟩
  show zeR st (itL f ((if a then [[]] else [])++r++plL true z))=_
  rw [zov,zov,List.append_assoc,zix _ _ _ _ e1,zix _ _ _ _ e2]
  exact e3
structure GoodP (t:List UInt8) (z:List Row):Prop where
 tE:noE t
 tL:t.length≤1022
 ne:∀ r∈z,r≠[]
 ln:∀ r∈z,∀ x∈r,GLn x
theorem PInv.good {st:RS} (h:PInv st):GoodP st.t st.stz:=⟨h.tE,h.tL,h.ne,h.ln⟩
theorem zty:∀ (z:List Row) (a:Bool),(∀ r∈z,∀ x∈r,GLn x)→∀ x∈plL a z,noE x
 | [],a,h,x,hx=>by cases hx
 | r::z,a,h,x,hx=>by
  have hx2:x∈(if a then [[]] else [])++r++plL true z:=hx
  rcases List.mem_append.1 hx2 with hx2 | hx2
  ·rcases List.mem_append.1 hx2 with hx2 | hx2
   ·cases a with
    | false=>cases hx2
    | true=>rw [if_pos rfl,List.mem_singleton] at hx2; subst hx2; intro b hb; cases hb
   ·exact (h r (by simp) x hx2).ne
  ·exact zty z true (fun y hy=>h y (by simp [hy])) x hx2
theorem zva {t:List UInt8} {z:List Row} (h:GoodP t z) (hn:tot z≤512) (hl:(prT t z).length≤65536):∃ st,rd (prT t z)=.ok st∧st.t=t∧st.stz=z:=by
 have htE:noE (35::32::t):=by
  intro b hb
  rcases List.mem_cons.1 hb with rfl | hb
  ·rfl
  ·rcases List.mem_cons.1 hb with rfl | hb
   ·rfl
   ·exact h.tE b hb
 have hno:∀ x∈prL t z,noE x:=by
  intro x hx
  rcases List.mem_append.1 hx with hx | hx
  ·unfold zsw at hx
   split at hx
   ·rw [List.mem_singleton] at hx; subst hx; exact htE
   ·cases hx
  ·exact zty z _ h.ln x hx
 unfold rd
 rw [if_neg (by omega),ztx t z h.ne,zvk _ hno]
 have hh:∃ st1,zeR rs0 (itL 0 (zsw t z))=.ok st1∧st1.row=false∧st1.t=t∧st1.stz=[]∧st1.vs=[]∧(st1.first=true→∀ r x,z.head?=some r→r.head?=some x→zp4 x=false):=by
  unfold zsw
  cases hn:zms t z with
  | true =>
   refine ⟨⟨t,[],[],false,false⟩,?_,rfl,rfl,rfl,rfl,fun h=>by cases h⟩
   rw [if_pos rfl]
   show zeR rs0 [(0,35::32::t)]=_
   unfold zeR
   have:zgh rs0 (0,35::32::t)=.ok ⟨t,[],[],false,false⟩:=by
    unfold zgh
    have hb:zje (35::32::t)=false:=rfl
    have hti:zp4 (35::32::t)=true:=rfl
    rw [if_neg (by rw [hb]; decide),if_neg (by have:=h.tL; show ¬ 1024<(35::32::t).length; rw [List.length_cons,List.length_cons]; omega),if_pos ⟨rfl,hti⟩]
    rfl
   rw [this]; rfl
  | false =>
   have ht:t=[]:=by
    unfold zms at hn
    split at hn
    ·rw [Bool.or_eq_false_iff] at hn; simpa using hn.1
    ·simpa using hn
   refine ⟨rs0,rfl,rfl,ht.symm,rfl,rfl,fun _ r x hr hx => ?_⟩
   cases z with
   | nil=>cases hr
   | cons r' z =>
    have e:r'=r:=Option.some.inj hr
    subst e
    cases r' with
    | nil=>cases hx
    | cons x' r' =>
     have e:x'=x:=Option.some.inj hx
     subst e
     have:(decide (t≠[])||zp4 x')=false:=hn
     rw [Bool.or_eq_false_iff] at this
     exact this.2
 obtain ⟨st1,e1,hr1,ht1,hz1,hv1,hf1⟩:=hh
 obtain ⟨st2,e2,ht2,hz2,hl2⟩:=zt1 z (zms t z) st1 (0+wtR (zsw t z)) h.ne h.ln (fun _=>hr1) hf1 (by rw [hv1]; show 0+_≤_; omega)
 refine ⟨{ st2 with row:=false },?_,ht2.trans ht1,by show st2.stz=z; rw [hz2,hz1]; rfl⟩
 unfold prL
 rw [zov,List.append_assoc,zix _ _ _ _ e1,zix _ _ _ _ e2]
 rfl
end Go.Proofs.YtmmhmppcemfdcaaGreatDoor
