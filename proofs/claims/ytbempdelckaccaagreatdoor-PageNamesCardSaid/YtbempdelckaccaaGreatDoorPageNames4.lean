/-
  Texts laid together: LqA, Ca, LqB, Cb, LqG, LqP, LqS, LqR, LqH, LqQ, LqZ, LpH, LgD, LgF, LgI, LgP, LgQ, LgR, PlPageNames. Nothing is assumed.
-/
import Derived.Test.YtbempdelckaccaaGreatDoorPageNames2
import Derived.Test.YtbempdelckaccaaGreatDoorPageNames1
import Derived.Test.YtbempdelckaccaaGreatDoorPageNames3
set_option maxRecDepth 100000
set_option maxHeartbeats 4000000

namespace Go.Proofs.YtbempdelckaccaaGreatDoor
open Go.RowKit Go.Lib
set_option linter.unusedVariables false
set_option linter.unusedSimpArgs false
def zbh (j1:Option Int) (ag1:Nat→Option Int) (m3:Nat):Option Int :=
zav (decide (m3<(pcs (⟨#[13,10]⟩:ByteArray).data.toList).length)) (
zar ((pcs (⟨#[13,10]⟩:ByteArray).data.toList)[m3]?) fun (p1:Pc) =>
zav (((p1.r:Int):Int)==65533) (
some (p1.i:Int)
) (
ag1 (m3+1)
)
) (
j1
)
def zbQ (r1:Int) (i1:Int) (j4:Option Int) (ag3:Int→Option Int) (j7:Int):Option Int :=
zav (decide ((j7:Int)<((Utf8.encode r1).size:Int))) (
grd (I64 (i1 - j7)) <|
zar (zhR (⟨#[13,10]⟩:ByteArray) (i1 - j7)) fun (c4:Int) =>
grd (I64 ((((Utf8.encode r1).size:Int) - 1) - j7)) <|
zar (zhR (Utf8.encode r1) ((((Utf8.encode r1).size:Int) - 1) - j7)) fun (c5:Int) =>
zav ((c4:Int) != c5) (
none
) (
grd (I64 (j7+1)) <|
ag3 (j7+1)
)
) (
j4
)
def zbt (r1:Int) (j2:Option Int) (ag2:Option Int):Option Int :=
zav (decide (((((Utf8.encode r1).size:Int) - 1):Int)<((⟨#[13,10]⟩:ByteArray).size:Int))) (
zbp (fun (j3:Int→Option Int) =>
zar (zhR (⟨#[13,10]⟩:ByteArray) (((Utf8.encode r1).size:Int) - 1)) fun (c1:Int) =>
zar (zhR (Utf8.encode r1) (((Utf8.encode r1).size:Int) - 1)) fun (c2:Int) =>
zav ((c1:Int) != c2) (
grd (I64 ((((Utf8.encode r1).size:Int) - 1)+1)) <|
grd (0≤((((Utf8.encode r1).size:Int) - 1)+1:Int)∧((((Utf8.encode r1).size:Int) - 1)+1:Int)≤((⟨#[13,10]⟩:ByteArray).size:Int)∧(((⟨#[13,10]⟩:ByteArray).size:Int):Int)≤((⟨#[13,10]⟩:ByteArray).size:Int)) <|
zar (zhR (Utf8.encode r1) (((Utf8.encode r1).size:Int) - 1)) fun (c3:Int) =>
zav (decide (((Lib.indexByte (zdx (⟨#[13,10]⟩:ByteArray) ((((Utf8.encode r1).size:Int) - 1)+1) ((⟨#[13,10]⟩:ByteArray).size:Int)).data.toList (c3:Int).toNat.toUInt8):Int)<0)) (
some (-1)
) (
grd (I64 ((Lib.indexByte (zdx (⟨#[13,10]⟩:ByteArray) ((((Utf8.encode r1).size:Int) - 1)+1) ((⟨#[13,10]⟩:ByteArray).size:Int)).data.toList (c3:Int).toNat.toUInt8)+1)) <|
grd (I64 ((((Utf8.encode r1).size:Int) - 1)+((Lib.indexByte (zdx (⟨#[13,10]⟩:ByteArray) ((((Utf8.encode r1).size:Int) - 1)+1) ((⟨#[13,10]⟩:ByteArray).size:Int)).data.toList (c3:Int).toNat.toUInt8)+1))) <|
j3 ((((Utf8.encode r1).size:Int) - 1)+((Lib.indexByte (zdx (⟨#[13,10]⟩:ByteArray) ((((Utf8.encode r1).size:Int) - 1)+1) ((⟨#[13,10]⟩:ByteArray).size:Int)).data.toList (c3:Int).toNat.toUInt8)+1))
)
) (
j3 (((Utf8.encode r1).size:Int) - 1)
)
) (fun (i1:Int) =>
zbp (fun (j4:Option Int) =>
za9 (fun _=>none) (zbQ r1 i1 j4) zcN 1
) (
grd (I64 (i1 - (((Utf8.encode r1).size:Int) - 1))) <|
some (i1 - (((Utf8.encode r1).size:Int) - 1))
)
)
) (
j2
)
def zbP (j8:Option Int) (ag4:Nat→Option Int) (m6:Nat):Option Int :=
zav (decide (m6<(pcs (⟨#[13,10]⟩:ByteArray).data.toList).length)) (
zar ((pcs (⟨#[13,10]⟩:ByteArray).data.toList)[m6]?) fun (p2:Pc) =>
zav (((p2.r:Int):Int)==65533) (
some (p2.i:Int)
) (
ag4 (m6+1)
)
) (
j8
)
def zbN (r1:Int) (i2:Int) (j11:Option Int) (ag6:Int→Option Int) (j14:Int):Option Int :=
zav (decide ((j14:Int)<((Utf8.encode r1).size:Int))) (
grd (I64 (i2 - j14)) <|
zar (zhR (⟨#[13,10]⟩:ByteArray) (i2 - j14)) fun (c9:Int) =>
grd (I64 ((((Utf8.encode r1).size:Int) - 1) - j14)) <|
zar (zhR (Utf8.encode r1) ((((Utf8.encode r1).size:Int) - 1) - j14)) fun (c10:Int) =>
zav ((c9:Int) != c10) (
none
) (
grd (I64 (j14+1)) <|
ag6 (j14+1)
)
) (
j11
)
def zbO (r1:Int) (j9:Option Int) (ag5:Option Int):Option Int :=
zav (decide (((((Utf8.encode r1).size:Int) - 1):Int)<((⟨#[13,10]⟩:ByteArray).size:Int))) (
zbp (fun (j10:Int→Option Int) =>
zar (zhR (⟨#[13,10]⟩:ByteArray) (((Utf8.encode r1).size:Int) - 1)) fun (c6:Int) =>
zar (zhR (Utf8.encode r1) (((Utf8.encode r1).size:Int) - 1)) fun (c7:Int) =>
zav ((c6:Int) != c7) (
grd (I64 ((((Utf8.encode r1).size:Int) - 1)+1)) <|
grd (0≤((((Utf8.encode r1).size:Int) - 1)+1:Int)∧((((Utf8.encode r1).size:Int) - 1)+1:Int)≤((⟨#[13,10]⟩:ByteArray).size:Int)∧(((⟨#[13,10]⟩:ByteArray).size:Int):Int)≤((⟨#[13,10]⟩:ByteArray).size:Int)) <|
zar (zhR (Utf8.encode r1) (((Utf8.encode r1).size:Int) - 1)) fun (c8:Int) =>
zav (decide (((Lib.indexByte (zdx (⟨#[13,10]⟩:ByteArray) ((((Utf8.encode r1).size:Int) - 1)+1) ((⟨#[13,10]⟩:ByteArray).size:Int)).data.toList (c8:Int).toNat.toUInt8):Int)<0)) (
some (-1)
) (
grd (I64 ((Lib.indexByte (zdx (⟨#[13,10]⟩:ByteArray) ((((Utf8.encode r1).size:Int) - 1)+1) ((⟨#[13,10]⟩:ByteArray).size:Int)).data.toList (c8:Int).toNat.toUInt8)+1)) <|
grd (I64 ((((Utf8.encode r1).size:Int) - 1)+((Lib.indexByte (zdx (⟨#[13,10]⟩:ByteArray) ((((Utf8.encode r1).size:Int) - 1)+1) ((⟨#[13,10]⟩:ByteArray).size:Int)).data.toList (c8:Int).toNat.toUInt8)+1))) <|
j10 ((((Utf8.encode r1).size:Int) - 1)+((Lib.indexByte (zdx (⟨#[13,10]⟩:ByteArray) ((((Utf8.encode r1).size:Int) - 1)+1) ((⟨#[13,10]⟩:ByteArray).size:Int)).data.toList (c8:Int).toNat.toUInt8)+1))
)
) (
j10 (((Utf8.encode r1).size:Int) - 1)
)
) (fun (i2:Int) =>
zbp (fun (j11:Option Int) =>
za9 (fun _=>none) (zbN r1 i2 j11) zcN 1
) (
grd (I64 (i2 - (((Utf8.encode r1).size:Int) - 1))) <|
some (i2 - (((Utf8.encode r1).size:Int) - 1))
)
)
) (
j9
)
def zbx (r1:Int):Option Int :=
zav (decide ((0:Int)≤r1)) (
zav (decide ((r1:Int)<128)) (
some (Lib.indexByte (⟨#[13,10]⟩:ByteArray).data.toList (IntKind.u8.wrap r1:Int).toNat.toUInt8)
) (
zav ((r1:Int)==65533) (
zbp (fun (j1:Option Int) =>
za9 (fun _=>none) (zbh j1) zcN 0
) (
some (-1)
)
) (
zav (!(Lib.validRune r1)) (
some (-1)
) (
zbp (fun (j2:Option Int) =>
grd (I64 (((Utf8.encode r1).size:Int) - 1)) <|
za9 none (zbt r1 j2) zcN
) (
some (-1)
)
)
)
)
) (
zav ((r1:Int)==65533) (
zbp (fun (j8:Option Int) =>
za9 (fun _=>none) (zbP j8) zcN 0
) (
some (-1)
)
) (
zav (!(Lib.validRune r1)) (
some (-1)
) (
zbp (fun (j9:Option Int) =>
grd (I64 (((Utf8.encode r1).size:Int) - 1)) <|
za9 none (zbO r1 j9) zcN
) (
some (-1)
)
)
)
)
theorem zeO {r1:Int} {r:Int} (h:zbx r1=some r):FnP Tryz.prog 136 [.string (⟨#[13,10]⟩:ByteArray),.int .i32 r1] (zI r):=by
 unfold zbx at h
 refine FnP.intro Tryz.func136 rfl Tryz.ntmps136 (by simp) ?_
 intro w0 K
 refine zyG (zyR 1 rfl (zyN (zaB (zyG (zyR 1 rfl (zaO rfl zdn (zyR 1 rfl ?_)))))))
 refine zyS (s:=163) rfl h (fun h => ?_) (fun h => ?_)
 ·
  refine zyR 1 rfl (zaO rfl zbv (zyR 2 rfl (zyN ?_)))
  refine zyB rfl h (fun h => ?_) (fun h => ?_)
  ·
   refine zyG (zyR 2 rfl (zhm rfl dc rfl (zlH Tryz.underlying21 Tryz.underlying5) (za5 (v:=zI (Lib.indexByte (⟨#[13,10]⟩:ByteArray).data.toList (IntKind.u8.wrap r1:Int).toNat.toUInt8)) (vs:=[.string (⟨#[13,10]⟩:ByteArray),.int .u8 (IntKind.u8.wrap r1)]) rfl dc rfl rfl rfl zlB (zkf (⟨#[13,10]⟩:ByteArray) (IntKind.u8.wrap r1)) (zyR 1 rfl (zyN (zau (zaj ?_)))))))
   cases h
   exact zaC (rs:=[.tmp 4]) () (.inl rfl) Tryz.results136 (.cons (.tmp rfl) .nil) rfl Splits.nil
  refine zyG (zyR 1 rfl (zaO rfl zaP (zyR 1 rfl (zyN ?_))))
  refine zyB rfl h (fun h => ?_) (fun h => ?_)
  ·
   obtain ⟨j1,hj1,h⟩:=zbw h
   refine zaU (β:=Unit) 0 rfl (fun b=>j1=some r) (fun b=>[]) (fun b=>[]) (fun b=>[]) (fun cut => ?_) ?_
   ·
    refine cut (zyG (zyR 1 rfl ?_))
    refine zdc Tryz.underlying9 rfl dc rfl (fun b1 => ?_)
    refine zyN (zaB ?_)
    refine zbm (β:=Nat×Nat) (fun b=>za9 (fun _=>none) (zbh j1) b.1 b.2=some r) (fun b=>[]) (fun b=>[(175,zP b1)]) (fun b=>[obj b1 (.stringIter (⟨#[13,10]⟩:ByteArray) (zeg (⟨#[13,10]⟩:ByteArray) b.2))]) (fun b=>b.1) (zcN,0) (by exact h) rfl (za7 rfl) (zae [0] kr rfl) ?_
    rintro ⟨n1,m3⟩ h
    cases n1 with
    | zero=>exact zcS h
    | succ n1 =>
     obtain ⟨ag1,hag1⟩:∃ ag,ag=za9 (fun _=>none) (zbh j1) n1:=⟨_,rfl⟩
     have h:zbh j1 ag1 m3=some r:=by rw [hag1]; exact h
     unfold zbh at h
     refine zyG ?_
     refine zdg (b:=decide (m3<(pcs (⟨#[13,10]⟩:ByteArray).data.toList).length)) (fun hb4 => ?_) (fun hb4 => ?_)
     ·
      have h:=zfI hb4 h
      obtain ⟨p1,hq1,h⟩:=zbl h
      refine zdz (k:=0) (m:=m3) (p:=p1) rfl dc rfl rfl hq1 (zax rfl dc rfl rfl (zyN (zay (za0 rfl (zat (zaE (zaB (zyG (zax rfl dc rfl rfl (zax rfl dc rfl rfl (zyR 1 rfl ?_)))))))))))
      refine zyR 1 rfl (zyH (zyR 1 rfl (zaO rfl zaP (zyN ?_))))
      refine zyB rfl h (fun h => ?_) (fun h => ?_)
      ·
       refine zyG (zyR 2 rfl (zyN (zau (zaj (zah (zaj (zah (zaj ?_))))))))
       cases h
       exact zaC (rs:=[.tmp 4]) () (.inl rfl) Tryz.results136 (.cons (.tmp rfl) .nil) rfl Splits.nil
      refine zat (zai ?_)
      subst hag1
      exact zaZ (n1,m3+1) h (Nat.lt_succ_self _) rfl (za7 rfl) (zae [0] kr rfl)
     have h:=zfJ hb4 h
     refine zdA (k:=0) (m:=m3) rfl dc rfl rfl (Nat.le_of_not_lt (of_decide_eq_false hb4)) (zax rfl dc rfl rfl (zyN (zay (zaL rfl (za6 (zao (zao (zaw ?_))))))))
     exact zaq () h rfl (zfM) Splits.nil
   rintro _ h
   rw [hj1] at h
   refine zyG (zyR 1 rfl (zyN (zau (zaj ?_))))
   cases h
   exact zaC (rs:=[.tmp 4]) () (.inl rfl) Tryz.results136 (.cons (.tmp rfl) .nil) rfl Splits.nil
  refine zyG (zyR 1 rfl (za5 (v:=.bool (Lib.validRune r1)) (vs:=[.int .i32 r1]) rfl dc rfl rfl rfl zmx (zk7 r1) (zcZ rfl dc rfl zbZ (zyR 1 rfl (zyN ?_)))))
  refine zyB rfl h (fun h => ?_) (fun h => ?_)
  ·
   refine zyG (zyR 1 rfl (zyN (zau (zaj ?_))))
   cases h
   exact zaC (rs:=[.tmp 4]) () (.inl rfl) Tryz.results136 (.cons (.tmp rfl) .nil) rfl Splits.nil
  refine zeM (β:=Unit) (l:=1) (fun _=>False) (fun _=>[]) (fun _=>[]) rfl ?_ ?_
  ·
   obtain ⟨j2,hj2,h⟩:=zbw h
   refine zaU (β:=Unit) 4 rfl (fun b=>j2=some r) (fun b=>[]) (fun b=>[]) (fun b=>[]) (fun cut => ?_) ?_
   ·
    refine zyG (zyR 1 rfl (zhm rfl dc rfl (zgN Tryz.underlying21 Tryz.underlying9) (zyR 1 rfl (zyH (zyR 1 rfl (zbG rfl dc rfl Tryz.underlying9 ?_))))))
    obtain ⟨hg1,h⟩:=zbs h
    refine zaO rfl (zbD (r:=((Utf8.encode r1).size:Int) - 1) (IntWalk.i64_in _ hg1)) (zyR 1 rfl (zyH (zyR 2 rfl (zyH (zyR 1 rfl (zaV ?_))))))
    refine zaE (cut (zaB ?_))
    refine zbm (β:=Nat) (fun b=>za9 none (zbt r1 j2) b=some r) (fun b=>[]) (fun b=>[(0,.string (⟨#[13,10]⟩:ByteArray)),(7,.string (Utf8.encode r1)),(8,zI (((Utf8.encode r1).size:Int) - 1)),(9,zI (((Utf8.encode r1).size:Int) - 1))]) (fun b=>[]) (fun b=>b) zcN h rfl (za7 rfl) Splits.nil ?_
    rintro n2 h
    cases n2 with
    | zero=>exact zcS h
    | succ n2 =>
     obtain ⟨ag2,hag2⟩:∃ ag,ag=za9 none (zbt r1 j2) n2:=⟨_,rfl⟩
     have h:zbt r1 j2 ag2=some r:=by rw [hag2]; exact h
     unfold zbt at h
     refine zay (zyG (zyR 2 rfl (zbG rfl dc rfl Tryz.underlying9 (zaO rfl zbv (zyN ?_)))))
     refine zyB rfl h (fun h => ?_) (fun h => ?_)
     ·
      refine zat (zaE (zaB ?_))
      refine zeM (β:=Unit) (l:=0) (fun _=>False) (fun _=>[]) (fun _=>[]) rfl ?_ ?_
      ·
       obtain ⟨j3,hj3,h⟩:=zbw h
       refine zaU (β:=Int) 0 rfl (fun b=>j3 b=some r) (fun b=>[]) (fun b=>[(0,.string (⟨#[13,10]⟩:ByteArray)),(7,.string (Utf8.encode r1)),(8,zI (((Utf8.encode r1).size:Int) - 1)),(9,zI b)]) (fun b=>[]) (fun cut => ?_) ?_
       ·
        refine cut (zay ?_)
        obtain ⟨c1,hq2,h⟩:=zbl h
        obtain ⟨c2,hq3,h⟩:=zbl h
        refine zbj 6 [(0,27,.string (⟨#[13,10]⟩:ByteArray)),(1,28,zI (((Utf8.encode r1).size:Int) - 1)),(2,29,.int .u8 c1),(3,30,.string (Utf8.encode r1)),(4,31,zI (((Utf8.encode r1).size:Int) - 1)),(5,32,.int .u8 c2)] mixed kr kr dc (by rfl) kr kr (zyP 2 0 rfl (zad ?_ (zyP 2 3 rfl (zad ?_ DrawPre.nil)))) ?_
        · exact fun D n d c u i=>zcD rfl dc (zaa (m:=0) u rfl (d 0 dc)) (zaa (m:=1) u rfl (d 1 dc)) (zbk Tryz.underlying9 hq2) (zaf 2 u i rfl)
        · exact fun D n d c u i=>zcD rfl dc (zaa (m:=3) u rfl (d 3 dc)) (zaa (m:=4) u rfl (d 4 dc)) (zbk Tryz.underlying9 hq3) (zaf 5 u i rfl)
        refine zaO rfl zbq (zyN ?_)
        refine zyB rfl h (fun h => ?_) (fun h => ?_)
        ·
         refine zay ?_
         obtain ⟨hg2,h⟩:=zbs h
         obtain ⟨hg3,h⟩:=zbs h
         obtain ⟨c3,hq4,h⟩:=zbl h
         refine zbj 7 [(0,34,.string (⟨#[13,10]⟩:ByteArray)),(1,35,zI (((Utf8.encode r1).size:Int) - 1)),(2,36,zI ((((Utf8.encode r1).size:Int) - 1)+1)),(3,37,.string (zdx (⟨#[13,10]⟩:ByteArray) ((((Utf8.encode r1).size:Int) - 1)+1) ((⟨#[13,10]⟩:ByteArray).size:Int))),(4,38,.string (Utf8.encode r1)),(5,39,zI (((Utf8.encode r1).size:Int) - 1)),(6,40,.int .u8 c3)] mixed kr kr dc (by rfl) kr kr (zyP 2 0 rfl (zad ?_ (zad ?_ (zyP 2 4 rfl (zad ?_ DrawPre.nil))))) ?_
         · exact fun D n d c u i=>zbJ rfl dc (zaa (m:=1) u rfl (d 1 dc)) rfl (zaT (r:=(((Utf8.encode r1).size:Int) - 1)+1) (IntWalk.i64_in _ hg2)) (zaf 2 u i rfl)
         · exact fun D n d c u i=>zd5 rfl dc (zaa (m:=0) u rfl (d 0 dc)) (evO.some (zaa (m:=2) u rfl (d 2 dc))) zjq (zb7 (i:=(((Utf8.encode r1).size:Int) - 1)+1) (j:=((⟨#[13,10]⟩:ByteArray).size:Int)) Tryz.underlying9 (.inr rfl) (.inl ⟨rfl,rfl⟩) hg3) (zaf 3 u i rfl)
         · exact fun D n d c u i=>zcD rfl dc (zaa (m:=4) u rfl (d 4 dc)) (zaa (m:=5) u rfl (d 5 dc)) (zbk Tryz.underlying9 hq4) (zaf 6 u i rfl)
         refine za5 (v:=zI (Lib.indexByte (zdx (⟨#[13,10]⟩:ByteArray) ((((Utf8.encode r1).size:Int) - 1)+1) ((⟨#[13,10]⟩:ByteArray).size:Int)).data.toList (c3:Int).toNat.toUInt8)) (vs:=[.string (zdx (⟨#[13,10]⟩:ByteArray) ((((Utf8.encode r1).size:Int) - 1)+1) ((⟨#[13,10]⟩:ByteArray).size:Int)),.int .u8 c3]) rfl dc rfl rfl rfl zlB (zkf (zdx (⟨#[13,10]⟩:ByteArray) ((((Utf8.encode r1).size:Int) - 1)+1) ((⟨#[13,10]⟩:ByteArray).size:Int)) c3) (zyR 1 rfl (zyN (zay (zyG (zyR 1 rfl (zaO rfl zbv (zyN ?_)))))))
         refine zyB rfl h (fun h => ?_) (fun h => ?_)
         ·
          refine zyG (zyR 1 rfl (zyN (zau (zah (zah (zbz (by simp) (zaj (zah (zaj (zah (zbz (by simp) ?_)))))))))))
          refine zaj ?_
          cases h
          exact zaC (rs:=[.tmp 4]) () (.inl rfl) Tryz.results136 (.cons (.tmp rfl) .nil) rfl Splits.nil
         refine zat (zaE (zaA (zyR 2 rfl ?_)))
         obtain ⟨hg4,h⟩:=zbs h
         refine zaO rfl (zaT (r:=(Lib.indexByte (zdx (⟨#[13,10]⟩:ByteArray) ((((Utf8.encode r1).size:Int) - 1)+1) ((⟨#[13,10]⟩:ByteArray).size:Int)).data.toList (c3:Int).toNat.toUInt8)+1) (IntWalk.i64_in _ hg4)) ?_
         obtain ⟨hg5,h⟩:=zbs h
         refine zaO rfl (zaT (r:=(((Utf8.encode r1).size:Int) - 1)+((Lib.indexByte (zdx (⟨#[13,10]⟩:ByteArray) ((((Utf8.encode r1).size:Int) - 1)+1) ((⟨#[13,10]⟩:ByteArray).size:Int)).data.toList (c3:Int).toNat.toUInt8)+1)) (IntWalk.i64_in _ hg5)) (zyR 1 rfl (zaV ?_))
         exact zaq ((((Utf8.encode r1).size:Int) - 1)+((Lib.indexByte (zdx (⟨#[13,10]⟩:ByteArray) ((((Utf8.encode r1).size:Int) - 1)+1) ((⟨#[13,10]⟩:ByteArray).size:Int)).data.toList (c3:Int).toNat.toUInt8)+1)) h rfl (za7 rfl) Splits.nil
        refine zat ?_
        exact zaq (((Utf8.encode r1).size:Int) - 1) h rfl (za7 rfl) Splits.nil
       rintro i1 h
       rw [hj3] at h
       obtain ⟨j4,hj4,h⟩:=zbw h
       refine zaU (β:=Unit) 0 rfl (fun b=>j4=some r) (fun b=>[]) (fun b=>[(8,zI (((Utf8.encode r1).size:Int) - 1)),(9,zI i1)]) (fun b=>[]) (fun cut => ?_) ?_
       ·
        refine cut (zyG (zyR 1 rfl (zyN (zaB ?_))))
        refine zbm (β:=Nat×Int) (fun b=>za9 (fun _=>none) (zbQ r1 i1 j4) b.1 b.2=some r) (fun b=>[]) (fun b=>[(0,.string (⟨#[13,10]⟩:ByteArray)),(7,.string (Utf8.encode r1)),(8,zI (((Utf8.encode r1).size:Int) - 1)),(9,zI i1),(12,zI b.2)]) (fun b=>[]) (fun b=>b.1) (zcN,1) h rfl (za7 rfl) Splits.nil ?_
        rintro ⟨n3,j7⟩ h
        cases n3 with
        | zero=>exact zcS h
        | succ n3 =>
         obtain ⟨ag3,hag3⟩:∃ ag,ag=za9 (fun _=>none) (zbQ r1 i1 j4) n3:=⟨_,rfl⟩
         have h:zbQ r1 i1 j4 ag3 j7=some r:=by rw [hag3]; exact h
         unfold zbQ at h
         refine zay (zyG (zyR 2 rfl (zbG rfl dc rfl Tryz.underlying9 (zaO rfl zbv (zyN ?_)))))
         refine zyB rfl h (fun h => ?_) (fun h => ?_)
         ·
          refine zat (zaE (zay (zaB (zay ?_))))
          obtain ⟨hg6,h⟩:=zbs h
          obtain ⟨c4,hq5,h⟩:=zbl h
          obtain ⟨hg7,h⟩:=zbs h
          obtain ⟨c5,hq6,h⟩:=zbl h
          refine zbj 10 [(0,54,.string (⟨#[13,10]⟩:ByteArray)),(1,55,zI i1),(2,56,zI j7),(3,57,zI (i1 - j7)),(4,58,.int .u8 c4),(5,59,.string (Utf8.encode r1)),(6,60,zI (((Utf8.encode r1).size:Int) - 1)),(7,61,zI j7),(8,62,zI ((((Utf8.encode r1).size:Int) - 1) - j7)),(9,63,.int .u8 c5)] mixed kr kr dc (by rfl) kr kr (zyP 3 0 rfl (zad ?_ (zad ?_ (zyP 3 5 rfl (zad ?_ (zad ?_ DrawPre.nil)))))) ?_
          · exact fun D n d c u i=>zbJ rfl dc (zaa (m:=1) u rfl (d 1 dc)) (zaa (m:=2) u rfl (d 2 dc)) (zbD (r:=i1 - j7) (IntWalk.i64_in _ hg6)) (zaf 3 u i rfl)
          · exact fun D n d c u i=>zcD rfl dc (zaa (m:=0) u rfl (d 0 dc)) (zaa (m:=3) u rfl (d 3 dc)) (zbk Tryz.underlying9 hq5) (zaf 4 u i rfl)
          · exact fun D n d c u i=>zbJ rfl dc (zaa (m:=6) u rfl (d 6 dc)) (zaa (m:=7) u rfl (d 7 dc)) (zbD (r:=(((Utf8.encode r1).size:Int) - 1) - j7) (IntWalk.i64_in _ hg7)) (zaf 8 u i rfl)
          · exact fun D n d c u i=>zcD rfl dc (zaa (m:=5) u rfl (d 5 dc)) (zaa (m:=8) u rfl (d 8 dc)) (zbk Tryz.underlying9 hq6) (zaf 9 u i rfl)
          refine zaO rfl zbq (zyN ?_)
          refine zyB rfl h (fun h => ?_) (fun h => ?_)
          ·
           exact zcS h
          refine zat (zai (zaE (zaA (zyR 1 rfl ?_))))
          obtain ⟨hg8,h⟩:=zbs h
          refine zaO rfl (zaT (r:=j7+1) (IntWalk.i64_in _ hg8)) (zyR 1 rfl (zaV ?_))
          subst hag3
          exact zaZ (n3,j7+1) h (Nat.lt_succ_self _) rfl (za7 rfl) Splits.nil
         refine za6 (zao (zao (zaw ?_)))
         exact zaq () h rfl (za7 rfl) Splits.nil
       rintro _ h
       rw [hj4] at h
       refine zay (zyG (zyR 2 rfl ?_))
       obtain ⟨hg9,h⟩:=zbs h
       refine zaO rfl (zbD (r:=i1 - (((Utf8.encode r1).size:Int) - 1)) (IntWalk.i64_in _ hg9)) (zyR 1 rfl (zyN (zau (zah (zbz (by simp) (zaj (zah (zaj (zah (zbz (by simp) (zaj ?_)))))))))))
       cases h
       exact zaC (rs:=[.tmp 4]) () (.inl rfl) Tryz.results136 (.cons (.tmp rfl) .nil) rfl Splits.nil
      exact fun b hb=>hb.elim
     refine za6 (zao (zao (zaw ?_)))
     exact zaq () h rfl (zfM) Splits.nil
   rintro _ h
   rw [hj2] at h
   refine zay (zyG (zyR 1 rfl (zyN (zau (zah (zbz (by simp) (zaj ?_)))))))
   cases h
   exact zaC (rs:=[.tmp 4]) () (.inl rfl) Tryz.results136 (.cons (.tmp rfl) .nil) rfl Splits.nil
  exact fun b hb=>hb.elim
 refine zyR 4 rfl (zyN (zaL rfl (zyG (zyR 1 rfl (zaO rfl zaP (zyR 1 rfl (zyN ?_)))))))
 refine zyB rfl h (fun h => ?_) (fun h => ?_)
 ·
  obtain ⟨j8,hj8,h⟩:=zbw h
  refine zaU (β:=Unit) 0 rfl (fun b=>j8=some r) (fun b=>[]) (fun b=>[]) (fun b=>[]) (fun cut => ?_) ?_
  ·
   refine cut (zyG (zyR 1 rfl ?_))
   refine zdc Tryz.underlying9 rfl dc rfl (fun b2 => ?_)
   refine zyN (zaB ?_)
   refine zbm (β:=Nat×Nat) (fun b=>za9 (fun _=>none) (zbP j8) b.1 b.2=some r) (fun b=>[]) (fun b=>[(175,zP b2)]) (fun b=>[obj b2 (.stringIter (⟨#[13,10]⟩:ByteArray) (zeg (⟨#[13,10]⟩:ByteArray) b.2))]) (fun b=>b.1) (zcN,0) (by exact h) rfl (za7 rfl) (zae [0] kr rfl) ?_
   rintro ⟨n4,m6⟩ h
   cases n4 with
   | zero=>exact zcS h
   | succ n4 =>
    obtain ⟨ag4,hag4⟩:∃ ag,ag=za9 (fun _=>none) (zbP j8) n4:=⟨_,rfl⟩
    have h:zbP j8 ag4 m6=some r:=by rw [hag4]; exact h
    unfold zbP at h
    refine zyG ?_
    refine zdg (b:=decide (m6<(pcs (⟨#[13,10]⟩:ByteArray).data.toList).length)) (fun hb13 => ?_) (fun hb13 => ?_)
    ·
     have h:=zfI hb13 h
     obtain ⟨p2,hq7,h⟩:=zbl h
     refine zdz (k:=0) (m:=m6) (p:=p2) rfl dc rfl rfl hq7 (zax rfl dc rfl rfl (zyN (zay (za0 rfl (zat (zaE (zaB (zyG (zax rfl dc rfl rfl (zax rfl dc rfl rfl (zyR 1 rfl ?_)))))))))))
     refine zyR 1 rfl (zyH (zyR 1 rfl (zaO rfl zaP (zyN ?_))))
     refine zyB rfl h (fun h => ?_) (fun h => ?_)
     ·
      refine zyG (zyR 2 rfl (zyN (zau (zaj (zah (zaj (zah (zaj ?_))))))))
      cases h
      exact zaC (rs:=[.tmp 4]) () (.inl rfl) Tryz.results136 (.cons (.tmp rfl) .nil) rfl Splits.nil
     refine zat (zai ?_)
     subst hag4
     exact zaZ (n4,m6+1) h (Nat.lt_succ_self _) rfl (za7 rfl) (zae [0] kr rfl)
    have h:=zfJ hb13 h
    refine zdA (k:=0) (m:=m6) rfl dc rfl rfl (Nat.le_of_not_lt (of_decide_eq_false hb13)) (zax rfl dc rfl rfl (zyN (zay (zaL rfl (za6 (zao (zao (zaw ?_))))))))
    exact zaq () h rfl (zfM) Splits.nil
  rintro _ h
  rw [hj8] at h
  refine zyG (zyR 1 rfl (zyN (zau (zaj ?_))))
  cases h
  exact zaC (rs:=[.tmp 4]) () (.inl rfl) Tryz.results136 (.cons (.tmp rfl) .nil) rfl Splits.nil
 refine zyG (zyR 1 rfl (za5 (v:=.bool (Lib.validRune r1)) (vs:=[.int .i32 r1]) rfl dc rfl rfl rfl zmx (zk7 r1) (zcZ rfl dc rfl zbZ (zyR 1 rfl (zyN ?_)))))
 refine zyB rfl h (fun h => ?_) (fun h => ?_)
 ·
  refine zyG (zyR 1 rfl (zyN (zau (zaj ?_))))
  cases h
  exact zaC (rs:=[.tmp 4]) () (.inl rfl) Tryz.results136 (.cons (.tmp rfl) .nil) rfl Splits.nil
 refine zeM (β:=Unit) (l:=1) (fun _=>False) (fun _=>[]) (fun _=>[]) rfl ?_ ?_
 ·
  obtain ⟨j9,hj9,h⟩:=zbw h
  refine zaU (β:=Unit) 4 rfl (fun b=>j9=some r) (fun b=>[]) (fun b=>[]) (fun b=>[]) (fun cut => ?_) ?_
  ·
   refine zyG (zyR 1 rfl (zhm rfl dc rfl (zgN Tryz.underlying21 Tryz.underlying9) (zyR 1 rfl (zyH (zyR 1 rfl (zbG rfl dc rfl Tryz.underlying9 ?_))))))
   obtain ⟨hg10,h⟩:=zbs h
   refine zaO rfl (zbD (r:=((Utf8.encode r1).size:Int) - 1) (IntWalk.i64_in _ hg10)) (zyR 1 rfl (zyH (zyR 2 rfl (zyH (zyR 1 rfl (zaV ?_))))))
   refine zaE (cut (zaB ?_))
   refine zbm (β:=Nat) (fun b=>za9 none (zbO r1 j9) b=some r) (fun b=>[]) (fun b=>[(0,.string (⟨#[13,10]⟩:ByteArray)),(7,.string (Utf8.encode r1)),(8,zI (((Utf8.encode r1).size:Int) - 1)),(9,zI (((Utf8.encode r1).size:Int) - 1))]) (fun b=>[]) (fun b=>b) zcN h rfl (za7 rfl) Splits.nil ?_
   rintro n5 h
   cases n5 with
   | zero=>exact zcS h
   | succ n5 =>
    obtain ⟨ag5,hag5⟩:∃ ag,ag=za9 none (zbO r1 j9) n5:=⟨_,rfl⟩
    have h:zbO r1 j9 ag5=some r:=by rw [hag5]; exact h
    unfold zbO at h
    refine zay (zyG (zyR 2 rfl (zbG rfl dc rfl Tryz.underlying9 (zaO rfl zbv (zyN ?_)))))
    refine zyB rfl h (fun h => ?_) (fun h => ?_)
    ·
     refine zat (zaE (zaB ?_))
     refine zeM (β:=Unit) (l:=0) (fun _=>False) (fun _=>[]) (fun _=>[]) rfl ?_ ?_
     ·
      obtain ⟨j10,hj10,h⟩:=zbw h
      refine zaU (β:=Int) 0 rfl (fun b=>j10 b=some r) (fun b=>[]) (fun b=>[(0,.string (⟨#[13,10]⟩:ByteArray)),(7,.string (Utf8.encode r1)),(8,zI (((Utf8.encode r1).size:Int) - 1)),(9,zI b)]) (fun b=>[]) (fun cut => ?_) ?_
      ·
       refine cut (zay ?_)
       obtain ⟨c6,hq8,h⟩:=zbl h
       obtain ⟨c7,hq9,h⟩:=zbl h
       refine zbj 6 [(0,27,.string (⟨#[13,10]⟩:ByteArray)),(1,28,zI (((Utf8.encode r1).size:Int) - 1)),(2,29,.int .u8 c6),(3,30,.string (Utf8.encode r1)),(4,31,zI (((Utf8.encode r1).size:Int) - 1)),(5,32,.int .u8 c7)] mixed kr kr dc (by rfl) kr kr (zyP 2 0 rfl (zad ?_ (zyP 2 3 rfl (zad ?_ DrawPre.nil)))) ?_
       · exact fun D n d c u i=>zcD rfl dc (zaa (m:=0) u rfl (d 0 dc)) (zaa (m:=1) u rfl (d 1 dc)) (zbk Tryz.underlying9 hq8) (zaf 2 u i rfl)
       · exact fun D n d c u i=>zcD rfl dc (zaa (m:=3) u rfl (d 3 dc)) (zaa (m:=4) u rfl (d 4 dc)) (zbk Tryz.underlying9 hq9) (zaf 5 u i rfl)
       refine zaO rfl zbq (zyN ?_)
       refine zyB rfl h (fun h => ?_) (fun h => ?_)
       ·
        refine zay ?_
        obtain ⟨hg11,h⟩:=zbs h
        obtain ⟨hg12,h⟩:=zbs h
        obtain ⟨c8,hq10,h⟩:=zbl h
        refine zbj 7 [(0,34,.string (⟨#[13,10]⟩:ByteArray)),(1,35,zI (((Utf8.encode r1).size:Int) - 1)),(2,36,zI ((((Utf8.encode r1).size:Int) - 1)+1)),(3,37,.string (zdx (⟨#[13,10]⟩:ByteArray) ((((Utf8.encode r1).size:Int) - 1)+1) ((⟨#[13,10]⟩:ByteArray).size:Int))),(4,38,.string (Utf8.encode r1)),(5,39,zI (((Utf8.encode r1).size:Int) - 1)),(6,40,.int .u8 c8)] mixed kr kr dc (by rfl) kr kr (zyP 2 0 rfl (zad ?_ (zad ?_ (zyP 2 4 rfl (zad ?_ DrawPre.nil))))) ?_
        · exact fun D n d c u i=>zbJ rfl dc (zaa (m:=1) u rfl (d 1 dc)) rfl (zaT (r:=(((Utf8.encode r1).size:Int) - 1)+1) (IntWalk.i64_in _ hg11)) (zaf 2 u i rfl)
        · exact fun D n d c u i=>zd5 rfl dc (zaa (m:=0) u rfl (d 0 dc)) (evO.some (zaa (m:=2) u rfl (d 2 dc))) zjq (zb7 (i:=(((Utf8.encode r1).size:Int) - 1)+1) (j:=((⟨#[13,10]⟩:ByteArray).size:Int)) Tryz.underlying9 (.inr rfl) (.inl ⟨rfl,rfl⟩) hg12) (zaf 3 u i rfl)
        · exact fun D n d c u i=>zcD rfl dc (zaa (m:=4) u rfl (d 4 dc)) (zaa (m:=5) u rfl (d 5 dc)) (zbk Tryz.underlying9 hq10) (zaf 6 u i rfl)
        refine za5 (v:=zI (Lib.indexByte (zdx (⟨#[13,10]⟩:ByteArray) ((((Utf8.encode r1).size:Int) - 1)+1) ((⟨#[13,10]⟩:ByteArray).size:Int)).data.toList (c8:Int).toNat.toUInt8)) (vs:=[.string (zdx (⟨#[13,10]⟩:ByteArray) ((((Utf8.encode r1).size:Int) - 1)+1) ((⟨#[13,10]⟩:ByteArray).size:Int)),.int .u8 c8]) rfl dc rfl rfl rfl zlB (zkf (zdx (⟨#[13,10]⟩:ByteArray) ((((Utf8.encode r1).size:Int) - 1)+1) ((⟨#[13,10]⟩:ByteArray).size:Int)) c8) (zyR 1 rfl (zyN (zay (zyG (zyR 1 rfl (zaO rfl zbv (zyN ?_)))))))
        refine zyB rfl h (fun h => ?_) (fun h => ?_)
        ·
         refine zyG (zyR 1 rfl (zyN (zau (zah (zah (zbz (by simp) (zaj (zah (zaj (zah (zbz (by simp) ?_)))))))))))
         refine zaj ?_
         cases h
         exact zaC (rs:=[.tmp 4]) () (.inl rfl) Tryz.results136 (.cons (.tmp rfl) .nil) rfl Splits.nil
        refine zat (zaE (zaA (zyR 2 rfl ?_)))
        obtain ⟨hg13,h⟩:=zbs h
        refine zaO rfl (zaT (r:=(Lib.indexByte (zdx (⟨#[13,10]⟩:ByteArray) ((((Utf8.encode r1).size:Int) - 1)+1) ((⟨#[13,10]⟩:ByteArray).size:Int)).data.toList (c8:Int).toNat.toUInt8)+1) (IntWalk.i64_in _ hg13)) ?_
        obtain ⟨hg14,h⟩:=zbs h
        refine zaO rfl (zaT (r:=(((Utf8.encode r1).size:Int) - 1)+((Lib.indexByte (zdx (⟨#[13,10]⟩:ByteArray) ((((Utf8.encode r1).size:Int) - 1)+1) ((⟨#[13,10]⟩:ByteArray).size:Int)).data.toList (c8:Int).toNat.toUInt8)+1)) (IntWalk.i64_in _ hg14)) (zyR 1 rfl (zaV ?_))
        exact zaq ((((Utf8.encode r1).size:Int) - 1)+((Lib.indexByte (zdx (⟨#[13,10]⟩:ByteArray) ((((Utf8.encode r1).size:Int) - 1)+1) ((⟨#[13,10]⟩:ByteArray).size:Int)).data.toList (c8:Int).toNat.toUInt8)+1)) h rfl (za7 rfl) Splits.nil
       refine zat ?_
       exact zaq (((Utf8.encode r1).size:Int) - 1) h rfl (za7 rfl) Splits.nil
      rintro i2 h
      rw [hj10] at h
      obtain ⟨j11,hj11,h⟩:=zbw h
      refine zaU (β:=Unit) 0 rfl (fun b=>j11=some r) (fun b=>[]) (fun b=>[(8,zI (((Utf8.encode r1).size:Int) - 1)),(9,zI i2)]) (fun b=>[]) (fun cut => ?_) ?_
      ·
       refine cut (zyG (zyR 1 rfl (zyN (zaB ?_))))
       refine zbm (β:=Nat×Int) (fun b=>za9 (fun _=>none) (zbN r1 i2 j11) b.1 b.2=some r) (fun b=>[]) (fun b=>[(0,.string (⟨#[13,10]⟩:ByteArray)),(7,.string (Utf8.encode r1)),(8,zI (((Utf8.encode r1).size:Int) - 1)),(9,zI i2),(12,zI b.2)]) (fun b=>[]) (fun b=>b.1) (zcN,1) h rfl (za7 rfl) Splits.nil ?_
       rintro ⟨n6,j14⟩ h
       cases n6 with
       | zero=>exact zcS h
       | succ n6 =>
        obtain ⟨ag6,hag6⟩:∃ ag,ag=za9 (fun _=>none) (zbN r1 i2 j11) n6:=⟨_,rfl⟩
        have h:zbN r1 i2 j11 ag6 j14=some r:=by rw [hag6]; exact h
        unfold zbN at h
        refine zay (zyG (zyR 2 rfl (zbG rfl dc rfl Tryz.underlying9 (zaO rfl zbv (zyN ?_)))))
        refine zyB rfl h (fun h => ?_) (fun h => ?_)
        ·
         refine zat (zaE (zay (zaB (zay ?_))))
         obtain ⟨hg15,h⟩:=zbs h
         obtain ⟨c9,hq11,h⟩:=zbl h
         obtain ⟨hg16,h⟩:=zbs h
         obtain ⟨c10,hq12,h⟩:=zbl h
         refine zbj 10 [(0,54,.string (⟨#[13,10]⟩:ByteArray)),(1,55,zI i2),(2,56,zI j14),(3,57,zI (i2 - j14)),(4,58,.int .u8 c9),(5,59,.string (Utf8.encode r1)),(6,60,zI (((Utf8.encode r1).size:Int) - 1)),(7,61,zI j14),(8,62,zI ((((Utf8.encode r1).size:Int) - 1) - j14)),(9,63,.int .u8 c10)] mixed kr kr dc (by rfl) kr kr (zyP 3 0 rfl (zad ?_ (zad ?_ (zyP 3 5 rfl (zad ?_ (zad ?_ DrawPre.nil)))))) ?_
         · exact fun D n d c u i=>zbJ rfl dc (zaa (m:=1) u rfl (d 1 dc)) (zaa (m:=2) u rfl (d 2 dc)) (zbD (r:=i2 - j14) (IntWalk.i64_in _ hg15)) (zaf 3 u i rfl)
         · exact fun D n d c u i=>zcD rfl dc (zaa (m:=0) u rfl (d 0 dc)) (zaa (m:=3) u rfl (d 3 dc)) (zbk Tryz.underlying9 hq11) (zaf 4 u i rfl)
         · exact fun D n d c u i=>zbJ rfl dc (zaa (m:=6) u rfl (d 6 dc)) (zaa (m:=7) u rfl (d 7 dc)) (zbD (r:=(((Utf8.encode r1).size:Int) - 1) - j14) (IntWalk.i64_in _ hg16)) (zaf 8 u i rfl)
         · exact fun D n d c u i=>zcD rfl dc (zaa (m:=5) u rfl (d 5 dc)) (zaa (m:=8) u rfl (d 8 dc)) (zbk Tryz.underlying9 hq12) (zaf 9 u i rfl)
         refine zaO rfl zbq (zyN ?_)
         refine zyB rfl h (fun h => ?_) (fun h => ?_)
         ·
          exact zcS h
         refine zat (zai (zaE (zaA (zyR 1 rfl ?_))))
         obtain ⟨hg17,h⟩:=zbs h
         refine zaO rfl (zaT (r:=j14+1) (IntWalk.i64_in _ hg17)) (zyR 1 rfl (zaV ?_))
         subst hag6
         exact zaZ (n6,j14+1) h (Nat.lt_succ_self _) rfl (za7 rfl) Splits.nil
        refine za6 (zao (zao (zaw ?_)))
        exact zaq () h rfl (za7 rfl) Splits.nil
      rintro _ h
      rw [hj11] at h
      refine zay (zyG (zyR 2 rfl ?_))
      obtain ⟨hg18,h⟩:=zbs h
      refine zaO rfl (zbD (r:=i2 - (((Utf8.encode r1).size:Int) - 1)) (IntWalk.i64_in _ hg18)) (zyR 1 rfl (zyN (zau (zah (zbz (by simp) (zaj (zah (zaj (zah (zbz (by simp) (zaj ?_)))))))))))
      cases h
      exact zaC (rs:=[.tmp 4]) () (.inl rfl) Tryz.results136 (.cons (.tmp rfl) .nil) rfl Splits.nil
     exact fun b hb=>hb.elim
    refine za6 (zao (zao (zaw ?_)))
    exact zaq () h rfl (zfM) Splits.nil
  rintro _ h
  rw [hj9] at h
  refine zay (zyG (zyR 1 rfl (zyN (zau (zah (zbz (by simp) (zaj ?_)))))))
  cases h
  exact zaC (rs:=[.tmp 4]) () (.inl rfl) Tryz.results136 (.cons (.tmp rfl) .nil) rfl Splits.nil
 exact fun b hb=>hb.elim
def za2 (s1:ByteArray) (j3:Option Int) (ag1:Nat→Option Int) (m3:Nat):Option Int :=
zav (decide (m3<(pcs s1.data.toList).length)) (
zar ((pcs s1.data.toList)[m3]?) fun (p1:Pc) =>
zar (zbx (p1.r:Int)) fun (r2:Int) =>
zav (decide ((0:Int)≤r2)) (
some (p1.i:Int)
) (
ag1 (m3+1)
)
) (
j3
)
def zbV (s1:ByteArray):Option Int :=
zav (decide ((⟨#[13,10]⟩:ByteArray)=(⟨#[]⟩:ByteArray))) (
some (-1)
) (
zav ((((⟨#[13,10]⟩:ByteArray).size:Int):Int)==1) (
zbp (fun (j1:Int→Option Int) =>
zar (zhR (⟨#[13,10]⟩:ByteArray) 0) fun (c1:Int) =>
grd (I32 c1) <|
zav (decide ((128:Int)≤c1)) (
j1 65533
) (
j1 c1
)
) (fun (r1:Int) =>
none
)
) (
zbp (fun (j2:Option Int) =>
zav (decide (8<((s1.size:Int):Int))) (
none
) (
j2
)
) (
zbp (fun (j3:Option Int) =>
za9 (fun _=>none) (za2 s1 j3) zcN 0
) (
some (-1)
)
)
)
)
theorem zeY {s1:ByteArray} {r:Int} (h:zbV s1=some r):FnP Tryz.prog 134 [.string s1,.string (⟨#[13,10]⟩:ByteArray)] (zI r):=by
 unfold zbV at h
 refine FnP.intro Tryz.func134 rfl Tryz.ntmps134 (by simp) ?_
 intro w0 K
 refine zyG (zyR 1 rfl (zyN (zay (zyG (zyR 1 rfl (zaO rfl zeL (zyN ?_)))))))
 refine zyB rfl h (fun h => ?_) (fun h => ?_)
 ·
  refine zyG (zyR 1 rfl (zyN (zau (zah ?_))))
  cases h
  exact zaC (rs:=[.tmp 4]) () (.inl rfl) Tryz.results134 (.cons (.tmp rfl) .nil) rfl Splits.nil
 refine zat (zaE (zay (zyG (zyR 1 rfl (zbG rfl dc rfl Tryz.underlying9 (zaO rfl zaP (zyN ?_)))))))
 refine zyB rfl h (fun h => ?_) (fun h => ?_)
 ·
  obtain ⟨j1,hj1,h⟩:=zbw h
  refine zaU (β:=Int) 1 rfl (fun b=>j1 b=some r) (fun b=>[]) (fun b=>[(0,.string s1),(5,.int .i32 b)]) (fun b=>[]) (fun cut => ?_) ?_
  ·
   refine zyG (zyR 1 rfl ?_)
   obtain ⟨c1,hq1,h⟩:=zbl h
   refine zcD rfl dc rfl rfl (zbk Tryz.underlying9 hq1) ?_
   obtain ⟨hg1,h⟩:=zbs h
   refine zhm rfl dc rfl (zkG (r:=c1) Tryz.underlying5 Tryz.underlying21 (IntWalk.i32_in _ hg1)) (zyR 1 rfl (zyN (cut (zyG (zyR 1 rfl (zaO rfl zep (zyN ?_)))))))
   refine zyB rfl h (fun h => ?_) (fun h => ?_)
   ·
    refine zaA (zyR 1 rfl (zaV ?_))
    exact zaq 65533 h rfl (za7 rfl) Splits.nil
   refine zat ?_
   exact zaq c1 h rfl (za7 rfl) Splits.nil
  rintro r1 h
  rw [hj1] at h
  refine zay ?_
  exact zcS h
 refine zat (zaE ?_)
 obtain ⟨j2,hj2,h⟩:=zbw h
 refine zaU (β:=Unit) 0 rfl (fun b=>j2=some r) (fun b=>[]) (fun b=>[(0,.string s1),(1,.string (⟨#[13,10]⟩:ByteArray))]) (fun b=>[]) (fun cut => ?_) ?_
 ·
  refine cut (zyG (zyR 1 rfl (zbG rfl dc rfl Tryz.underlying9 (za5 (v:=.bool (decide (8<((s1.size:Int):Int)))) (vs:=[zI (s1.size:Int)]) rfl dc rfl rfl rfl znY (znA (s1.size:Int)) (zyN ?_)))))
  refine zyB rfl h (fun h => ?_) (fun h => ?_)
  ·
   refine zay ?_
   exact zcS h
  refine zat ?_
  exact zaq () h rfl (za7 rfl) Splits.nil
 rintro _ h
 rw [hj2] at h
 obtain ⟨j3,hj3,h⟩:=zbw h
 refine zaU (β:=Unit) 0 rfl (fun b=>j3=some r) (fun b=>[]) (fun b=>[]) (fun b=>[]) (fun cut => ?_) ?_
 ·
  refine cut (zyG (zyR 1 rfl ?_))
  refine zdc Tryz.underlying9 rfl dc rfl (fun b1 => ?_)
  refine zyN (zaB ?_)
  refine zbm (β:=Nat×Nat) (fun b=>za9 (fun _=>none) (za2 s1 j3) b.1 b.2=some r) (fun b=>[]) (fun b=>[(1,.string (⟨#[13,10]⟩:ByteArray)),(45,zP b1)]) (fun b=>[obj b1 (.stringIter s1 (zeg s1 b.2))]) (fun b=>b.1) (zcN,0) (by exact h) rfl (za7 rfl) (zae [0] kr rfl) ?_
  rintro ⟨n1,m3⟩ h
  cases n1 with
  | zero=>exact zcS h
  | succ n1 =>
   obtain ⟨ag1,hag1⟩:∃ ag,ag=za9 (fun _=>none) (za2 s1 j3) n1:=⟨_,rfl⟩
   have h:za2 s1 j3 ag1 m3=some r:=by rw [hag1]; exact h
   unfold za2 at h
   refine zyG ?_
   refine zdg (b:=decide (m3<(pcs s1.data.toList).length)) (fun hb5 => ?_) (fun hb5 => ?_)
   ·
    have h:=zfI hb5 h
    obtain ⟨p1,hq2,h⟩:=zbl h
    refine zdz (k:=0) (m:=m3) (p:=p1) rfl dc rfl rfl hq2 (zax rfl dc rfl rfl (zyN (zay (za0 rfl (zat (zaE (zaB (zyG (zax rfl dc rfl rfl (zax rfl dc rfl rfl (zyR 1 rfl ?_)))))))))))
    refine zyR 1 rfl (zyH (zyR 2 rfl ?_))
    obtain ⟨r2,hq3,h⟩:=zbl h
    refine za5 (v:=zI r2) (vs:=[.string (⟨#[13,10]⟩:ByteArray),.int .i32 (p1.r:Int)]) rfl dc rfl rfl rfl znZ (zeO hq3) (zaO rfl zep (zyN ?_))
    refine zyB rfl h (fun h => ?_) (fun h => ?_)
    ·
     refine zyG (zyR 2 rfl (zyN (zau (zaj (zah (zaj (zah ?_)))))))
     cases h
     exact zaC (rs:=[.tmp 4]) () (.inl rfl) Tryz.results134 (.cons (.tmp rfl) .nil) rfl Splits.nil
    refine zat (zai ?_)
    subst hag1
    exact zaZ (n1,m3+1) h (Nat.lt_succ_self _) rfl (za7 rfl) (zae [0] kr rfl)
   have h:=zfJ hb5 h
   refine zdA (k:=0) (m:=m3) rfl dc rfl rfl (Nat.le_of_not_lt (of_decide_eq_false hb5)) (zax rfl dc rfl rfl (zyN (zay (zaL rfl (za6 (zao (zao (zaw ?_))))))))
   exact zaq () h rfl (zfM) Splits.nil
 rintro _ h
 rw [hj3] at h
 refine zyG (zyR 1 rfl (zyN (zau ?_)))
 cases h
 exact zaC (rs:=[.tmp 4]) () (.inl rfl) Tryz.results134 (.cons (.tmp rfl) .nil) rfl Splits.nil
end Go.Proofs.YtbempdelckaccaaGreatDoor

namespace Go.Proofs.YtbempdelckaccaaGreatDoor
open Go.RowKit Go.Lib Go.Shelf
set_option linter.unusedVariables false
set_option linter.unusedSimpArgs false
def zkX (r:Int):Int:=if r=13 then 0 else if r=10 then 1 else -1
theorem zlr:∀ n:Nat,n<128→Lib.indexByte [13,10] (n:Int).toNat.toUInt8=zkX (n:Int):=by decide +kernel
theorem zmj:pcs (⟨#[13,10]⟩:ByteArray).data.toList=[⟨0,1,13⟩,⟨1,1,10⟩]:=by decide +kernel
theorem zlo (j:Option Int):za9 (fun _=>none) (zbh j) zcN 0=j:=by
 obtain ⟨n,hn,_⟩:=zlv 3 (by decide)
 rw [hn]
 rw [show n+3=n+2+1 from rfl,ze0]
 unfold zbh
 rw [zmj]
 refine zfm rfl (ziy rfl (ze2 (by decide) ?_))
 rw [show n+2=n+1+1 from rfl,ze0]
 refine zfm rfl (ziy rfl (ze2 (by decide) ?_))
 rw [ze0]
 exact ze2 rfl rfl
theorem zkl (r:Nat) (hv:r<55296∨(57343<r∧r≤1114111)) (h:128≤r):2≤(encodeRune (r:Int)).length∧(encodeRune (r:Int)).length≤4∧∀ x∈encodeRune (r:Int),128≤x.toNat:=by
 unfold encodeRune
 rcases ziV r hv with ⟨h1,_⟩ | ⟨h1,h2,e⟩ | ⟨h1,h2,e⟩ | ⟨h1,h2,e⟩
 ·omega
 all_goals
  rw [e]
  refine ⟨by simp,by simp,fun x hx => ?_⟩
  simp only [List.map_cons,List.map_nil,List.mem_cons,List.not_mem_nil,or_false] at hx
 ·rcases hx with rfl | rfl <;> rw [zhO _ (by omega) (by omega)] <;> omega
 ·rcases hx with rfl | rfl | rfl <;> rw [zhO _ (by omega) (by omega)] <;> omega
 ·rcases hx with rfl | rfl | rfl | rfl <;> rw [zhO _ (by omega) (by omega)] <;> omega
theorem zmW (r:Nat) (h:r<128):encodeRune (r:Int)=[r.toUInt8]:=by
 unfold encodeRune; rw [encodeRuneZ_one (by omega) (by omega)]; simp
theorem zmd {e:ByteArray} (h2:∀ x∈e.data.toList,128≤x.toNat) {i:Int} (h0:0≤i) (hi:i<(e.size:Int)):∃ c,zhR e i=some c∧128≤c:=by
 obtain ⟨n,rfl⟩:∃ n:Nat,i=n:=⟨i.toNat,by omega⟩
 have hn:n<e.size:=by omega
 refine ⟨((e[n]'hn).toNat:Int),zmR rfl hn,?_⟩
 have h3:128≤(e[n]'hn).toNat:=h2 _ (Array.mem_toList_iff.2 (Array.getElem_mem hn))
 omega
theorem zmc {r:Nat} (hv:r<55296∨(57343<r∧r≤1114111)) (h:128≤r) {i:Int} (h0:0≤i) (hi:i<((Utf8.encode (r:Int)).size:Int)):∃ c,zhR (Utf8.encode (r:Int)) i=some c∧128≤c :=
 zmd (by rw [zim]; exact (zkl r hv h).2.2) h0 hi
theorem zmP (r:Nat) (hv:r<55296∨(57343<r∧r≤1114111)):zbx (r:Int)=some (zkX (r:Int)):=by
 unfold zbx
 refine zfm (decide_eq_true (by omega)) ?_
 by_cases h1:r<128
 ·refine zfm (decide_eq_true (by omega)) ?_
  rw [u8w _ (by omega)]
  exact congrArg some (zlr r h1)
 ·have he:zkX (r:Int)=-1:=by unfold zkX; rw [if_neg (by omega),if_neg (by omega)]
  rw [he]
  refine ze2 (decide_eq_false (by omega)) ?_
  by_cases h2:r=65533
  ·refine zfm (beq_iff_eq.2 (by omega)) (zlq ?_)
   exact zlo _
  ·refine ze2 (beq_eq_false_iff_ne.2 (by omega)) ?_
   have hval:Lib.validRune (r:Int)=true:=by
    unfold Lib.validRune; simp; omega
   refine ze2 (by rw [hval]; rfl) (zlq ?_)
   obtain ⟨hs2,hs4,_⟩:=zkl r hv (by omega)
   rw [← zkk] at hs2 hs4
   refine zoj ⟨by omega,by omega⟩ ?_
   obtain ⟨n,hn,_⟩:=zlv 1 (by decide)
   rw [hn,ze0]
   unfold zbt
   have hz:((⟨#[13,10]⟩:ByteArray).size:Int)=2:=rfl
   by_cases h3:(Utf8.encode (r:Int)).size=2
   ·refine zfm (decide_eq_true (by rw [hz]; omega)) (zlq ?_)
    obtain ⟨c,hc,hc128⟩:=zmc hv (by omega) (i:=((Utf8.encode (r:Int)).size:Int) - 1) (by omega) (by omega)
    refine ziy (a:=10) (by rw [h3]; rfl) (ziy hc (zfm (bne_iff_ne.2 (by omega)) ?_))
    refine zoj ⟨by omega,by omega⟩ (zoj ⟨by omega,by rw [hz]; omega,Int.le_refl _⟩ (ziy hc (zfm ?_ rfl)))
    have:(zdx (⟨#[13,10]⟩:ByteArray) (((Utf8.encode (r:Int)).size:Int) - 1+1) ((⟨#[13,10]⟩:ByteArray).size:Int)).data.toList=[]:=by rw [h3]; decide +kernel
    rw [this]
    rfl
   ·refine ze2 (decide_eq_false (by rw [hz]; omega)) rfl
def isE (b:UInt8):Bool:=b==13||b==10
def zjX (s:ByteArray):Bool:=s.data.toList.any isE
theorem zmO {b:UInt8} (h:128≤b.toNat):isE b=false:=by
 unfold isE
 have h1:(b==13)=false:=beq_eq_false_iff_ne.2 (by rintro rfl; exact absurd h (by decide))
 have h2:(b==10)=false:=beq_eq_false_iff_ne.2 (by rintro rfl; exact absurd h (by decide))
 rw [h1,h2]; rfl
theorem zl7 (r:Int):decide (0≤zkX r)=(decide (r=13)||decide (r=10)):=by
 unfold zkX
 by_cases h1:r=13
 ·subst h1; rfl
 ·by_cases h2:r=10
  ·subst h2; rfl
  ·rw [if_neg h1,if_neg h2]; simp [h1,h2]
theorem zll (l:List UInt8) (h:l≠[]):decide (0≤zkX ((decodeL l).1:Int))=(l.take (decodeL l).2).any isE:=by
 rw [zl7]
 obtain ⟨b,t,rfl⟩:=List.exists_cons_of_ne_nil h
 by_cases hb:b.toNat<128
 ·rw [decodeL_ascii b t hb]
  simp only [List.take_succ_cons,List.take_zero,List.any_cons,List.any_nil,Bool.or_false]
  unfold isE
  congr 1
  ·rw [Bool.eq_iff_iff,decide_eq_true_iff,beq_iff_eq]
   exact ⟨fun h=>UInt8.toNat.inj (by show b.toNat=13; omega),fun h=>by subst h; rfl⟩
  ·rw [Bool.eq_iff_iff,decide_eq_true_iff,beq_iff_eq]
   exact ⟨fun h=>UInt8.toNat.inj (by show b.toNat=10; omega),fun h=>by subst h; rfl⟩
 ·have hd:=zm5 (b::t) (by simp)
  generalize (decodeL (b::t)).1=r at hd ⊢
  generalize (decodeL (b::t)).2=w at hd ⊢
  obtain ⟨w,rfl⟩:∃ v,w=v+1:=⟨w - 1,by have:=hd.pos; omega⟩
  have hall:128≤r∧∀ x∈(b::t).take (w+1),128≤x.toNat:=by
   by_cases hbr:r=65533∧w+1=1
   ·obtain ⟨rfl,hw⟩:=hbr
    obtain rfl:w=0:=by omega
    refine ⟨by omega,fun x hx => ?_⟩
    simp at hx; subst hx; omega
   ·have he:=hd.bytes hbr
    have hr:128≤r:=by
     rcases Nat.lt_or_ge r 128 with h1 | h1
     ·rw [zmW r h1,List.take_succ_cons] at he
      have h2:r.toUInt8=b:=(List.cons.inj he).1
      have h3:b.toNat=r:=by rw [← h2]; simp; omega
      omega
     ·exact h1
    refine ⟨hr,?_⟩
    rw [← he]
    exact (zkl r hd.valid hr).2.2
  rw [decide_eq_false (show ¬ (r:Int)=13 by omega),decide_eq_false (show ¬ (r:Int)=10 by omega)]
  symm
  rw [Bool.or_false,List.any_eq_false]
  intro x hx
  rw [zmO (hall.2 x hx)]
  decide
theorem zkP (s:ByteArray) (j:Option Int):∀ (n m:Nat),(pcs s.data.toList).length - m<n→(∀ p∈pcs s.data.toList,zbx (p.r:Int)=some (zkX (p.r:Int))) →
  ∃ x:Option Int,za9 (fun _=>none) (za2 s j) n m=x∧((((pcs s.data.toList).drop m).any (fun p=>decide (0≤zkX (p.r:Int)))=true∧∃ k:Nat,x=some (k:Int))∨(((pcs s.data.toList).drop m).any (fun p=>decide (0≤zkX (p.r:Int)))=false∧x=j)):=by
 intro n
 induction n with
 | zero=>intro m h; omega
 | succ n ih =>
  intro m hm hp
  rw [ze0]
  rcases Nat.lt_or_ge m (pcs s.data.toList).length with h1 | h1
  ·obtain ⟨p,hq⟩:∃ p,(pcs s.data.toList)[m]?=some p:=⟨_,List.getElem?_eq_getElem h1⟩
   have hd:(pcs s.data.toList).drop m=p::(pcs s.data.toList).drop (m+1):=by
    rw [List.drop_eq_getElem_cons h1]; congr 1
    rw [List.getElem?_eq_getElem h1] at hq; exact Option.some.inj hq
   rw [hd,List.any_cons]
   cases hh:decide (0≤zkX (p.r:Int)) with
   | true =>
    refine ⟨some (p.i:Int),?_,.inl ⟨rfl,p.i,rfl⟩⟩
    unfold za2
    exact zfm (decide_eq_true h1) (ziy hq (ziy (hp p (List.mem_of_getElem? hq)) (zfm hh rfl)))
   | false =>
    obtain ⟨x,hx,h3⟩:=ih (m+1) (by omega) hp
    refine ⟨x,?_,by rw [Bool.false_or]; exact h3⟩
    conv=>lhs; unfold za2
    refine zfm (decide_eq_true h1) (ziy hq (ziy (hp p (List.mem_of_getElem? hq)) (ze2 hh hx)))
  ·rw [List.drop_eq_nil_of_le h1]
   refine ⟨j,?_,.inr ⟨rfl,rfl⟩⟩
   unfold za2
   exact ze2 (decide_eq_false (by omega)) rfl
theorem zia:∀ (n:Nat) (l:List UInt8) (i:Nat),l.length≤n→(zcR i l).any (fun p=>decide (0≤zkX (p.r:Int)))=l.any isE
 | 0,l,i,h=>by
  obtain rfl:l=[]:=List.length_eq_zero_iff.1 (by omega)
  rw [zck]; rfl
 | n+1,l,i,h=>by
  by_cases hl:l=[]
  ·subst hl; rw [zck]; rfl
  ·have hw:=zge l
   have hle:=ziX l hl
   rw [zcM i l hl,List.any_cons,zia n _ _ (by rw [List.length_drop]; omega)]
   show (decide (0≤zkX ((decodeL l).1:Int))||_)=_
   rw [zll l hl,← List.any_append,List.take_append_drop]
theorem zh9:∀ (n:Nat) (l:List UInt8) (i:Nat),l.length≤n→(zcR i l).length≤l.length
 | 0,l,i,h=>by
  obtain rfl:l=[]:=List.length_eq_zero_iff.1 (by omega)
  rw [zck]; exact Nat.le_refl _
 | n+1,l,i,h=>by
  by_cases hl:l=[]
  ·subst hl; rw [zck]; exact Nat.le_refl _
  ·have hw:=zge l
   have hle:=ziX l hl
   rw [zcM i l hl,List.length_cons]
   have:=zh9 n (l.drop (decodeL l).2) (i+(decodeL l).2) (by rw [List.length_drop]; omega)
   rw [List.length_drop] at this
   omega
theorem zlm (l:List UInt8):∀ p∈pcs l,p.r<55296∨(57343<p.r∧p.r≤1114111):=by
 have key:∀ (n:Nat) (l:List UInt8) (i:Nat),l.length≤n→∀ p∈zcR i l,p.r<55296∨(57343<p.r∧p.r≤1114111):=by
  intro n
  induction n with
  | zero =>
   intro l i h p hp
   obtain rfl:l=[]:=List.length_eq_zero_iff.1 (by omega)
   rw [zck] at hp; cases hp
  | succ n ih =>
   intro l i h p hp
   by_cases hl:l=[]
   ·subst hl; rw [zck] at hp; cases hp
   ·have hw:=zge l
    have hle:=ziX l hl
    rw [zcM i l hl] at hp
    rcases List.mem_cons.1 hp with rfl | hp
    ·exact zjU l
    ·exact ih _ _ (by rw [List.length_drop]; omega) p hp
 exact key _ l 0 (Nat.le_refl _)
theorem zmw (s:ByteArray) (h8:s.size≤8):∃ r,zbV s=some r∧decide (0≤r)=zjX s:=by
 unfold zbV
 obtain ⟨x,hx,h⟩:=zkP s (some (-1)) zcN 0 (by
  have:=zh9 s.data.toList.length s.data.toList 0 (Nat.le_refl _)
  have h2:s.data.toList.length=s.size:=by rw [Array.length_toList]; rfl
  have h3:(pcs s.data.toList).length≤s.data.toList.length:=this
  have h4:(9:Nat)<zcN:=by unfold zcN; omega
  omega) (fun p hp=>zmP p.r (zlm _ p hp))
 have hany:=zia s.data.toList.length s.data.toList 0 (Nat.le_refl _)
 rw [List.drop_zero] at h
 have e:∀ r,x=some r→zav (decide ((⟨#[13,10]⟩:ByteArray)=(⟨#[]⟩:ByteArray))) (some (-1)) (zav ((((⟨#[13,10]⟩:ByteArray).size:Int):Int)==1) (zbp (fun (j1:Int→Option Int)=>zar (zhR (⟨#[13,10]⟩:ByteArray) 0) fun (c1:Int)=>grd (I32 c1)<|zav (decide ((128:Int)≤c1)) (j1 65533) (j1 c1)) (fun (r1:Int)=>none)) (zbp (fun (j2:Option Int)=>zav (decide (8<((s.size:Int):Int))) (none) (j2)) (zbp (fun (j3:Option Int)=>za9 (fun _=>none) (za2 s j3) zcN 0) (some (-1)))))=some r:=fun r hr =>
  ze2 (by decide) (ze2 (by decide) (zlq (ze2 (decide_eq_false (by omega)) (zlq (hx.trans hr)))))
 rcases h with ⟨h1,k,rfl⟩ | ⟨h1,rfl⟩
 ·exact ⟨(k:Int),e _ rfl,by rw [decide_eq_true (by omega)]; exact (hany.symm.trans h1).symm⟩
 ·exact ⟨-1,e _ rfl,by rw [decide_eq_false (by omega)]; exact (hany.symm.trans h1).symm⟩
def iaV (s:ByteArray):Int:=if 8<s.size then Lib.indexAny s.data.toList [13,10] else (zbV s).getD 0
theorem znH (s:ByteArray) (h:s.size≤4294967280):FnP Tryz.prog 134 [.string s,.string (⟨#[13,10]⟩:ByteArray)] (.int .i64 (iaV s)):=by
 unfold iaV
 split
 ·rename_i h8; exact zl8 s h8 (by omega)
 ·rename_i h8
  obtain ⟨r,hr,_⟩:=zmw s (by omega)
  rw [hr]
  exact zeY hr
theorem znI (s:ByteArray):decide (0≤iaV s)=zjX s:=by
 unfold iaV
 split
 ·rename_i h8
  unfold zjX
  generalize s.data.toList=l
  induction l with
  | nil=>rfl
  | cons b l ih =>
   have hge:=Lib.indexAny_ge [13,10] l
   have hc:([13,10]:List UInt8).contains b=isE b:=by unfold isE; simp only [List.contains_cons,List.contains_nil,Bool.or_false]
   rw [Lib.indexAny,hc,List.any_cons]
   cases hb:isE b with
   | true=>rfl
   | false =>
    rw [Bool.false_or,← ih,if_neg (by decide)]
    split
    ·rename_i h2; rw [beq_iff_eq.1 h2]
    ·rename_i h2
     have h3:Lib.indexAny l [13,10]≠-1:=fun e=>h2 (by rw [e]; rfl)
     rw [decide_eq_true (by omega),decide_eq_true (by omega)]
 ·rename_i h8
  obtain ⟨r,hr,h1⟩:=zmw s (by omega)
  rw [hr]; exact h1
end Go.Proofs.YtbempdelckaccaaGreatDoor

namespace Go.Proofs.YtbempdelckaccaaGreatDoor
open Go.RowKit Go.Lib
set_option linter.unusedVariables false
set_option linter.unusedSimpArgs false
def zbF (s1:ByteArray):Option Bool :=
grd (s1.size≤4294967280) <|
some (decide ((0:Int)≤(iaV s1)))
theorem zex {s1:ByteArray} {r:Bool} (h:zbF s1=some r):FnP Tryz.prog 114 [.string s1,.string (⟨#[13,10]⟩:ByteArray)] (.bool r):=by
 unfold zbF at h
 refine FnP.intro Tryz.func114 rfl Tryz.ntmps114 (by simp) ?_
 intro w0 K
 refine zyG (zyR 1 rfl (zyH (zyR 2 rfl ?_)))
 obtain ⟨hg1,h⟩:=zbs h
 refine za5 (v:=zI (iaV s1)) (vs:=[.string s1,.string (⟨#[13,10]⟩:ByteArray)]) rfl dc rfl rfl rfl zn0 (znH s1 hg1) (zaO rfl zep (zyR 1 rfl (zyN (zau ?_))))
 cases h
 exact zaC (rs:=[.tmp 4]) () (.inl rfl) Tryz.results114 (.cons (.tmp rfl) .nil) rfl Splits.nil
def zgZ (s1:ByteArray) (most1:Int):Option Bool :=
zav (decide (((s1.size:Int):Int)≤most1)) (
zar (zbF s1) fun (r1:Bool) =>
some (!r1)
) (
some false
)
theorem zkb {s1:ByteArray} {most1:Int} {r:Bool} (h:zgZ s1 most1=some r):FnP Tryz.prog 84 [.string s1,zI most1] (.bool r):=by
 unfold zgZ at h
 refine FnP.intro Tryz.func84 rfl Tryz.ntmps84 (by simp) ?_
 intro w0 K
 refine zyG (zyR 1 rfl (zyH (zyR 1 rfl (zbG rfl dc rfl Tryz.underlying9 (zyR 1 rfl (zaO rfl zdn (zyR 1 rfl ?_)))))))
 refine zyS (s:=9) rfl h (fun h => ?_) (fun h => ?_)
 ·
  refine zyR 1 rfl ?_
  obtain ⟨r1,hq1,h⟩:=zbl h
  refine za5 (v:=.bool r1) (vs:=[.string s1,.string (⟨#[13,10]⟩:ByteArray)]) rfl dc rfl rfl rfl zn4 (zex hq1) (zcZ rfl dc rfl zbZ (zyR 2 rfl (zyN (zau ?_))))
  cases h
  exact zaC (rs:=[.tmp 4]) () (.inl rfl) Tryz.results84 (.cons (.tmp rfl) .nil) rfl Splits.nil
 refine zyR 5 rfl (zyN (zau ?_))
 cases h
 exact zaC (rs:=[.tmp 4]) () (.inl rfl) Tryz.results84 (.cons (.tmp rfl) .nil) rfl Splits.nil
end Go.Proofs.YtbempdelckaccaaGreatDoor

namespace Go.Proofs.YtbempdelckaccaaGreatDoor
open Go.RowKit Go.Lib Go.Shelf
set_option linter.unusedVariables false
set_option linter.unusedSimpArgs false
def zng (s:ByteArray) (n:Int):Bool:=decide ((s.size:Int)≤n)&&!zjX s
theorem zk2 (s:ByteArray) (h:s.size≤4294967280):zbF s=some (zjX s):=by
 unfold zbF
 exact zoj h (congrArg some (znI s))
theorem znF (s:ByteArray) (n:Int) (h:n≤4294967280):FnP Tryz.prog 84 [.string s,.int .i64 n] (.bool (zng s n)):=by
 refine zkb ?_
 unfold zgZ zng
 cases hc:decide ((s.size:Int)≤n) with
 | true=>exact zfm rfl (ziy (zk2 s (by have:=of_decide_eq_true hc; omega)) rfl)
 | false=>exact ze2 rfl rfl
end Go.Proofs.YtbempdelckaccaaGreatDoor

namespace Go.Proofs.YtbempdelckaccaaGreatDoor
open Go.RowKit Go.Lib
set_option linter.unusedVariables false
set_option linter.unusedSimpArgs false
def zcF (p1:Gpoem_Poem) (q1:Gpoem_Poem) (j1:Option Bool) (ag1:Int→Option Bool) (x3:Int):Option Bool :=
zav (decide ((x3:Int)<(p1.told_lines.length:Int))) (
zar (zc9 p1.told_lines x3) fun (q2:Gapi_Verse) =>
zar (zc9 q1.told_lines x3) fun (q3:Gapi_Verse) =>
zav (!decide (q2.Text=q3.Text)) (
some false
) (
zav ((q2.Indent:Int) != q3.Indent) (
some false
) (
zav ((q2.Stanza:Int) != q3.Stanza) (
some false
) (
grd (I64 (x3+1)) <|
ag1 (x3+1)
)
)
)
) (
j1
)
def zeh (p1:Gpoem_Poem) (q1:Gpoem_Poem):Option Bool :=
zav (!decide (p1.told_title=q1.told_title)) (
some false
) (
zav (((p1.told_lines.length:Int):Int) != (q1.told_lines.length:Int)) (
some false
) (
zbp (fun (j1:Option Bool) =>
za9 (fun _=>none) (zcF p1 q1 j1) zcN 0
) (
some true
)
)
)
theorem zg0 {bp1:Nat} {p1:Gpoem_Poem} {p1_h0 p1_h1:Hd} {bq1:Nat} {q1:Gpoem_Poem} {q1_h0 q1_h1:Hd} {r:Bool} (h:zeh p1 q1=some r):FnR Tryz.prog 26 [zP bp1,zP bq1] [cells bp1 [.string p1.told_title,p1_h0.v,p1_h1.v,.string p1.source] 106,zv6 p1_h0.v p1.told_lines,zv7 p1_h1.v p1.told_stanzas,cells bq1 [.string q1.told_title,q1_h0.v,q1_h1.v,.string q1.source] 106,zv6 q1_h0.v q1.told_lines,zv7 q1_h1.v q1.told_stanzas] [] (fun _:Unit=>(.bool r)) (fun _=>[]):=by
 unfold zeh at h
 refine FnR.intro Tryz.func26 rfl Tryz.ntmps26 (by simp) ?_
 intro w0 K hrd
 refine zyG (zyR 1 rfl (zyN (zay (zay ?_))))
 refine zev (b:=!decide (p1.told_title=q1.told_title)) (fun hb1 => ?_) (fun hb1 => ?_)
 ·
  have h:=zfI hb1 h
  refine zbj 32 [(0,8,zP bp1),(1,9,.bool false),(2,10,.bool false),(3,11,zP bq1),(4,12,.bool false),(5,13,.bool false),(6,14,.bool false),(7,15,zP bp1),(8,16,zP bp1),(9,17,zP bp1),(10,18,zP bp1),(11,19,.string p1.told_title),(12,20,zP bq1),(13,21,zP bq1),(14,22,zP bq1),(15,23,zP bq1),(16,24,.string q1.told_title),(17,25,.bool true),(18,26,.bool true),(19,27,.bool true),(20,28,undef),(21,29,undef),(22,30,undef),(23,31,undef),(24,32,undef),(25,33,undef),(26,34,undef),(27,35,undef),(28,36,undef),(29,37,undef),(30,38,undef),(31,39,undef)] mixed kr kr dc (by rfl) kr kr (zyP 1 0 rfl (zad ?_ (zyP 2 2 rfl (zad ?_ (zyP 3 5 rfl (zad ?_ (zad ?_ (zad ?_ (zad ?_ (zyP 1 12 rfl (zad ?_ (zad ?_ (zad ?_ (zad ?_ (zad ?_ (zyP 14 18 rfl DrawPre.nil)))))))))))))))) ?_
  · exact fun D n d c u i=>zbJ rfl dc (zaa (m:=0) u rfl (d 0 dc)) rfl (zbB Tryz.underlying58) (zaf 1 u i rfl)
  · exact fun D n d c u i=>zbJ (zdC rfl (zaa (m:=2) u rfl (d 2 dc))) dc (zaa (m:=3) u rfl (d 3 dc)) rfl (zbB Tryz.underlying58) (zaf 4 u i rfl)
  · exact fun D n d c u i=>zap (zdC rfl (zaa (m:=6) u rfl (d 6 dc))) dc (zaa (m:=7) u rfl (d 7 dc)) (zaf 8 u i rfl)
  · exact fun D n d c u i=>zac zcb (zdC rfl (zaa (m:=6) u rfl (d 6 dc))) dc (zaa (m:=8) u rfl (d 8 dc)) (show _=0 from rfl) (zaf 9 u i rfl)
  · exact fun D n d c u i=>zac zgE (zdC rfl (zaa (m:=6) u rfl (d 6 dc))) dc (zaa (m:=9) u rfl (d 9 dc)) (show _=0 from rfl) (zaf 10 u i rfl)
  · exact fun D n d c u i=>zaS (i:=0) hrd rfl ziz (zdC rfl (zaa (m:=6) u rfl (d 6 dc))) dc (zaa (m:=10) u rfl (d 10 dc)) rfl (zaf 11 u i rfl)
  · exact fun D n d c u i=>zap (zdC rfl (zaa (m:=6) u rfl (d 6 dc))) dc (zaa (m:=12) u rfl (d 12 dc)) (zaf 13 u i rfl)
  · exact fun D n d c u i=>zac zcb (zdC rfl (zaa (m:=6) u rfl (d 6 dc))) dc (zaa (m:=13) u rfl (d 13 dc)) (show _=0 from rfl) (zaf 14 u i rfl)
  · exact fun D n d c u i=>zac zgE (zdC rfl (zaa (m:=6) u rfl (d 6 dc))) dc (zaa (m:=14) u rfl (d 14 dc)) (show _=0 from rfl) (zaf 15 u i rfl)
  · exact fun D n d c u i=>zaS (i:=3) hrd rfl ziz (zdC rfl (zaa (m:=6) u rfl (d 6 dc))) dc (zaa (m:=15) u rfl (d 15 dc)) rfl (zaf 16 u i rfl)
  · exact fun D n d c u i=>zbJ (zdC rfl (zaa (m:=6) u rfl (d 6 dc))) dc (zaa (m:=11) u rfl (d 11 dc)) (zaa (m:=16) u rfl (d 16 dc)) zgP (zeW (show Value.bool (!decide (p1.told_title=q1.told_title))=Value.bool true from congrArg Value.bool hb1) (zaf 17 u i rfl))
  refine zyR 2 rfl (zyN (za0 rfl (zyG (zyR 1 rfl (zyN (zau (zah ?_)))))))
  cases h
  exact zaC (rs:=[.tmp 4]) () (.inl rfl) Tryz.results26 (.cons (.tmp rfl) .nil) rfl Splits.nil
 have h:=zfJ hb1 h
 refine zbj 32 [(0,8,zP bp1),(1,9,.bool false),(2,10,.bool false),(3,11,zP bq1),(4,12,.bool false),(5,13,.bool false),(6,14,.bool false),(7,15,zP bp1),(8,16,zP bp1),(9,17,zP bp1),(10,18,zP bp1),(11,19,.string p1.told_title),(12,20,zP bq1),(13,21,zP bq1),(14,22,zP bq1),(15,23,zP bq1),(16,24,.string q1.told_title),(17,25,.bool false),(18,26,.bool false),(19,27,.bool false),(20,28,zP bp1),(21,29,zP bp1),(22,30,zP bp1),(23,31,.pointer (some ⟨bp1,1,none⟩)),(24,32,p1_h0.v),(25,33,zI (p1.told_lines.length:Int)),(26,34,zP bq1),(27,35,zP bq1),(28,36,zP bq1),(29,37,.pointer (some ⟨bq1,1,none⟩)),(30,38,q1_h0.v),(31,39,zI (q1.told_lines.length:Int))] mixed kr kr dc (by rfl) kr kr (zyP 1 0 rfl (zad ?_ (zyP 2 2 rfl (zad ?_ (zyP 3 5 rfl (zad ?_ (zad ?_ (zad ?_ (zad ?_ (zyP 1 12 rfl (zad ?_ (zad ?_ (zad ?_ (zad ?_ (zad ?_ (zyP 3 18 rfl (zad ?_ (zad ?_ (zad ?_ (zad ?_ (zad ?_ (zyP 1 26 rfl (zad ?_ (zad ?_ (zad ?_ (zad ?_ (zad ?_ DrawPre.nil))))))))))))))))))))))))))) ?_
 · exact fun D n d c u i=>zbJ rfl dc (zaa (m:=0) u rfl (d 0 dc)) rfl (zbB Tryz.underlying58) (zaf 1 u i rfl)
 · exact fun D n d c u i=>zbJ (zdC rfl (zaa (m:=2) u rfl (d 2 dc))) dc (zaa (m:=3) u rfl (d 3 dc)) rfl (zbB Tryz.underlying58) (zaf 4 u i rfl)
 · exact fun D n d c u i=>zap (zdC rfl (zaa (m:=6) u rfl (d 6 dc))) dc (zaa (m:=7) u rfl (d 7 dc)) (zaf 8 u i rfl)
 · exact fun D n d c u i=>zac zcb (zdC rfl (zaa (m:=6) u rfl (d 6 dc))) dc (zaa (m:=8) u rfl (d 8 dc)) (show _=0 from rfl) (zaf 9 u i rfl)
 · exact fun D n d c u i=>zac zgE (zdC rfl (zaa (m:=6) u rfl (d 6 dc))) dc (zaa (m:=9) u rfl (d 9 dc)) (show _=0 from rfl) (zaf 10 u i rfl)
 · exact fun D n d c u i=>zaS (i:=0) hrd rfl ziz (zdC rfl (zaa (m:=6) u rfl (d 6 dc))) dc (zaa (m:=10) u rfl (d 10 dc)) rfl (zaf 11 u i rfl)
 · exact fun D n d c u i=>zap (zdC rfl (zaa (m:=6) u rfl (d 6 dc))) dc (zaa (m:=12) u rfl (d 12 dc)) (zaf 13 u i rfl)
 · exact fun D n d c u i=>zac zcb (zdC rfl (zaa (m:=6) u rfl (d 6 dc))) dc (zaa (m:=13) u rfl (d 13 dc)) (show _=0 from rfl) (zaf 14 u i rfl)
 · exact fun D n d c u i=>zac zgE (zdC rfl (zaa (m:=6) u rfl (d 6 dc))) dc (zaa (m:=14) u rfl (d 14 dc)) (show _=0 from rfl) (zaf 15 u i rfl)
 · exact fun D n d c u i=>zaS (i:=3) hrd rfl ziz (zdC rfl (zaa (m:=6) u rfl (d 6 dc))) dc (zaa (m:=15) u rfl (d 15 dc)) rfl (zaf 16 u i rfl)
 · exact fun D n d c u i=>zbJ (zdC rfl (zaa (m:=6) u rfl (d 6 dc))) dc (zaa (m:=11) u rfl (d 11 dc)) (zaa (m:=16) u rfl (d 16 dc)) zgP (zeW (show Value.bool (!decide (p1.told_title=q1.told_title))=Value.bool false from congrArg Value.bool hb1) (zaf 17 u i rfl))
 · exact fun D n d c u i=>zap (zdC rfl (zaa (m:=19) u rfl (d 19 dc))) dc (zaa (m:=20) u rfl (d 20 dc)) (zaf 21 u i rfl)
 · exact fun D n d c u i=>zac zcb (zdC rfl (zaa (m:=19) u rfl (d 19 dc))) dc (zaa (m:=21) u rfl (d 21 dc)) (show _=0 from rfl) (zaf 22 u i rfl)
 · exact fun D n d c u i=>zac zd4 (zdC rfl (zaa (m:=19) u rfl (d 19 dc))) dc (zaa (m:=22) u rfl (d 22 dc)) (show _=1 from rfl) (zaf 23 u i rfl)
 · exact fun D n d c u i=>zaS (i:=0) hrd rfl zje (zdC rfl (zaa (m:=19) u rfl (d 19 dc))) dc (zaa (m:=23) u rfl (d 23 dc)) rfl (zaf 24 u i rfl)
 · exact fun D n d c u i=>zcU (hrd.vw (i:=1) rfl) (zdC rfl (zaa (m:=19) u rfl (d 19 dc))) dc (zaa (m:=24) u rfl (d 24 dc)) Tryz.underlying26 (zaf 25 u i rfl)
 · exact fun D n d c u i=>zap (zdC rfl (zaa (m:=19) u rfl (d 19 dc))) dc (zaa (m:=26) u rfl (d 26 dc)) (zaf 27 u i rfl)
 · exact fun D n d c u i=>zac zcb (zdC rfl (zaa (m:=19) u rfl (d 19 dc))) dc (zaa (m:=27) u rfl (d 27 dc)) (show _=0 from rfl) (zaf 28 u i rfl)
 · exact fun D n d c u i=>zac zd4 (zdC rfl (zaa (m:=19) u rfl (d 19 dc))) dc (zaa (m:=28) u rfl (d 28 dc)) (show _=1 from rfl) (zaf 29 u i rfl)
 · exact fun D n d c u i=>zaS (i:=3) hrd rfl zje (zdC rfl (zaa (m:=19) u rfl (d 19 dc))) dc (zaa (m:=29) u rfl (d 29 dc)) rfl (zaf 30 u i rfl)
 · exact fun D n d c u i=>zcU (hrd.vw (i:=4) rfl) (zdC rfl (zaa (m:=19) u rfl (d 19 dc))) dc (zaa (m:=30) u rfl (d 30 dc)) Tryz.underlying26 (zaf 31 u i rfl)
 refine zaO rfl zbq (zyR 1 rfl (zyN ?_))
 refine zyB rfl h (fun h => ?_) (fun h => ?_)
 ·
  refine zyG (zyR 1 rfl (zyN (zau (zah ?_))))
  cases h
  exact zaC (rs:=[.tmp 4]) () (.inl rfl) Tryz.results26 (.cons (.tmp rfl) .nil) rfl Splits.nil
 refine zat (zaE ?_)
 obtain ⟨j1,hj1,h⟩:=zbw h
 refine zaU (β:=Unit) 0 rfl (fun b=>j1=some r) (fun b=>[]) (fun b=>[]) (fun b=>[]) (fun cut => ?_) ?_
 ·
  refine cut (zyG (zyR 1 rfl (zap rfl dc rfl (zac zcb rfl dc rfl (show _=0 from rfl) (zac zd4 rfl dc rfl (show _=1 from rfl) (zaS (i:=0) hrd rfl zje rfl dc rfl rfl (zcU (hrd.vw (i:=1) rfl) rfl dc rfl Tryz.underlying26 (zyR 1 rfl (zyN (zaB ?_))))))))))
  refine zbm (β:=Nat×Int) (fun b=>za9 (fun _=>none) (zcF p1 q1 j1) b.1 b.2=some r) (fun b=>[]) (fun b=>[(1,zP bq1),(46,p1_h0.v),(47,zI (p1.told_lines.length:Int)),(48,zI b.2)]) (fun b=>[]) (fun b=>b.1) (zcN,0) h rfl (za7 rfl) Splits.nil ?_
  rintro ⟨n1,x3⟩ h
  cases n1 with
  | zero=>exact zcS h
  | succ n1 =>
   obtain ⟨ag1,hag1⟩:∃ ag,ag=za9 (fun _=>none) (zcF p1 q1 j1) n1:=⟨_,rfl⟩
   have h:zcF p1 q1 j1 ag1 x3=some r:=by rw [hag1]; exact h
   unfold zcF at h
   refine zyG (zaO rfl zbv (zyN (zay ?_)))
   refine zyB rfl h (fun h => ?_) (fun h => ?_)
   ·
    refine zat (zaE (zay (zaB (zyG (zyR 1 rfl ?_)))))
    obtain ⟨q2,hq1,h⟩:=zbl h
    refine za3 (hrd.vw (i:=1) rfl) hq1 Tryz.underlying26 zj7 rfl dc rfl rfl rfl (zcA (m:=0+(x3:Int).toNat) (j:=0) (i:=1) (q:=q2) (cs:=(zr3 q2)) hrd rfl zl4 zc2 rfl dc rfl (Vw.get (hrd.vw (i:=1) rfl) hq1) rfl rfl rfl ?_)
    refine zbb zlV rfl dc (fun b1 => ?_)
    refine zyR 1 rfl (zaR (k:=0) (vs:=(zr3 q2)) (l':=(zr3 q2)) zj7 rfl rfl rfl rfl rfl (show _≤_ by simp) rfl rfl ?_)
    refine zyH (zyR 1 rfl (zap rfl dc rfl (zac zcb rfl dc rfl (show _=0 from rfl) (zac zd4 rfl dc rfl (show _=1 from rfl) (zaS (i:=3) hrd rfl zje rfl dc rfl rfl (zyR 1 rfl ?_))))))
    obtain ⟨q3,hq2,h⟩:=zbl h
    refine za3 (hrd.vw (i:=4) rfl) hq2 Tryz.underlying26 zj7 rfl dc rfl rfl rfl (zcA (m:=0+(x3:Int).toNat) (j:=0) (i:=4) (q:=q3) (cs:=(zr3 q3)) hrd rfl zl4 zc2 rfl dc rfl (Vw.get (hrd.vw (i:=4) rfl) hq2) rfl rfl rfl ?_)
    refine zbb zlV rfl dc (fun b2 => ?_)
    refine zaR (k:=1) (vs:=(zr3 q3)) (l':=(zr3 q3)) zj7 rfl rfl rfl rfl rfl (show _≤_ by simp) rfl rfl ?_
    refine zyH (zac zkh rfl dc rfl (show _=0 from rfl) (zan (k:=0) ziz rfl dc rfl rfl rfl (zac zkh rfl dc rfl (show _=0 from rfl) (zan (k:=1) ziz rfl dc rfl rfl rfl (zaO rfl zgP (zyR 1 rfl ?_))))))
    refine zyS (s:=66) rfl h (fun h => ?_) (fun h => ?_)
    ·
     refine zyR 13 rfl (zaV ?_)
     refine zaE (za0 rfl (zyG (zyR 1 rfl (zyN (zau (zaj (zah (zah (zaj (zah ?_))))))))))
     cases h
     exact zaC (rs:=[.tmp 4]) () (.inl rfl) Tryz.results26 (.cons (.tmp rfl) .nil) rfl Splits.nil
    refine zac zjk rfl dc rfl (show _=1 from rfl) (zan (k:=0) zbC rfl dc rfl rfl rfl (zac zjk rfl dc rfl (show _=1 from rfl) (zan (k:=1) zbC rfl dc rfl rfl rfl (zaO rfl zbq (zyR 2 rfl ?_)))))
    refine zyS (s:=73) rfl h (fun h => ?_) (fun h => ?_)
    ·
     refine zyR 6 rfl (zyN (za0 rfl (zyG (zyR 1 rfl (zyN ?_)))))
     refine zau (zaj (zah (zah (zaj (zah ?_)))))
     cases h
     exact zaC (rs:=[.tmp 4]) () (.inl rfl) Tryz.results26 (.cons (.tmp rfl) .nil) rfl Splits.nil
    refine zac zg6 rfl dc rfl (show _=2 from rfl) (zan (k:=0) zbC rfl dc rfl rfl rfl (zac zg6 rfl dc rfl (show _=2 from rfl) (zan (k:=1) zbC rfl dc rfl rfl rfl (zaO rfl zbq (zyR 1 rfl (zyN ?_))))))
    refine zyB rfl h (fun h => ?_) (fun h => ?_)
    ·
     refine zyG (zyR 1 rfl (zyN (zau (zaj (zah (zah (zaj (zah ?_))))))))
     cases h
     exact zaC (rs:=[.tmp 4]) () (.inl rfl) Tryz.results26 (.cons (.tmp rfl) .nil) rfl Splits.nil
    refine zat (zai (zaE (zaA ?_)))
    obtain ⟨hg1,h⟩:=zbs h
    refine zaO rfl (zaT (r:=x3+1) (IntWalk.i64_in _ hg1)) (zyR 1 rfl (zaV ?_))
    subst hag1
    exact zaZ (n1,x3+1) h (Nat.lt_succ_self _) rfl (za7 rfl) Splits.nil
   refine za6 (zao (zao (zaw ?_)))
   exact zaq () h rfl (zfM) Splits.nil
 rintro _ h
 rw [hj1] at h
 refine zyG (zyR 1 rfl (zyN (zau ?_)))
 cases h
 exact zaC (rs:=[.tmp 4]) () (.inl rfl) Tryz.results26 (.cons (.tmp rfl) .nil) rfl Splits.nil
end Go.Proofs.YtbempdelckaccaaGreatDoor

namespace Go.Proofs.YtbempdelckaccaaGreatDoor
open Go.RowKit Go.Lib
set_option linter.unusedVariables false
set_option linter.unusedSimpArgs false
def zeb (s1:ByteArray) (j1:(List Gapi_Place)→(List Gplace_ended)→Int→Int→Int→Int→Int→Int→Int→Option ((Option Gplace_Map)×Int)) (ag1:(List Gapi_Place)→(List Gplace_ended)→Int→Int→Int→Int→Int→Int→Int→Nat→Option ((Option Gplace_Map)×Int)) (m10:List Gapi_Place) (m11:List Gplace_ended) (p16:Int) (p17:Int) (p18:Int) (p19:Int) (p20:Int) (line7:Int) (line8:Int) (m12:Nat):Option ((Option Gplace_Map)×Int) :=
zav (decide (m12<(pcs s1.data.toList).length)) (
zar ((pcs s1.data.toList)[m12]?) fun (p21:Pc) =>
zbp (fun (j2:Int→Option ((Option Gplace_Map)×Int)) =>
grd (m10.length+1≤2147483648) <|
grd (I64 (p17+1)) <|
grd (I64 (p18+1)) <|
grd (I64 (p20+1)) <|
zav (decide ((65536:Int)≤(p21.r:Int))) (
grd (I64 ((p18+1)+1)) <|
j2 ((p18+1)+1)
) (
j2 (p18+1)
)
) (fun (p22:Int) =>
zbp (fun (j3:Int→Option ((Option Gplace_Map)×Int)) =>
zav (((p21.r:Int):Int)==13) (
grd (I64 ((p21.i:Int)+1)) <|
zav (decide ((((p21.i:Int)+1):Int)<(s1.size:Int))) (
grd (I64 ((p21.i:Int)+1)) <|
zar (zhR s1 ((p21.i:Int)+1)) fun (c1:Int) =>
zav ((c1:Int)==10) (
ag1 (m10++[(⟨(p21.i:Int),p17,p18,p19,p20⟩:Gapi_Place)]) m11 (p21.i:Int) (p17+1) p22 p19 (p20+1) line7 line8 (m12+1)
) (
zav (((p21.r:Int):Int)==10) (
zav (decide ((0:Int)<(p21.i:Int))) (
grd (I64 ((p21.i:Int) - 1)) <|
zar (zhR s1 ((p21.i:Int) - 1)) fun (c2:Int) =>
zav ((c2:Int)==13) (
j3 2
) (
zav (((p21.r:Int):Int) != 13) (
zav (((p21.r:Int):Int) != 10) (
ag1 (m10++[(⟨(p21.i:Int),p17,p18,p19,p20⟩:Gapi_Place)]) m11 (p21.i:Int) (p17+1) p22 p19 (p20+1) line7 line8 (m12+1)
) (
j3 1
)
) (
j3 1
)
)
) (
zav (((p21.r:Int):Int) != 13) (
zav (((p21.r:Int):Int) != 10) (
ag1 (m10++[(⟨(p21.i:Int),p17,p18,p19,p20⟩:Gapi_Place)]) m11 (p21.i:Int) (p17+1) p22 p19 (p20+1) line7 line8 (m12+1)
) (
j3 1
)
) (
j3 1
)
)
) (
zav (((p21.r:Int):Int) != 13) (
zav (((p21.r:Int):Int) != 10) (
ag1 (m10++[(⟨(p21.i:Int),p17,p18,p19,p20⟩:Gapi_Place)]) m11 (p21.i:Int) (p17+1) p22 p19 (p20+1) line7 line8 (m12+1)
) (
j3 1
)
) (
j3 1
)
)
)
) (
zav (((p21.r:Int):Int)==10) (
zav (decide ((0:Int)<(p21.i:Int))) (
grd (I64 ((p21.i:Int) - 1)) <|
zar (zhR s1 ((p21.i:Int) - 1)) fun (c3:Int) =>
zav ((c3:Int)==13) (
j3 2
) (
zav (((p21.r:Int):Int) != 13) (
zav (((p21.r:Int):Int) != 10) (
ag1 (m10++[(⟨(p21.i:Int),p17,p18,p19,p20⟩:Gapi_Place)]) m11 (p21.i:Int) (p17+1) p22 p19 (p20+1) line7 line8 (m12+1)
) (
j3 1
)
) (
j3 1
)
)
) (
zav (((p21.r:Int):Int) != 13) (
zav (((p21.r:Int):Int) != 10) (
ag1 (m10++[(⟨(p21.i:Int),p17,p18,p19,p20⟩:Gapi_Place)]) m11 (p21.i:Int) (p17+1) p22 p19 (p20+1) line7 line8 (m12+1)
) (
j3 1
)
) (
j3 1
)
)
) (
zav (((p21.r:Int):Int) != 13) (
zav (((p21.r:Int):Int) != 10) (
ag1 (m10++[(⟨(p21.i:Int),p17,p18,p19,p20⟩:Gapi_Place)]) m11 (p21.i:Int) (p17+1) p22 p19 (p20+1) line7 line8 (m12+1)
) (
j3 1
)
) (
j3 1
)
)
)
) (
zav (((p21.r:Int):Int)==10) (
zav (decide ((0:Int)<(p21.i:Int))) (
grd (I64 ((p21.i:Int) - 1)) <|
zar (zhR s1 ((p21.i:Int) - 1)) fun (c4:Int) =>
zav ((c4:Int)==13) (
j3 2
) (
zav (((p21.r:Int):Int) != 13) (
zav (((p21.r:Int):Int) != 10) (
ag1 (m10++[(⟨(p21.i:Int),p17,p18,p19,p20⟩:Gapi_Place)]) m11 (p21.i:Int) (p17+1) p22 p19 (p20+1) line7 line8 (m12+1)
) (
j3 1
)
) (
j3 1
)
)
) (
zav (((p21.r:Int):Int) != 13) (
zav (((p21.r:Int):Int) != 10) (
ag1 (m10++[(⟨(p21.i:Int),p17,p18,p19,p20⟩:Gapi_Place)]) m11 (p21.i:Int) (p17+1) p22 p19 (p20+1) line7 line8 (m12+1)
) (
j3 1
)
) (
j3 1
)
)
) (
zav (((p21.r:Int):Int) != 13) (
zav (((p21.r:Int):Int) != 10) (
ag1 (m10++[(⟨(p21.i:Int),p17,p18,p19,p20⟩:Gapi_Place)]) m11 (p21.i:Int) (p17+1) p22 p19 (p20+1) line7 line8 (m12+1)
) (
j3 1
)
) (
j3 1
)
)
)
) (fun (width1:Int) =>
grd (I64 ((p21.i:Int)+1)) <|
grd (I64 (((p21.i:Int)+1) - width1)) <|
grd (m11.length+1≤2147483648) <|
grd (I64 ((p21.i:Int)+1)) <|
grd (I64 (p19+1)) <|
ag1 (m10++[(⟨(p21.i:Int),p17,p18,p19,p20⟩:Gapi_Place)]) (m11++[(⟨line7,((p21.i:Int)+1) - width1,width1,line8⟩:Gplace_ended)]) (p21.i:Int) (p17+1) p22 (p19+1) 0 ((p21.i:Int)+1) ((m10++[(⟨(p21.i:Int),p17,p18,p19,p20⟩:Gapi_Place)]).length:Int) (m12+1)
)
)
) (
j1 m10 m11 p16 p17 p18 p19 p20 line7 line8
)
def zf5 (s1:ByteArray):Option ((Option Gplace_Map)×Int) :=
zav (decide ((65536:Int)<(s1.size:Int))) (
some (none,3)
) (
zbp (fun (j1:(List Gapi_Place)→(List Gplace_ended)→Int→Int→Int→Int→Int→Int→Int→Option ((Option Gplace_Map)×Int)) =>
za9 (fun _ _ _ _ _ _ _ _ _ _=>none) (zeb s1 j1) zcN ([]:List Gapi_Place) ([]:List Gplace_ended) 0 0 0 0 0 0 0 0
) (fun (m1:List Gapi_Place) (m2:List Gplace_ended) (p1:Int) (p2:Int) (p3:Int) (p4:Int) (p5:Int) (line1:Int) (line2:Int) =>
grd (m1.length+1≤2147483648) <|
grd (m2.length+1≤2147483648) <|
some ((some (⟨s1,m1++[(⟨(s1.size:Int),p2,p3,p4,p5⟩:Gapi_Place)],m2++[(⟨line1,(s1.size:Int),0,line2⟩:Gplace_ended)]⟩:Gplace_Map)),0)
)
)
theorem zjI {s1:ByteArray} {r:((Option Gplace_Map)×Int)} (h:zf5 s1=some r):Fn Tryz.prog 45 [.string s1] [] (fun v0:Value=>.tuple #[v0,zI r.2]) (fun v0=>[zfv zda zc8 153 v0 r.1]):=by
 unfold zf5 at h
 refine Fn.intro Tryz.func45 rfl Tryz.ntmps45 (by simp) ?_
 intro w0 K
 refine zyG (zyR 2 rfl (zyN ?_))
 refine zeM (β:=Unit) (l:=0) (fun _=>False) (fun _=>[]) (fun _=>[]) rfl ?_ ?_
 ·
  refine zay (zyG (zyR 1 rfl (zbG rfl dc rfl Tryz.underlying9 (zaO rfl zcY (zyN ?_)))))
  refine zyB rfl h (fun h => ?_) (fun h => ?_)
  ·
   refine zyG (zyR 2 rfl (zyN (zau (zah (zbz (by simp) (zca zda zc8 153 ?_))))))
   cases h
   exact zaC (rs:=[.tmp 2,.tmp 3]) (.pointer none) (.inl rfl) Tryz.results45 (.cons (.tmp rfl) (.cons (.tmp rfl) .nil)) rfl (zae [0] kr rfl)
  refine zat (zaE ?_)
  obtain ⟨j1,hj1,h⟩:=zbw h
  refine zaU (β:=(List Gapi_Place)×(List Gplace_ended)×Int×Int×Int×Int×Int×Int×Int×Nat×Hd×Hd×Nat×Nat) 4 rfl (fun b=>j1 b.1 b.2.1 b.2.2.1 b.2.2.2.1 b.2.2.2.2.1 b.2.2.2.2.2.1 b.2.2.2.2.2.2.1 b.2.2.2.2.2.2.2.1 b.2.2.2.2.2.2.2.2.1=some r) (fun b=>[]) (fun b=>[(0,.string s1),(4,zP b.2.2.2.2.2.2.2.2.2.1),(5,zP b.2.2.2.2.2.2.2.2.2.2.2.2.1),(6,zP b.2.2.2.2.2.2.2.2.2.2.2.2.2)]) (fun b=>[cells b.2.2.2.2.2.2.2.2.2.1 [.string s1,b.2.2.2.2.2.2.2.2.2.2.1.v,b.2.2.2.2.2.2.2.2.2.2.2.1.v] 153,zv3 b.2.2.2.2.2.2.2.2.2.2.1.v b.1,zv2 b.2.2.2.2.2.2.2.2.2.2.2.1.v b.2.1,cells b.2.2.2.2.2.2.2.2.2.2.2.2.1 [zI b.2.2.1,zI b.2.2.2.1,zI b.2.2.2.2.1,zI b.2.2.2.2.2.1,zI b.2.2.2.2.2.2.1] 155,cells b.2.2.2.2.2.2.2.2.2.2.2.2.2 [zI b.2.2.2.2.2.2.2.1,zI 0,zI 0,zI b.2.2.2.2.2.2.2.2.1] 157]) (fun cut => ?_) ?_
  ·
   refine zyG (zyR 1 rfl ?_)
   refine zbg (v:=.agg #[.string s1,.slice none 0 0,.slice none 0 0]) (ps:=[(0,.tmp 13)]) rfl dc rfl (fun _=>by kernel_rfl) ?_
   refine zcP rfl dc rfl (fun b4 => ?_)
   refine zyR 1 rfl (zyH ?_)
   refine zbg (v:=.agg #[zI 0,zI 0,zI 0,zI 0,zI 0]) (ps:=[]) rfl dc rfl (fun _=>by kernel_rfl) ?_
   refine zbb zns rfl dc (fun b5 => ?_)
   refine zaR (k:=1) (vs:=[zI 0,zI 0,zI 0,zI 0,zI 0]) (l':=[zI 0,zI 0,zI 0,zI 0,zI 0]) zny rfl rfl rfl rfl rfl (show _≤_ by simp) rfl rfl (zyH ?_)
   refine zbg (v:=.agg #[zI 0,zI 0,zI 0,zI 0]) (ps:=[]) rfl dc rfl (fun _=>by kernel_rfl) ?_
   refine zbb znr rfl dc (fun b6 => ?_)
   refine zaR (k:=2) (vs:=[zI 0,zI 0,zI 0,zI 0]) (l':=[zI 0,zI 0,zI 0,zI 0]) ziO rfl rfl rfl rfl rfl (show _≤_ by simp) rfl rfl (zyN (zay (zhZ (zaE (cut (zyG (zyR 1 rfl ?_)))))))
   refine zdc Tryz.underlying9 rfl dc rfl (fun b7 => ?_)
   refine zyN (zaB (zdQ (enc:=zcW) (e:=155) (size:=5) ?_))
   refine zdQ (enc:=zcu) (e:=157) (size:=4) ?_
   refine zbm (β:=Nat×(List Gapi_Place)×(List Gplace_ended)×Int×Int×Int×Int×Int×Int×Int×Nat×Hd×Hd) (fun b=>za9 (fun _ _ _ _ _ _ _ _ _ _=>none) (zeb s1 j1) b.1 b.2.1 b.2.2.1 b.2.2.2.1 b.2.2.2.2.1 b.2.2.2.2.2.1 b.2.2.2.2.2.2.1 b.2.2.2.2.2.2.2.1 b.2.2.2.2.2.2.2.2.1 b.2.2.2.2.2.2.2.2.2.1 b.2.2.2.2.2.2.2.2.2.2.1=some r) (fun b=>[]) (fun b=>[(0,.string s1),(4,zP b4),(5,zP b5),(6,zP b6),(19,zP b7)]) (fun b=>[cells b4 [.string s1,b.2.2.2.2.2.2.2.2.2.2.2.1.v,b.2.2.2.2.2.2.2.2.2.2.2.2.v] 153,zv3 b.2.2.2.2.2.2.2.2.2.2.2.1.v b.2.1,zv2 b.2.2.2.2.2.2.2.2.2.2.2.2.v b.2.2.1,cells b5 [zI b.2.2.2.1,zI b.2.2.2.2.1,zI b.2.2.2.2.2.1,zI b.2.2.2.2.2.2.1,zI b.2.2.2.2.2.2.2.1] 155,cells b6 [zI b.2.2.2.2.2.2.2.2.1,zI 0,zI 0,zI b.2.2.2.2.2.2.2.2.2.1] 157,obj b7 (.stringIter s1 (zeg s1 b.2.2.2.2.2.2.2.2.2.2.1))]) (fun b=>b.1) (zcN,([]:List Gapi_Place),([]:List Gplace_ended),0,0,0,0,0,0,0,0,Hd.nil,Hd.nil) (by exact h) rfl (za7 rfl) (zae [0,4,5,1,2,3] kr rfl) ?_
   rintro ⟨n1,m10,m11,p16,p17,p18,p19,p20,line7,line8,m12,hd8,hd9⟩ h
   cases n1 with
   | zero=>exact zcS h
   | succ n1 =>
    obtain ⟨ag1,hag1⟩:∃ ag,ag=za9 (fun _ _ _ _ _ _ _ _ _ _=>none) (zeb s1 j1) n1:=⟨_,rfl⟩
    have h:zeb s1 j1 ag1 m10 m11 p16 p17 p18 p19 p20 line7 line8 m12=some r:=by rw [hag1]; exact h
    unfold zeb at h
    refine zyG ?_
    refine zdg (b:=decide (m12<(pcs s1.data.toList).length)) (fun hb2 => ?_) (fun hb2 => ?_)
    ·
     have h:=zfI hb2 h
     obtain ⟨p21,hq1,h⟩:=zbl h
     refine zdz (k:=5) (m:=m12) (p:=p21) rfl dc rfl rfl hq1 (zax rfl dc rfl rfl (zyN (zay (za0 rfl (zat (zaE (zaB ?_)))))))
     obtain ⟨j2,hj2,h⟩:=zbw h
     refine zaU (β:=Int×Hd) 6 rfl (fun b=>j2 b.1=some r) (fun b=>[]) (fun b=>[(0,.string s1),(4,zP b4),(5,zP b5),(6,zP b6),(7,zI (p21.i:Int)),(8,.int .i32 (p21.r:Int)),(19,zP b7)]) (fun b=>[cells b4 [.string s1,b.2.v,hd9.v] 153,zv3 b.2.v (m10++[(⟨(p21.i:Int),p17,p18,p19,p20⟩:Gapi_Place)]),zv2 hd9.v m11,cells b5 [zI (p21.i:Int),zI (p17+1),zI b.1,zI p19,zI (p20+1)] 155,cells b6 [zI line7,zI 0,zI 0,zI line8] 157,obj b7 (.stringIter s1 (zeg s1 (m12+1)))]) (fun cut => ?_) ?_
     ·
      refine zyG (zax rfl dc rfl rfl (zax rfl dc rfl rfl (zyR 2 rfl (zyH (zyR 1 rfl (zac zkC rfl dc rfl (show _=0 from rfl) ?_))))))
      refine zaG (k:=3) (l':=[zI (p21.i:Int),zI p17,zI p18,zI p19,zI p20]) zeX rfl rfl rfl rfl rfl (fun _ _=>rfl) rfl ?_
      refine zyN (zay ?_)
      obtain ⟨hg1,h⟩:=zbs h
      refine ze5 1 ?_
      refine let vals1:(Nat×Hd)→List (Nat×Nat×Value):=fun b=>[(0,26,zP b4),(1,27,zP b4),(2,28,zP b4),(3,29,.pointer (some ⟨b4,1,none⟩)),(4,30,hd8.v),(5,31,.agg #[zI (p21.i:Int),zI p17,zI p18,zI p19,zI p20]),(6,32,.slice (some ⟨b.1,0,none⟩) 1 1),(7,33,b.2.v)]; let LL1:(Nat→Prop)→(Nat×Hd)→List Asn:=fun D b=>[cells b4 [.string s1,hd8.v,hd9.v] 153,eD D (zv3 hd8.v m10) [(7,zv3 b.2.v (m10++[(⟨(p21.i:Int),p17,p18,p19,p20⟩:Gapi_Place)]))],zv2 hd9.v m11,cells b5 [zI (p21.i:Int),zI p17,zI p18,zI p19,zI p20] 155,cells b6 [zI line7,zI 0,zI 0,zI line8] 157,obj b7 (.stringIter s1 (zeg s1 (m12+1))),eD D emp [(6,cells b.1 [zI (p21.i:Int),zI p17,zI p18,zI p19,zI p20] 155)]]; ?_
      have zhq:zyQ [6,7] LL1:=fun i h D b=>zab rfl (zab (ziw rfl h) (zab rfl (zab rfl (zab rfl (zab rfl (zab (ziw rfl h) rfl))))))
      refine zc3 (β:=Nat×Hd) 8 ((0:Nat),Hd.nil) vals1 LL1 mixed kr kr dc (fun _=>rfl) (zab rfl (zab zbr (zdr (zab zbr rfl)))) (zj4 zhq (fun _=>rfl) (fun _=>rfl) 2 0 (fun _=>rfl) rfl (zyq zhq rfl (fun _=>rfl) (fun _=>rfl) ?_ (zyq zhq rfl (fun _=>rfl) (fun _=>rfl) ?_ (zgV zhq rfl (fun _=>rfl) (fun _=>rfl) ?_ (zgV zhq rfl (fun _=>rfl) (fun _=>rfl) ?_ (zas ?_ (zas ?_ DrawG.nil))))))) ?_
      · exact fun D ⟨b8,hd11⟩ n d c u i=>zap rfl dc (zaa (m:=1) u rfl (d 1 dc)) (zaf 2 u i rfl)
      · exact fun D ⟨b8,hd11⟩ n d c u i=>zac zgB rfl dc (zaa (m:=2) u rfl (d 2 dc)) (show _=1 from rfl) (zaf 3 u i rfl)
      · exact fun D ⟨b8,hd11⟩ n d c u i=>⟨_,(zab rfl (zab (zag (fun hD=>n (c 7 _ rfl hD 4 dc)) zak) (zj5 rfl))),zan (k:=0) zli rfl dc (zaa (m:=3) u rfl (d 3 dc)) rfl rfl (zaf 4 u i rfl)⟩
      · exact fun D ⟨b8,hd11⟩ n d c u i=>⟨_,(zab rfl (zab (zag (fun hD=>n (c 6 _ rfl (c 7 _ rfl hD 6 dc) 5 dc)) zak) (zdr (zab (zag (fun hD=>n (c 6 _ rfl hD 5 dc)) zak) rfl)))),zaY (k:=3) (cs:=[zI (p21.i:Int),zI p17,zI p18,zI p19,zI p20]) zmu rfl dc (zba (by rfl) rfl) rfl rfl rfl (zaf 5 u i rfl)⟩
      ·
       intro D b hn hd hcl
       obtain ⟨zb0,hd11⟩:=b
       refine zaD (zab rfl (zab (zag (fun hD=>hn (hcl 7 _ rfl hD 6 dc)) zak) (zdr (zab (zag hn zak) rfl)))) ?_
       refine za1 (cs:=[zI (p21.i:Int),zI p17,zI p18,zI p19,zI p20]) (te:=155) (ps:=[(0,.tmp 31)]) rfl dc (evP.cons (zaa (m:=5) rfl rfl (hd 5 dc)) evP.nil) (fun _=>by kernel_rfl) (fun b8 => ?_)
       refine zci 6 rfl rfl ?_
       exact zaJ (b:=(zb0,hd11)) (b8,hd11) 6 (by rfl) (by rfl) rfl (zmF (zam (fun hD=>absurd hD hn) (zam (fun _=>rfl) rfl))) (zab rfl (zab ((zal (by rfl)).trans (zag (fun hD=>hn (hcl 7 _ rfl hD 6 dc)) zak)) (zdr (zab (zaz (Or.inr rfl) rfl) rfl))))
      ·
       intro D b hn hd hcl
       obtain ⟨b8,zb1⟩:=b
       refine zaD (zab rfl (zab (zag hn zak) (zdr (zab (zaz (hd 6 dc) rfl) rfl)))) ?_
       refine zbc (k:=1) (k2:=6) (ys:=[(⟨(p21.i:Int),p17,p18,p19,p20⟩:Gapi_Place)]) Tryz.underlying150 zmA zeK zeJ rfl dc (zaa (m:=4) rfl rfl (hd 4 dc)) (zaa (m:=6) rfl rfl (hd 6 dc)) rfl rfl rfl rfl hg1 (fun v1 => ?_)
       refine zbo (k:=1) rfl (fun hd11 he1 => ?_)
       subst he1
       exact zaJ (b:=(b8,zb1)) (b8,hd11) 7 (by rfl) (by rfl) rfl (zhC (zam (fun hD=>absurd hD hn) rfl)) (zab rfl (zab (zaz (Or.inr rfl) rfl) (zdr (zab ((zal (by rfl)).trans (zaz (hd 6 dc) rfl)) rfl))))
      intro D b hall
      obtain ⟨b8,hd11⟩:=b
      refine zaD (zab rfl (zab (zaz (hall 7 dc) rfl) (zdr (zab (zaz (hall 6 dc) rfl) rfl)))) (zap rfl dc rfl (zac zgB rfl dc rfl (show _=1 from rfl) ?_))
      refine zaG (k:=0) (l':=[.string s1,hd11.v,hd9.v]) zms rfl rfl rfl rfl rfl (fun _ _=>rfl) rfl ?_
      refine zyH (zac zkB rfl dc rfl (show _=1 from rfl) (zan (k:=3) zbC rfl dc rfl rfl rfl ?_))
      obtain ⟨hg2,h⟩:=zbs h
      refine zaO rfl (zaT (r:=p17+1) (IntWalk.i64_in _ hg2)) (zac zkB rfl dc rfl (show _=1 from rfl) ?_)
      refine zaG (k:=3) (l':=[zI (p21.i:Int),zI (p17+1),zI p18,zI p19,zI p20]) zeX rfl rfl rfl rfl rfl (fun _ _=>rfl) rfl ?_
      refine zyH (zac zhU rfl dc rfl (show _=2 from rfl) (zan (k:=3) zbC rfl dc rfl rfl rfl ?_))
      obtain ⟨hg3,h⟩:=zbs h
      refine zaO rfl (zaT (r:=p18+1) (IntWalk.i64_in _ hg3)) (zac zhU rfl dc rfl (show _=2 from rfl) ?_)
      refine zaG (k:=3) (l':=[zI (p21.i:Int),zI (p17+1),zI (p18+1),zI p19,zI p20]) zeX rfl rfl rfl rfl rfl (fun _ _=>rfl) rfl ?_
      refine zyH (zac zjp rfl dc rfl (show _=4 from rfl) (zan (k:=3) zbC rfl dc rfl rfl rfl ?_))
      obtain ⟨hg4,h⟩:=zbs h
      refine zaO rfl (zaT (r:=p20+1) (IntWalk.i64_in _ hg4)) (zac zjp rfl dc rfl (show _=4 from rfl) ?_)
      refine zaG (k:=3) (l':=[zI (p21.i:Int),zI (p17+1),zI (p18+1),zI p19,zI (p20+1)]) zeX rfl rfl rfl rfl rfl (fun _ _=>rfl) rfl ?_
      refine zyN (cut (zyG (zyR 1 rfl (zaO rfl zep (zyN ?_)))))
      refine zyB rfl h (fun h => ?_) (fun h => ?_)
      ·
       refine zaA (zac zhU rfl dc rfl (show _=2 from rfl) (zan (k:=3) zbC rfl dc rfl rfl rfl ?_))
       obtain ⟨hg5,h⟩:=zbs h
       refine zaO rfl (zaT (r:=(p18+1)+1) (IntWalk.i64_in _ hg5)) (zac zhU rfl dc rfl (show _=2 from rfl) ?_)
       refine zaG (k:=3) (l':=[zI (p21.i:Int),zI (p17+1),zI ((p18+1)+1),zI p19,zI (p20+1)]) zeX rfl rfl rfl rfl rfl (fun _ _=>rfl) rfl ?_
       refine zaV ?_
       exact zaq ((p18+1)+1,hd11) h rfl (za7 rfl) (zae [0,1,2,3,4,5] kr rfl)
      refine zat ?_
      exact zaq (p18+1,hd11) h rfl (za7 rfl) (zae [0,1,2,3,4,5] kr rfl)
     rintro ⟨p22,hd10⟩ h
     rw [hj2] at h
     obtain ⟨j3,hj3,h⟩:=zbw h
     refine zaU (β:=Int) 1 rfl (fun b=>j3 b=some r) (fun b=>[]) (fun b=>[(0,.string s1),(4,zP b4),(5,zP b5),(6,zP b6),(7,zI (p21.i:Int)),(9,zI b),(19,zP b7)]) (fun b=>[cells b4 [.string s1,hd10.v,hd9.v] 153,zv3 hd10.v (m10++[(⟨(p21.i:Int),p17,p18,p19,p20⟩:Gapi_Place)]),zv2 hd9.v m11,cells b5 [zI (p21.i:Int),zI (p17+1),zI p22,zI p19,zI (p20+1)] 155,cells b6 [zI line7,zI 0,zI 0,zI line8] 157,obj b7 (.stringIter s1 (zeg s1 (m12+1)))]) (fun cut => ?_) ?_
     ·
      refine zyG (zyR 1 rfl (zyN (cut (zaB (zyG (zyR 1 rfl (zaO rfl zaP (zyR 1 rfl ?_))))))))
      refine zyS (s:=57) rfl h (fun h => ?_) (fun h => ?_)
      ·
       refine zyR 1 rfl ?_
       obtain ⟨hg6,h⟩:=zbs h
       refine zaO rfl (zaT (r:=(p21.i:Int)+1) (IntWalk.i64_in _ hg6)) (zyR 1 rfl (zbG rfl dc rfl Tryz.underlying9 (zaO rfl zbv (zyR 2 rfl ?_))))
       refine zyS (s:=64) rfl h (fun h => ?_) (fun h => ?_)
       ·
        refine zyR 2 rfl ?_
        obtain ⟨hg7,h⟩:=zbs h
        refine zaO rfl (zaT (r:=(p21.i:Int)+1) (IntWalk.i64_in _ hg7)) ?_
        obtain ⟨c1,hq2,h⟩:=zbl h
        refine zcD rfl dc rfl rfl (zbk Tryz.underlying9 hq2) (zaO rfl zaP (zyR 2 rfl (zyN ?_)))
        refine zyB rfl h (fun h => ?_) (fun h => ?_)
        ·
         refine za6 (zbS dc (zao (zaw ?_)))
         subst hag1
         exact zaZ (n1,m10++[(⟨(p21.i:Int),p17,p18,p19,p20⟩:Gapi_Place)],m11,(p21.i:Int),p17+1,p22,p19,p20+1,line7,line8,m12+1,hd10,hd9) h (Nat.lt_succ_self _) rfl (za7 rfl) (zae [0,1,2,3,4,5] kr rfl)
        refine zyG (zyR 1 rfl (zaO rfl zaP (zyR 1 rfl ?_)))
        refine zyS (s:=74) rfl h (fun h => ?_) (fun h => ?_)
        ·
         refine zyR 1 rfl (zaO rfl zcY (zyR 2 rfl ?_))
         refine zyS (s:=78) rfl h (fun h => ?_) (fun h => ?_)
         ·
          refine zyR 2 rfl ?_
          obtain ⟨hg8,h⟩:=zbs h
          refine zaO rfl (zbD (r:=(p21.i:Int) - 1) (IntWalk.i64_in _ hg8)) ?_
          obtain ⟨c2,hq3,h⟩:=zbl h
          refine zcD rfl dc rfl rfl (zbk Tryz.underlying9 hq3) (zaO rfl zaP (zyR 2 rfl (zyN ?_)))
          refine zyB rfl h (fun h => ?_) (fun h => ?_)
          ·
           refine zaA (zyR 1 rfl (zaV (zai ?_)))
           exact zaq 2 h rfl (za7 rfl) (zae [0,1,2,3,4,5] kr rfl)
          refine zyG (zyR 1 rfl (zaO rfl zbq (zyR 1 rfl ?_)))
          refine zyS (s:=88) rfl h (fun h => ?_) (fun h => ?_)
          ·
           refine zyR 1 rfl (zaO rfl zbq (zyR 2 rfl (zyN ?_)))
           refine zyB rfl h (fun h => ?_) (fun h => ?_)
           ·
            refine za6 (zbS dc (zao (zaw ?_)))
            subst hag1
            exact zaZ (n1,m10++[(⟨(p21.i:Int),p17,p18,p19,p20⟩:Gapi_Place)],m11,(p21.i:Int),p17+1,p22,p19,p20+1,line7,line8,m12+1,hd10,hd9) h (Nat.lt_succ_self _) rfl (za7 rfl) (zae [0,1,2,3,4,5] kr rfl)
           refine zat (zai ?_)
           exact zaq 1 h rfl (za7 rfl) (zae [0,1,2,3,4,5] kr rfl)
          refine zyR 4 rfl (zyN (zaL rfl (zat (zai ?_))))
          exact zaq 1 h rfl (za7 rfl) (zae [0,1,2,3,4,5] kr rfl)
         refine zyR 7 rfl (zyN (zaL rfl (zyG (zyR 1 rfl (zaO rfl zbq ?_)))))
         refine zyR 1 rfl ?_
         refine zyS (s:=88) rfl h (fun h => ?_) (fun h => ?_)
         ·
          refine zyR 1 rfl (zaO rfl zbq (zyR 2 rfl (zyN ?_)))
          refine zyB rfl h (fun h => ?_) (fun h => ?_)
          ·
           refine za6 (zbS dc (zao (zaw ?_)))
           subst hag1
           exact zaZ (n1,m10++[(⟨(p21.i:Int),p17,p18,p19,p20⟩:Gapi_Place)],m11,(p21.i:Int),p17+1,p22,p19,p20+1,line7,line8,m12+1,hd10,hd9) h (Nat.lt_succ_self _) rfl (za7 rfl) (zae [0,1,2,3,4,5] kr rfl)
          refine zat (zai ?_)
          exact zaq 1 h rfl (za7 rfl) (zae [0,1,2,3,4,5] kr rfl)
         refine zyR 4 rfl (zyN (zaL rfl (zat (zai ?_))))
         exact zaq 1 h rfl (za7 rfl) (zae [0,1,2,3,4,5] kr rfl)
        refine zyR 11 rfl (zyN (zaL rfl ?_))
        refine zyG (zyR 1 rfl (zaO rfl zbq (zyR 1 rfl ?_)))
        refine zyS (s:=88) rfl h (fun h => ?_) (fun h => ?_)
        ·
         refine zyR 1 rfl (zaO rfl zbq (zyR 2 rfl (zyN ?_)))
         refine zyB rfl h (fun h => ?_) (fun h => ?_)
         ·
          refine za6 (zbS dc (zao (zaw ?_)))
          subst hag1
          exact zaZ (n1,m10++[(⟨(p21.i:Int),p17,p18,p19,p20⟩:Gapi_Place)],m11,(p21.i:Int),p17+1,p22,p19,p20+1,line7,line8,m12+1,hd10,hd9) h (Nat.lt_succ_self _) rfl (za7 rfl) (zae [0,1,2,3,4,5] kr rfl)
         refine zat (zai ?_)
         exact zaq 1 h rfl (za7 rfl) (zae [0,1,2,3,4,5] kr rfl)
        refine zyR 4 rfl (zyN (zaL rfl (zat (zai ?_))))
        exact zaq 1 h rfl (za7 rfl) (zae [0,1,2,3,4,5] kr rfl)
       refine zyR 7 rfl (zyN (zaL rfl (zyG (zyR 1 rfl (zaO rfl zaP ?_)))))
       refine zyR 1 rfl ?_
       refine zyS (s:=74) rfl h (fun h => ?_) (fun h => ?_)
       ·
        refine zyR 1 rfl (zaO rfl zcY (zyR 2 rfl ?_))
        refine zyS (s:=78) rfl h (fun h => ?_) (fun h => ?_)
        ·
         refine zyR 2 rfl ?_
         obtain ⟨hg9,h⟩:=zbs h
         refine zaO rfl (zbD (r:=(p21.i:Int) - 1) (IntWalk.i64_in _ hg9)) ?_
         obtain ⟨c3,hq4,h⟩:=zbl h
         refine zcD rfl dc rfl rfl (zbk Tryz.underlying9 hq4) (zaO rfl zaP (zyR 2 rfl (zyN ?_)))
         refine zyB rfl h (fun h => ?_) (fun h => ?_)
         ·
          refine zaA (zyR 1 rfl (zaV (zai ?_)))
          exact zaq 2 h rfl (za7 rfl) (zae [0,1,2,3,4,5] kr rfl)
         refine zyG (zyR 1 rfl (zaO rfl zbq (zyR 1 rfl ?_)))
         refine zyS (s:=88) rfl h (fun h => ?_) (fun h => ?_)
         ·
          refine zyR 1 rfl (zaO rfl zbq (zyR 2 rfl (zyN ?_)))
          refine zyB rfl h (fun h => ?_) (fun h => ?_)
          ·
           refine za6 (zbS dc (zao (zaw ?_)))
           subst hag1
           exact zaZ (n1,m10++[(⟨(p21.i:Int),p17,p18,p19,p20⟩:Gapi_Place)],m11,(p21.i:Int),p17+1,p22,p19,p20+1,line7,line8,m12+1,hd10,hd9) h (Nat.lt_succ_self _) rfl (za7 rfl) (zae [0,1,2,3,4,5] kr rfl)
          refine zat (zai ?_)
          exact zaq 1 h rfl (za7 rfl) (zae [0,1,2,3,4,5] kr rfl)
         refine zyR 4 rfl (zyN (zaL rfl (zat (zai ?_))))
         exact zaq 1 h rfl (za7 rfl) (zae [0,1,2,3,4,5] kr rfl)
        refine zyR 7 rfl (zyN (zaL rfl (zyG (zyR 1 rfl (zaO rfl zbq ?_)))))
        refine zyR 1 rfl ?_
        refine zyS (s:=88) rfl h (fun h => ?_) (fun h => ?_)
        ·
         refine zyR 1 rfl (zaO rfl zbq (zyR 2 rfl (zyN ?_)))
         refine zyB rfl h (fun h => ?_) (fun h => ?_)
         ·
          refine za6 (zbS dc (zao (zaw ?_)))
          subst hag1
          exact zaZ (n1,m10++[(⟨(p21.i:Int),p17,p18,p19,p20⟩:Gapi_Place)],m11,(p21.i:Int),p17+1,p22,p19,p20+1,line7,line8,m12+1,hd10,hd9) h (Nat.lt_succ_self _) rfl (za7 rfl) (zae [0,1,2,3,4,5] kr rfl)
         refine zat (zai ?_)
         exact zaq 1 h rfl (za7 rfl) (zae [0,1,2,3,4,5] kr rfl)
        refine zyR 4 rfl (zyN (zaL rfl (zat (zai ?_))))
        exact zaq 1 h rfl (za7 rfl) (zae [0,1,2,3,4,5] kr rfl)
       refine zyR 11 rfl (zyN (zaL rfl ?_))
       refine zyG (zyR 1 rfl (zaO rfl zbq (zyR 1 rfl ?_)))
       refine zyS (s:=88) rfl h (fun h => ?_) (fun h => ?_)
       ·
        refine zyR 1 rfl (zaO rfl zbq (zyR 2 rfl (zyN ?_)))
        refine zyB rfl h (fun h => ?_) (fun h => ?_)
        ·
         refine za6 (zbS dc (zao (zaw ?_)))
         subst hag1
         exact zaZ (n1,m10++[(⟨(p21.i:Int),p17,p18,p19,p20⟩:Gapi_Place)],m11,(p21.i:Int),p17+1,p22,p19,p20+1,line7,line8,m12+1,hd10,hd9) h (Nat.lt_succ_self _) rfl (za7 rfl) (zae [0,1,2,3,4,5] kr rfl)
        refine zat (zai ?_)
        exact zaq 1 h rfl (za7 rfl) (zae [0,1,2,3,4,5] kr rfl)
       refine zyR 4 rfl (zyN (zaL rfl (zat (zai ?_))))
       exact zaq 1 h rfl (za7 rfl) (zae [0,1,2,3,4,5] kr rfl)
      refine zyR 14 rfl ?_
      refine zyN (zaL rfl (zyG (zyR 1 rfl (zaO rfl zaP (zyR 1 rfl ?_)))))
      refine zyS (s:=74) rfl h (fun h => ?_) (fun h => ?_)
      ·
       refine zyR 1 rfl (zaO rfl zcY (zyR 2 rfl ?_))
       refine zyS (s:=78) rfl h (fun h => ?_) (fun h => ?_)
       ·
        refine zyR 2 rfl ?_
        obtain ⟨hg10,h⟩:=zbs h
        refine zaO rfl (zbD (r:=(p21.i:Int) - 1) (IntWalk.i64_in _ hg10)) ?_
        obtain ⟨c4,hq5,h⟩:=zbl h
        refine zcD rfl dc rfl rfl (zbk Tryz.underlying9 hq5) (zaO rfl zaP (zyR 2 rfl (zyN ?_)))
        refine zyB rfl h (fun h => ?_) (fun h => ?_)
        ·
         refine zaA (zyR 1 rfl (zaV (zai ?_)))
         exact zaq 2 h rfl (za7 rfl) (zae [0,1,2,3,4,5] kr rfl)
        refine zyG (zyR 1 rfl (zaO rfl zbq (zyR 1 rfl ?_)))
        refine zyS (s:=88) rfl h (fun h => ?_) (fun h => ?_)
        ·
         refine zyR 1 rfl (zaO rfl zbq (zyR 2 rfl (zyN ?_)))
         refine zyB rfl h (fun h => ?_) (fun h => ?_)
         ·
          refine za6 (zbS dc (zao (zaw ?_)))
          subst hag1
          exact zaZ (n1,m10++[(⟨(p21.i:Int),p17,p18,p19,p20⟩:Gapi_Place)],m11,(p21.i:Int),p17+1,p22,p19,p20+1,line7,line8,m12+1,hd10,hd9) h (Nat.lt_succ_self _) rfl (za7 rfl) (zae [0,1,2,3,4,5] kr rfl)
         refine zat (zai ?_)
         exact zaq 1 h rfl (za7 rfl) (zae [0,1,2,3,4,5] kr rfl)
        refine zyR 4 rfl (zyN (zaL rfl (zat (zai ?_))))
        exact zaq 1 h rfl (za7 rfl) (zae [0,1,2,3,4,5] kr rfl)
       refine zyR 7 rfl (zyN (zaL rfl (zyG (zyR 1 rfl (zaO rfl zbq ?_)))))
       refine zyR 1 rfl ?_
       refine zyS (s:=88) rfl h (fun h => ?_) (fun h => ?_)
       ·
        refine zyR 1 rfl (zaO rfl zbq (zyR 2 rfl (zyN ?_)))
        refine zyB rfl h (fun h => ?_) (fun h => ?_)
        ·
         refine za6 (zbS dc (zao (zaw ?_)))
         subst hag1
         exact zaZ (n1,m10++[(⟨(p21.i:Int),p17,p18,p19,p20⟩:Gapi_Place)],m11,(p21.i:Int),p17+1,p22,p19,p20+1,line7,line8,m12+1,hd10,hd9) h (Nat.lt_succ_self _) rfl (za7 rfl) (zae [0,1,2,3,4,5] kr rfl)
        refine zat (zai ?_)
        exact zaq 1 h rfl (za7 rfl) (zae [0,1,2,3,4,5] kr rfl)
       refine zyR 4 rfl (zyN (zaL rfl (zat (zai ?_))))
       exact zaq 1 h rfl (za7 rfl) (zae [0,1,2,3,4,5] kr rfl)
      refine zyR 11 rfl (zyN (zaL rfl ?_))
      refine zyG (zyR 1 rfl (zaO rfl zbq (zyR 1 rfl ?_)))
      refine zyS (s:=88) rfl h (fun h => ?_) (fun h => ?_)
      ·
       refine zyR 1 rfl (zaO rfl zbq (zyR 2 rfl (zyN ?_)))
       refine zyB rfl h (fun h => ?_) (fun h => ?_)
       ·
        refine za6 (zbS dc (zao (zaw ?_)))
        subst hag1
        exact zaZ (n1,m10++[(⟨(p21.i:Int),p17,p18,p19,p20⟩:Gapi_Place)],m11,(p21.i:Int),p17+1,p22,p19,p20+1,line7,line8,m12+1,hd10,hd9) h (Nat.lt_succ_self _) rfl (za7 rfl) (zae [0,1,2,3,4,5] kr rfl)
       refine zat (zai ?_)
       exact zaq 1 h rfl (za7 rfl) (zae [0,1,2,3,4,5] kr rfl)
      refine zyR 4 rfl (zyN (zaL rfl (zat (zai ?_))))
      exact zaq 1 h rfl (za7 rfl) (zae [0,1,2,3,4,5] kr rfl)
     rintro width1 h
     rw [hj3] at h
     refine zyG (zyR 1 rfl ?_)
     obtain ⟨hg11,h⟩:=zbs h
     refine zaO rfl (zaT (r:=(p21.i:Int)+1) (IntWalk.i64_in _ hg11)) (zyR 1 rfl ?_)
     obtain ⟨hg12,h⟩:=zbs h
     refine zaO rfl (zbD (r:=((p21.i:Int)+1) - width1) (IntWalk.i64_in _ hg12)) (zac zhT rfl dc rfl (show _=0 from rfl) (zac zeD rfl dc rfl (show _=1 from rfl) ?_))
     refine zaG (k:=4) (l':=[zI line7,zI (((p21.i:Int)+1) - width1),zI 0,zI line8]) zeX rfl rfl rfl rfl rfl (fun _ _=>rfl) rfl ?_
     refine zyH (zyR 1 rfl (zac zjo rfl dc rfl (show _=2 from rfl) ?_))
     refine zaG (k:=4) (l':=[zI line7,zI (((p21.i:Int)+1) - width1),zI width1,zI line8]) zeX rfl rfl rfl rfl rfl (fun _ _=>rfl) rfl ?_
     refine zyN (zay ?_)
     obtain ⟨hg13,h⟩:=zbs h
     refine ze5 1 ?_
     refine let vals2:(Nat×Hd)→List (Nat×Nat×Value):=fun b=>[(0,100,zP b4),(1,101,zP b4),(2,102,zP b4),(3,103,.pointer (some ⟨b4,2,none⟩)),(4,104,hd9.v),(5,105,.agg #[zI line7,zI (((p21.i:Int)+1) - width1),zI width1,zI line8]),(6,106,.slice (some ⟨b.1,0,none⟩) 1 1),(7,107,b.2.v)]; let LL2:(Nat→Prop)→(Nat×Hd)→List Asn:=fun D b=>[cells b4 [.string s1,hd10.v,hd9.v] 153,zv3 hd10.v (m10++[(⟨(p21.i:Int),p17,p18,p19,p20⟩:Gapi_Place)]),eD D (zv2 hd9.v m11) [(7,zv2 b.2.v (m11++[(⟨line7,((p21.i:Int)+1) - width1,width1,line8⟩:Gplace_ended)]))],cells b5 [zI (p21.i:Int),zI (p17+1),zI p22,zI p19,zI (p20+1)] 155,cells b6 [zI line7,zI (((p21.i:Int)+1) - width1),zI width1,zI line8] 157,obj b7 (.stringIter s1 (zeg s1 (m12+1))),eD D emp [(6,cells b.1 [zI line7,zI (((p21.i:Int)+1) - width1),zI width1,zI line8] 157)]]; ?_
     refine zc3 (β:=Nat×Hd) 8 ((0:Nat),Hd.nil) vals2 LL2 mixed kr kr dc (fun _=>rfl) (zdd (zab zbr (zbU (zab zbr rfl)))) (zas ?_ (zas ?_ (zas ?_ (zas ?_ (zas ?_ (zas ?_ (zas ?_ (zas ?_ DrawG.nil)))))))) ?_
     ·
      intro D b hn hd hcl
      obtain ⟨b9,hd12⟩:=b
      refine zaD (zog rfl) (zfl rfl dc (zba (by rfl) rfl) ?_)
      exact zaJ (b:=(b9,hd12)) (b9,hd12) 0 (by rfl) (by rfl) rfl (zgW rfl) (zdd (zab (zal (by rfl)) (zbU (zab (zal (by rfl)) rfl))))
     ·
      intro D b hn hd hcl
      obtain ⟨b9,hd12⟩:=b
      refine zaD (zdd (zab (zag (fun hD=>hn (hcl 2 _ rfl (hcl 3 _ rfl (hcl 4 _ rfl (hcl 7 _ rfl hD 4 dc) 3 dc) 2 dc) 1 dc)) zak) (zdr rfl))) ?_
      refine zfl rfl dc (zba (by rfl) rfl) ?_
      exact zaJ (b:=(b9,hd12)) (b9,hd12) 1 (by rfl) (by rfl) rfl (zgW rfl) (zdd (zab ((zal (by rfl)).trans (zag (fun hD=>hn (hcl 2 _ rfl (hcl 3 _ rfl (hcl 4 _ rfl (hcl 7 _ rfl hD 4 dc) 3 dc) 2 dc) 1 dc)) zak)) (zbU (zab (zal (by rfl)) rfl))))
     ·
      intro D b hn hd hcl
      obtain ⟨b9,hd12⟩:=b
      refine zaD (zdd (zab (zag (fun hD=>hn (hcl 3 _ rfl (hcl 4 _ rfl (hcl 7 _ rfl hD 4 dc) 3 dc) 2 dc)) zak) (zdr rfl))) ?_
      refine zap rfl dc (zaa (m:=1) rfl rfl (hd 1 dc)) ?_
      exact zaJ (b:=(b9,hd12)) (b9,hd12) 2 (by rfl) (by rfl) rfl (zgW rfl) (zdd (zab ((zal (by rfl)).trans (zag (fun hD=>hn (hcl 3 _ rfl (hcl 4 _ rfl (hcl 7 _ rfl hD 4 dc) 3 dc) 2 dc)) zak)) (zbU (zab (zal (by rfl)) rfl))))
     ·
      intro D b hn hd hcl
      obtain ⟨b9,hd12⟩:=b
      refine zaD (zdd (zab (zag (fun hD=>hn (hcl 4 _ rfl (hcl 7 _ rfl hD 4 dc) 3 dc)) zak) (zdr rfl))) ?_
      refine zac zd3 rfl dc (zaa (m:=2) rfl rfl (hd 2 dc)) (show _=2 from rfl) ?_
      exact zaJ (b:=(b9,hd12)) (b9,hd12) 3 (by rfl) (by rfl) rfl (zgW rfl) (zdd (zab ((zal (by rfl)).trans (zag (fun hD=>hn (hcl 4 _ rfl (hcl 7 _ rfl hD 4 dc) 3 dc)) zak)) (zbU (zab (zal (by rfl)) rfl))))
     ·
      intro D b hn hd hcl
      obtain ⟨b9,hd12⟩:=b
      refine zaD (zdd (zab (zag (fun hD=>hn (hcl 7 _ rfl hD 4 dc)) zak) (zdr rfl))) ?_
      refine zan (k:=0) zhr rfl dc (zaa (m:=3) rfl rfl (hd 3 dc)) rfl rfl ?_
      exact zaJ (b:=(b9,hd12)) (b9,hd12) 4 (by rfl) (by rfl) rfl (zgW rfl) (zdd (zab ((zal (by rfl)).trans (zag (fun hD=>hn (hcl 7 _ rfl hD 4 dc)) zak)) (zbU (zab (zal (by rfl)) rfl))))
     ·
      intro D b hn hd hcl
      obtain ⟨b9,hd12⟩:=b
      refine zaD (zdd (zab (zag (fun hD=>hn (hcl 6 _ rfl (hcl 7 _ rfl hD 6 dc) 5 dc)) zak) (zbU (zab (zag (fun hD=>hn (hcl 6 _ rfl hD 5 dc)) zak) rfl)))) ?_
      refine zaY (k:=4) (cs:=[zI line7,zI (((p21.i:Int)+1) - width1),zI width1,zI line8]) zmt rfl dc (zba (by rfl) rfl) rfl rfl rfl ?_
      exact zaJ (b:=(b9,hd12)) (b9,hd12) 5 (by rfl) (by rfl) rfl (zgW rfl) (zdd (zab ((zal (by rfl)).trans (zag (fun hD=>hn (hcl 6 _ rfl (hcl 7 _ rfl hD 6 dc) 5 dc)) zak)) (zbU (zab ((zal (by rfl)).trans (zag (fun hD=>hn (hcl 6 _ rfl hD 5 dc)) zak)) rfl))))
     ·
      intro D b hn hd hcl
      obtain ⟨zb0,hd12⟩:=b
      refine zaD (zdd (zab (zag (fun hD=>hn (hcl 7 _ rfl hD 6 dc)) zak) (zbU (zab (zag hn zak) rfl)))) ?_
      refine za1 (cs:=[zI line7,zI (((p21.i:Int)+1) - width1),zI width1,zI line8]) (te:=157) (ps:=[(0,.tmp 105)]) rfl dc (evP.cons (zaa (m:=5) rfl rfl (hd 5 dc)) evP.nil) (fun _=>by kernel_rfl) (fun b9 => ?_)
      refine zci 6 rfl rfl ?_
      exact zaJ (b:=(zb0,hd12)) (b9,hd12) 6 (by rfl) (by rfl) rfl (zmF (zam (fun hD=>absurd hD hn) (zam (fun _=>rfl) rfl))) (zdd (zab ((zal (by rfl)).trans (zag (fun hD=>hn (hcl 7 _ rfl hD 6 dc)) zak)) (zbU (zab (zaz (Or.inr rfl) rfl) rfl))))
     ·
      intro D b hn hd hcl
      obtain ⟨b9,zb1⟩:=b
      refine zaD (zdd (zab (zag hn zak) (zbU (zab (zaz (hd 6 dc) rfl) rfl)))) ?_
      refine zbc (k:=2) (k2:=6) (ys:=[(⟨line7,((p21.i:Int)+1) - width1,width1,line8⟩:Gplace_ended)]) Tryz.underlying151 zmz zbY zer rfl dc (zaa (m:=4) rfl rfl (hd 4 dc)) (zaa (m:=6) rfl rfl (hd 6 dc)) rfl rfl rfl rfl hg13 (fun v2 => ?_)
      refine zbo (k:=2) rfl (fun hd12 he2 => ?_)
      subst he2
      exact zaJ (b:=(b9,zb1)) (b9,hd12) 7 (by rfl) (by rfl) rfl (zhC (zam (fun hD=>absurd hD hn) rfl)) (zdd (zab (zaz (Or.inr rfl) rfl) (zbU (zab ((zal (by rfl)).trans (zaz (hd 6 dc) rfl)) rfl))))
     intro D b hall
     obtain ⟨b9,hd12⟩:=b
     refine zaD (zdd (zab (zaz (hall 7 dc) rfl) (zbU (zab (zaz (hall 6 dc) rfl) rfl)))) (zap rfl dc rfl (zac zd3 rfl dc rfl (show _=2 from rfl) ?_))
     refine zaG (k:=0) (l':=[.string s1,hd10.v,hd12.v]) zmr rfl rfl rfl rfl rfl (fun _ _=>rfl) rfl ?_
     refine zyH (zyR 1 rfl ?_)
     obtain ⟨hg14,h⟩:=zbs h
     refine zaO rfl (zaT (r:=(p21.i:Int)+1) (IntWalk.i64_in _ hg14)) ?_
     refine zbg (v:=.agg #[zI ((p21.i:Int)+1),zI 0]) (ps:=[(0,.tmp 111)]) rfl dc rfl (fun _=>by kernel_rfl) ?_
     refine zyR 1 rfl (zap rfl dc rfl (zac zgB rfl dc rfl (show _=1 from rfl) (zan (k:=0) zli rfl dc rfl rfl rfl (zcr (k:=1) rfl dc rfl rfl Tryz.underlying150 ?_))))
     refine zbg (v:=.agg #[zI ((p21.i:Int)+1),zI 0,zI 0,zI ((m10++[(⟨(p21.i:Int),p17,p18,p19,p20⟩:Gapi_Place)]).length:Int)]) (ps:=[(0,.tmp 112),(2,.tmp 117)]) rfl dc rfl (fun _=>by kernel_rfl) ?_
     refine zaR (k:=4) (vs:=[zI ((p21.i:Int)+1),zI 0,zI 0,zI ((m10++[(⟨(p21.i:Int),p17,p18,p19,p20⟩:Gapi_Place)]).length:Int)]) (l':=[zI ((p21.i:Int)+1),zI 0,zI 0,zI ((m10++[(⟨(p21.i:Int),p17,p18,p19,p20⟩:Gapi_Place)]).length:Int)]) ziO rfl rfl rfl rfl rfl (show _≤_ by simp) rfl rfl ?_
     refine zyH (zac zkA rfl dc rfl (show _=3 from rfl) (zan (k:=3) zbC rfl dc rfl rfl rfl ?_))
     obtain ⟨hg15,h⟩:=zbs h
     refine zaO rfl (zaT (r:=p19+1) (IntWalk.i64_in _ hg15)) (zac zkA rfl dc rfl (show _=3 from rfl) ?_)
     refine zaG (k:=3) (l':=[zI (p21.i:Int),zI (p17+1),zI p22,zI (p19+1),zI (p20+1)]) zeX rfl rfl rfl rfl rfl (fun _ _=>rfl) rfl ?_
     refine zyN (zaA (zac zjp rfl dc rfl (show _=4 from rfl) ?_))
     refine zaG (k:=3) (l':=[zI (p21.i:Int),zI (p17+1),zI p22,zI (p19+1),zI 0]) zeX rfl rfl rfl rfl rfl (fun _ _=>rfl) rfl ?_
     refine zaV (zai ?_)
     subst hag1
     exact zaZ (n1,m10++[(⟨(p21.i:Int),p17,p18,p19,p20⟩:Gapi_Place)],m11++[(⟨line7,((p21.i:Int)+1) - width1,width1,line8⟩:Gplace_ended)],(p21.i:Int),p17+1,p22,p19+1,0,(p21.i:Int)+1,((m10++[(⟨(p21.i:Int),p17,p18,p19,p20⟩:Gapi_Place)]).length:Int),m12+1,hd10,hd12) h (Nat.lt_succ_self _) rfl (za7 rfl) (zae [0,1,2,3,4,5] kr rfl)
    have h:=zfJ hb2 h
    refine zdA (k:=5) (m:=m12) rfl dc rfl rfl (Nat.le_of_not_lt (of_decide_eq_false hb2)) (zax rfl dc rfl rfl (zyN (zay (zaL rfl (za6 (zao (zao (zaw ?_))))))))
    exact zaq (m10,m11,p16,p17,p18,p19,p20,line7,line8,b4,hd8,hd9,b5,b6) h rfl (za7 rfl) (zae [0,1,2,3,4] kr rfl)
  rintro ⟨m1,m2,p1,p2,p3,p4,p5,line1,line2,b1,hd1,hd2,b2,b3⟩ h
  rw [hj1] at h
  refine zyG (zyR 1 rfl (zbG rfl dc rfl Tryz.underlying9 (zac zkC rfl dc rfl (show _=0 from rfl) ?_)))
  refine zaG (k:=3) (l':=[zI (s1.size:Int),zI p2,zI p3,zI p4,zI p5]) zeX rfl rfl rfl rfl rfl (fun _ _=>rfl) rfl ?_
  refine zyN (zay ?_)
  obtain ⟨hg16,h⟩:=zbs h
  refine ze5 1 ?_
  refine let vals3:(Nat×Hd)→List (Nat×Nat×Value):=fun b=>[(0,127,zP b1),(1,128,zP b1),(2,129,zP b1),(3,130,.pointer (some ⟨b1,1,none⟩)),(4,131,hd1.v),(5,132,.agg #[zI (s1.size:Int),zI p2,zI p3,zI p4,zI p5]),(6,133,.slice (some ⟨b.1,0,none⟩) 1 1),(7,134,b.2.v)]; let LL3:(Nat→Prop)→(Nat×Hd)→List Asn:=fun D b=>[cells b1 [.string s1,hd1.v,hd2.v] 153,eD D (zv3 hd1.v m1) [(7,zv3 b.2.v (m1++[(⟨(s1.size:Int),p2,p3,p4,p5⟩:Gapi_Place)]))],zv2 hd2.v m2,cells b2 [zI (s1.size:Int),zI p2,zI p3,zI p4,zI p5] 155,cells b3 [zI line1,zI 0,zI 0,zI line2] 157,eD D emp [(6,cells b.1 [zI (s1.size:Int),zI p2,zI p3,zI p4,zI p5] 155)]]; ?_
  refine zc3 (β:=Nat×Hd) 8 ((0:Nat),Hd.nil) vals3 LL3 mixed kr kr dc (fun _=>rfl) (zab rfl (zab zbr (zbU (zab zbr rfl)))) (zas ?_ (zas ?_ (zas ?_ (zas ?_ (zas ?_ (zas ?_ (zas ?_ (zas ?_ DrawG.nil)))))))) ?_
  ·
   intro D b hn hd hcl
   obtain ⟨b10,hd13⟩:=b
   refine zaD (zmE rfl) (zfl rfl dc (zba (by rfl) rfl) ?_)
   exact zaJ (b:=(b10,hd13)) (b10,hd13) 0 (by rfl) (by rfl) rfl (zgW rfl) (zab rfl (zab (zal (by rfl)) (zbU (zab (zal (by rfl)) rfl))))
  ·
   intro D b hn hd hcl
   obtain ⟨b10,hd13⟩:=b
   refine zaD (zab rfl (zab (zag (fun hD=>hn (hcl 2 _ rfl (hcl 3 _ rfl (hcl 4 _ rfl (hcl 7 _ rfl hD 4 dc) 3 dc) 2 dc) 1 dc)) zak) (zdr rfl))) ?_
   refine zfl rfl dc (zba (by rfl) rfl) ?_
   exact zaJ (b:=(b10,hd13)) (b10,hd13) 1 (by rfl) (by rfl) rfl (zgW rfl) (zab rfl (zab ((zal (by rfl)).trans (zag (fun hD=>hn (hcl 2 _ rfl (hcl 3 _ rfl (hcl 4 _ rfl (hcl 7 _ rfl hD 4 dc) 3 dc) 2 dc) 1 dc)) zak)) (zbU (zab (zal (by rfl)) rfl))))
  ·
   intro D b hn hd hcl
   obtain ⟨b10,hd13⟩:=b
   refine zaD (zab rfl (zab (zag (fun hD=>hn (hcl 3 _ rfl (hcl 4 _ rfl (hcl 7 _ rfl hD 4 dc) 3 dc) 2 dc)) zak) (zdr rfl))) ?_
   refine zap rfl dc (zaa (m:=1) rfl rfl (hd 1 dc)) ?_
   exact zaJ (b:=(b10,hd13)) (b10,hd13) 2 (by rfl) (by rfl) rfl (zgW rfl) (zab rfl (zab ((zal (by rfl)).trans (zag (fun hD=>hn (hcl 3 _ rfl (hcl 4 _ rfl (hcl 7 _ rfl hD 4 dc) 3 dc) 2 dc)) zak)) (zbU (zab (zal (by rfl)) rfl))))
  ·
   intro D b hn hd hcl
   obtain ⟨b10,hd13⟩:=b
   refine zaD (zab rfl (zab (zag (fun hD=>hn (hcl 4 _ rfl (hcl 7 _ rfl hD 4 dc) 3 dc)) zak) (zdr rfl))) ?_
   refine zac zgB rfl dc (zaa (m:=2) rfl rfl (hd 2 dc)) (show _=1 from rfl) ?_
   exact zaJ (b:=(b10,hd13)) (b10,hd13) 3 (by rfl) (by rfl) rfl (zgW rfl) (zab rfl (zab ((zal (by rfl)).trans (zag (fun hD=>hn (hcl 4 _ rfl (hcl 7 _ rfl hD 4 dc) 3 dc)) zak)) (zbU (zab (zal (by rfl)) rfl))))
  ·
   intro D b hn hd hcl
   obtain ⟨b10,hd13⟩:=b
   refine zaD (zab rfl (zab (zag (fun hD=>hn (hcl 7 _ rfl hD 4 dc)) zak) (zdr rfl))) ?_
   refine zan (k:=0) zli rfl dc (zaa (m:=3) rfl rfl (hd 3 dc)) rfl rfl ?_
   exact zaJ (b:=(b10,hd13)) (b10,hd13) 4 (by rfl) (by rfl) rfl (zgW rfl) (zab rfl (zab ((zal (by rfl)).trans (zag (fun hD=>hn (hcl 7 _ rfl hD 4 dc)) zak)) (zbU (zab (zal (by rfl)) rfl))))
  ·
   intro D b hn hd hcl
   obtain ⟨b10,hd13⟩:=b
   refine zaD (zab rfl (zab (zag (fun hD=>hn (hcl 6 _ rfl (hcl 7 _ rfl hD 6 dc) 5 dc)) zak) (zbU (zab (zag (fun hD=>hn (hcl 6 _ rfl hD 5 dc)) zak) rfl)))) ?_
   refine zaY (k:=3) (cs:=[zI (s1.size:Int),zI p2,zI p3,zI p4,zI p5]) zmu rfl dc (zba (by rfl) rfl) rfl rfl rfl ?_
   exact zaJ (b:=(b10,hd13)) (b10,hd13) 5 (by rfl) (by rfl) rfl (zgW rfl) (zab rfl (zab ((zal (by rfl)).trans (zag (fun hD=>hn (hcl 6 _ rfl (hcl 7 _ rfl hD 6 dc) 5 dc)) zak)) (zbU (zab ((zal (by rfl)).trans (zag (fun hD=>hn (hcl 6 _ rfl hD 5 dc)) zak)) rfl))))
  ·
   intro D b hn hd hcl
   obtain ⟨zb0,hd13⟩:=b
   refine zaD (zab rfl (zab (zag (fun hD=>hn (hcl 7 _ rfl hD 6 dc)) zak) (zbU (zab (zag hn zak) rfl)))) ?_
   refine za1 (cs:=[zI (s1.size:Int),zI p2,zI p3,zI p4,zI p5]) (te:=155) (ps:=[(0,.tmp 132)]) rfl dc (evP.cons (zaa (m:=5) rfl rfl (hd 5 dc)) evP.nil) (fun _=>by kernel_rfl) (fun b10 => ?_)
   refine zci 5 rfl rfl ?_
   exact zaJ (b:=(zb0,hd13)) (b10,hd13) 6 (by rfl) (by rfl) rfl (zmF (zam (fun hD=>absurd hD hn) (zam (fun _=>rfl) rfl))) (zab rfl (zab ((zal (by rfl)).trans (zag (fun hD=>hn (hcl 7 _ rfl hD 6 dc)) zak)) (zbU (zab (zaz (Or.inr rfl) rfl) rfl))))
  ·
   intro D b hn hd hcl
   obtain ⟨b10,zb1⟩:=b
   refine zaD (zab rfl (zab (zag hn zak) (zbU (zab (zaz (hd 6 dc) rfl) rfl)))) ?_
   refine zbc (k:=1) (k2:=5) (ys:=[(⟨(s1.size:Int),p2,p3,p4,p5⟩:Gapi_Place)]) Tryz.underlying150 zmA zeK zeJ rfl dc (zaa (m:=4) rfl rfl (hd 4 dc)) (zaa (m:=6) rfl rfl (hd 6 dc)) rfl rfl rfl rfl hg16 (fun v3 => ?_)
   refine zbo (k:=1) rfl (fun hd13 he3 => ?_)
   subst he3
   exact zaJ (b:=(b10,zb1)) (b10,hd13) 7 (by rfl) (by rfl) rfl (zhC (zam (fun hD=>absurd hD hn) rfl)) (zab rfl (zab (zaz (Or.inr rfl) rfl) (zbU (zab ((zal (by rfl)).trans (zaz (hd 6 dc) rfl)) rfl))))
  intro D b hall
  obtain ⟨b10,hd13⟩:=b
  refine zaD (zab rfl (zab (zaz (hall 7 dc) rfl) (zbU (zab (zaz (hall 6 dc) rfl) rfl)))) (zap rfl dc rfl (zac zgB rfl dc rfl (show _=1 from rfl) ?_))
  refine zaG (k:=0) (l':=[.string s1,hd13.v,hd2.v]) zms rfl rfl rfl rfl rfl (fun _ _=>rfl) rfl ?_
  refine zyH (zyR 1 rfl (zbG rfl dc rfl Tryz.underlying9 (zac zhT rfl dc rfl (show _=0 from rfl) (zac zeD rfl dc rfl (show _=1 from rfl) ?_))))
  refine zaG (k:=4) (l':=[zI line1,zI (s1.size:Int),zI 0,zI line2]) zeX rfl rfl rfl rfl rfl (fun _ _=>rfl) rfl ?_
  refine zyN (zay ?_)
  obtain ⟨hg17,h⟩:=zbs h
  refine ze5 1 ?_
  refine let vals4:(Nat×Hd)→List (Nat×Nat×Value):=fun b=>[(0,141,zP b1),(1,142,zP b1),(2,143,zP b1),(3,144,.pointer (some ⟨b1,2,none⟩)),(4,145,hd2.v),(5,146,.agg #[zI line1,zI (s1.size:Int),zI 0,zI line2]),(6,147,.slice (some ⟨b.1,0,none⟩) 1 1),(7,148,b.2.v)]; let LL4:(Nat→Prop)→(Nat×Hd)→List Asn:=fun D b=>[cells b1 [.string s1,hd13.v,hd2.v] 153,zv3 hd13.v (m1++[(⟨(s1.size:Int),p2,p3,p4,p5⟩:Gapi_Place)]),eD D (zv2 hd2.v m2) [(7,zv2 b.2.v (m2++[(⟨line1,(s1.size:Int),0,line2⟩:Gplace_ended)]))],cells b2 [zI (s1.size:Int),zI p2,zI p3,zI p4,zI p5] 155,cells b3 [zI line1,zI (s1.size:Int),zI 0,zI line2] 157,cells b10 [zI (s1.size:Int),zI p2,zI p3,zI p4,zI p5] 155,eD D emp [(6,cells b.1 [zI line1,zI (s1.size:Int),zI 0,zI line2] 157)]]; ?_
  refine zc3 (β:=Nat×Hd) 8 ((0:Nat),Hd.nil) vals4 LL4 mixed kr kr dc (fun _=>rfl) (zdd (zab zbr (zbU (zab zbr rfl)))) (zas ?_ (zas ?_ (zas ?_ (zas ?_ (zas ?_ (zas ?_ (zas ?_ (zas ?_ DrawG.nil)))))))) ?_
  ·
   intro D b hn hd hcl
   obtain ⟨b11,hd14⟩:=b
   refine zaD (zog rfl) (zfl rfl dc (zba (by rfl) rfl) ?_)
   exact zaJ (b:=(b11,hd14)) (b11,hd14) 0 (by rfl) (by rfl) rfl (zgW rfl) (zdd (zab (zal (by rfl)) (zbU (zab (zal (by rfl)) rfl))))
  ·
   intro D b hn hd hcl
   obtain ⟨b11,hd14⟩:=b
   refine zaD (zdd (zab (zag (fun hD=>hn (hcl 2 _ rfl (hcl 3 _ rfl (hcl 4 _ rfl (hcl 7 _ rfl hD 4 dc) 3 dc) 2 dc) 1 dc)) zak) (zdr rfl))) ?_
   refine zfl rfl dc (zba (by rfl) rfl) ?_
   exact zaJ (b:=(b11,hd14)) (b11,hd14) 1 (by rfl) (by rfl) rfl (zgW rfl) (zdd (zab ((zal (by rfl)).trans (zag (fun hD=>hn (hcl 2 _ rfl (hcl 3 _ rfl (hcl 4 _ rfl (hcl 7 _ rfl hD 4 dc) 3 dc) 2 dc) 1 dc)) zak)) (zbU (zab (zal (by rfl)) rfl))))
  ·
   intro D b hn hd hcl
   obtain ⟨b11,hd14⟩:=b
   refine zaD (zdd (zab (zag (fun hD=>hn (hcl 3 _ rfl (hcl 4 _ rfl (hcl 7 _ rfl hD 4 dc) 3 dc) 2 dc)) zak) (zdr rfl))) ?_
   refine zap rfl dc (zaa (m:=1) rfl rfl (hd 1 dc)) ?_
   exact zaJ (b:=(b11,hd14)) (b11,hd14) 2 (by rfl) (by rfl) rfl (zgW rfl) (zdd (zab ((zal (by rfl)).trans (zag (fun hD=>hn (hcl 3 _ rfl (hcl 4 _ rfl (hcl 7 _ rfl hD 4 dc) 3 dc) 2 dc)) zak)) (zbU (zab (zal (by rfl)) rfl))))
  ·
   intro D b hn hd hcl
   obtain ⟨b11,hd14⟩:=b
   refine zaD (zdd (zab (zag (fun hD=>hn (hcl 4 _ rfl (hcl 7 _ rfl hD 4 dc) 3 dc)) zak) (zdr rfl))) ?_
   refine zac zd3 rfl dc (zaa (m:=2) rfl rfl (hd 2 dc)) (show _=2 from rfl) ?_
   exact zaJ (b:=(b11,hd14)) (b11,hd14) 3 (by rfl) (by rfl) rfl (zgW rfl) (zdd (zab ((zal (by rfl)).trans (zag (fun hD=>hn (hcl 4 _ rfl (hcl 7 _ rfl hD 4 dc) 3 dc)) zak)) (zbU (zab (zal (by rfl)) rfl))))
  ·
   intro D b hn hd hcl
   obtain ⟨b11,hd14⟩:=b
   refine zaD (zdd (zab (zag (fun hD=>hn (hcl 7 _ rfl hD 4 dc)) zak) (zdr rfl))) ?_
   refine zan (k:=0) zhr rfl dc (zaa (m:=3) rfl rfl (hd 3 dc)) rfl rfl ?_
   exact zaJ (b:=(b11,hd14)) (b11,hd14) 4 (by rfl) (by rfl) rfl (zgW rfl) (zdd (zab ((zal (by rfl)).trans (zag (fun hD=>hn (hcl 7 _ rfl hD 4 dc)) zak)) (zbU (zab (zal (by rfl)) rfl))))
  ·
   intro D b hn hd hcl
   obtain ⟨b11,hd14⟩:=b
   refine zaD (zdd (zab (zag (fun hD=>hn (hcl 6 _ rfl (hcl 7 _ rfl hD 6 dc) 5 dc)) zak) (zbU (zab (zag (fun hD=>hn (hcl 6 _ rfl hD 5 dc)) zak) rfl)))) ?_
   refine zaY (k:=4) (cs:=[zI line1,zI (s1.size:Int),zI 0,zI line2]) zmt rfl dc (zba (by rfl) rfl) rfl rfl rfl ?_
   exact zaJ (b:=(b11,hd14)) (b11,hd14) 5 (by rfl) (by rfl) rfl (zgW rfl) (zdd (zab ((zal (by rfl)).trans (zag (fun hD=>hn (hcl 6 _ rfl (hcl 7 _ rfl hD 6 dc) 5 dc)) zak)) (zbU (zab ((zal (by rfl)).trans (zag (fun hD=>hn (hcl 6 _ rfl hD 5 dc)) zak)) rfl))))
  ·
   intro D b hn hd hcl
   obtain ⟨zb0,hd14⟩:=b
   refine zaD (zdd (zab (zag (fun hD=>hn (hcl 7 _ rfl hD 6 dc)) zak) (zbU (zab (zag hn zak) rfl)))) ?_
   refine za1 (cs:=[zI line1,zI (s1.size:Int),zI 0,zI line2]) (te:=157) (ps:=[(0,.tmp 146)]) rfl dc (evP.cons (zaa (m:=5) rfl rfl (hd 5 dc)) evP.nil) (fun _=>by kernel_rfl) (fun b11 => ?_)
   refine zci 6 rfl rfl ?_
   exact zaJ (b:=(zb0,hd14)) (b11,hd14) 6 (by rfl) (by rfl) rfl (zmF (zam (fun hD=>absurd hD hn) (zam (fun _=>rfl) rfl))) (zdd (zab ((zal (by rfl)).trans (zag (fun hD=>hn (hcl 7 _ rfl hD 6 dc)) zak)) (zbU (zab (zaz (Or.inr rfl) rfl) rfl))))
  ·
   intro D b hn hd hcl
   obtain ⟨b11,zb1⟩:=b
   refine zaD (zdd (zab (zag hn zak) (zbU (zab (zaz (hd 6 dc) rfl) rfl)))) ?_
   refine zbc (k:=2) (k2:=6) (ys:=[(⟨line1,(s1.size:Int),0,line2⟩:Gplace_ended)]) Tryz.underlying151 zmz zbY zer rfl dc (zaa (m:=4) rfl rfl (hd 4 dc)) (zaa (m:=6) rfl rfl (hd 6 dc)) rfl rfl rfl rfl hg17 (fun v4 => ?_)
   refine zbo (k:=2) rfl (fun hd14 he4 => ?_)
   subst he4
   exact zaJ (b:=(b11,zb1)) (b11,hd14) 7 (by rfl) (by rfl) rfl (zhC (zam (fun hD=>absurd hD hn) rfl)) (zdd (zab (zaz (Or.inr rfl) rfl) (zbU (zab ((zal (by rfl)).trans (zaz (hd 6 dc) rfl)) rfl))))
  intro D b hall
  obtain ⟨b11,hd14⟩:=b
  refine zaD (zdd (zab (zaz (hall 7 dc) rfl) (zbU (zab (zaz (hall 6 dc) rfl) rfl)))) (zap rfl dc rfl (zac zd3 rfl dc rfl (show _=2 from rfl) ?_))
  refine zaG (k:=0) (l':=[.string s1,hd13.v,hd14.v]) zmr rfl rfl rfl rfl rfl (fun _ _=>rfl) rfl ?_
  refine zyH (zyR 3 rfl (zyN (zau (zbz (by simp) ?_))))
  refine zkp (As:=[cells b1 [.string s1,hd13.v,hd14.v] 153,zv3 hd13.v (m1++[(⟨(s1.size:Int),p2,p3,p4,p5⟩:Gapi_Place)]),zv2 hd14.v (m2++[(⟨line1,(s1.size:Int),0,line2⟩:Gplace_ended)])]) (zae [0,1,2] kr rfl) (zhn (enc:=zda) (nest:=zc8) (t:=153) (x:=(⟨s1,m1++[(⟨(s1.size:Int),p2,p3,p4,p5⟩:Gapi_Place)],m2++[(⟨line1,(s1.size:Int),0,line2⟩:Gplace_ended)]⟩:Gplace_Map)) (b:=b1) (hd:=(hd13,hd14))) (fun _ _ => ?_)
  cases h
  exact zaC (rs:=[.tmp 2,.tmp 3]) (zP b1) (.inl rfl) Tryz.results45 (.cons (.tmp rfl) (.cons (.tmp rfl) .nil)) rfl (zae [7] kr rfl)
 exact fun b hb=>hb.elim
def zdU (m1:Gplace_Map):Option Int :=
some (m1.lines.length:Int)
theorem zgp {bm1:Nat} {m1:Gplace_Map} {m1_h0 m1_h1:Hd} {r:Int} (h:zdU m1=some r):FnR Tryz.prog 46 [zP bm1] [cells bm1 [.string m1.text,m1_h0.v,m1_h1.v] 153,zv3 m1_h0.v m1.places,zv2 m1_h1.v m1.lines] [] (fun _:Unit=>(zI r)) (fun _=>[]):=by
 unfold zdU at h
 refine FnR.intro Tryz.func46 rfl Tryz.ntmps46 (by simp) ?_
 intro w0 K hrd
 refine zyG (zyR 1 rfl (zyN (zay (zyG (zyR 1 rfl (zaO rfl (zbB Tryz.underlying99) (zyN (zaL rfl (zat ?_)))))))))
 refine zaE (zyG (zyR 1 rfl (zap rfl dc rfl (zac zd3 rfl dc rfl (show _=2 from rfl) (zaS (i:=0) hrd rfl zhr rfl dc rfl rfl (zcU (hrd.vw (i:=2) rfl) rfl dc rfl Tryz.underlying151 (zyR 1 rfl (zyN (zau ?_)))))))))
 cases h
 exact zaC (rs:=[.tmp 2]) () (.inl rfl) Tryz.results46 (.cons (.tmp rfl) .nil) rfl Splits.nil
def zej (m1:Gplace_Map) (line1:Int):Option (Gapi_Span×Int×Int) :=
zav (decide ((line1:Int)<0)) (
some ((⟨0,0⟩:Gapi_Span),0,5)
) (
zav (decide (((m1.lines.length:Int):Int)≤line1)) (
some ((⟨0,0⟩:Gapi_Span),0,5)
) (
zar (zc9 m1.lines line1) fun (q1:Gplace_ended) =>
some ((⟨q1.span_From,q1.span_To⟩:Gapi_Span),q1.end_,0)
)
)
theorem zg2 {bm1:Nat} {m1:Gplace_Map} {m1_h0 m1_h1:Hd} {line1:Int} {r:(Gapi_Span×Int×Int)} (h:zej m1 line1=some r):FnR Tryz.prog 47 [zP bm1,zI line1] [cells bm1 [.string m1.text,m1_h0.v,m1_h1.v] 153,zv3 m1_h0.v m1.places,zv2 m1_h1.v m1.lines] [] (fun _:Unit=>(.tuple #[.agg (zr7 r.1).toArray,zI r.2.1,zI r.2.2])) (fun _=>[]):=by
 unfold zej at h
 refine FnR.intro Tryz.func47 rfl Tryz.ntmps47 (by simp) ?_
 intro w0 K hrd
 refine zyG ?_
 refine zbb zmL rfl dc (fun b1 => ?_)
 refine zyR 2 rfl (zyN (zay (zyG (zyR 1 rfl (zaO rfl (zbB Tryz.underlying99) (zyN (zaL rfl (zat (zaE ?_)))))))))
 refine zay (zyG (zyR 1 rfl (zaO rfl zbv (zyR 1 rfl ?_))))
 refine zyS (s:=12) rfl h (fun h => ?_) (fun h => ?_)
 ·
  refine zyR 8 rfl (zyN (za0 rfl (zyG ?_)))
  refine zbg (v:=.agg #[zI 0,zI 0]) (ps:=[]) rfl dc rfl (fun _=>by kernel_rfl) ?_
  refine zaR (k:=0) (vs:=[zI 0,zI 0]) (l':=[zI 0,zI 0]) zkO rfl rfl rfl rfl rfl (show _≤_ by simp) rfl rfl ?_
  refine zyR 2 rfl (zyN (zau (zah ?_)))
  cases h
  exact zaC (rs:=[.cell 4 38,.tmp 5,.tmp 6]) () (.inl rfl) Tryz.results47 (.cons (.cells zkR (k:=0) rfl rfl rfl) (.cons (.tmp rfl) (.cons (.tmp rfl) .nil))) rfl Splits.nil
 refine zyR 2 rfl (zap rfl dc rfl (zac zd3 rfl dc rfl (show _=2 from rfl) (zaS (i:=0) hrd rfl zhr rfl dc rfl rfl (zcU (hrd.vw (i:=2) rfl) rfl dc rfl Tryz.underlying151 (zaO rfl zep (zyR 1 rfl (zyN ?_)))))))
 refine zyB rfl h (fun h => ?_) (fun h => ?_)
 ·
  refine zyG ?_
  refine zbg (v:=.agg #[zI 0,zI 0]) (ps:=[]) rfl dc rfl (fun _=>by kernel_rfl) ?_
  refine zaR (k:=0) (vs:=[zI 0,zI 0]) (l':=[zI 0,zI 0]) zkO rfl rfl rfl rfl rfl (show _≤_ by simp) rfl rfl ?_
  refine zyR 2 rfl (zyN (zau (zah ?_)))
  cases h
  exact zaC (rs:=[.cell 4 38,.tmp 5,.tmp 6]) () (.inl rfl) Tryz.results47 (.cons (.cells zkR (k:=0) rfl rfl rfl) (.cons (.tmp rfl) (.cons (.tmp rfl) .nil))) rfl Splits.nil
 refine zat (zaE (zay ?_))
 obtain ⟨q1,hq1,h⟩:=zbl h
 refine zmp (β:=Unit) 17 16 _ [(0,22,zP bm1),(1,23,zP bm1),(2,24,.pointer (some ⟨bm1,2,none⟩)),(3,25,m1_h1.v),(4,26,zI line1),(5,27,.pointer (some ⟨zcL m1_h1.v,(0+(line1:Int).toNat)*4,none⟩)),(6,28,.pointer (some ⟨zcL m1_h1.v,(0+(line1:Int).toNat)*4,none⟩)),(7,29,.agg #[zI q1.span_From,zI q1.span_To]),(8,30,zP bm1),(9,31,zP bm1),(10,32,.pointer (some ⟨bm1,2,none⟩)),(11,33,m1_h1.v),(12,34,zI line1),(13,35,.pointer (some ⟨zcL m1_h1.v,(0+(line1:Int).toNat)*4,none⟩)),(14,36,.pointer (some ⟨zcL m1_h1.v,(0+(line1:Int).toNat)*4+2,none⟩)),(15,37,zI q1.end_)] (fun _b=>[]) (fun _b=>[cells b1 [zI q1.span_From,zI q1.span_To] 38]) mixed kr kr rfl dc dc (by rfl) kr kr (zyE 1 0 rfl (zaW ?_ (zaW ?_ (zaW ?_ (zyE 1 4 rfl (zaW ?_ (zaW ?_ (zaW ?_ (zyE 1 8 rfl (zaW ?_ (zaW ?_ (zaW ?_ (zyE 1 12 rfl (zaW ?_ (zaW ?_ (zaW ?_ (zgU DrawPreX.nil))))))))))))))))) (fun _b=>(zyE 1 0 rfl (zaW ?_ (zaW ?_ (zaW ?_ (zyE 1 4 rfl (zaW ?_ (zaW ?_ (zaW ?_ (zyE 1 8 rfl (zaW ?_ (zaW ?_ (zaW ?_ (zyE 1 12 rfl (zaW ?_ (zaW ?_ (zaW ?_ (zgU DrawPreX.nil)))))))))))))))))) ?_ ?_
 · exact fun D n d c u i=>zap rfl dc (zaa (m:=0) u rfl (d 0 dc)) (zaf 1 u i rfl)
 · exact fun D n d c u i=>zac zd3 rfl dc (zaa (m:=1) u rfl (d 1 dc)) (show _=2 from rfl) (zaf 2 u i rfl)
 · exact fun D n d c u i=>zaS (i:=0) hrd rfl zhr rfl dc (zaa (m:=2) u rfl (d 2 dc)) rfl (zaf 3 u i rfl)
 · exact fun D n d c u i=>za3 (hrd.vw (i:=2) rfl) hq1 Tryz.underlying151 ziO rfl dc (zaa (m:=3) u rfl (d 3 dc)) (zaa (m:=4) u rfl (d 4 dc)) rfl (zaf 5 u i rfl)
 · exact fun D n d c u i=>zac zhT rfl dc (zaa (m:=5) u rfl (d 5 dc)) (show _=(0+(line1:Int).toNat)*4 from rfl) (zaf 6 u i rfl)
 · exact fun D n d c u i=>zcA (m:=0+(line1:Int).toNat) (j:=0) (i:=2) (q:=q1) (cs:=[zI q1.span_From,zI q1.span_To]) hrd rfl zkR zbY rfl dc (zaa (m:=6) u rfl (d 6 dc)) (Vw.get (hrd.vw (i:=2) rfl) hq1) rfl rfl rfl (zaf 7 u i rfl)
 · exact fun D n d c u i=>zap rfl dc (zaa (m:=8) u rfl (d 8 dc)) (zaf 9 u i rfl)
 · exact fun D n d c u i=>zac zd3 rfl dc (zaa (m:=9) u rfl (d 9 dc)) (show _=2 from rfl) (zaf 10 u i rfl)
 · exact fun D n d c u i=>zaS (i:=0) hrd rfl zhr rfl dc (zaa (m:=10) u rfl (d 10 dc)) rfl (zaf 11 u i rfl)
 · exact fun D n d c u i=>za3 (hrd.vw (i:=2) rfl) hq1 Tryz.underlying151 ziO rfl dc (zaa (m:=11) u rfl (d 11 dc)) (zaa (m:=12) u rfl (d 12 dc)) rfl (zaf 13 u i rfl)
 · exact fun D n d c u i=>zac zjo rfl dc (zaa (m:=13) u rfl (d 13 dc)) (show _=(0+(line1:Int).toNat)*4+2 from rfl) (zaf 14 u i rfl)
 · exact fun D n d c u i=>zbT (n:=0+(line1:Int).toNat) (j:=2) (i:=2) (q:=q1) hrd rfl zbC zbY rfl dc (zaa (m:=14) u rfl (d 14 dc)) (Vw.get (hrd.vw (i:=2) rfl) hq1) rfl dc rfl (zaf 15 u i rfl)
 · exact fun D n d c u i=>zap rfl dc (zaa (m:=0) u rfl (d 0 dc)) (zaf 1 u i rfl)
 · exact fun D n d c u i=>zac zd3 rfl dc (zaa (m:=1) u rfl (d 1 dc)) (show _=2 from rfl) (zaf 2 u i rfl)
 · exact fun D n d c u i=>zaS (i:=0) hrd rfl zhr rfl dc (zaa (m:=2) u rfl (d 2 dc)) rfl (zaf 3 u i rfl)
 · exact fun D n d c u i=>za3 (hrd.vw (i:=2) rfl) hq1 Tryz.underlying151 ziO rfl dc (zaa (m:=3) u rfl (d 3 dc)) (zaa (m:=4) u rfl (d 4 dc)) rfl (zaf 5 u i rfl)
 · exact fun D n d c u i=>zac zhT rfl dc (zaa (m:=5) u rfl (d 5 dc)) (show _=(0+(line1:Int).toNat)*4 from rfl) (zaf 6 u i rfl)
 · exact fun D n d c u i=>zcA (m:=0+(line1:Int).toNat) (j:=0) (i:=2) (q:=q1) (cs:=[zI q1.span_From,zI q1.span_To]) hrd rfl zkR zbY rfl dc (zaa (m:=6) u rfl (d 6 dc)) (Vw.get (hrd.vw (i:=2) rfl) hq1) rfl rfl rfl (zaf 7 u i rfl)
 · exact fun D n d c u i=>zap rfl dc (zaa (m:=8) u rfl (d 8 dc)) (zaf 9 u i rfl)
 · exact fun D n d c u i=>zac zd3 rfl dc (zaa (m:=9) u rfl (d 9 dc)) (show _=2 from rfl) (zaf 10 u i rfl)
 · exact fun D n d c u i=>zaS (i:=0) hrd rfl zhr rfl dc (zaa (m:=10) u rfl (d 10 dc)) rfl (zaf 11 u i rfl)
 · exact fun D n d c u i=>za3 (hrd.vw (i:=2) rfl) hq1 Tryz.underlying151 ziO rfl dc (zaa (m:=11) u rfl (d 11 dc)) (zaa (m:=12) u rfl (d 12 dc)) rfl (zaf 13 u i rfl)
 · exact fun D n d c u i=>zac zjo rfl dc (zaa (m:=13) u rfl (d 13 dc)) (show _=(0+(line1:Int).toNat)*4+2 from rfl) (zaf 14 u i rfl)
 · exact fun D n d c u i=>zbT (n:=0+(line1:Int).toNat) (j:=2) (i:=2) (q:=q1) hrd rfl zbC zbY rfl dc (zaa (m:=14) u rfl (d 14 dc)) (Vw.get (hrd.vw (i:=2) rfl) hq1) rfl dc rfl (zaf 15 u i rfl)
 ·
  intro D hn hd hcl
  refine zaR (k:=0) (vs:=[zI q1.span_From,zI q1.span_To]) (l':=[zI q1.span_From,zI q1.span_To]) zkO rfl (zba (by rfl) rfl) (zaa (m:=7) kr rfl (hd 7 dc)) rfl rfl (show _≤_ by simp) rfl rfl ?_
  exact fun a w ha hw=>⟨(),ha,hw⟩
 intro _b
 refine zyR 2 rfl (zyN (zau ?_))
 cases h
 exact zaC (rs:=[.cell 4 38,.tmp 5,.tmp 6]) () (.inl rfl) Tryz.results47 (.cons (.cells zkR (k:=0) rfl rfl rfl) (.cons (.tmp rfl) (.cons (.tmp rfl) .nil))) rfl Splits.nil
end Go.Proofs.YtbempdelckaccaaGreatDoor

namespace Go.Proofs.YtbempdelckaccaaGreatDoor
open Go.RowKit Go.Lib
set_option linter.unusedVariables false
set_option linter.unusedSimpArgs false
def zby (s1:ByteArray) (prefix1:ByteArray):Option Bool :=
zav (decide (((prefix1.size:Int):Int)≤(s1.size:Int))) (
grd (0≤(0:Int)∧(0:Int)≤(prefix1.size:Int)∧((prefix1.size:Int):Int)≤(s1.size:Int)) <|
some (decide (zdx s1 0 (prefix1.size:Int)=prefix1))
) (
some false
)
theorem zcy {s1:ByteArray} {prefix1:ByteArray} {r:Bool} (h:zby s1 prefix1=some r):FnP Tryz.prog 80 [.string s1,.string prefix1] (.bool r):=by
 unfold zby at h
 refine FnP.intro Tryz.func80 rfl Tryz.ntmps80 (by simp) ?_
 intro w0 K
 refine zyG (zyR 1 rfl (zyH (zyR 1 rfl (zbG rfl dc rfl Tryz.underlying9 (zyR 1 rfl (zbG rfl dc rfl Tryz.underlying9 (zaO rfl zep (zyR 1 rfl ?_))))))))
 refine zyS (s:=10) rfl h (fun h => ?_) (fun h => ?_)
 ·
  refine zyR 2 rfl (zbG rfl dc rfl Tryz.underlying9 ?_)
  obtain ⟨hg1,h⟩:=zbs h
  refine zd5 rfl dc rfl rfl rfl (zb7 (i:=0) (j:=(prefix1.size:Int)) Tryz.underlying9 (.inl ⟨rfl,rfl⟩) (.inr rfl) hg1) (zyR 1 rfl (zaO rfl zeL (zyR 2 rfl (zyN (zau ?_)))))
  cases h
  exact zaC (rs:=[.tmp 4]) () (.inl rfl) Tryz.results80 (.cons (.tmp rfl) .nil) rfl Splits.nil
 refine zyR 8 rfl (zyN (zau ?_))
 cases h
 exact zaC (rs:=[.tmp 4]) () (.inl rfl) Tryz.results80 (.cons (.tmp rfl) .nil) rfl Splits.nil
def zcQ (s1:ByteArray) (prefix1:ByteArray):Option Bool :=
zar (zby s1 prefix1) fun (r1:Bool) =>
some r1
theorem zeq {s1:ByteArray} {prefix1:ByteArray} {r:Bool} (h:zcQ s1 prefix1=some r):FnP Tryz.prog 53 [.string s1,.string prefix1] (.bool r):=by
 unfold zcQ at h
 refine FnP.intro Tryz.func53 rfl Tryz.ntmps53 (by simp) ?_
 intro w0 K
 refine zyG (zyR 1 rfl (zyH (zyR 2 rfl ?_)))
 obtain ⟨r1,hq1,h⟩:=zbl h
 refine za5 (v:=.bool r1) (vs:=[.string s1,.string prefix1]) rfl dc rfl rfl rfl znM (zcy hq1) (zyR 1 rfl (zyN (zau ?_)))
 cases h
 exact zaC (rs:=[.tmp 4]) () (.inl rfl) Tryz.results53 (.cons (.tmp rfl) .nil) rfl Splits.nil
def zbW (s1:ByteArray) (prefix1:ByteArray):Option ByteArray :=
zar (zby s1 prefix1) fun (r1:Bool) =>
zav (r1) (
grd (0≤((prefix1.size:Int):Int)∧((prefix1.size:Int):Int)≤(s1.size:Int)∧((s1.size:Int):Int)≤(s1.size:Int)) <|
some (zdx s1 (prefix1.size:Int) (s1.size:Int))
) (
some s1
)
theorem zdB {s1:ByteArray} {prefix1:ByteArray} {r:ByteArray} (h:zbW s1 prefix1=some r):FnP Tryz.prog 79 [.string s1,.string prefix1] (.string r):=by
 unfold zbW at h
 refine FnP.intro Tryz.func79 rfl Tryz.ntmps79 (by simp) ?_
 intro w0 K
 refine zyG (zyR 1 rfl (zyN (zay (zyG (zyR 2 rfl ?_)))))
 obtain ⟨r1,hq1,h⟩:=zbl h
 refine za5 (v:=.bool r1) (vs:=[.string s1,.string prefix1]) rfl dc rfl rfl rfl znM (zcy hq1) (zyN ?_)
 refine zyB rfl h (fun h => ?_) (fun h => ?_)
 ·
  refine zyG (zyR 2 rfl (zbG rfl dc rfl Tryz.underlying9 ?_))
  obtain ⟨hg1,h⟩:=zbs h
  refine zd5 rfl dc rfl rfl rfl (zb7 (i:=(prefix1.size:Int)) (j:=(s1.size:Int)) Tryz.underlying9 (.inr rfl) (.inl ⟨rfl,rfl⟩) hg1) (zyR 1 rfl (zyN (zau (zah ?_))))
  cases h
  exact zaC (rs:=[.tmp 4]) () (.inl rfl) Tryz.results79 (.cons (.tmp rfl) .nil) rfl Splits.nil
 refine zat (zaE (zyG (zyR 2 rfl (zyN (zau ?_)))))
 cases h
 exact zaC (rs:=[.tmp 4]) () (.inl rfl) Tryz.results79 (.cons (.tmp rfl) .nil) rfl Splits.nil
def zdh (s1:ByteArray) (prefix1:ByteArray):Option ByteArray :=
zar (zbW s1 prefix1) fun (r1:ByteArray) =>
some r1
theorem zfx {s1:ByteArray} {prefix1:ByteArray} {r:ByteArray} (h:zdh s1 prefix1=some r):FnP Tryz.prog 50 [.string s1,.string prefix1] (.string r):=by
 unfold zdh at h
 refine FnP.intro Tryz.func50 rfl Tryz.ntmps50 (by simp) ?_
 intro w0 K
 refine zyG (zyR 1 rfl (zyH (zyR 2 rfl ?_)))
 obtain ⟨r1,hq1,h⟩:=zbl h
 refine za5 (v:=.string r1) (vs:=[.string s1,.string prefix1]) rfl dc rfl rfl rfl zoP (zdB hq1) (zyR 1 rfl (zyN (zau ?_)))
 cases h
 exact zaC (rs:=[.tmp 4]) () (.inl rfl) Tryz.results50 (.cons (.tmp rfl) .nil) rfl Splits.nil
end Go.Proofs.YtbempdelckaccaaGreatDoor

namespace Go.Proofs.YtbempdelckaccaaGreatDoor
open Go.RowKit Go.Lib
set_option linter.unusedVariables false
set_option linter.unusedSimpArgs false
def zeG (s1:ByteArray):Option Bool :=
grd (s1.size≤9223372036854775807) <|
some (decide (zk8 s1=(⟨#[]⟩:ByteArray)))
theorem zgo {s1:ByteArray} {r:Bool} (h:zeG s1=some r):FnP Tryz.prog 48 [.string s1] (.bool r):=by
 unfold zeG at h
 refine FnP.intro Tryz.func48 rfl Tryz.ntmps48 (by simp) ?_
 intro w0 K
 refine zyG (zyR 1 rfl (zyH (zyR 1 rfl ?_)))
 obtain ⟨hg1,h⟩:=zbs h
 refine za5 (v:=.string (zk8 s1)) (vs:=[.string s1,.string (⟨#[32,9]⟩:ByteArray)]) rfl dc rfl rfl rfl zoQ (znu s1 hg1) (zaO rfl zeL (zyR 1 rfl (zyN (zau ?_))))
 cases h
 exact zaC (rs:=[.tmp 2]) () (.inl rfl) Tryz.results48 (.cons (.tmp rfl) .nil) rfl Splits.nil
def zes (s1:ByteArray):Option Bool :=
zav (decide (s1=(⟨#[35]⟩:ByteArray))) (
some true
) (
zar (zcQ s1 (⟨#[35,32]⟩:ByteArray)) fun (r1:Bool) =>
some r1
)
theorem zfY {s1:ByteArray} {r:Bool} (h:zes s1=some r):FnP Tryz.prog 49 [.string s1] (.bool r):=by
 unfold zes at h
 refine FnP.intro Tryz.func49 rfl Tryz.ntmps49 (by simp) ?_
 intro w0 K
 refine zyG (zyR 1 rfl (zyH (zyR 1 rfl (zaO rfl zeL (zyR 1 rfl ?_)))))
 refine zyS (s:=5) rfl h (fun h => ?_) (fun h => ?_)
 ·
  refine zyR 4 rfl (zyN (zau ?_))
  cases h
  exact zaC (rs:=[.tmp 2]) () (.inl rfl) Tryz.results49 (.cons (.tmp rfl) .nil) rfl Splits.nil
 refine zyR 1 rfl ?_
 obtain ⟨r1,hq1,h⟩:=zbl h
 refine za5 (v:=.bool r1) (vs:=[.string s1,.string (⟨#[35,32]⟩:ByteArray)]) rfl dc rfl rfl rfl znP (zeq hq1) (zyR 2 rfl (zyN (zau ?_)))
 cases h
 exact zaC (rs:=[.tmp 2]) () (.inl rfl) Tryz.results49 (.cons (.tmp rfl) .nil) rfl Splits.nil
def zdo (s1:ByteArray) (j1:Int→Option Int) (ag1:Int→Nat→Option Int) (n4:Int) (m3:Nat):Option Int :=
zav (decide (m3<(pcs s1.data.toList).length)) (
zar ((pcs s1.data.toList)[m3]?) fun (p1:Pc) =>
zav (((p1.r:Int):Int) != 32) (
j1 n4
) (
grd (I64 (n4+1)) <|
ag1 (n4+1) (m3+1)
)
) (
j1 n4
)
def zfa (s1:ByteArray):Option Int :=
zbp (fun (j1:Int→Option Int) =>
za9 (fun _ _=>none) (zdo s1 j1) zcN 0 0
) (fun (n1:Int) =>
some n1
)
theorem ziF {s1:ByteArray} {r:Int} (h:zfa s1=some r):FnP Tryz.prog 51 [.string s1] (zI r):=by
 unfold zfa at h
 refine FnP.intro Tryz.func51 rfl Tryz.ntmps51 (by simp) ?_
 intro w0 K
 obtain ⟨j1,hj1,h⟩:=zbw h
 refine zaU (β:=Int) 2 rfl (fun b=>j1 b=some r) (fun b=>[]) (fun b=>[(3,zI b)]) (fun b=>[]) (fun cut => ?_) ?_
 ·
  refine zyG (zyR 1 rfl (zyH (zyR 1 rfl (zyN (cut (zyG (zyR 1 rfl ?_)))))))
  refine zdc Tryz.underlying9 rfl dc rfl (fun b1 => ?_)
  refine zyN (zaB ?_)
  refine zbm (β:=Nat×Int×Nat) (fun b=>za9 (fun _ _=>none) (zdo s1 j1) b.1 b.2.1 b.2.2=some r) (fun b=>[]) (fun b=>[(3,zI b.2.1),(7,zP b1)]) (fun b=>[obj b1 (.stringIter s1 (zeg s1 b.2.2))]) (fun b=>b.1) (zcN,0,0) (by exact h) rfl (za7 rfl) (zae [0] kr rfl) ?_
  rintro ⟨n5,n4,m3⟩ h
  cases n5 with
  | zero=>exact zcS h
  | succ n5 =>
   obtain ⟨ag1,hag1⟩:∃ ag,ag=za9 (fun _ _=>none) (zdo s1 j1) n5:=⟨_,rfl⟩
   have h:zdo s1 j1 ag1 n4 m3=some r:=by rw [hag1]; exact h
   unfold zdo at h
   refine zyG ?_
   refine zdg (b:=decide (m3<(pcs s1.data.toList).length)) (fun hb1 => ?_) (fun hb1 => ?_)
   ·
    have h:=zfI hb1 h
    obtain ⟨p1,hq1,h⟩:=zbl h
    refine zdz (k:=0) (m:=m3) (p:=p1) rfl dc rfl rfl hq1 (zax rfl dc rfl rfl (zyN (zay (za0 rfl (zat (zaE (zaB (zyG (zax rfl dc rfl rfl (zyR 1 rfl (zaV ?_)))))))))))
    refine zaE (zay (zyG (zyR 1 rfl (zaO rfl zbq (zyN ?_)))))
    refine zyB rfl h (fun h => ?_) (fun h => ?_)
    ·
     refine za6 (zao (zbS dc (zao (zaw ?_))))
     exact zaq n4 h rfl (za7 rfl) Splits.nil
    refine zat (zaE (zaA (zyR 1 rfl ?_)))
    obtain ⟨hg1,h⟩:=zbs h
    refine zaO rfl (zaT (r:=n4+1) (IntWalk.i64_in _ hg1)) (zyR 1 rfl (zaV (zai ?_)))
    subst hag1
    exact zaZ (n5,n4+1,m3+1) h (Nat.lt_succ_self _) rfl (za7 rfl) (zae [0] kr rfl)
   have h:=zfJ hb1 h
   refine zdA (k:=0) (m:=m3) rfl dc rfl rfl (Nat.le_of_not_lt (of_decide_eq_false hb1)) (zax rfl dc rfl rfl (zyN (zay (zaL rfl (za6 (zao (zao (zaw ?_))))))))
   exact zaq n4 h rfl (za7 rfl) Splits.nil
 rintro n1 h
 rw [hj1] at h
 refine zyG (zyR 2 rfl (zyN (zau ?_)))
 cases h
 exact zaC (rs:=[.tmp 2]) () (.inl rfl) Tryz.results51 (.cons (.tmp rfl) .nil) rfl Splits.nil
def zd8 (text1:ByteArray) (j1:ByteArray→(List Gapi_Verse)→(List Gapi_Span)→Option ((Option Gpoem_Poem)×Gapi_Spot)) (p4:Gplace_Map) (r2:Int) (ag1:ByteArray→(List Gapi_Verse)→(List Gapi_Span)→Bool→Bool→Int→Option ((Option Gpoem_Poem)×Gapi_Spot)) (p14:ByteArray) (p15:List Gapi_Verse) (p16:List Gapi_Span) (first3:Bool) (row3:Bool) (x3:Int):Option ((Option Gpoem_Poem)×Gapi_Spot) :=
zav (decide ((x3:Int)<r2)) (
zbp (fun (j2:ByteArray→(List Gapi_Verse)→(List Gapi_Span)→Bool→Bool→Option ((Option Gpoem_Poem)×Gapi_Spot)) =>
zbp (fun (j3:Int→Int→ByteArray→Option ((Option Gpoem_Poem)×Gapi_Spot)) =>
zar (zej p4 x3) fun (r3:(Gapi_Span×Int×Int)) =>
grd (0≤(r3.1.From:Int)∧(r3.1.From:Int)≤r3.1.To∧(r3.1.To:Int)≤(text1.size:Int)) <|
zar (zeG (zdx text1 r3.1.From r3.1.To)) fun (r4:Bool) =>
zav (r4) (
j2 p14 p15 p16 first3 false
) (
zav (decide ((1024:Int)<((zdx text1 r3.1.From r3.1.To).size:Int))) (
grd (I64 (r3.1.From+1024)) <|
some (none,(⟨3,r3.1.From+1024⟩:Gapi_Spot))
) (
zav (first3) (
zar (zes (zdx text1 r3.1.From r3.1.To)) fun (r5:Bool) =>
zav (r5) (
grd (0≤(1:Int)∧(1:Int)≤((zdx text1 r3.1.From r3.1.To).size:Int)∧(((zdx text1 r3.1.From r3.1.To).size:Int):Int)≤((zdx text1 r3.1.From r3.1.To).size:Int)) <|
zar (zdh (zdx (zdx text1 r3.1.From r3.1.To) 1 ((zdx text1 r3.1.From r3.1.To).size:Int)) (⟨#[32]⟩:ByteArray)) fun (r6:ByteArray) =>
j2 r6 p15 p16 false row3
) (
zav (((p15.length:Int):Int)==512) (
some (none,(⟨3,r3.1.From⟩:Gapi_Spot))
) (
j3 r3.1.From r3.1.To (zdx text1 r3.1.From r3.1.To)
)
)
) (
zav (((p15.length:Int):Int)==512) (
some (none,(⟨3,r3.1.From⟩:Gapi_Spot))
) (
j3 r3.1.From r3.1.To (zdx text1 r3.1.From r3.1.To)
)
)
)
)
) (fun (span1:Int) (span2:Int) (line1:ByteArray) =>
zbp (fun (j4:(List Gapi_Span)→Option ((Option Gpoem_Poem)×Gapi_Spot)) =>
zav (!row3) (
grd (p16.length+1≤2147483648) <|
j4 (p16++[(⟨(p15.length:Int),(p15.length:Int)⟩:Gapi_Span)])
) (
j4 p16
)
) (fun (p20:List Gapi_Span) =>
grd (I64 ((p20.length:Int) - 1)) <|
zar (zc9 p20 ((p20.length:Int) - 1)) fun (q1:Gapi_Span) =>
zar (zfa line1) fun (r7:Int) =>
grd (0≤(r7:Int)∧(r7:Int)≤(line1.size:Int)∧((line1.size:Int):Int)≤(line1.size:Int)) <|
grd (I64 ((p20.length:Int) - 1)) <|
grd (I64 ((p15.length:Int) - q1.From)) <|
grd (I64 (span1+r7)) <|
grd (p15.length+1≤2147483648) <|
grd (I64 ((p15.length:Int)+1)) <|
j2 p14 (p15++[(⟨zdx line1 r7 (line1.size:Int),r7,(p20.length:Int) - 1,(p15.length:Int) - q1.From,span1+r7,span2⟩:Gapi_Verse)]) (p20.set ((p20.length:Int) - 1:Int).toNat (⟨q1.From,(p15.length:Int)+1⟩:Gapi_Span)) false true
)
)
) (fun (p17:ByteArray) (p18:List Gapi_Verse) (p19:List Gapi_Span) (first4:Bool) (row4:Bool) =>
grd (I64 (x3+1)) <|
ag1 p17 p18 p19 first4 row4 (x3+1)
)
) (
j1 p14 p15 p16
)
def zfb (text1:ByteArray):Option ((Option Gpoem_Poem)×Gapi_Spot) :=
zar (zf5 text1) fun (r1:((Option Gplace_Map)×Int)) =>
zav ((r1.2:Int) != 0) (
some (none,(⟨r1.2,65536⟩:Gapi_Spot))
) (
zbp (fun (j1:ByteArray→(List Gapi_Verse)→(List Gapi_Span)→Option ((Option Gpoem_Poem)×Gapi_Spot)) =>
zar (r1.1) fun (p4:Gplace_Map) =>
zar (zdU p4) fun (r2:Int) =>
za9 (fun _ _ _ _ _ _=>none) (zd8 text1 j1 p4 r2) zcN ByteArray.empty ([]:List Gapi_Verse) ([]:List Gapi_Span) true false 0
) (fun (p1:ByteArray) (p2:List Gapi_Verse) (p3:List Gapi_Span) =>
some ((some (⟨p1,p2,p3,text1⟩:Gpoem_Poem)),(⟨0,0⟩:Gapi_Spot))
)
)
theorem zht {text1:ByteArray} {r:((Option Gpoem_Poem)×Gapi_Spot)} (h:zfb text1=some r):Fn Tryz.prog 22 [.string text1] [] (fun v0:Value=>.tuple #[v0,.agg (zr5 r.2).toArray]) (fun v0=>[zfv zaI zaH 106 v0 r.1]):=by
 unfold zfb at h
 refine Fn.intro Tryz.func22 rfl Tryz.ntmps22 (by simp) ?_
 intro w0 K
 refine zyG (zyR 1 rfl ?_)
 refine zbb zmK rfl dc (fun b1 => ?_)
 refine zyN ?_
 refine zeM (β:=Unit) (l:=0) (fun _=>False) (fun _=>[]) (fun _=>[]) rfl ?_ ?_
 ·
  refine zyG (zyR 1 rfl ?_)
  obtain ⟨r1,hq1,h⟩:=zbl h
  refine zcB (vs:=[.string text1]) rfl dc rfl rfl rfl zo4 (zjI hq1) Splits.nil ?_
  rintro v1
  refine zbM (L':=[cells b1 [zI 0,zI 0] 60,zfv zda zc8 153 v1 r1.1]) (zae [0,1] kr rfl) (zyR 1 rfl (zax rfl dc rfl rfl (zax rfl dc rfl rfl (zyR 2 rfl (zyN (zay (zyG (zyR 1 rfl (zaO rfl zbq (zaV ?_))))))))))
  refine zaE ?_
  refine zyB rfl h (fun h => ?_) (fun h => ?_)
  ·
   refine zyG (zyR 1 rfl ?_)
   refine zbg (v:=.agg #[zI r1.2,zI 65536]) (ps:=[(0,.tmp 24),(1,.const (zI 65536))]) rfl dc rfl (fun _=>by kernel_rfl) ?_
   refine zyR 1 rfl (zaR (k:=0) (vs:=[zI r1.2,zI 65536]) (l':=[zI r1.2,zI 65536]) zj8 rfl rfl rfl rfl rfl (show _≤_ by simp) rfl rfl (zyN (zau (zah (zbz (by simp) (zca zaI zaH 106 ?_))))))
   cases h
   exact zaC (rs:=[.tmp 2,.cell 3 60]) (.pointer none) (.inl rfl) Tryz.results22 (.cons (.tmp rfl) (.cons (.cells zlj (k:=0) rfl rfl rfl) .nil)) rfl (zae [2] kr rfl)
  refine zat (zaE ?_)
  obtain ⟨j1,hj1,h⟩:=zbw h
  refine zaU (β:=ByteArray×(List Gapi_Verse)×(List Gapi_Span)×Nat×Hd×Hd) 3 rfl (fun b=>j1 b.1 b.2.1 b.2.2.1=some r) (fun b=>[]) (fun b=>[(3,zP b1),(6,zP b.2.2.2.1)]) (fun b=>[cells b1 [zI 0,zI 0] 60,cells b.2.2.2.1 [.string b.1,b.2.2.2.2.1.v,b.2.2.2.2.2.v,.string text1] 106,zv6 b.2.2.2.2.1.v b.2.1,zv7 b.2.2.2.2.2.v b.2.2.1]) (fun cut => ?_) ?_
  ·
   refine zyG (zyR 1 rfl ?_)
   refine zbg (v:=.agg #[.string ByteArray.empty,.slice none 0 0,.slice none 0 0,.string text1]) (ps:=[(1,.tmp 26)]) rfl dc rfl (fun _=>by kernel_rfl) ?_
   refine zcP rfl dc rfl (fun b3 => ?_)
   refine zyR 1 rfl (zyH (zyR 2 rfl (zyN (zay (zhZ (zaE (cut (zay ?_))))))))
   refine zaA (zyR 1 rfl ?_)
   obtain ⟨p4,hq2,h⟩:=zbl h
   refine zjv (As:=[zfv zda zc8 153 v1 r1.1]) (zae [1] kr rfl) (zeN hq2) ?_
   rintro ⟨b4,hd3,hd4⟩ hv1
   subst hv1
   obtain ⟨r2,hq3,h⟩:=zbl h
   refine zbH (v:=zI r2) (vs:=[zP b4]) (Rd.nil:Rd _ _ []) rfl dc rfl rfl rfl zo3 (zgp (bm1:=b4) (m1:=p4) (m1_h0:=hd3) (m1_h1:=hd4) hq3) (.own (zae [3] (by kernel_rfl) rfl) (fun _ _ h=>sepL.one1.1 h) (.own (zae [4] (by kernel_rfl) rfl) (fun _ _ h=>sepL.one1.1 h) (.own (zae [5] (by kernel_rfl) rfl) (fun _ _ h=>sepL.one1.1 h) .nil))) ?_
   refine zyR 1 rfl (zyN (zaB (zdQ (enc:=zcV) (e:=76) (size:=6) ?_)))
   refine zdQ (enc:=zde) (e:=38) (size:=2) ?_
   refine zbm (β:=Nat×ByteArray×(List Gapi_Verse)×(List Gapi_Span)×Bool×Bool×Int×Hd×Hd) (fun b=>za9 (fun _ _ _ _ _ _=>none) (zd8 text1 j1 p4 r2) b.1 b.2.1 b.2.2.1 b.2.2.2.1 b.2.2.2.2.1 b.2.2.2.2.2.1 b.2.2.2.2.2.2.1=some r) (fun b=>[]) (fun b=>[(0,.string text1),(3,zP b1),(4,zP b4),(6,zP b3),(7,.bool b.2.2.2.2.1),(8,.bool b.2.2.2.2.2.1),(30,zI r2),(31,zI b.2.2.2.2.2.2.1)]) (fun b=>[cells b1 [zI 0,zI 0] 60,cells b4 [.string p4.text,hd3.v,hd4.v] 153,zv3 hd3.v p4.places,zv2 hd4.v p4.lines,cells b3 [.string b.2.1,b.2.2.2.2.2.2.2.1.v,b.2.2.2.2.2.2.2.2.v,.string text1] 106,zv6 b.2.2.2.2.2.2.2.1.v b.2.2.1,zv7 b.2.2.2.2.2.2.2.2.v b.2.2.2.1]) (fun b=>b.1) (zcN,ByteArray.empty,([]:List Gapi_Verse),([]:List Gapi_Span),true,false,0,Hd.nil,Hd.nil) h rfl (za7 rfl) (zae [0,3,4,5,2,6,7] kr rfl) ?_
   rintro ⟨n1,p14,p15,p16,first3,row3,x3,hd10,hd11⟩ h
   cases n1 with
   | zero=>exact zcS h
   | succ n1 =>
    obtain ⟨ag1,hag1⟩:∃ ag,ag=za9 (fun _ _ _ _ _ _=>none) (zd8 text1 j1 p4 r2) n1:=⟨_,rfl⟩
    have h:zd8 text1 j1 p4 r2 ag1 p14 p15 p16 first3 row3 x3=some r:=by rw [hag1]; exact h
    unfold zd8 at h
    refine zyG (zaO rfl zbv (zyN (zay ?_)))
    refine zyB rfl h (fun h => ?_) (fun h => ?_)
    ·
     refine zat (zaE ?_)
     obtain ⟨j2,hj2,h⟩:=zbw h
     refine zaU (β:=ByteArray×(List Gapi_Verse)×(List Gapi_Span)×Bool×Bool×Hd×Hd) 0 rfl (fun b=>j2 b.1 b.2.1 b.2.2.1 b.2.2.2.1 b.2.2.2.2.1=some r) (fun b=>[]) (fun b=>[(0,.string text1),(3,zP b1),(4,zP b4),(6,zP b3),(7,.bool b.2.2.2.1),(8,.bool b.2.2.2.2.1),(30,zI r2),(31,zI x3)]) (fun b=>[cells b1 [zI 0,zI 0] 60,cells b4 [.string p4.text,hd3.v,hd4.v] 153,zv3 hd3.v p4.places,zv2 hd4.v p4.lines,cells b3 [.string b.1,b.2.2.2.2.2.1.v,b.2.2.2.2.2.2.v,.string text1] 106,zv6 b.2.2.2.2.2.1.v b.2.1,zv7 b.2.2.2.2.2.2.v b.2.2.1]) (fun cut => ?_) ?_
     ·
      refine cut (zaB ?_)
      obtain ⟨j3,hj3,h⟩:=zbw h
      refine zaU (β:=Int×Int×ByteArray×Nat) 3 rfl (fun b=>j3 b.1 b.2.1 b.2.2.1=some r) (fun b=>[]) (fun b=>[(0,.string text1),(3,zP b1),(4,zP b4),(6,zP b3),(8,.bool row3),(10,zP b.2.2.2),(13,.string b.2.2.1),(30,zI r2),(31,zI x3)]) (fun b=>[cells b1 [zI 0,zI 0] 60,cells b4 [.string p4.text,hd3.v,hd4.v] 153,zv3 hd3.v p4.places,zv2 hd4.v p4.lines,cells b3 [.string p14,hd10.v,hd11.v,.string text1] 106,zv6 hd10.v p15,zv7 hd11.v p16,cells b.2.2.2 [zI b.1,zI b.2.1] 38]) (fun cut => ?_) ?_
      ·
       refine zyG (zyR 2 rfl (zyH (zyR 2 rfl ?_)))
       obtain ⟨r3,hq4,h⟩:=zbl h
       refine zbH (v:=.tuple #[.agg (zr7 r3.1).toArray,zI r3.2.1,zI r3.2.2]) (vs:=[zP b4,zI x3]) (Rd.nil:Rd _ _ []) rfl dc rfl rfl rfl zo2 (zg2 (bm1:=b4) (m1:=p4) (m1_h0:=hd3) (m1_h1:=hd4) hq4) (.own (zae [1] (by kernel_rfl) rfl) (fun _ _ h=>sepL.one1.1 h) (.own (zae [2] (by kernel_rfl) rfl) (fun _ _ h=>sepL.one1.1 h) (.own (zae [3] (by kernel_rfl) rfl) (fun _ _ h=>sepL.one1.1 h) .nil))) ?_
       refine zyR 1 rfl (zax rfl dc rfl rfl (zax rfl dc rfl rfl (zax rfl dc rfl rfl ?_)))
       refine zbb zmL rfl dc (fun b6 => ?_)
       refine zaR (k:=7) (vs:=(zr7 r3.1)) (l':=(zr7 r3.1)) zkO rfl rfl rfl rfl rfl (show _≤_ by simp) rfl rfl ?_
       refine zyR 2 rfl (zyH (zyR 1 rfl (zac zeT rfl dc rfl (show _=0 from rfl) (zan (k:=7) zbC rfl dc rfl rfl rfl (zac zeD rfl dc rfl (show _=1 from rfl) (zan (k:=7) zbC rfl dc rfl rfl rfl ?_))))))
       obtain ⟨hg1,h⟩:=zbs h
       refine zd5 rfl dc rfl rfl rfl (zb7 (i:=r3.1.From) (j:=r3.1.To) Tryz.underlying9 (.inr rfl) (.inr rfl) hg1) (zyR 1 rfl (zyN (cut (zaB (zyG (zyR 1 rfl ?_))))))
       obtain ⟨r4,hq5,h⟩:=zbl h
       refine za5 (v:=.bool r4) (vs:=[.string (zdx text1 r3.1.From r3.1.To)]) rfl dc rfl rfl rfl znR (zgo hq5) (zyR 1 rfl (zyN ?_))
       refine zyB rfl h (fun h => ?_) (fun h => ?_)
       ·
        refine zyG (zyR 1 rfl (zyN (za6 (zbS dc (zao (zaw ?_))))))
        exact zaq (p14,p15,p16,first3,false,hd10,hd11) h rfl (za7 rfl) (zae [0,1,2,3,4,5,6] kr rfl)
       refine zyG (zyR 1 rfl (zbG rfl dc rfl Tryz.underlying9 (zaO rfl zcY (zyR 1 rfl (zyN ?_)))))
       refine zyB rfl h (fun h => ?_) (fun h => ?_)
       ·
        refine zay ?_
        obtain ⟨hg2,h⟩:=zbs h
        refine zbj 5 [(0,54,zP b6),(1,55,zI r3.1.From),(2,56,zI (r3.1.From+1024)),(3,57,.agg #[zI 3,zI (r3.1.From+1024)]),(4,2,.pointer none)] mixed kr kr dc (by rfl) kr kr (zad ?_ (zad ?_ (zad ?_ (zad ?_ (zad ?_ DrawPre.nil))))) ?_
        · exact fun D n d c u i=>zac zeT rfl dc (zba (by rfl) rfl) (show _=0 from rfl) (zaf 0 u i rfl)
        · exact fun D n d c u i=>zan (k:=7) zbC rfl dc (zaa (m:=0) u rfl (d 0 dc)) rfl rfl (zaf 1 u i rfl)
        · exact fun D n d c u i=>zbJ rfl dc (zaa (m:=1) u rfl (d 1 dc)) rfl (zaT (r:=r3.1.From+1024) (IntWalk.i64_in _ hg2)) (zaf 2 u i rfl)
        · exact fun D n d c u i=>zbg (v:=.agg #[zI 3,zI (r3.1.From+1024)]) (ps:=[(0,.const (zI 3)),(1,.tmp 56)]) rfl dc (evP.cons rfl (evP.cons (zaa (m:=2) u rfl (d 2 dc)) evP.nil)) (fun _=>by kernel_rfl) (zaf 3 u i rfl)
        · exact fun D n d c u i=>zyR 1 rfl (zaf 4 u i rfl)
        refine zaR (k:=0) (vs:=[zI 3,zI (r3.1.From+1024)]) (l':=[zI 3,zI (r3.1.From+1024)]) zj8 rfl rfl rfl rfl rfl (show _≤_ by simp) rfl rfl (zyN (zau (zaj (zah (zaj (zah (zah (zaj (zah (zbz (by simp) (zca zaI zaH 106 ?_)))))))))))
        cases h
        exact zaC (rs:=[.tmp 2,.cell 3 60]) (.pointer none) (.inl rfl) Tryz.results22 (.cons (.tmp rfl) (.cons (.cells zlj (k:=0) rfl rfl rfl) .nil)) rfl (zae [8] kr rfl)
       refine zyG (zyR 2 rfl ?_)
       refine zyS (s:=60) rfl h (fun h => ?_) (fun h => ?_)
       ·
        refine zyR 1 rfl ?_
        obtain ⟨r5,hq6,h⟩:=zbl h
        refine za5 (v:=.bool r5) (vs:=[.string (zdx text1 r3.1.From r3.1.To)]) rfl dc rfl rfl rfl znQ (zfY hq6) (zyR 2 rfl (zyN ?_))
        refine zyB rfl h (fun h => ?_) (fun h => ?_)
        ·
         refine zyG (zyR 1 rfl (zyH (zyR 2 rfl ?_)))
         obtain ⟨hg3,h⟩:=zbs h
         refine zd5 rfl dc rfl rfl rfl (zb7 (i:=1) (j:=((zdx text1 r3.1.From r3.1.To).size:Int)) Tryz.underlying9 (.inr rfl) (.inl ⟨rfl,rfl⟩) hg3) ?_
         obtain ⟨r6,hq7,h⟩:=zbl h
         refine za5 (v:=.string r6) (vs:=[.string (zdx (zdx text1 r3.1.From r3.1.To) 1 ((zdx text1 r3.1.From r3.1.To).size:Int)),.string (⟨#[32]⟩:ByteArray)]) rfl dc rfl rfl rfl zo1 (zfx hq7) (zap rfl dc rfl (zac zcb rfl dc rfl (show _=0 from rfl) (zac zgE rfl dc rfl (show _=0 from rfl) ?_)))
         refine zaG (k:=4) (l':=[.string r6,hd10.v,hd11.v,.string text1]) zlZ rfl rfl rfl rfl rfl (fun _ _=>rfl) rfl ?_
         refine zyN (za6 (zbS dc (zao (zaw ?_))))
         exact zaq (r6,p15,p16,false,row3,hd10,hd11) h rfl (za7 rfl) (zae [0,1,2,3,4,5,6] kr rfl)
        refine zyG (zyR 1 rfl (zap rfl dc rfl (zac zcb rfl dc rfl (show _=0 from rfl) (zac zd4 rfl dc rfl (show _=1 from rfl) (zan (k:=4) zje rfl dc rfl rfl rfl (zcr (k:=5) rfl dc rfl rfl Tryz.underlying26 (zaO rfl zaP (zyR 1 rfl (zyN ?_)))))))))
        refine zyB rfl h (fun h => ?_) (fun h => ?_)
        ·
         refine zay ?_
         refine zbj 4 [(0,79,zP b6),(1,80,zI r3.1.From),(2,81,.agg #[zI 3,zI r3.1.From]),(3,2,.pointer none)] mixed kr kr dc (by rfl) kr kr (zad ?_ (zad ?_ (zad ?_ (zad ?_ DrawPre.nil)))) ?_
         · exact fun D n d c u i=>zac zeT rfl dc (zba (by rfl) rfl) (show _=0 from rfl) (zaf 0 u i rfl)
         · exact fun D n d c u i=>zan (k:=7) zbC rfl dc (zaa (m:=0) u rfl (d 0 dc)) rfl rfl (zaf 1 u i rfl)
         · exact fun D n d c u i=>zbg (v:=.agg #[zI 3,zI r3.1.From]) (ps:=[(0,.const (zI 3)),(1,.tmp 80)]) rfl dc (evP.cons rfl (evP.cons (zaa (m:=1) u rfl (d 1 dc)) evP.nil)) (fun _=>by kernel_rfl) (zaf 2 u i rfl)
         · exact fun D n d c u i=>zyR 1 rfl (zaf 3 u i rfl)
         refine zaR (k:=0) (vs:=[zI 3,zI r3.1.From]) (l':=[zI 3,zI r3.1.From]) zj8 rfl rfl rfl rfl rfl (show _≤_ by simp) rfl rfl (zyN (zau (zaj (zah (zaj (zah (zah (zaj (zah (zbz (by simp) (zca zaI zaH 106 ?_)))))))))))
         cases h
         exact zaC (rs:=[.tmp 2,.cell 3 60]) (.pointer none) (.inl rfl) Tryz.results22 (.cons (.tmp rfl) (.cons (.cells zlj (k:=0) rfl rfl rfl) .nil)) rfl (zae [8] kr rfl)
        refine zat (zai ?_)
        exact zaq (r3.1.From,r3.1.To,zdx text1 r3.1.From r3.1.To,b6) h rfl (za7 rfl) (zae [0,1,2,3,4,5,6,7] kr rfl)
       refine zyR 4 rfl (zyN (zaL rfl (zyG (zyR 1 rfl (zap rfl dc rfl (zac zcb rfl dc rfl (show _=0 from rfl) (zac zd4 rfl dc rfl (show _=1 from rfl) (zan (k:=4) zje rfl dc rfl rfl rfl ?_))))))))
       refine zcr (k:=5) rfl dc rfl rfl Tryz.underlying26 (zaO rfl zaP (zyR 1 rfl (zyN ?_)))
       refine zyB rfl h (fun h => ?_) (fun h => ?_)
       ·
        refine zay ?_
        refine zbj 4 [(0,79,zP b6),(1,80,zI r3.1.From),(2,81,.agg #[zI 3,zI r3.1.From]),(3,2,.pointer none)] mixed kr kr dc (by rfl) kr kr (zad ?_ (zad ?_ (zad ?_ (zad ?_ DrawPre.nil)))) ?_
        · exact fun D n d c u i=>zac zeT rfl dc (zba (by rfl) rfl) (show _=0 from rfl) (zaf 0 u i rfl)
        · exact fun D n d c u i=>zan (k:=7) zbC rfl dc (zaa (m:=0) u rfl (d 0 dc)) rfl rfl (zaf 1 u i rfl)
        · exact fun D n d c u i=>zbg (v:=.agg #[zI 3,zI r3.1.From]) (ps:=[(0,.const (zI 3)),(1,.tmp 80)]) rfl dc (evP.cons rfl (evP.cons (zaa (m:=1) u rfl (d 1 dc)) evP.nil)) (fun _=>by kernel_rfl) (zaf 2 u i rfl)
        · exact fun D n d c u i=>zyR 1 rfl (zaf 3 u i rfl)
        refine zaR (k:=0) (vs:=[zI 3,zI r3.1.From]) (l':=[zI 3,zI r3.1.From]) zj8 rfl rfl rfl rfl rfl (show _≤_ by simp) rfl rfl (zyN (zau (zaj (zah (zaj (zah (zah (zaj (zah (zbz (by simp) (zca zaI zaH 106 ?_)))))))))))
        cases h
        exact zaC (rs:=[.tmp 2,.cell 3 60]) (.pointer none) (.inl rfl) Tryz.results22 (.cons (.tmp rfl) (.cons (.cells zlj (k:=0) rfl rfl rfl) .nil)) rfl (zae [8] kr rfl)
       refine zat (zai ?_)
       exact zaq (r3.1.From,r3.1.To,zdx text1 r3.1.From r3.1.To,b6) h rfl (za7 rfl) (zae [0,1,2,3,4,5,6,7] kr rfl)
      rintro ⟨span1,span2,line1,b5⟩ h
      rw [hj3] at h
      obtain ⟨j4,hj4,h⟩:=zbw h
      refine zaU (β:=(List Gapi_Span)×Hd) 2 rfl (fun b=>j4 b.1=some r) (fun b=>[]) (fun b=>[(0,.string text1),(3,zP b1),(4,zP b4),(6,zP b3),(7,.bool false),(10,zP b5),(13,.string line1),(14,zI (p15.length:Int)),(30,zI r2),(31,zI x3)]) (fun b=>[cells b1 [zI 0,zI 0] 60,cells b4 [.string p4.text,hd3.v,hd4.v] 153,zv3 hd3.v p4.places,zv2 hd4.v p4.lines,cells b3 [.string p14,hd10.v,b.2.v,.string text1] 106,zv6 hd10.v p15,zv7 b.2.v b.1,cells b5 [zI span1,zI span2] 38]) (fun cut => ?_) ?_
      ·
       refine zyG (zyR 1 rfl (zyH (zyR 1 rfl (zap rfl dc rfl (zac zcb rfl dc rfl (show _=0 from rfl) (zac zd4 rfl dc rfl (show _=1 from rfl) (zan (k:=4) zje rfl dc rfl rfl rfl (zcr (k:=5) rfl dc rfl rfl Tryz.underlying26 (zyR 1 rfl ?_)))))))))
       refine zyN (cut (zyG (zyR 1 rfl (zcZ rfl dc rfl zbZ (zyN ?_)))))
       refine zyB rfl h (fun h => ?_) (fun h => ?_)
       ·
        refine zaA (zyR 2 rfl (zap rfl dc rfl (zac zcb rfl dc rfl (show _=0 from rfl) (zac zgD rfl dc rfl (show _=2 from rfl) (zan (k:=4) zku rfl dc rfl rfl rfl (zyR 2 rfl ?_))))))
        refine zbg (v:=.agg #[zI (p15.length:Int),zI (p15.length:Int)]) (ps:=[(0,.tmp 96),(1,.tmp 97)]) rfl dc rfl (fun _=>by kernel_rfl) ?_
        refine za1 (cs:=[zI (p15.length:Int),zI (p15.length:Int)]) (te:=38) (ps:=[(0,.tmp 98)]) rfl dc rfl (fun _=>by kernel_rfl) (fun b7 => ?_)
        obtain ⟨hg4,h⟩:=zbs h
        refine zbc (k:=6) (k2:=8) (ys:=[(⟨(p15.length:Int),(p15.length:Int)⟩:Gapi_Span)]) Tryz.underlying102 zpg zd0 zhe rfl dc rfl rfl rfl rfl rfl rfl hg4 (fun v2 => ?_)
        refine zbo (k:=6) rfl (fun hd15 he1 => ?_)
        subst he1
        refine zap rfl dc rfl (zac zcb rfl dc rfl (show _=0 from rfl) (zac zgD rfl dc rfl (show _=2 from rfl) ?_))
        refine zaG (k:=4) (l':=[.string p14,hd10.v,hd15.v,.string text1]) znz rfl rfl rfl rfl rfl (fun _ _=>rfl) rfl ?_
        refine zaV ?_
        exact zaq (p16++[(⟨(p15.length:Int),(p15.length:Int)⟩:Gapi_Span)],hd15) h rfl (za7 rfl) (zae [0,1,2,3,4,5,6,7] kr rfl)
       refine zat ?_
       exact zaq (p16,hd11) h rfl (za7 rfl) (zae [0,1,2,3,4,5,6,7] kr rfl)
      rintro ⟨p20,hd14⟩ h
      rw [hj4] at h
      refine zyG (zyR 1 rfl (zyN (zay ?_)))
      obtain ⟨hg5,h⟩:=zbs h
      obtain ⟨q1,hq8,h⟩:=zbl h
      refine zbj 12 [(0,104,zP b3),(1,105,zP b3),(2,106,zP b3),(3,107,.pointer (some ⟨b3,2,none⟩)),(4,108,hd14.v),(5,109,zP b3),(6,110,zP b3),(7,111,zP b3),(8,112,.pointer (some ⟨b3,2,none⟩)),(9,113,hd14.v),(10,114,zI (p20.length:Int)),(11,115,zI ((p20.length:Int) - 1))] mixed kr kr dc (by rfl) kr kr (zyP 1 0 rfl (zad ?_ (zad ?_ (zad ?_ (zad ?_ (zyP 1 5 rfl (zad ?_ (zad ?_ (zad ?_ (zad ?_ (zad ?_ (zad ?_ DrawPre.nil)))))))))))) ?_
      · exact fun D n d c u i=>zap rfl dc (zaa (m:=0) u rfl (d 0 dc)) (zaf 1 u i rfl)
      · exact fun D n d c u i=>zac zcb rfl dc (zaa (m:=1) u rfl (d 1 dc)) (show _=0 from rfl) (zaf 2 u i rfl)
      · exact fun D n d c u i=>zac zgD rfl dc (zaa (m:=2) u rfl (d 2 dc)) (show _=2 from rfl) (zaf 3 u i rfl)
      · exact fun D n d c u i=>zan (k:=4) zku rfl dc (zaa (m:=3) u rfl (d 3 dc)) rfl rfl (zaf 4 u i rfl)
      · exact fun D n d c u i=>zap rfl dc (zaa (m:=5) u rfl (d 5 dc)) (zaf 6 u i rfl)
      · exact fun D n d c u i=>zac zcb rfl dc (zaa (m:=6) u rfl (d 6 dc)) (show _=0 from rfl) (zaf 7 u i rfl)
      · exact fun D n d c u i=>zac zgD rfl dc (zaa (m:=7) u rfl (d 7 dc)) (show _=2 from rfl) (zaf 8 u i rfl)
      · exact fun D n d c u i=>zan (k:=4) zku rfl dc (zaa (m:=8) u rfl (d 8 dc)) rfl rfl (zaf 9 u i rfl)
      · exact fun D n d c u i=>zcr (k:=6) rfl dc (zaa (m:=9) u rfl (d 9 dc)) rfl Tryz.underlying102 (zaf 10 u i rfl)
      · exact fun D n d c u i=>zbJ rfl dc (zaa (m:=10) u rfl (d 10 dc)) rfl (zbD (r:=(p20.length:Int) - 1) (IntWalk.i64_in _ hg5)) (zaf 11 u i rfl)
      refine zaM (k:=6) hq8 Tryz.underlying102 zkO rfl dc rfl rfl rfl rfl (zyR 1 rfl (zyH (zyR 1 rfl ?_)))
      obtain ⟨r7,hq9,h⟩:=zbl h
      refine za5 (v:=zI r7) (vs:=[.string line1]) rfl dc rfl rfl rfl zo0 (ziF hq9) (zyR 1 rfl (zyN (zay ?_)))
      obtain ⟨hg6,h⟩:=zbs h
      obtain ⟨hg7,h⟩:=zbs h
      obtain ⟨hg8,h⟩:=zbs h
      obtain ⟨hg9,h⟩:=zbs h
      obtain ⟨hg10,h⟩:=zbs h
      refine ze5 1 ?_
      refine let vals1:(Nat×Hd)→List (Nat×Nat×Value):=fun b=>[(0,119,zP b3),(1,120,zP b3),(2,121,zP b3),(3,122,zP b3),(4,123,.pointer (some ⟨b3,1,none⟩)),(5,124,hd10.v),(6,125,.string line1),(7,126,zI r7),(8,127,.string (zdx line1 r7 (line1.size:Int))),(9,128,zI r7),(10,129,zP b3),(11,130,zP b3),(12,131,zP b3),(13,132,.pointer (some ⟨b3,2,none⟩)),(14,133,hd14.v),(15,134,zI (p20.length:Int)),(16,135,zI ((p20.length:Int) - 1)),(17,136,zI (p15.length:Int)),(18,137,.pointer (some ⟨zcL hd14.v,((p20.length:Int) - 1:Int).toNat*2,none⟩)),(19,138,.pointer (some ⟨zcL hd14.v,((p20.length:Int) - 1:Int).toNat*2,none⟩)),(20,139,.pointer (some ⟨zcL hd14.v,(((p20.length:Int) - 1:Int).toNat)*2,none⟩)),(21,140,zI q1.From),(22,141,zI ((p15.length:Int) - q1.From)),(23,142,zP b5),(24,143,zI span1),(25,144,zI r7),(26,145,zI (span1+r7)),(27,146,.pointer (some ⟨b5,1,none⟩)),(28,147,zI span2),(29,148,.agg #[zI (span1+r7),zI span2]),(30,149,.agg #[.string (zdx line1 r7 (line1.size:Int)),zI r7,zI ((p20.length:Int) - 1),zI ((p15.length:Int) - q1.From),zI (span1+r7),zI span2]),(31,150,.slice (some ⟨b.1,0,none⟩) 1 1),(32,151,b.2.v)]; let LL1:(Nat→Prop)→(Nat×Hd)→List Asn:=fun D b=>[cells b1 [zI 0,zI 0] 60,cells b4 [.string p4.text,hd3.v,hd4.v] 153,zv3 hd3.v p4.places,zv2 hd4.v p4.lines,cells b3 [.string p14,hd10.v,hd14.v,.string text1] 106,eD D (zv6 hd10.v p15) [(32,zv6 b.2.v (p15++[(⟨zdx line1 r7 (line1.size:Int),r7,(p20.length:Int) - 1,(p15.length:Int) - q1.From,span1+r7,span2⟩:Gapi_Verse)]))],zv7 hd14.v p20,cells b5 [zI span1,zI span2] 38,eD D emp [(31,cells b.1 [.string (zdx line1 r7 (line1.size:Int)),zI r7,zI ((p20.length:Int) - 1),zI ((p15.length:Int) - q1.From),zI (span1+r7),zI span2] 76)]]; ?_
      have zhq:zyQ [31,32] LL1:=fun i h D b=>zab rfl (zab rfl (zab rfl (zab rfl (zab rfl (zab (ziw rfl h) (zab rfl (zab rfl (zab (ziw rfl h) rfl))))))))
      refine zc3 (β:=Nat×Hd) 33 ((0:Nat),Hd.nil) vals1 LL1 mixed kr kr dc (fun _=>rfl) (zj5 (zab zbr (zdd (zab zbr rfl)))) (zj4 zhq (fun _=>rfl) (fun _=>rfl) 2 0 (fun _=>rfl) rfl (zyq zhq rfl (fun _=>rfl) (fun _=>rfl) ?_ (zyq zhq rfl (fun _=>rfl) (fun _=>rfl) ?_ (zyq zhq rfl (fun _=>rfl) (fun _=>rfl) ?_ (zgV zhq rfl (fun _=>rfl) (fun _=>rfl) ?_ (zj4 zhq (fun _=>rfl) (fun _=>rfl) 2 6 (fun _=>rfl) rfl (zgV zhq rfl (fun _=>rfl) (fun _=>rfl) ?_ (zj4 zhq (fun _=>rfl) (fun _=>rfl) 2 9 (fun _=>rfl) rfl (zyq zhq rfl (fun _=>rfl) (fun _=>rfl) ?_ (zyq zhq rfl (fun _=>rfl) (fun _=>rfl) ?_ (zyq zhq rfl (fun _=>rfl) (fun _=>rfl) ?_ (zgV zhq rfl (fun _=>rfl) (fun _=>rfl) ?_ (zgV zhq rfl (fun _=>rfl) (fun _=>rfl) ?_ (zyq zhq rfl (fun _=>rfl) (fun _=>rfl) ?_ (zj4 zhq (fun _=>rfl) (fun _=>rfl) 2 17 (fun _=>rfl) rfl (zyq zhq rfl (fun _=>rfl) (fun _=>rfl) ?_ (zyq zhq rfl (fun _=>rfl) (fun _=>rfl) ?_ (zgV zhq rfl (fun _=>rfl) (fun _=>rfl) ?_ (zyq zhq rfl (fun _=>rfl) (fun _=>rfl) ?_ (zyq zhq rfl (fun _=>rfl) (fun _=>rfl) ?_ (zgV zhq rfl (fun _=>rfl) (fun _=>rfl) ?_ (zj4 zhq (fun _=>rfl) (fun _=>rfl) 1 25 (fun _=>rfl) rfl (zyq zhq rfl (fun _=>rfl) (fun _=>rfl) ?_ (zyq zhq rfl (fun _=>rfl) (fun _=>rfl) ?_ (zgV zhq rfl (fun _=>rfl) (fun _=>rfl) ?_ (zyq zhq rfl (fun _=>rfl) (fun _=>rfl) ?_ (zyq zhq rfl (fun _=>rfl) (fun _=>rfl) ?_ (zas ?_ (zas ?_ DrawG.nil))))))))))))))))))))))))))))) ?_
      · exact fun D ⟨b8,hd16⟩ n d c u i=>zap rfl dc (zaa (m:=1) u rfl (d 1 dc)) (zaf 2 u i rfl)
      · exact fun D ⟨b8,hd16⟩ n d c u i=>zac zcb rfl dc (zaa (m:=2) u rfl (d 2 dc)) (show _=0 from rfl) (zaf 3 u i rfl)
      · exact fun D ⟨b8,hd16⟩ n d c u i=>zac zd4 rfl dc (zaa (m:=3) u rfl (d 3 dc)) (show _=1 from rfl) (zaf 4 u i rfl)
      · exact fun D ⟨b8,hd16⟩ n d c u i=>⟨_,(zj5 (zab (zag (fun hD=>n (c 32 _ rfl hD 5 dc)) zak) (zbU rfl))),zan (k:=4) zje rfl dc (zaa (m:=4) u rfl (d 4 dc)) rfl rfl (zaf 5 u i rfl)⟩
      · exact fun D ⟨b8,hd16⟩ n d c u i=>⟨_,(zj5 (zab (zag (fun hD=>n (c 30 _ rfl (c 31 _ rfl (c 32 _ rfl hD 31 dc) 30 dc) 8 dc)) zak) (zdd (zab (zag (fun hD=>n (c 30 _ rfl (c 31 _ rfl hD 30 dc) 8 dc)) zak) rfl)))),zd5 rfl dc (zaa (m:=6) u rfl (d 6 dc)) (evO.some (zaa (m:=7) u rfl (d 7 dc))) zjq (zb7 (i:=r7) (j:=(line1.size:Int)) Tryz.underlying9 (.inr rfl) (.inl ⟨rfl,rfl⟩) hg6) (zaf 8 u i rfl)⟩
      · exact fun D ⟨b8,hd16⟩ n d c u i=>zap rfl dc (zaa (m:=10) u rfl (d 10 dc)) (zaf 11 u i rfl)
      · exact fun D ⟨b8,hd16⟩ n d c u i=>zac zcb rfl dc (zaa (m:=11) u rfl (d 11 dc)) (show _=0 from rfl) (zaf 12 u i rfl)
      · exact fun D ⟨b8,hd16⟩ n d c u i=>zac zgD rfl dc (zaa (m:=12) u rfl (d 12 dc)) (show _=2 from rfl) (zaf 13 u i rfl)
      · exact fun D ⟨b8,hd16⟩ n d c u i=>⟨_,(zj5 (zab (zag (fun hD=>n (c 15 _ rfl (c 16 _ rfl (c 30 _ rfl (c 31 _ rfl (c 32 _ rfl hD 31 dc) 30 dc) 16 dc) 15 dc) 14 dc)) zak) (zdd (zab (zag (fun hD=>n (c 15 _ rfl (c 16 _ rfl (c 30 _ rfl (c 31 _ rfl hD 30 dc) 16 dc) 15 dc) 14 dc)) zak) rfl)))),zan (k:=4) zku rfl dc (zaa (m:=13) u rfl (d 13 dc)) rfl rfl (zaf 14 u i rfl)⟩
      · exact fun D ⟨b8,hd16⟩ n d c u i=>⟨_,(zj5 (zab (zag (fun hD=>n (c 16 _ rfl (c 30 _ rfl (c 31 _ rfl (c 32 _ rfl hD 31 dc) 30 dc) 16 dc) 15 dc)) zak) (zdd (zab (zag (fun hD=>n (c 16 _ rfl (c 30 _ rfl (c 31 _ rfl hD 30 dc) 16 dc) 15 dc)) zak) rfl)))),zcr (k:=6) rfl dc (zaa (m:=14) u rfl (d 14 dc)) rfl Tryz.underlying102 (zaf 15 u i rfl)⟩
      · exact fun D ⟨b8,hd16⟩ n d c u i=>zbJ rfl dc (zaa (m:=15) u rfl (d 15 dc)) rfl (zbD (r:=(p20.length:Int) - 1) (IntWalk.i64_in _ hg7)) (zaf 16 u i rfl)
      · exact fun D ⟨b8,hd16⟩ n d c u i=>zap rfl dc (zaa (m:=18) u rfl (d 18 dc)) (zaf 19 u i rfl)
      · exact fun D ⟨b8,hd16⟩ n d c u i=>zac zeT rfl dc (zaa (m:=19) u rfl (d 19 dc)) (show _=(((p20.length:Int) - 1:Int).toNat)*2 from rfl) (zaf 20 u i rfl)
      · exact fun D ⟨b8,hd16⟩ n d c u i=>⟨_,(zj5 (zab (zag (fun hD=>n (c 22 _ rfl (c 30 _ rfl (c 31 _ rfl (c 32 _ rfl hD 31 dc) 30 dc) 22 dc) 21 dc)) zak) (zdd (zab (zag (fun hD=>n (c 22 _ rfl (c 30 _ rfl (c 31 _ rfl hD 30 dc) 22 dc) 21 dc)) zak) rfl)))),zbi (i:=((p20.length:Int) - 1:Int).toNat) (j:=0) (k:=6) (q:=q1) zbC zd0 rfl dc (zaa (m:=20) u rfl (d 20 dc)) rfl (za4 hq8) rfl dc rfl (zaf 21 u i rfl)⟩
      · exact fun D ⟨b8,hd16⟩ n d c u i=>zbJ rfl dc (zaa (m:=17) u rfl (d 17 dc)) (zaa (m:=21) u rfl (d 21 dc)) (zbD (r:=(p15.length:Int) - q1.From) (IntWalk.i64_in _ hg8)) (zaf 22 u i rfl)
      · exact fun D ⟨b8,hd16⟩ n d c u i=>zac zeT rfl dc (zba (by rfl) rfl) (show _=0 from rfl) (zaf 23 u i rfl)
      · exact fun D ⟨b8,hd16⟩ n d c u i=>⟨_,(zj5 (zab (zag (fun hD=>n (c 26 _ rfl (c 29 _ rfl (c 30 _ rfl (c 31 _ rfl (c 32 _ rfl hD 31 dc) 30 dc) 29 dc) 26 dc) 24 dc)) zak) (zdd (zab (zag (fun hD=>n (c 26 _ rfl (c 29 _ rfl (c 30 _ rfl (c 31 _ rfl hD 30 dc) 29 dc) 26 dc) 24 dc)) zak) rfl)))),zan (k:=7) zbC rfl dc (zaa (m:=23) u rfl (d 23 dc)) rfl rfl (zaf 24 u i rfl)⟩
      · exact fun D ⟨b8,hd16⟩ n d c u i=>zbJ rfl dc (zaa (m:=24) u rfl (d 24 dc)) (zaa (m:=25) u rfl (d 25 dc)) (zaT (r:=span1+r7) (IntWalk.i64_in _ hg9)) (zaf 26 u i rfl)
      · exact fun D ⟨b8,hd16⟩ n d c u i=>zac zeD rfl dc (zba (by rfl) rfl) (show _=1 from rfl) (zaf 27 u i rfl)
      · exact fun D ⟨b8,hd16⟩ n d c u i=>⟨_,(zj5 (zab (zag (fun hD=>n (c 29 _ rfl (c 30 _ rfl (c 31 _ rfl (c 32 _ rfl hD 31 dc) 30 dc) 29 dc) 28 dc)) zak) (zdd (zab (zag (fun hD=>n (c 29 _ rfl (c 30 _ rfl (c 31 _ rfl hD 30 dc) 29 dc) 28 dc)) zak) rfl)))),zan (k:=7) zbC rfl dc (zaa (m:=27) u rfl (d 27 dc)) rfl rfl (zaf 28 u i rfl)⟩
      · exact fun D ⟨b8,hd16⟩ n d c u i=>zbg (v:=.agg #[zI (span1+r7),zI span2]) (ps:=[(0,.tmp 145),(1,.tmp 147)]) rfl dc (evP.cons (zaa (m:=26) u rfl (d 26 dc)) (evP.cons (zaa (m:=28) u rfl (d 28 dc)) evP.nil)) (fun _=>by kernel_rfl) (zaf 29 u i rfl)
      · exact fun D ⟨b8,hd16⟩ n d c u i=>zbg (v:=.agg #[.string (zdx line1 r7 (line1.size:Int)),zI r7,zI ((p20.length:Int) - 1),zI ((p15.length:Int) - q1.From),zI (span1+r7),zI span2]) (ps:=[(0,.tmp 127),(1,.tmp 128),(2,.tmp 135),(3,.tmp 141),(4,.tmp 148)]) rfl dc (evP.cons (zaa (m:=8) u rfl (d 8 dc)) (evP.cons (zaa (m:=9) u rfl (d 9 dc)) (evP.cons (zaa (m:=16) u rfl (d 16 dc)) (evP.cons (zaa (m:=22) u rfl (d 22 dc)) (evP.cons (zaa (m:=29) u rfl (d 29 dc)) evP.nil))))) (fun _=>by kernel_rfl) (zaf 30 u i rfl)
      ·
       intro D b hn hd hcl
       obtain ⟨zb0,hd16⟩:=b
       refine zaD (zj5 (zab (zag (fun hD=>hn (hcl 32 _ rfl hD 31 dc)) zak) (zdd (zab (zag hn zak) rfl)))) ?_
       refine za1 (cs:=[.string (zdx line1 r7 (line1.size:Int)),zI r7,zI ((p20.length:Int) - 1),zI ((p15.length:Int) - q1.From),zI (span1+r7),zI span2]) (te:=76) (ps:=[(0,.tmp 149)]) rfl dc (evP.cons (zaa (m:=30) rfl rfl (hd 30 dc)) evP.nil) (fun _=>by kernel_rfl) (fun b8 => ?_)
       refine zci 8 rfl rfl ?_
       exact zaJ (b:=(zb0,hd16)) (b8,hd16) 31 (by rfl) (by rfl) rfl (zhC (zct (zct (zam (fun hD=>absurd hD hn) (zam (fun _=>rfl) rfl))))) (zj5 (zab ((zal (by rfl)).trans (zag (fun hD=>hn (hcl 32 _ rfl hD 31 dc)) zak)) (zdd (zab (zaz (Or.inr rfl) rfl) rfl))))
      ·
       intro D b hn hd hcl
       obtain ⟨b8,zb1⟩:=b
       refine zaD (zj5 (zab (zag hn zak) (zdd (zab (zaz (hd 31 dc) rfl) rfl)))) ?_
       refine zbc (k:=5) (k2:=8) (ys:=[(⟨zdx line1 r7 (line1.size:Int),r7,(p20.length:Int) - 1,(p15.length:Int) - q1.From,span1+r7,span2⟩:Gapi_Verse)]) Tryz.underlying26 zpc zc2 zgL rfl dc (zaa (m:=5) rfl rfl (hd 5 dc)) (zaa (m:=31) rfl rfl (hd 31 dc)) rfl rfl rfl rfl hg10 (fun v3 => ?_)
       refine zbo (k:=5) rfl (fun hd16 he2 => ?_)
       subst he2
       exact zaJ (b:=(b8,zb1)) (b8,hd16) 32 (by rfl) (by rfl) rfl (zgW (zct (zct (zam (fun hD=>absurd hD hn) rfl)))) (zj5 (zab (zaz (Or.inr rfl) rfl) (zdd (zab ((zal (by rfl)).trans (zaz (hd 31 dc) rfl)) rfl))))
      intro D b hall
      obtain ⟨b8,hd16⟩:=b
      refine zaD (zj5 (zab (zaz (hall 32 dc) rfl) (zdd (zab (zaz (hall 31 dc) rfl) rfl)))) (zap rfl dc rfl (zac zcb rfl dc rfl (show _=0 from rfl) (zac zd4 rfl dc rfl (show _=1 from rfl) ?_)))
      refine zaG (k:=4) (l':=[.string p14,hd16.v,hd14.v,.string text1]) zoD rfl rfl rfl rfl rfl (fun _ _=>rfl) rfl ?_
      refine zyN (zaA (zyR 2 rfl ?_))
      obtain ⟨hg11,h⟩:=zbs h
      refine zaO rfl (zaT (r:=(p15.length:Int)+1) (IntWalk.i64_in _ hg11)) (zap rfl dc rfl (zac zeD rfl dc rfl (show _=(((p20.length:Int) - 1:Int).toNat)*2+1 from rfl) ?_))
      refine zd2 (i:=((p20.length:Int) - 1:Int).toNat) (j:=1) (k:=6) (q:=q1) (q':=(⟨q1.From,(p15.length:Int)+1⟩:Gapi_Span)) zeX zd0 rfl rfl rfl rfl (za4 hq8) rfl dc rfl (fun _ _=>rfl) ?_
      refine zaV (zai ?_)
      exact zaq (p14,p15++[(⟨zdx line1 r7 (line1.size:Int),r7,(p20.length:Int) - 1,(p15.length:Int) - q1.From,span1+r7,span2⟩:Gapi_Verse)],p20.set ((p20.length:Int) - 1:Int).toNat (⟨q1.From,(p15.length:Int)+1⟩:Gapi_Span),false,true,hd16,hd14) h rfl (za7 rfl) (zae [0,1,2,3,4,5,6] kr rfl)
     rintro ⟨p17,p18,p19,first4,row4,hd12,hd13⟩ h
     rw [hj2] at h
     refine zaA ?_
     obtain ⟨hg12,h⟩:=zbs h
     refine zaO rfl (zaT (r:=x3+1) (IntWalk.i64_in _ hg12)) (zyR 1 rfl (zaV ?_))
     subst hag1
     exact zaZ (n1,p17,p18,p19,first4,row4,x3+1,hd12,hd13) h (Nat.lt_succ_self _) rfl (za7 rfl) (zae [0,1,2,3,4,5,6] kr rfl)
    refine za6 (zao (zao (zaw ?_)))
    exact zaq (p14,p15,p16,b3,hd10,hd11) h rfl (za7 rfl) (zae [0,4,5,6] kr rfl)
  rintro ⟨p1,p2,p3,b2,hd1,hd2⟩ h
  rw [hj1] at h
  refine zyG (zyR 1 rfl ?_)
  refine zbg (v:=.agg #[zI 0,zI 0]) (ps:=[]) rfl dc rfl (fun _=>by kernel_rfl) ?_
  refine zyR 1 rfl (zaR (k:=0) (vs:=[zI 0,zI 0]) (l':=[zI 0,zI 0]) zj8 rfl rfl rfl rfl rfl (show _≤_ by simp) rfl rfl (zyN (zau (zbz (by simp) ?_))))
  refine zkp (As:=[cells b2 [.string p1,hd1.v,hd2.v,.string text1] 106,zv6 hd1.v p2,zv7 hd2.v p3]) (zae [1,2,3] kr rfl) (zhn (enc:=zaI) (nest:=zaH) (t:=106) (x:=(⟨p1,p2,p3,text1⟩:Gpoem_Poem)) (b:=b2) (hd:=(hd1,hd2))) (fun _ _ => ?_)
  cases h
  exact zaC (rs:=[.tmp 2,.cell 3 60]) (zP b2) (.inl rfl) Tryz.results22 (.cons (.tmp rfl) (.cons (.cells zlj (k:=0) rfl rfl rfl) .nil)) rfl (zae [4] kr rfl)
 exact fun b hb=>hb.elim
end Go.Proofs.YtbempdelckaccaaGreatDoor

namespace Go.Proofs.YtbempdelckaccaaGreatDoor
open Go.RowKit Go.Lib
set_option linter.unusedVariables false
set_option linter.unusedSimpArgs false
def zc4 (j3:ByteArray→Option ByteArray) (x5:List ByteArray) (ag2:ByteArray→Int→Option ByteArray) (b12:ByteArray) (x8:Int):Option ByteArray :=
zav (decide ((x8:Int)<(x5.length:Int))) (
zar (zc9 x5 x8) fun (q2:ByteArray) =>
grd (q2.size+(⟨#[10]⟩:ByteArray).size≤9223372036854775807) <|
grd (b12.size+(q2++(⟨#[10]⟩:ByteArray)).size≤140737488355328) <|
grd (I64 (x8+1)) <|
ag2 (b12++(q2++(⟨#[10]⟩:ByteArray))) (x8+1)
) (
j3 b12
)
def zc5 (stanzas1:List (List ByteArray)) (j2:ByteArray→Option ByteArray) (ag1:ByteArray→Int→Option ByteArray) (b7:ByteArray) (x4:Int):Option ByteArray :=
zav (decide ((x4:Int)<(stanzas1.length:Int))) (
zbp (fun (j3:ByteArray→Option ByteArray) =>
zar (zc9 stanzas1 x4) fun (x5:List ByteArray) =>
zbp (fun (j4:ByteArray→Option ByteArray) =>
zav (decide ((0:Int)<(b7.size:Int))) (
grd (b7.size+(⟨#[10]⟩:ByteArray).size≤140737488355328) <|
j4 (b7++(⟨#[10]⟩:ByteArray))
) (
j4 b7
)
) (fun (b9:ByteArray) =>
za9 (fun _ _=>none) (zc4 j3 x5) zcN b9 0
)
) (fun (b8:ByteArray) =>
grd (I64 (x4+1)) <|
ag1 b8 (x4+1)
)
) (
j2 b7
)
def zeQ (title1:ByteArray) (stanzas1:List (List ByteArray)):Option ByteArray :=
zbp (fun (j1:ByteArray→Option ByteArray) =>
zav (!decide (title1=(⟨#[]⟩:ByteArray))) (
grd ((⟨#[35,32]⟩:ByteArray).size+title1.size≤9223372036854775807) <|
grd (((⟨#[35,32]⟩:ByteArray)++title1).size+(⟨#[10]⟩:ByteArray).size≤9223372036854775807) <|
grd ((⟨#[]⟩:ByteArray).size+(((⟨#[35,32]⟩:ByteArray)++title1)++(⟨#[10]⟩:ByteArray)).size≤140737488355328) <|
j1 ((⟨#[]⟩:ByteArray)++(((⟨#[35,32]⟩:ByteArray)++title1)++(⟨#[10]⟩:ByteArray)))
) (
zav (decide ((0:Int)<(stanzas1.length:Int))) (
zar (zc9 stanzas1 0) fun (x1:List ByteArray) =>
zar (zc9 x1 0) fun (q1:ByteArray) =>
zar (zes q1) fun (r1:Bool) =>
zav (r1) (
grd ((⟨#[35,32]⟩:ByteArray).size+title1.size≤9223372036854775807) <|
grd (((⟨#[35,32]⟩:ByteArray)++title1).size+(⟨#[10]⟩:ByteArray).size≤9223372036854775807) <|
grd ((⟨#[]⟩:ByteArray).size+(((⟨#[35,32]⟩:ByteArray)++title1)++(⟨#[10]⟩:ByteArray)).size≤140737488355328) <|
j1 ((⟨#[]⟩:ByteArray)++(((⟨#[35,32]⟩:ByteArray)++title1)++(⟨#[10]⟩:ByteArray)))
) (
j1 (⟨#[]⟩:ByteArray)
)
) (
j1 (⟨#[]⟩:ByteArray)
)
)
) (fun (b2:ByteArray) =>
zbp (fun (j2:ByteArray→Option ByteArray) =>
za9 (fun _ _=>none) (zc5 stanzas1 j2) zcN b2 0
) (fun (b4:ByteArray) =>
some b4
)
)
theorem zh8 {title1:ByteArray} {vvstanzas1:Value} {vstanzas1:Hd} {Zstanzas1:List ((List ByteArray)×Hd)} {kstanzas1:Nat} {zstanzas1:List ((List ByteArray)×Hd)} {stanzas1:List (List ByteArray)} (hwstanzas1:Vw vvstanzas1 Zstanzas1 1 kstanzas1 vstanzas1.v zstanzas1) (hzstanzas1:zstanzas1.map Prod.fst=stanzas1) {r:ByteArray} (h:zeQ title1 stanzas1=some r):FnR Tryz.prog 56 [.string title1,vstanzas1.v] [zdR zaQ 1 vvstanzas1 kstanzas1 Zstanzas1,ze9 zbu Zstanzas1] [] (fun _:Unit=>(.string r)) (fun _=>[]):=by
 unfold zeQ at h
 refine FnR.intro Tryz.func56 rfl Tryz.ntmps56 (by simp) ?_
 intro w0 K hrd
 obtain ⟨j1,hj1,h⟩:=zbw h
 refine zaU (β:=ByteArray×Nat) 2 rfl (fun b=>j1 b.1=some r) (fun b=>[]) (fun b=>[(1,vstanzas1.v),(5,zP b.2)]) (fun b=>[ziZ b.2 b.1]) (fun cut => ?_) ?_
 ·
  refine zyG (zyR 1 rfl (zyH ?_))
  refine zbb zk5 rfl dc (fun b3 => ?_)
  refine zlM (k:=0) rfl zho ?_
  refine zyN (cut (zyG (zyR 1 rfl (zaO rfl zgP (zyR 1 rfl ?_)))))
  refine zyS (s:=12) rfl h (fun h => ?_) (fun h => ?_)
  ·
   refine zyR 12 rfl (zyN ?_)
   refine za0 rfl (zaA (zyR 1 rfl ?_))
   obtain ⟨hg1,h⟩:=zbs h
   refine zaO rfl (zfh hg1) ?_
   obtain ⟨hg2,h⟩:=zbs h
   refine zaO rfl (zfh hg2) ?_
   obtain ⟨hg3,h⟩:=zbs h
   refine zcB (vs:=[zP b3,.string (((⟨#[35,32]⟩:ByteArray)++title1)++(⟨#[10]⟩:ByteArray))]) rfl dc rfl rfl rfl zmi (zi8 b3 (⟨#[]⟩:ByteArray) (((⟨#[35,32]⟩:ByteArray)++title1)++(⟨#[10]⟩:ByteArray)) hg3) (zae [0] kr rfl) ?_
   rintro u1
   refine zaV ?_
   exact zaq ((⟨#[]⟩:ByteArray)++(((⟨#[35,32]⟩:ByteArray)++title1)++(⟨#[10]⟩:ByteArray)),b3) h rfl (za7 rfl) (zae [1] kr rfl)
  refine zyR 1 rfl (ze4 hzstanzas1 hwstanzas1 rfl dc rfl Tryz.underlying112 (zaO rfl zcY (zyR 1 rfl ?_)))
  refine zyS (s:=16) rfl h (fun h => ?_) (fun h => ?_)
  ·
   refine zyR 1 rfl ?_
   obtain ⟨x1,hq1,h⟩:=zbl h
   obtain ⟨eh1,eq1⟩:=ziU hzstanzas1 hq1
   have hrd:Rd _ _ [zdR zaQ 1 vvstanzas1 kstanzas1 Zstanzas1,ze9 zbu Zstanzas1,zkw zhX 1 eh1 x1]:=hrd.openEl (i:=1) (z:=(x1,eh1)) rfl (Vw.get hwstanzas1 eq1)
   obtain ⟨vv1,k1,L1,hV1,hrd⟩:=hrd.openSl (i:=2) rfl
   replace hrd:Rd _ _ [zdR zaQ 1 vvstanzas1 kstanzas1 Zstanzas1,ze9 zbu Zstanzas1,zkw zhX 1 eh1 x1,zdR zhX 1 vv1 k1 L1]:=hrd
   refine za3 hwstanzas1 eq1 Tryz.underlying112 zkN rfl dc rfl rfl rfl (zcO (n:=kstanzas1+(0:Int).toNat) (j:=0) (i:=0) (q:=(x1,eh1)) hrd rfl (by omega) zj9 rfl dc rfl (Vw.get hwstanzas1 eq1) rfl rfl ?_)
   obtain ⟨q1,hq2,h⟩:=zbl h
   refine za3 hV1 hq2 Tryz.underlying70 zlZ rfl dc rfl rfl rfl (zcO (n:=k1+(0:Int).toNat) (j:=0) (i:=3) (q:=q1) hrd rfl (by omega) ziz rfl dc rfl (Vw.get hV1 hq2) rfl rfl ?_)
   obtain ⟨r1,hq3,h⟩:=zbl h
   refine za5 (v:=.bool r1) (vs:=[.string q1]) rfl dc rfl rfl rfl znQ (zfY hq3) (zyR 2 rfl (zyN ?_))
   refine zyB rfl h (fun h => ?_) (fun h => ?_)
   ·
    refine zaA (zyR 1 rfl ?_)
    obtain ⟨hg4,h⟩:=zbs h
    refine zaO rfl (zfh hg4) ?_
    obtain ⟨hg5,h⟩:=zbs h
    refine zaO rfl (zfh hg5) ?_
    obtain ⟨hg6,h⟩:=zbs h
    refine zcB (vs:=[zP b3,.string (((⟨#[35,32]⟩:ByteArray)++title1)++(⟨#[10]⟩:ByteArray))]) rfl dc rfl rfl rfl zmi (zi8 b3 (⟨#[]⟩:ByteArray) (((⟨#[35,32]⟩:ByteArray)++title1)++(⟨#[10]⟩:ByteArray)) hg6) (zae [0] kr rfl) ?_
    rintro u2
    refine zaV ?_
    exact zaq ((⟨#[]⟩:ByteArray)++(((⟨#[35,32]⟩:ByteArray)++title1)++(⟨#[10]⟩:ByteArray)),b3) h rfl (za7 rfl) (zae [1] kr rfl)
   refine zat ?_
   exact zaq ((⟨#[]⟩:ByteArray),b3) h rfl (za7 rfl) (zae [0] kr rfl)
  refine zyR 8 rfl (zyN (zaL rfl (zat ?_)))
  exact zaq ((⟨#[]⟩:ByteArray),b3) h rfl (za7 rfl) (zae [0] kr rfl)
 rintro ⟨b2,b1⟩ h
 rw [hj1] at h
 obtain ⟨j2,hj2,h⟩:=zbw h
 refine zaU (β:=ByteArray) 0 rfl (fun b=>j2 b=some r) (fun b=>[]) (fun b=>[(5,zP b1)]) (fun b=>[ziZ b1 b]) (fun cut => ?_) ?_
 ·
  refine cut (zyG (zyR 1 rfl (ze4 hzstanzas1 hwstanzas1 rfl dc rfl Tryz.underlying112 (zyR 1 rfl (zyN (zaB ?_))))))
  refine zbm (β:=Nat×ByteArray×Int) (fun b=>za9 (fun _ _=>none) (zc5 stanzas1 j2) b.1 b.2.1 b.2.2=some r) (fun b=>[]) (fun b=>[(5,zP b1),(29,vstanzas1.v),(30,zI (stanzas1.length:Int)),(31,zI b.2.2)]) (fun b=>[ziZ b1 b.2.1]) (fun b=>b.1) (zcN,b2,0) h rfl (za7 rfl) (zae [0] kr rfl) ?_
  rintro ⟨n1,b7,x4⟩ h
  cases n1 with
  | zero=>exact zcS h
  | succ n1 =>
   obtain ⟨ag1,hag1⟩:∃ ag,ag=za9 (fun _ _=>none) (zc5 stanzas1 j2) n1:=⟨_,rfl⟩
   have h:zc5 stanzas1 j2 ag1 b7 x4=some r:=by rw [hag1]; exact h
   unfold zc5 at h
   refine zyG (zaO rfl zbv (zyN (zay ?_)))
   refine zyB rfl h (fun h => ?_) (fun h => ?_)
   ·
    refine zat (zaE ?_)
    obtain ⟨j3,hj3,h⟩:=zbw h
    refine zaU (β:=ByteArray) 0 rfl (fun b=>j3 b=some r) (fun b=>[]) (fun b=>[(5,zP b1),(29,vstanzas1.v),(30,zI (stanzas1.length:Int)),(31,zI x4)]) (fun b=>[ziZ b1 b]) (fun cut => ?_) ?_
    ·
     refine cut (zaB (zyG ?_))
     obtain ⟨x5,hq4,h⟩:=zbl h
     obtain ⟨eh2,eq2⟩:=ziU hzstanzas1 hq4
     have hrd:Rd _ _ [zdR zaQ 1 vvstanzas1 kstanzas1 Zstanzas1,ze9 zbu Zstanzas1,zkw zhX 1 eh2 x5]:=hrd.openEl (i:=1) (z:=(x5,eh2)) rfl (Vw.get hwstanzas1 eq2)
     obtain ⟨vv2,k2,L2,hV2,hrd⟩:=hrd.openSl (i:=2) rfl
     replace hrd:Rd _ _ [zdR zaQ 1 vvstanzas1 kstanzas1 Zstanzas1,ze9 zbu Zstanzas1,zkw zhX 1 eh2 x5,zdR zhX 1 vv2 k2 L2]:=hrd
     refine za3 hwstanzas1 eq2 Tryz.underlying112 zkN rfl dc rfl rfl rfl (zcO (n:=kstanzas1+(x4:Int).toNat) (j:=0) (i:=0) (q:=(x5,eh2)) hrd rfl (by omega) zj9 rfl dc rfl (Vw.get hwstanzas1 eq2) rfl rfl (zyR 1 rfl (zyN ?_)))
     obtain ⟨j4,hj4,h⟩:=zbw h
     refine zaU (β:=ByteArray) 0 rfl (fun b=>j4 b=some r) (fun b=>[]) (fun b=>[(5,zP b1),(7,eh2.v),(29,vstanzas1.v),(30,zI (stanzas1.length:Int)),(31,zI x4)]) (fun b=>[ziZ b1 b]) (fun cut => ?_) ?_
     ·
      refine cut (zyG (zmn (v:=zI (b7.size:Int)) (vs:=[zP b1]) rfl dc rfl rfl rfl zoO (zm6 b1 b7) [0] kr rfl (zaO rfl zcY (zyN ?_))))
      refine zyB rfl h (fun h => ?_) (fun h => ?_)
      ·
       refine zaA ?_
       obtain ⟨hg7,h⟩:=zbs h
       refine zcB (vs:=[zP b1,.string (⟨#[10]⟩:ByteArray)]) rfl dc rfl rfl rfl zmi (zi8 b1 b7 (⟨#[10]⟩:ByteArray) hg7) (zae [0] kr rfl) ?_
       rintro u3
       refine zaV ?_
       exact zaq (b7++(⟨#[10]⟩:ByteArray)) h rfl (za7 rfl) (zae [1] kr rfl)
      refine zat ?_
      exact zaq b7 h rfl (za7 rfl) (zae [0] kr rfl)
     rintro b9 h
     rw [hj4] at h
     refine zyG (zyR 1 rfl (zcU hV2 rfl dc rfl Tryz.underlying70 (zyR 1 rfl (zyN (zaB ?_)))))
     refine zbm (β:=Nat×ByteArray×Int) (fun b=>za9 (fun _ _=>none) (zc4 j3 x5) b.1 b.2.1 b.2.2=some r) (fun b=>[]) (fun b=>[(5,zP b1),(29,vstanzas1.v),(30,zI (stanzas1.length:Int)),(31,zI x4),(38,eh2.v),(39,zI (x5.length:Int)),(40,zI b.2.2)]) (fun b=>[ziZ b1 b.2.1]) (fun b=>b.1) (zcN,b9,0) h rfl (za7 rfl) (zae [0] kr rfl) ?_
     rintro ⟨n2,b12,x8⟩ h
     cases n2 with
     | zero=>exact zcS h
     | succ n2 =>
      obtain ⟨ag2,hag2⟩:∃ ag,ag=za9 (fun _ _=>none) (zc4 j3 x5) n2:=⟨_,rfl⟩
      have h:zc4 j3 x5 ag2 b12 x8=some r:=by rw [hag2]; exact h
      unfold zc4 at h
      refine zyG (zaO rfl zbv (zyN (zay ?_)))
      refine zyB rfl h (fun h => ?_) (fun h => ?_)
      ·
       refine zat (zaE (zay (zaB (zyG ?_))))
       obtain ⟨q2,hq5,h⟩:=zbl h
       refine za3 hV2 hq5 Tryz.underlying70 zlZ rfl dc rfl rfl rfl (zcO (n:=k2+(x8:Int).toNat) (j:=0) (i:=3) (q:=q2) hrd rfl (by omega) ziz rfl dc rfl (Vw.get hV2 hq5) rfl rfl (zyR 1 rfl (zyN (zaA (zyR 1 rfl ?_)))))
       obtain ⟨hg8,h⟩:=zbs h
       refine zaO rfl (zfh hg8) ?_
       obtain ⟨hg9,h⟩:=zbs h
       refine zcB (vs:=[zP b1,.string (q2++(⟨#[10]⟩:ByteArray))]) rfl dc rfl rfl rfl zmi (zi8 b1 b12 (q2++(⟨#[10]⟩:ByteArray)) hg9) (zae [0] kr rfl) ?_
       rintro u4
       refine zaV (zai (zaE (zaA ?_)))
       obtain ⟨hg10,h⟩:=zbs h
       refine zaO rfl (zaT (r:=x8+1) (IntWalk.i64_in _ hg10)) (zyR 1 rfl (zaV ?_))
       subst hag2
       exact zaZ (n2,b12++(q2++(⟨#[10]⟩:ByteArray)),x8+1) h (Nat.lt_succ_self _) rfl (za7 rfl) (zae [1] kr rfl)
      refine za6 (zao (zao (zaw (zai ?_))))
      exact zaq b12 h rfl (za7 rfl) (zae [0] kr rfl)
    rintro b8 h
    rw [hj3] at h
    refine zaA ?_
    obtain ⟨hg11,h⟩:=zbs h
    refine zaO rfl (zaT (r:=x4+1) (IntWalk.i64_in _ hg11)) (zyR 1 rfl (zaV ?_))
    subst hag1
    exact zaZ (n1,b8,x4+1) h (Nat.lt_succ_self _) rfl (za7 rfl) (zae [0] kr rfl)
   refine za6 (zao (zao (zaw ?_)))
   exact zaq b7 h rfl (za7 rfl) (zae [0] kr rfl)
 rintro b4 h
 rw [hj2] at h
 refine zyG (zcB (vs:=[zP b1]) rfl dc rfl rfl rfl zmX (zko b1 b4) (zae [0] kr rfl) ?_)
 rintro _
 refine zyR 1 rfl (zyN (zau ?_))
 cases h
 exact zaC (rs:=[.tmp 4]) () (.inl rfl) Tryz.results56 (.cons (.tmp rfl) .nil) rfl Splits.nil
def zd7 (stanzas1:List (List ByteArray)) (j1:Int→Option ((Option Gpoem_Poem)×Int)) (ag1:Int→Int→Option ((Option Gpoem_Poem)×Int)) (n4:Int) (x3:Int):Option ((Option Gpoem_Poem)×Int) :=
zav (decide ((x3:Int)<(stanzas1.length:Int))) (
zar (zc9 stanzas1 x3) fun (x4:List ByteArray) =>
grd (I64 (n4+(x4.length:Int))) <|
grd (I64 (x3+1)) <|
ag1 (n4+(x4.length:Int)) (x3+1)
) (
j1 n4
)
def zf3 (title1:ByteArray) (stanzas1:List (List ByteArray)):Option ((Option Gpoem_Poem)×Int) :=
zbp (fun (j1:Int→Option ((Option Gpoem_Poem)×Int)) =>
za9 (fun _ _=>none) (zd7 stanzas1 j1) zcN 0 0
) (fun (n1:Int) =>
zar (zeQ title1 stanzas1) fun (r1:ByteArray) =>
zav (decide ((512:Int)<n1)) (
some (none,3)
) (
zav (decide ((65536:Int)<(r1.size:Int))) (
some (none,3)
) (
zar (zfb r1) fun (r2:((Option Gpoem_Poem)×Gapi_Spot)) =>
some (r2.1,0)
)
)
)
theorem zjG {title1:ByteArray} {vvstanzas1:Value} {vstanzas1:Hd} {Zstanzas1:List ((List ByteArray)×Hd)} {kstanzas1:Nat} {zstanzas1:List ((List ByteArray)×Hd)} {stanzas1:List (List ByteArray)} (hwstanzas1:Vw vvstanzas1 Zstanzas1 1 kstanzas1 vstanzas1.v zstanzas1) (hzstanzas1:zstanzas1.map Prod.fst=stanzas1) {r:((Option Gpoem_Poem)×Int)} (h:zf3 title1 stanzas1=some r):FnR Tryz.prog 85 [.string title1,vstanzas1.v] [zdR zaQ 1 vvstanzas1 kstanzas1 Zstanzas1,ze9 zbu Zstanzas1] [] (fun v0:Value=>.tuple #[v0,zI r.2]) (fun v0=>[zfv zaI zaH 106 v0 r.1]):=by
 unfold zf3 at h
 refine FnR.intro Tryz.func85 rfl Tryz.ntmps85 (by simp) ?_
 intro w0 K hrd
 obtain ⟨j1,hj1,h⟩:=zbw h
 refine zaU (β:=Int) 2 rfl (fun b=>j1 b=some r) (fun b=>[]) (fun b=>[(0,.string title1),(1,vstanzas1.v),(6,zI b)]) (fun b=>[]) (fun cut => ?_) ?_
 ·
  refine zyG (zyR 2 rfl (zyH (zyR 1 rfl (zyN (cut (zyG ?_))))))
  refine zyR 1 rfl (ze4 hzstanzas1 hwstanzas1 rfl dc rfl Tryz.underlying112 (zyR 1 rfl (zyN (zaB ?_))))
  refine zbm (β:=Nat×Int×Int) (fun b=>za9 (fun _ _=>none) (zd7 stanzas1 j1) b.1 b.2.1 b.2.2=some r) (fun b=>[]) (fun b=>[(0,.string title1),(1,vstanzas1.v),(6,zI b.2.1),(12,vstanzas1.v),(13,zI (stanzas1.length:Int)),(14,zI b.2.2)]) (fun b=>[]) (fun b=>b.1) (zcN,0,0) h rfl (za7 rfl) Splits.nil ?_
  rintro ⟨n5,n4,x3⟩ h
  cases n5 with
  | zero=>exact zcS h
  | succ n5 =>
   obtain ⟨ag1,hag1⟩:∃ ag,ag=za9 (fun _ _=>none) (zd7 stanzas1 j1) n5:=⟨_,rfl⟩
   have h:zd7 stanzas1 j1 ag1 n4 x3=some r:=by rw [hag1]; exact h
   unfold zd7 at h
   refine zyG (zaO rfl zbv (zyN (zay ?_)))
   refine zyB rfl h (fun h => ?_) (fun h => ?_)
   ·
    refine zat (zaE (zay (zaB (zyG ?_))))
    obtain ⟨x4,hq1,h⟩:=zbl h
    obtain ⟨eh1,eq1⟩:=ziU hzstanzas1 hq1
    have hrd:Rd _ _ [zdR zaQ 1 vvstanzas1 kstanzas1 Zstanzas1,ze9 zbu Zstanzas1,zkw zhX 1 eh1 x4]:=hrd.openEl (i:=1) (z:=(x4,eh1)) rfl (Vw.get hwstanzas1 eq1)
    obtain ⟨vv1,k1,L1,hV1,hrd⟩:=hrd.openSl (i:=2) rfl
    replace hrd:Rd _ _ [zdR zaQ 1 vvstanzas1 kstanzas1 Zstanzas1,ze9 zbu Zstanzas1,zkw zhX 1 eh1 x4,zdR zhX 1 vv1 k1 L1]:=hrd
    refine za3 hwstanzas1 eq1 Tryz.underlying112 zkN rfl dc rfl rfl rfl (zcO (n:=kstanzas1+(x3:Int).toNat) (j:=0) (i:=0) (q:=(x4,eh1)) hrd rfl (by omega) zj9 rfl dc rfl (Vw.get hwstanzas1 eq1) rfl rfl (zyR 1 rfl (zyN (zaA (zyR 2 rfl (zcU hV1 rfl dc rfl Tryz.underlying70 ?_))))))
    obtain ⟨hg1,h⟩:=zbs h
    refine zaO rfl (zaT (r:=n4+(x4.length:Int)) (IntWalk.i64_in _ hg1)) (zyR 1 rfl (zaV (zai (zaE (zaA ?_)))))
    obtain ⟨hg2,h⟩:=zbs h
    refine zaO rfl (zaT (r:=x3+1) (IntWalk.i64_in _ hg2)) (zyR 1 rfl (zaV ?_))
    subst hag1
    exact zaZ (n5,n4+(x4.length:Int),x3+1) h (Nat.lt_succ_self _) rfl (za7 rfl) Splits.nil
   refine za6 (zao (zao (zaw ?_)))
   exact zaq n4 h rfl (za7 rfl) Splits.nil
 rintro n1 h
 rw [hj1] at h
 refine zyG (zyR 2 rfl ?_)
 obtain ⟨r1,hq2,h⟩:=zbl h
 refine zbH (v:=.string r1) (vs:=[.string title1,vstanzas1.v]) hrd rfl dc rfl rfl rfl zoW (zh8 (vstanzas1:=vstanzas1) hwstanzas1 hzstanzas1 hq2) (.ro 0 rfl (.ro 1 rfl .nil)) (zyR 1 rfl (zyN (zay (zyG (zyR 1 rfl (zaO rfl zcY (zyR 1 rfl ?_)))))))
 refine zyS (s:=28) rfl h (fun h => ?_) (fun h => ?_)
 ·
  refine zyR 4 rfl (zyN (za0 rfl (zyG (zyR 2 rfl (zyN (zau ?_))))))
  refine zah (zca zaI zaH 106 ?_)
  cases h
  exact zaC (rs:=[.tmp 4,.tmp 5]) (.pointer none) (.inl rfl) Tryz.results85 (.cons (.tmp rfl) (.cons (.tmp rfl) .nil)) rfl (zae [0] kr rfl)
 refine zyR 1 rfl (zbG rfl dc rfl Tryz.underlying9 (zaO rfl zcY (zyR 1 rfl (zyN ?_))))
 refine zyB rfl h (fun h => ?_) (fun h => ?_)
 ·
  refine zyG (zyR 2 rfl (zyN (zau (zah (zca zaI zaH 106 ?_)))))
  cases h
  exact zaC (rs:=[.tmp 4,.tmp 5]) (.pointer none) (.inl rfl) Tryz.results85 (.cons (.tmp rfl) (.cons (.tmp rfl) .nil)) rfl (zae [0] kr rfl)
 refine zat (zaE (zyG (zyR 1 rfl ?_)))
 obtain ⟨r2,hq3,h⟩:=zbl h
 refine zcB (vs:=[.string r1]) rfl dc rfl rfl rfl znV (zht hq3) Splits.nil ?_
 rintro v1
 refine zbM (L':=[zfv zaI zaH 106 v1 r2.1]) (zae [0] kr rfl) (zyR 1 rfl (zax rfl dc rfl rfl (zax rfl dc rfl rfl ?_)))
 refine zbb zmK rfl dc (fun b1 => ?_)
 refine zyR 1 rfl (zaR (k:=1) (vs:=(zr5 r2.2)) (l':=(zr5 r2.2)) zj8 rfl rfl rfl rfl rfl (show _≤_ by simp) rfl rfl ?_)
 refine zyH (zyR 3 rfl (zyN (zau ?_)))
 cases h
 exact zaC (rs:=[.tmp 4,.tmp 5]) v1 (.inl rfl) Tryz.results85 (.cons (.tmp rfl) (.cons (.tmp rfl) .nil)) rfl (zae [0] kr rfl)
def zd9 (j2:Option ((Option Gpoem_Poem)×Int)) (x4:List ByteArray) (ag2:Int→Option ((Option Gpoem_Poem)×Int)) (x7:Int):Option ((Option Gpoem_Poem)×Int) :=
zav (decide ((x7:Int)<(x4.length:Int))) (
zar (zc9 x4 x7) fun (q1:ByteArray) =>
zav (!(zng q1 1024)) (
some (none,170)
) (
zar (zeG q1) fun (r1:Bool) =>
zav (r1) (
some (none,170)
) (
grd (I64 (x7+1)) <|
ag2 (x7+1)
)
)
) (
j2
)
def zea (stanzas1:List (List ByteArray)) (j1:Option ((Option Gpoem_Poem)×Int)) (ag1:Int→Option ((Option Gpoem_Poem)×Int)) (x3:Int):Option ((Option Gpoem_Poem)×Int) :=
zav (decide ((x3:Int)<(stanzas1.length:Int))) (
zbp (fun (j2:Option ((Option Gpoem_Poem)×Int)) =>
zar (zc9 stanzas1 x3) fun (x4:List ByteArray) =>
zav (((x4.length:Int):Int)==0) (
some (none,170)
) (
za9 (fun _=>none) (zd9 j2 x4) zcN 0
)
) (
grd (I64 (x3+1)) <|
ag1 (x3+1)
)
) (
j1
)
def zf4 (title1:ByteArray) (stanzas1:List (List ByteArray)):Option ((Option Gpoem_Poem)×Int) :=
zav (!(zng title1 1022)) (
some (none,170)
) (
zbp (fun (j1:Option ((Option Gpoem_Poem)×Int)) =>
za9 (fun _=>none) (zea stanzas1 j1) zcN 0
) (
zar (zf3 title1 stanzas1) fun (r2:((Option Gpoem_Poem)×Int)) =>
some (r2.1,r2.2)
)
)
theorem zjH {title1:ByteArray} {vvstanzas1:Value} {vstanzas1:Hd} {Zstanzas1:List ((List ByteArray)×Hd)} {kstanzas1:Nat} {zstanzas1:List ((List ByteArray)×Hd)} {stanzas1:List (List ByteArray)} (hwstanzas1:Vw vvstanzas1 Zstanzas1 1 kstanzas1 vstanzas1.v zstanzas1) (hzstanzas1:zstanzas1.map Prod.fst=stanzas1) {r:((Option Gpoem_Poem)×Int)} (h:zf4 title1 stanzas1=some r):FnR Tryz.prog 55 [.string title1,vstanzas1.v] [zdR zaQ 1 vvstanzas1 kstanzas1 Zstanzas1,ze9 zbu Zstanzas1] [] (fun v0:Value=>.tuple #[v0,zI r.2]) (fun v0=>[zfv zaI zaH 106 v0 r.1]):=by
 unfold zf4 at h
 refine FnR.intro Tryz.func55 rfl Tryz.ntmps55 (by simp) ?_
 intro w0 K hrd
 refine zyG (zyR 2 rfl (zyN (zay (zyG (zyR 1 rfl (za5 (v:=.bool (zng title1 1022)) (vs:=[.string title1,zI 1022]) rfl dc rfl rfl rfl znL (znF title1 1022 dc) (zcZ rfl dc rfl zbZ (zyN ?_))))))))
 refine zyB rfl h (fun h => ?_) (fun h => ?_)
 ·
  refine zyG (zyR 2 rfl (zyN (zau (zah (zca zaI zaH 106 ?_)))))
  cases h
  exact zaC (rs:=[.tmp 4,.tmp 5]) (.pointer none) (.inl rfl) Tryz.results55 (.cons (.tmp rfl) (.cons (.tmp rfl) .nil)) rfl (zae [0] kr rfl)
 refine zat (zaE ?_)
 obtain ⟨j1,hj1,h⟩:=zbw h
 refine zaU (β:=Unit) 0 rfl (fun b=>j1=some r) (fun b=>[]) (fun b=>[(0,.string title1),(1,vstanzas1.v)]) (fun b=>[]) (fun cut => ?_) ?_
 ·
  refine cut (zyG (zyR 1 rfl (ze4 hzstanzas1 hwstanzas1 rfl dc rfl Tryz.underlying112 (zyR 1 rfl (zyN (zaB ?_))))))
  refine zbm (β:=Nat×Int) (fun b=>za9 (fun _=>none) (zea stanzas1 j1) b.1 b.2=some r) (fun b=>[]) (fun b=>[(0,.string title1),(1,vstanzas1.v),(13,vstanzas1.v),(14,zI (stanzas1.length:Int)),(15,zI b.2)]) (fun b=>[]) (fun b=>b.1) (zcN,0) h rfl (za7 rfl) Splits.nil ?_
  rintro ⟨n1,x3⟩ h
  cases n1 with
  | zero=>exact zcS h
  | succ n1 =>
   obtain ⟨ag1,hag1⟩:∃ ag,ag=za9 (fun _=>none) (zea stanzas1 j1) n1:=⟨_,rfl⟩
   have h:zea stanzas1 j1 ag1 x3=some r:=by rw [hag1]; exact h
   unfold zea at h
   refine zyG (zaO rfl zbv (zyN (zay ?_)))
   refine zyB rfl h (fun h => ?_) (fun h => ?_)
   ·
    refine zat (zaE ?_)
    obtain ⟨j2,hj2,h⟩:=zbw h
    refine zaU (β:=Unit) 0 rfl (fun b=>j2=some r) (fun b=>[]) (fun b=>[(0,.string title1),(1,vstanzas1.v),(13,vstanzas1.v),(14,zI (stanzas1.length:Int)),(15,zI x3)]) (fun b=>[]) (fun cut => ?_) ?_
    ·
     refine cut (zaB (zyG ?_))
     obtain ⟨x4,hq1,h⟩:=zbl h
     obtain ⟨eh1,eq1⟩:=ziU hzstanzas1 hq1
     have hrd:Rd _ _ [zdR zaQ 1 vvstanzas1 kstanzas1 Zstanzas1,ze9 zbu Zstanzas1,zkw zhX 1 eh1 x4]:=hrd.openEl (i:=1) (z:=(x4,eh1)) rfl (Vw.get hwstanzas1 eq1)
     obtain ⟨vv1,k1,L1,hV1,hrd⟩:=hrd.openSl (i:=2) rfl
     replace hrd:Rd _ _ [zdR zaQ 1 vvstanzas1 kstanzas1 Zstanzas1,ze9 zbu Zstanzas1,zkw zhX 1 eh1 x4,zdR zhX 1 vv1 k1 L1]:=hrd
     refine za3 hwstanzas1 eq1 Tryz.underlying112 zkN rfl dc rfl rfl rfl (zcO (n:=kstanzas1+(x3:Int).toNat) (j:=0) (i:=0) (q:=(x4,eh1)) hrd rfl (by omega) zj9 rfl dc rfl (Vw.get hwstanzas1 eq1) rfl rfl (zyR 1 rfl (zyN (zay (zyG (zyR 1 rfl (zcU hV1 rfl dc rfl Tryz.underlying70 (zaO rfl zaP (zyN ?_)))))))))
     refine zyB rfl h (fun h => ?_) (fun h => ?_)
     ·
      refine zyG (zyR 2 rfl (zyN (zau (zah (zaj (zah (zah (zaj (zah (zca zaI zaH 106 ?_))))))))))
      cases h
      exact zaC (rs:=[.tmp 4,.tmp 5]) (.pointer none) (.inl rfl) Tryz.results55 (.cons (.tmp rfl) (.cons (.tmp rfl) .nil)) rfl (zae [0] kr rfl)
     refine zat (zaE (zyG (zyR 1 rfl (zcU hV1 rfl dc rfl Tryz.underlying70 (zyR 1 rfl (zyN (zaB ?_)))))))
     refine zbm (β:=Nat×Int) (fun b=>za9 (fun _=>none) (zd9 j2 x4) b.1 b.2=some r) (fun b=>[]) (fun b=>[(0,.string title1),(1,vstanzas1.v),(13,vstanzas1.v),(14,zI (stanzas1.length:Int)),(15,zI x3),(22,eh1.v),(23,zI (x4.length:Int)),(24,zI b.2)]) (fun b=>[]) (fun b=>b.1) (zcN,0) h rfl (za7 rfl) Splits.nil ?_
     rintro ⟨n2,x7⟩ h
     cases n2 with
     | zero=>exact zcS h
     | succ n2 =>
      obtain ⟨ag2,hag2⟩:∃ ag,ag=za9 (fun _=>none) (zd9 j2 x4) n2:=⟨_,rfl⟩
      have h:zd9 j2 x4 ag2 x7=some r:=by rw [hag2]; exact h
      unfold zd9 at h
      refine zyG (zaO rfl zbv (zyN (zay ?_)))
      refine zyB rfl h (fun h => ?_) (fun h => ?_)
      ·
       refine zat (zaE (zay (zaB (zyG ?_))))
       obtain ⟨q1,hq2,h⟩:=zbl h
       refine za3 hV1 hq2 Tryz.underlying70 zlZ rfl dc rfl rfl rfl (zcO (n:=k1+(x7:Int).toNat) (j:=0) (i:=3) (q:=q1) hrd rfl (by omega) ziz rfl dc rfl (Vw.get hV1 hq2) rfl rfl (zyR 1 rfl (zyH (zyR 1 rfl (za5 (v:=.bool (zng q1 1024)) (vs:=[.string q1,zI 1024]) rfl dc rfl rfl rfl znL (znF q1 1024 dc) (zcZ rfl dc rfl zbZ (zyR 1 rfl ?_)))))))
       refine zyS (s:=31) rfl h (fun h => ?_) (fun h => ?_)
       ·
        refine zyR 3 rfl (zyN (za0 rfl (zyG (zyR 2 rfl (zyN (zau (zaj ?_)))))))
        refine zah (zah (zaj (zaj (zah (zah (zaj (zah (zca zaI zaH 106 ?_))))))))
        cases h
        exact zaC (rs:=[.tmp 4,.tmp 5]) (.pointer none) (.inl rfl) Tryz.results55 (.cons (.tmp rfl) (.cons (.tmp rfl) .nil)) rfl (zae [0] kr rfl)
       refine zyR 1 rfl ?_
       obtain ⟨r1,hq3,h⟩:=zbl h
       refine za5 (v:=.bool r1) (vs:=[.string q1]) rfl dc rfl rfl rfl znR (zgo hq3) (zyR 1 rfl (zyN ?_))
       refine zyB rfl h (fun h => ?_) (fun h => ?_)
       ·
        refine zyG (zyR 2 rfl (zyN (zau (zaj (zah (zah (zaj (zaj (zah (zah ?_))))))))))
        refine zaj (zah (zca zaI zaH 106 ?_))
        cases h
        exact zaC (rs:=[.tmp 4,.tmp 5]) (.pointer none) (.inl rfl) Tryz.results55 (.cons (.tmp rfl) (.cons (.tmp rfl) .nil)) rfl (zae [0] kr rfl)
       refine zat (zai (zaE (zaA ?_)))
       obtain ⟨hg1,h⟩:=zbs h
       refine zaO rfl (zaT (r:=x7+1) (IntWalk.i64_in _ hg1)) (zyR 1 rfl (zaV ?_))
       subst hag2
       exact zaZ (n2,x7+1) h (Nat.lt_succ_self _) rfl (za7 rfl) Splits.nil
      refine za6 (zao (zao (zaw (zai ?_))))
      exact zaq () h rfl (za7 rfl) Splits.nil
    rintro _ h
    rw [hj2] at h
    refine zaA ?_
    obtain ⟨hg2,h⟩:=zbs h
    refine zaO rfl (zaT (r:=x3+1) (IntWalk.i64_in _ hg2)) (zyR 1 rfl (zaV ?_))
    subst hag1
    exact zaZ (n1,x3+1) h (Nat.lt_succ_self _) rfl (za7 rfl) Splits.nil
   refine za6 (zao (zao (zaw ?_)))
   exact zaq () h rfl (za7 rfl) Splits.nil
 rintro _ h
 rw [hj1] at h
 refine zyG (zyR 2 rfl ?_)
 obtain ⟨r2,hq4,h⟩:=zbl h
 refine zd6 (vs:=[.string title1,vstanzas1.v]) hrd rfl dc rfl rfl rfl zoN (zjG (vstanzas1:=vstanzas1) hwstanzas1 hzstanzas1 hq4) Splits.nil (.ro 0 rfl (.ro 1 rfl .nil)) ?_
 rintro v1
 refine zbM (L':=[zfv zaI zaH 106 v1 r2.1]) (zae [0] kr rfl) (zax rfl dc rfl rfl (zax rfl dc rfl rfl (zyR 2 rfl (zyN (zau ?_)))))
 cases h
 exact zaC (rs:=[.tmp 4,.tmp 5]) v1 (.inl rfl) Tryz.results55 (.cons (.tmp rfl) (.cons (.tmp rfl) .nil)) rfl (zae [0] kr rfl)
end Go.Proofs.YtbempdelckaccaaGreatDoor

namespace Go.Proofs.YtbempdelckaccaaGreatDoor
open Go.RowKit Go.Lib
set_option linter.unusedVariables false
set_option linter.unusedSimpArgs false
end Go.Proofs.YtbempdelckaccaaGreatDoor

namespace Go.Proofs.YtbempdelckaccaaGreatDoor
open Go.RowKit Go.Lib
set_option linter.unusedVariables false
set_option linter.unusedSimpArgs false
end Go.Proofs.YtbempdelckaccaaGreatDoor

namespace Go.Proofs.YtbempdelckaccaaGreatDoor
open Go.RowKit Go.Lib
set_option linter.unusedVariables false
set_option linter.unusedSimpArgs false
def zeH  : Option Bool :=
zar (zfd (⟨#[111,110,101,32,116,119,111,32,116,104,114,101,101]⟩:ByteArray) 0 (⟨8,4,2,0⟩:Gapi_Layout)) fun (r1:((List ByteArray)×Int×Int)) =>
zav (((r1.1.length:Int):Int)==2) (
zar (zc9 r1.1 0) fun (q1:ByteArray) =>
zav (decide (q1=(⟨#[111,110,101,32,116,119,111,32]⟩:ByteArray))) (
zav ((r1.2.1:Int)==1) (
some ((r1.2.2:Int)==0)
) (
some false
)
) (
some false
)
) (
some false
)
theorem zgw  {r:Bool} (h:zeH=some r):FnP Tryz.prog 8 [] (.bool r):=by
 unfold zeH at h
 refine FnP.intro Tryz.func8 rfl Tryz.ntmps8 (by simp) ?_
 intro w0 K
 refine zyG (zyR 1 rfl (zyH ?_))
 refine zbg (v:=.agg #[zI 8,zI 4,zI 2,zI 0]) (ps:=[(0,.const (zI 8)),(1,.const (zI 4)),(2,.const (zI 2))]) rfl dc rfl (fun _=>by kernel_rfl) ?_
 obtain ⟨r1,hq1,h⟩:=zbl h
 refine zcB (vs:=[.string (⟨#[111,110,101,32,116,119,111,32,116,104,114,101,101]⟩:ByteArray),zI 0,.agg #[zI 8,zI 4,zI 2,zI 0]]) rfl dc rfl rfl rfl znT (zhv (l1:=(⟨8,4,2,0⟩:Gapi_Layout)) hq1) Splits.nil ?_
 rintro v1
 refine zyR 1 rfl (zax rfl dc rfl rfl (zax rfl dc rfl rfl (zax rfl dc rfl rfl (zyR 3 rfl (zyH (zyR 1 rfl (zcr (k:=0) rfl dc rfl rfl Tryz.underlying70 (zaO rfl zaP ?_))))))))
 refine zyR 1 rfl ?_
 refine zyS (s:=13) rfl h (fun h => ?_) (fun h => ?_)
 ·
  refine zyR 1 rfl ?_
  obtain ⟨q1,hq2,h⟩:=zbl h
  refine zaM (k:=0) hq2 Tryz.underlying70 zlZ rfl dc rfl rfl rfl rfl (zbi (i:=(0:Int).toNat) (j:=0) (k:=0) (q:=q1) ziz zff rfl dc rfl rfl (za4 hq2) rfl dc rfl (zaO rfl zeL (zyR 2 rfl ?_)))
  refine zyS (s:=19) rfl h (fun h => ?_) (fun h => ?_)
  ·
   refine zyR 1 rfl (zaO rfl zaP (zyR 2 rfl ?_))
   refine zyS (s:=23) rfl h (fun h => ?_) (fun h => ?_)
   ·
    refine zyR 1 rfl (zaO rfl zaP (zyR 2 rfl (zyN (zau ?_))))
    cases h
    exact zaC (rs:=[.tmp 0]) () (.inl rfl) Tryz.results8 (.cons (.tmp rfl) .nil) rfl Splits.nil
   refine zyR 4 rfl (zyN (zau ?_))
   cases h
   exact zaC (rs:=[.tmp 0]) () (.inl rfl) Tryz.results8 (.cons (.tmp rfl) .nil) rfl Splits.nil
  refine zyR 8 rfl (zyN (zau ?_))
  cases h
  exact zaC (rs:=[.tmp 0]) () (.inl rfl) Tryz.results8 (.cons (.tmp rfl) .nil) rfl Splits.nil
 refine zyR 14 rfl ?_
 refine zyN (zau ?_)
 cases h
 exact zaC (rs:=[.tmp 0]) () (.inl rfl) Tryz.results8 (.cons (.tmp rfl) .nil) rfl Splits.nil
end Go.Proofs.YtbempdelckaccaaGreatDoor

namespace Go.Proofs.YtbempdelckaccaaGreatDoor
open Go.RowKit Go.Lib
set_option linter.unusedVariables false
set_option linter.unusedSimpArgs false
end Go.Proofs.YtbempdelckaccaaGreatDoor

namespace Go.Proofs.YtbempdelckaccaaGreatDoor
open Go.RowKit Go.Lib
set_option linter.unusedVariables false
set_option linter.unusedSimpArgs false
def zeR (a1:Gapi_Row) (b1:Gapi_Row) (first1:Bool):Option Bool :=
zav (first1) (
zav ((b1.Line:Int)==0) (
zav ((b1.Stanza:Int)==0) (
some ((b1.Part:Int)==0)
) (
some false
)
) (
some false
)
) (
zav ((b1.Line:Int)==a1.Line) (
zav ((b1.Stanza:Int)==a1.Stanza) (
grd (I64 (a1.Part+1)) <|
some ((b1.Part:Int)==(a1.Part+1))
) (
some false
)
) (
grd (I64 (a1.Line+1)) <|
zav ((b1.Line:Int)==(a1.Line+1)) (
zav ((b1.Part:Int)==0) (
zav ((b1.Stanza:Int)==a1.Stanza) (
some true
) (
grd (I64 (a1.Stanza+1)) <|
some ((b1.Stanza:Int)==(a1.Stanza+1))
)
) (
some false
)
) (
some false
)
)
)
theorem zic {a1:Gapi_Row} {b1:Gapi_Row} {first1:Bool} {r:Bool} (h:zeR a1 b1 first1=some r):FnP Tryz.prog 52 [.agg (zr4 a1).toArray,.agg (zr4 b1).toArray,.bool first1] (.bool r):=by
 unfold zeR at h
 refine FnP.intro Tryz.func52 rfl Tryz.ntmps52 (by simp) ?_
 intro w0 K
 refine zyG ?_
 refine zcP rfl dc rfl (fun b2 => ?_)
 refine zcP rfl dc rfl (fun b3 => ?_)
 refine zyR 1 rfl (zyN (zay (zaB (zyG (zyR 2 rfl (zyN ?_))))))
 refine zyB rfl h (fun h => ?_) (fun h => ?_)
 ·
  refine zyG (zac zeE rfl dc rfl (show _=0 from rfl) (zan (k:=1) zbC rfl dc rfl rfl rfl (zaO rfl zaP (zyR 1 rfl ?_))))
  refine zyS (s:=12) rfl h (fun h => ?_) (fun h => ?_)
  ·
   refine zac zdm rfl dc rfl (show _=1 from rfl) (zan (k:=1) zbC rfl dc rfl rfl rfl (zaO rfl zaP (zyR 2 rfl ?_)))
   refine zyS (s:=17) rfl h (fun h => ?_) (fun h => ?_)
   ·
    refine zac zg8 rfl dc rfl (show _=2 from rfl) (zan (k:=1) zbC rfl dc rfl rfl rfl (zaO rfl zaP (zyR 2 rfl (zyN (zau (zaj (zah ?_)))))))
    cases h
    exact zaC (rs:=[.tmp 6]) () (.inl rfl) Tryz.results52 (.cons (.tmp rfl) .nil) rfl Splits.nil
   refine zyR 5 rfl (zyN (zau (zaj (zah ?_))))
   cases h
   exact zaC (rs:=[.tmp 6]) () (.inl rfl) Tryz.results52 (.cons (.tmp rfl) .nil) rfl Splits.nil
  refine zyR 10 rfl (zyN (zau (zaj ?_)))
  refine zah ?_
  cases h
  exact zaC (rs:=[.tmp 6]) () (.inl rfl) Tryz.results52 (.cons (.tmp rfl) .nil) rfl Splits.nil
 refine zyG (zac zeE rfl dc rfl (show _=0 from rfl) (zan (k:=1) zbC rfl dc rfl rfl rfl (zac zeE rfl dc rfl (show _=0 from rfl) (zan (k:=0) zbC rfl dc rfl rfl rfl (zaO rfl zaP (zyR 1 rfl (zyN ?_)))))))
 refine zyB rfl h (fun h => ?_) (fun h => ?_)
 ·
  refine zyG (zac zdm rfl dc rfl (show _=1 from rfl) (zan (k:=1) zbC rfl dc rfl rfl rfl (zac zdm rfl dc rfl (show _=1 from rfl) (zan (k:=0) zbC rfl dc rfl rfl rfl (zaO rfl zaP (zyR 1 rfl ?_))))))
  refine zyS (s:=33) rfl h (fun h => ?_) (fun h => ?_)
  ·
   refine zac zg8 rfl dc rfl (show _=2 from rfl) (zan (k:=1) zbC rfl dc rfl rfl rfl (zac zg8 rfl dc rfl (show _=2 from rfl) (zan (k:=0) zbC rfl dc rfl rfl rfl ?_)))
   obtain ⟨hg1,h⟩:=zbs h
   refine zaO rfl (zaT (r:=a1.Part+1) (IntWalk.i64_in _ hg1)) (zaO rfl zaP (zyR 2 rfl (zyN (zau (zaj (zah ?_))))))
   cases h
   exact zaC (rs:=[.tmp 6]) () (.inl rfl) Tryz.results52 (.cons (.tmp rfl) .nil) rfl Splits.nil
  refine zyR 8 rfl (zyN (zau (zaj (zah ?_))))
  cases h
  exact zaC (rs:=[.tmp 6]) () (.inl rfl) Tryz.results52 (.cons (.tmp rfl) .nil) rfl Splits.nil
 refine zat (zai (zaE (zyG (zac zeE rfl dc rfl (show _=0 from rfl) (zan (k:=1) zbC rfl dc rfl rfl rfl (zac zeE rfl dc rfl (show _=0 from rfl) (zan (k:=0) zbC rfl dc rfl rfl rfl ?_)))))))
 obtain ⟨hg2,h⟩:=zbs h
 refine zaO rfl (zaT (r:=a1.Line+1) (IntWalk.i64_in _ hg2)) (zaO rfl zaP (zyR 1 rfl ?_))
 refine zyS (s:=47) rfl h (fun h => ?_) (fun h => ?_)
 ·
  refine zac zg8 rfl dc rfl (show _=2 from rfl) (zan (k:=1) zbC rfl dc rfl rfl rfl (zaO rfl zaP (zyR 2 rfl ?_)))
  refine zyS (s:=52) rfl h (fun h => ?_) (fun h => ?_)
  ·
   refine zac zdm rfl dc rfl (show _=1 from rfl) (zan (k:=1) zbC rfl dc rfl rfl rfl (zac zdm rfl dc rfl (show _=1 from rfl) (zan (k:=0) zbC rfl dc rfl rfl rfl (zaO rfl zaP (zyR 1 rfl ?_)))))
   refine zyS (s:=58) rfl h (fun h => ?_) (fun h => ?_)
   ·
    refine zyR 9 rfl (zyN (zau ?_))
    cases h
    exact zaC (rs:=[.tmp 6]) () (.inl rfl) Tryz.results52 (.cons (.tmp rfl) .nil) rfl Splits.nil
   refine zac zdm rfl dc rfl (show _=1 from rfl) (zan (k:=1) zbC rfl dc rfl rfl rfl (zac zdm rfl dc rfl (show _=1 from rfl) (zan (k:=0) zbC rfl dc rfl rfl rfl ?_)))
   obtain ⟨hg3,h⟩:=zbs h
   refine zaO rfl (zaT (r:=a1.Stanza+1) (IntWalk.i64_in _ hg3)) (zaO rfl zaP (zyR 3 rfl (zyN (zau ?_))))
   cases h
   exact zaC (rs:=[.tmp 6]) () (.inl rfl) Tryz.results52 (.cons (.tmp rfl) .nil) rfl Splits.nil
  refine zyR 14 rfl ?_
  refine zyR 1 rfl (zyN (zau ?_))
  cases h
  exact zaC (rs:=[.tmp 6]) () (.inl rfl) Tryz.results52 (.cons (.tmp rfl) .nil) rfl Splits.nil
 refine zyR 14 rfl ?_
 refine zyR 6 rfl (zyN (zau ?_))
 cases h
 exact zaC (rs:=[.tmp 6]) () (.inl rfl) Tryz.results52 (.cons (.tmp rfl) .nil) rfl Splits.nil
def zee (rows1:List Gapi_Row) (j1:(List (List ByteArray))→Option ((Option Gpoem_Poem)×Int)) (ag1:(List (List ByteArray))→Int→Int→Int→Int→Int→ByteArray→Int→Option ((Option Gpoem_Poem)×Int)) (stanzas4:List (List ByteArray)) (last13:Int) (last14:Int) (last15:Int) (last16:Int) (last17:Int) (last18:ByteArray) (x3:Int):Option ((Option Gpoem_Poem)×Int) :=
zav (decide ((x3:Int)<(rows1.length:Int))) (
zbp (fun (j2:(List (List ByteArray))→Int→Int→Int→Int→Int→ByteArray→Option ((Option Gpoem_Poem)×Int)) =>
zar (zc9 rows1 x3) fun (q1:Gapi_Row) =>
zav ((q1.Line:Int)==(-1)) (
j2 stanzas4 last13 last14 last15 last16 last17 last18
) (
zbp (fun (j3:Bool→Bool→Option ((Option Gpoem_Poem)×Int)) =>
zar (zeR (⟨last13,last14,last15,last16,last17,last18⟩:Gapi_Row) q1 (((stanzas4.length:Int):Int)==0)) fun (r1:Bool) =>
zav (!r1) (
some (none,300)
) (
zav ((q1.Part:Int)==0) (
zav (decide ((q1.Indent:Int)<0)) (
some (none,300)
) (
zav (decide ((1024:Int)<q1.Indent)) (
some (none,300)
) (
zar (zcQ q1.Text (⟨#[32]⟩:ByteArray)) fun (r2:Bool) =>
zav (r2) (
some (none,300)
) (
j3 true r2
)
)
)
) (
j3 false false
)
)
) (fun (x4:Bool) (x5:Bool) =>
zbp (fun (j4:(List (List ByteArray))→Option ((Option Gpoem_Poem)×Int)) =>
zav ((q1.Stanza:Int)==(stanzas4.length:Int)) (
grd (stanzas4.length+1≤2147483648) <|
j4 (stanzas4++[([]:List ByteArray)])
) (
j4 stanzas4
)
) (fun (stanzas6:List (List ByteArray)) =>
zar (zc9 stanzas6 q1.Stanza) fun (x6:List ByteArray) =>
zbp (fun (j5:(List (List ByteArray))→Option ((Option Gpoem_Poem)×Int)) =>
zav ((q1.Part:Int)==0) (
grd (0≤q1.Indent∧q1.Indent≤140737488355328) <|
grd ((zdT q1.Indent).size+q1.Text.size≤9223372036854775807) <|
grd (x6.length+1≤2147483648) <|
j5 (stanzas6.set (q1.Stanza:Int).toNat (x6++[(zdT q1.Indent)++q1.Text]))
) (
grd (I64 ((x6.length:Int) - 1)) <|
zar (zc9 x6 ((x6.length:Int) - 1)) fun (q2:ByteArray) =>
grd (q2.size+q1.Text.size≤9223372036854775807) <|
j5 (stanzas6.set ((q1.Stanza:Int).toNat) (x6.set ((x6.length:Int) - 1:Int).toNat (q2++q1.Text)))
)
) (fun (stanzas7:List (List ByteArray)) =>
j2 stanzas7 q1.Line q1.Stanza q1.Part q1.Indent q1.Number q1.Text
)
)
)
)
) (fun (stanzas5:List (List ByteArray)) (last19:Int) (last20:Int) (last21:Int) (last22:Int) (last23:Int) (last24:ByteArray) =>
grd (I64 (x3+1)) <|
ag1 stanzas5 last19 last20 last21 last22 last23 last24 (x3+1)
)
) (
j1 stanzas4
)
def zga (title1:ByteArray) (rows1:List Gapi_Row):Option ((Option Gpoem_Poem)×Int) :=
zbp (fun (j1:(List (List ByteArray))→Option ((Option Gpoem_Poem)×Int)) =>
za9 (fun _ _ _ _ _ _ _ _=>none) (zee rows1 j1) zcN ([]:List (List ByteArray)) 0 0 0 0 0 ByteArray.empty 0
) (fun (stanzas1:List (List ByteArray)) =>
zar (zf4 title1 stanzas1) fun (r3:((Option Gpoem_Poem)×Int)) =>
some (r3.1,r3.2)
)
theorem zjK {title1:ByteArray} {vvrows1 vrows1:Value} {Lrows1:List Gapi_Row} {krows1:Nat} {rows1:List Gapi_Row} (hwrows1:Vw vvrows1 Lrows1 6 krows1 vrows1 rows1) {r:((Option Gpoem_Poem)×Int)} (h:zga title1 rows1=some r):FnR Tryz.prog 23 [.string title1,vrows1] [zdR zbI 6 vvrows1 krows1 Lrows1] [] (fun v0:Value=>.tuple #[v0,zI r.2]) (fun v0=>[zfv zaI zaH 106 v0 r.1]):=by
 unfold zga at h
 refine FnR.intro Tryz.func23 rfl Tryz.ntmps23 (by simp) ?_
 intro w0 K hrd
 obtain ⟨j1,hj1,h⟩:=zbw h
 refine zaU (β:=(List (List ByteArray))×Hd) 3 rfl (fun b=>j1 b.1=some r) (fun b=>[]) (fun b=>[(0,.string title1),(6,b.2.v)]) (fun b=>[zfp zaQ zbf 70 1 b.2.v b.1]) (fun cut => ?_) ?_
 ·
  refine zyG (zyR 2 rfl (zyH (zyR 1 rfl (zyH ?_))))
  refine zbb zjy rfl dc (fun b1 => ?_)
  refine zyN (cut (zyG (zyR 1 rfl (zcU hwrows1 rfl dc rfl Tryz.underlying43 (zyR 1 rfl (zyN (zaB (zlO (enc:=zaQ) (nest:=zbf) (e:=70) (size:=1) ?_))))))))
  refine zbm (β:=Nat×(List (List ByteArray))×Int×Int×Int×Int×Int×ByteArray×Int×Hd) (fun b=>za9 (fun _ _ _ _ _ _ _ _=>none) (zee rows1 j1) b.1 b.2.1 b.2.2.1 b.2.2.2.1 b.2.2.2.2.1 b.2.2.2.2.2.1 b.2.2.2.2.2.2.1 b.2.2.2.2.2.2.2.1 b.2.2.2.2.2.2.2.2.1=some r) (fun b=>[]) (fun b=>[(0,.string title1),(6,b.2.2.2.2.2.2.2.2.2.v),(7,zP b1),(11,vrows1),(12,zI (rows1.length:Int)),(13,zI b.2.2.2.2.2.2.2.2.1)]) (fun b=>[zfp zaQ zbf 70 1 b.2.2.2.2.2.2.2.2.2.v b.2.1,cells b1 [zI b.2.2.1,zI b.2.2.2.1,zI b.2.2.2.2.1,zI b.2.2.2.2.2.1,zI b.2.2.2.2.2.2.1,.string b.2.2.2.2.2.2.2.1] 33]) (fun b=>b.1) (zcN,([]:List (List ByteArray)),0,0,0,0,0,ByteArray.empty,0,Hd.nil) h rfl (za7 rfl) (zae [1,0] kr rfl) ?_
  rintro ⟨n1,stanzas4,last13,last14,last15,last16,last17,last18,x3,hd4⟩ h
  cases n1 with
  | zero=>exact zcS h
  | succ n1 =>
   obtain ⟨ag1,hag1⟩:∃ ag,ag=za9 (fun _ _ _ _ _ _ _ _=>none) (zee rows1 j1) n1:=⟨_,rfl⟩
   have h:zee rows1 j1 ag1 stanzas4 last13 last14 last15 last16 last17 last18 x3=some r:=by rw [hag1]; exact h
   unfold zee at h
   refine zyG (zaO rfl zbv (zyN (zay ?_)))
   refine zyB rfl h (fun h => ?_) (fun h => ?_)
   ·
    refine zat (zaE ?_)
    obtain ⟨j2,hj2,h⟩:=zbw h
    refine zaU (β:=(List (List ByteArray))×Int×Int×Int×Int×Int×ByteArray×Hd) 0 rfl (fun b=>j2 b.1 b.2.1 b.2.2.1 b.2.2.2.1 b.2.2.2.2.1 b.2.2.2.2.2.1 b.2.2.2.2.2.2.1=some r) (fun b=>[]) (fun b=>[(0,.string title1),(6,b.2.2.2.2.2.2.2.v),(7,zP b1),(11,vrows1),(12,zI (rows1.length:Int)),(13,zI x3)]) (fun b=>[zfp zaQ zbf 70 1 b.2.2.2.2.2.2.2.v b.1,cells b1 [zI b.2.1,zI b.2.2.1,zI b.2.2.2.1,zI b.2.2.2.2.1,zI b.2.2.2.2.2.1,.string b.2.2.2.2.2.2.1] 33]) (fun cut => ?_) ?_
    ·
     refine cut (zaB (zyG ?_))
     obtain ⟨q1,hq1,h⟩:=zbl h
     refine za3 hwrows1 hq1 Tryz.underlying43 zf1 rfl dc rfl rfl rfl (zgR (m:=krows1+(x3:Int).toNat) (j:=0) (i:=0) (q:=q1) (cs:=(zr4 q1)) hrd rfl (by omega) ziB rfl dc rfl (Vw.get hwrows1 hq1) rfl rfl rfl ?_)
     refine zbb zjy rfl dc (fun b2 => ?_)
     refine zaR (k:=2) (vs:=(zr4 q1)) (l':=(zr4 q1)) zf1 rfl rfl rfl rfl rfl (show _≤_ by simp) rfl rfl ?_
     refine zyN (zay (zyG (zac zeE rfl dc rfl (show _=0 from rfl) (zan (k:=2) zbC rfl dc rfl rfl rfl (zaO rfl zaP (zyN ?_))))))
     refine zyB rfl h (fun h => ?_) (fun h => ?_)
     ·
      refine za6 (zao (zaw ?_))
      exact zaq (stanzas4,last13,last14,last15,last16,last17,last18,hd4) h rfl (za7 rfl) (zae [0,1] kr rfl)
     refine zat (zaE ?_)
     obtain ⟨j3,hj3,h⟩:=zbw h
     refine zaU (β:=Bool×Bool) 0 rfl (fun b=>j3 b.1 b.2=some r) (fun b=>[]) (fun b=>[(0,.string title1),(6,hd4.v),(7,zP b1),(9,zP b2),(11,vrows1),(12,zI (rows1.length:Int)),(13,zI x3),(28,.pointer (some ⟨b2,2,none⟩)),(29,zI q1.Part),(30,.bool ((q1.Part:Int)==0)),(31,.bool b.1),(45,.bool b.2)]) (fun b=>[zfp zaQ zbf 70 1 hd4.v stanzas4,cells b1 [zI last13,zI last14,zI last15,zI last16,zI last17,.string last18] 33,cells b2 (zr4 q1) 33]) (fun cut => ?_) ?_
     ·
      refine cut (zyG (zaY (k:=1) (cs:=[zI last13,zI last14,zI last15,zI last16,zI last17,.string last18]) ziB rfl dc rfl rfl rfl rfl (zaY (k:=2) (cs:=(zr4 q1)) ziB rfl dc rfl rfl rfl rfl (zyR 1 rfl (zi2 (k:=0) rfl dc rfl rfl Tryz.underlying112 (zaO rfl zaP ?_))))))
      obtain ⟨r1,hq2,h⟩:=zbl h
      refine za5 (v:=.bool r1) (vs:=[.agg #[zI last13,zI last14,zI last15,zI last16,zI last17,.string last18],.agg (zr4 q1).toArray,.bool (((stanzas4.length:Int):Int)==0)]) rfl dc rfl rfl rfl zoZ (zic (a1:=(⟨last13,last14,last15,last16,last17,last18⟩:Gapi_Row)) (b1:=q1) hq2) (zcZ rfl dc rfl zbZ (zyR 1 rfl ?_))
      refine zyS (s:=27) rfl h (fun h => ?_) (fun h => ?_)
      ·
       refine zyR 14 rfl ?_
       refine zyR 5 rfl (zyN (za0 rfl (zyG (zyR 2 rfl (zyN ?_)))))
       refine zau (zah (zaj (zah (zah (zaj (zah (zca zaI zaH 106 ?_)))))))
       cases h
       exact zaC (rs:=[.tmp 4,.tmp 5]) (.pointer none) (.inl rfl) Tryz.results23 (.cons (.tmp rfl) (.cons (.tmp rfl) .nil)) rfl (zae [3] kr rfl)
      refine zac zg8 rfl dc rfl (show _=2 from rfl) (zan (k:=2) zbC rfl dc rfl rfl rfl (zaO rfl zaP (zyR 1 rfl ?_)))
      refine zyS (s:=31) rfl h (fun h => ?_) (fun h => ?_)
      ·
       refine zac zjl rfl dc rfl (show _=3 from rfl) (zan (k:=2) zbC rfl dc rfl rfl rfl (zaO rfl zbv (zyR 1 rfl ?_)))
       refine zyS (s:=35) rfl h (fun h => ?_) (fun h => ?_)
       ·
        refine zyR 11 rfl (zyN (za0 rfl ?_))
        refine zyG (zyR 2 rfl (zyN (zau (zah (zaj (zah (zah (zaj (zah (zca zaI zaH 106 ?_))))))))))
        cases h
        exact zaC (rs:=[.tmp 4,.tmp 5]) (.pointer none) (.inl rfl) Tryz.results23 (.cons (.tmp rfl) (.cons (.tmp rfl) .nil)) rfl (zae [3] kr rfl)
       refine zac zjl rfl dc rfl (show _=3 from rfl) (zan (k:=2) zbC rfl dc rfl rfl rfl (zaO rfl zcY (zyR 2 rfl ?_)))
       refine zyS (s:=40) rfl h (fun h => ?_) (fun h => ?_)
       ·
        refine zyR 6 rfl (zyN (za0 rfl (zyG (zyR 2 rfl (zaV ?_)))))
        refine zaE (zau (zah (zaj (zah (zah (zaj (zah (zca zaI zaH 106 ?_))))))))
        cases h
        exact zaC (rs:=[.tmp 4,.tmp 5]) (.pointer none) (.inl rfl) Tryz.results23 (.cons (.tmp rfl) (.cons (.tmp rfl) .nil)) rfl (zae [3] kr rfl)
       refine zac zki rfl dc rfl (show _=5 from rfl) (zan (k:=2) ziz rfl dc rfl rfl rfl ?_)
       obtain ⟨r2,hq3,h⟩:=zbl h
       refine za5 (v:=.bool r2) (vs:=[.string q1.Text,.string (⟨#[32]⟩:ByteArray)]) rfl dc rfl rfl rfl znP (zeq hq3) (zyR 3 rfl (zyN ?_))
       refine zyB rfl h (fun h => ?_) (fun h => ?_)
       ·
        refine zyG (zyR 2 rfl (zyN (zau (zah (zaj (zah (zah (zaj (zah (zca zaI zaH 106 ?_))))))))))
        cases h
        exact zaC (rs:=[.tmp 4,.tmp 5]) (.pointer none) (.inl rfl) Tryz.results23 (.cons (.tmp rfl) (.cons (.tmp rfl) .nil)) rfl (zae [3] kr rfl)
       refine zat ?_
       exact zaq (true,r2) h rfl (za7 rfl) (zae [0,1,2] kr rfl)
      refine zyR 14 rfl ?_
      refine zyR 1 rfl (zyN (zaL rfl (zat ?_)))
      exact zaq (false,false) h rfl (za7 rfl) (zae [0,1,2] kr rfl)
     rintro ⟨x4,x5⟩ h
     rw [hj3] at h
     obtain ⟨j4,hj4,h⟩:=zbw h
     refine zaU (β:=(List (List ByteArray))×Hd) 0 rfl (fun b=>j4 b.1=some r) (fun b=>[]) (fun b=>[(0,.string title1),(6,b.2.v),(7,zP b1),(9,zP b2),(11,vrows1),(12,zI (rows1.length:Int)),(13,zI x3),(28,.pointer (some ⟨b2,2,none⟩)),(29,zI q1.Part),(30,.bool ((q1.Part:Int)==0)),(31,.bool x4),(45,.bool x5)]) (fun b=>[zfp zaQ zbf 70 1 b.2.v b.1,cells b1 [zI last13,zI last14,zI last15,zI last16,zI last17,.string last18] 33,cells b2 (zr4 q1) 33]) (fun cut => ?_) ?_
     ·
      refine cut (zyG (zac zdm rfl dc rfl (show _=1 from rfl) (zan (k:=2) zbC rfl dc rfl rfl rfl (zyR 1 rfl (zi2 (k:=0) rfl dc rfl rfl Tryz.underlying112 (zaO rfl zaP (zyN ?_)))))))
      refine zyB rfl h (fun h => ?_) (fun h => ?_)
      ·
       refine zaA (zyR 1 rfl ?_)
       refine za1 (cs:=[.slice none 0 0]) (te:=70) (ps:=[(0,.const (.slice none 0 0))]) rfl dc rfl (fun _=>by kernel_rfl) (fun b3 => ?_)
       refine ze3 (enc:=zhX) (e:=9) (size:=1) ?_
       refine zhl (k:=0) rfl zl5 (fun zs1 hz1 => ?_)
       obtain ⟨hg1,h⟩:=zbs h
       refine zbc (k:=0) (k2:=3) (ys:=[(([]:List ByteArray),Hd.nil)]) Tryz.underlying112 zpd zb5 zhg rfl dc rfl rfl rfl rfl rfl rfl (by rw [zoz hz1]; exact hg1) (fun v1 => ?_)
       refine zbo (k:=0) rfl (fun hd7 he1 => ?_)
       subst he1
       refine zgS (k:=5) rfl (zae [4] kr rfl) rfl (zmv (nest:=zbf) (zs:=zs1) (z:=(([]:List ByteArray),Hd.nil))) ?_
       refine zgS (k:=0) rfl (zae [5] kr rfl) rfl (zkH (enc:=zaQ) (nest:=zbf) (zpr hz1)) ?_
       refine zbM (L':=[zfp zaQ zbf 70 1 hd7.v (stanzas4++[([]:List ByteArray)]),cells b1 [zI last13,zI last14,zI last15,zI last16,zI last17,.string last18] 33,cells b2 (zr4 q1) 33,cells b3 [.slice none 0 0] 70]) (zae [0,1,2,3] kr rfl) (zyR 1 rfl (zaV ?_))
       exact zaq (stanzas4++[([]:List ByteArray)],hd7) h rfl (za7 rfl) (zae [0,1,2] kr rfl)
      refine zat ?_
      exact zaq (stanzas4,hd4) h rfl (za7 rfl) (zae [0,1,2] kr rfl)
     rintro ⟨stanzas6,hd6⟩ h
     rw [hj4] at h
     refine zyG (zyR 1 rfl (zac zdm rfl dc rfl (show _=1 from rfl) (zan (k:=2) zbC rfl dc rfl rfl rfl ?_)))
     refine zhl (k:=0) rfl zl5 (fun zs2 hz2 => ?_)
     obtain ⟨x6,hq4,h⟩:=zbl h
     obtain ⟨eh1,eq1⟩:=ziU hz2 hq4
     refine zaM (k:=0) eq1 Tryz.underlying112 zkN rfl dc rfl rfl rfl rfl (zyR 1 rfl (zyN ?_))
     obtain ⟨j5,hj5,h⟩:=zbw h
     refine zaU (β:=(List (List ByteArray))) 0 rfl (fun b=>j5 b=some r) (fun b=>[]) (fun b=>[(0,.string title1),(6,hd6.v),(7,zP b1),(9,zP b2),(11,vrows1),(12,zI (rows1.length:Int)),(13,zI x3),(28,.pointer (some ⟨b2,2,none⟩)),(29,zI q1.Part),(30,.bool ((q1.Part:Int)==0)),(31,.bool x4),(45,.bool x5)]) (fun b=>[zfp zaQ zbf 70 1 hd6.v b,cells b1 [zI last13,zI last14,zI last15,zI last16,zI last17,.string last18] 33,cells b2 (zr4 q1) 33]) (fun cut => ?_) ?_
     ·
      refine cut (zyG (zac zg8 rfl dc rfl (show _=2 from rfl) (zan (k:=2) zbC rfl dc rfl rfl rfl (zaO rfl zaP (zyN ?_)))))
      refine zyB rfl h (fun h => ?_) (fun h => ?_)
      ·
       obtain ⟨hg2,h⟩:=zbs h
       obtain ⟨hg3,h⟩:=zbs h
       obtain ⟨hg4,h⟩:=zbs h
       refine zi4 (k:=3) rfl (znD (za4 eq1)) (fun _ _ => ?_)
       refine ze5 1 ?_
       refine let vals1:(Nat×Hd)→List (Nat×Nat×Value):=fun b=>[(0,62,.pointer (some ⟨zcL hd6.v,(q1.Stanza:Int).toNat*1,none⟩)),(1,63,.pointer (some ⟨zcL hd6.v,(q1.Stanza:Int).toNat*1,none⟩)),(2,64,.pointer (some ⟨zcL hd6.v,(q1.Stanza:Int).toNat*1,none⟩)),(3,65,eh1.v),(4,66,.pointer (some ⟨b2,3,none⟩)),(5,67,zI q1.Indent),(6,68,.string (zdT q1.Indent)),(7,69,.pointer (some ⟨b2,5,none⟩)),(8,70,.string q1.Text),(9,71,.string ((zdT q1.Indent)++q1.Text)),(10,72,.slice (some ⟨b.1,0,none⟩) 1 1),(11,73,b.2.v)]; let LL1:(Nat→Prop)→(Nat×Hd)→List Asn:=fun D b=>[vec zaQ 70 1 hd6.v zs2,cells b1 [zI last13,zI last14,zI last15,zI last16,zI last17,.string last18] 33,cells b2 (zr4 q1) 33,own zbf (zs2.eraseIdx ((q1.Stanza:Int).toNat)),eD D (zv5 eh1.v x6) [(11,zv5 b.2.v (x6++[(zdT q1.Indent)++q1.Text]))],eD D emp [(10,cells b.1 [.string ((zdT q1.Indent)++q1.Text)] 9)]]; ?_
       have zhq:zyQ [10,11] LL1:=fun i h D b=>zab rfl (zab rfl (zab rfl (zab rfl (zab (ziw rfl h) (zab (ziw rfl h) rfl)))))
       refine zc3 (β:=Nat×Hd) 12 ((0:Nat),Hd.nil) vals1 LL1 mixed kr kr dc (fun _=>rfl) (zdr (zab zbr (zab zbr rfl))) (zj4 zhq (fun _=>rfl) (fun _=>rfl) 2 0 (fun _=>rfl) rfl (zyq zhq rfl (fun _=>rfl) (fun _=>rfl) ?_ (zgV zhq rfl (fun _=>rfl) (fun _=>rfl) ?_ (zyq zhq rfl (fun _=>rfl) (fun _=>rfl) ?_ (zgV zhq rfl (fun _=>rfl) (fun _=>rfl) ?_ (zgV zhq rfl (fun _=>rfl) (fun _=>rfl) ?_ (zyq zhq rfl (fun _=>rfl) (fun _=>rfl) ?_ (zgV zhq rfl (fun _=>rfl) (fun _=>rfl) ?_ (zyq zhq rfl (fun _=>rfl) (fun _=>rfl) ?_ (zas ?_ (zas ?_ DrawG.nil))))))))))) ?_
       · exact fun D ⟨b4,hd8⟩ n d c u i=>zap rfl dc (zaa (m:=1) u rfl (d 1 dc)) (zaf 2 u i rfl)
       · exact fun D ⟨b4,hd8⟩ n d c u i=>⟨_,(zdr (zab (zag (fun hD=>n (c 11 _ rfl hD 3 dc)) zak) rfl)),zbi (i:=(q1.Stanza:Int).toNat) (j:=0) (k:=0) (q:=(x6,eh1)) zj9 zb5 rfl dc (zaa (m:=2) u rfl (d 2 dc)) rfl (za4 eq1) rfl dc rfl (zaf 3 u i rfl)⟩
       · exact fun D ⟨b4,hd8⟩ n d c u i=>zac zjl rfl dc (zba (by rfl) rfl) (show _=3 from rfl) (zaf 4 u i rfl)
       · exact fun D ⟨b4,hd8⟩ n d c u i=>⟨_,(zdr (zab (zag (fun hD=>n (c 6 _ rfl (c 11 _ rfl hD 6 dc) 5 dc)) zak) (zab (zag (fun hD=>n (c 6 _ rfl (c 9 _ rfl (c 10 _ rfl hD 9 dc) 6 dc) 5 dc)) zak) rfl))),zan (k:=2) zbC rfl dc (zaa (m:=4) u rfl (d 4 dc)) rfl rfl (zaf 5 u i rfl)⟩
       · exact fun D ⟨b4,hd8⟩ n d c u i=>⟨_,(zdr (zab (zag (fun hD=>n (c 11 _ rfl hD 6 dc)) zak) (zab (zag (fun hD=>n (c 9 _ rfl (c 10 _ rfl hD 9 dc) 6 dc)) zak) rfl))),za5 (v:=.string (zdT q1.Indent)) (vs:=[.string (⟨#[32]⟩:ByteArray),zI q1.Indent]) rfl dc rfl (evL.cons rfl (evL.cons (zaa (m:=5) u rfl (d 5 dc)) evL.nil)) rfl zoY (zl1 q1.Indent hg2) (zaf 6 u i rfl)⟩
       · exact fun D ⟨b4,hd8⟩ n d c u i=>zac zki rfl dc (zba (by rfl) rfl) (show _=5 from rfl) (zaf 7 u i rfl)
       · exact fun D ⟨b4,hd8⟩ n d c u i=>⟨_,(zdr (zab (zag (fun hD=>n (c 9 _ rfl (c 10 _ rfl (c 11 _ rfl hD 10 dc) 9 dc) 8 dc)) zak) (zab (zag (fun hD=>n (c 9 _ rfl (c 10 _ rfl hD 9 dc) 8 dc)) zak) rfl))),zan (k:=2) ziz rfl dc (zaa (m:=7) u rfl (d 7 dc)) rfl rfl (zaf 8 u i rfl)⟩
       · exact fun D ⟨b4,hd8⟩ n d c u i=>zbJ rfl dc (zaa (m:=6) u rfl (d 6 dc)) (zaa (m:=8) u rfl (d 8 dc)) (zfh hg3) (zaf 9 u i rfl)
       ·
        intro D b hn hd hcl
        obtain ⟨zb0,hd8⟩:=b
        refine zaD (zdr (zab (zag (fun hD=>hn (hcl 11 _ rfl hD 10 dc)) zak) (zab (zag hn zak) rfl))) ?_
        refine za1 (cs:=[.string ((zdT q1.Indent)++q1.Text)]) (te:=9) (ps:=[(0,.tmp 71)]) rfl dc (evP.cons (zaa (m:=9) rfl rfl (hd 9 dc)) evP.nil) (fun _=>by kernel_rfl) (fun b4 => ?_)
        refine zci 5 rfl rfl ?_
        exact zaJ (b:=(zb0,hd8)) (b4,hd8) 10 (by rfl) (by rfl) rfl (zmG (zam (fun hD=>absurd hD hn) (zam (fun _=>rfl) rfl))) (zdr (zab ((zal (by rfl)).trans (zag (fun hD=>hn (hcl 11 _ rfl hD 10 dc)) zak)) (zab (zaz (Or.inr rfl) rfl) rfl)))
       ·
        intro D b hn hd hcl
        obtain ⟨b4,zb1⟩:=b
        refine zaD (zdr (zab (zag hn zak) (zab (zaz (hd 10 dc) rfl) rfl))) ?_
        refine zbc (k:=4) (k2:=5) (ys:=[(zdT q1.Indent)++q1.Text]) Tryz.underlying70 zpt zff zkF rfl dc (zaa (m:=3) rfl rfl (hd 3 dc)) (zaa (m:=10) rfl rfl (hd 10 dc)) rfl rfl rfl rfl hg4 (fun v2 => ?_)
        refine zbo (k:=4) rfl (fun hd8 he2 => ?_)
        subst he2
        exact zaJ (b:=(b4,zb1)) (b4,hd8) 11 (by rfl) (by rfl) rfl (znm (zam (fun hD=>absurd hD hn) rfl)) (zdr (zab (zaz (Or.inr rfl) rfl) (zab ((zal (by rfl)).trans (zaz (hd 10 dc) rfl)) rfl)))
       intro D b hall
       obtain ⟨b4,hd8⟩:=b
       refine zaD (zdr (zab (zaz (hall 11 dc) rfl) (zab (zaz (hall 10 dc) rfl) rfl))) (zap rfl dc rfl ?_)
       refine zd2 (i:=(q1.Stanza:Int).toNat) (j:=0) (k:=0) (q:=(x6,eh1)) (q':=(x6++[(zdT q1.Indent)++q1.Text],hd8)) zkN zb5 rfl rfl rfl rfl (za4 eq1) rfl dc rfl (fun _ _=>rfl) ?_
       refine zgS (k:=3) rfl (zae [4] kr rfl) rfl (znC (nest:=zbf) (zs:=zs2) (z:=(x6++[(zdT q1.Indent)++q1.Text],hd8)) (zle (za4 eq1)) zjC) ?_
       refine zaV (zjt (k:=0) rfl (zae [3] kr rfl) rfl (zkH (enc:=zaQ) (nest:=zbf) (zpp hz2)) ?_)
       exact zaq (stanzas6.set (q1.Stanza:Int).toNat (x6++[(zdT q1.Indent)++q1.Text])) h rfl (za7 rfl) (zae [0,1,2] kr rfl)
      obtain ⟨hg5,h⟩:=zbs h
      obtain ⟨q2,hq5,h⟩:=zbl h
      obtain ⟨hg6,h⟩:=zbs h
      refine zi4 (k:=3) rfl (znD (za4 eq1)) (fun _ _ => ?_)
      refine zbj 12 [(0,75,.pointer (some ⟨zcL hd6.v,(q1.Stanza:Int).toNat*1,none⟩)),(1,76,.pointer (some ⟨zcL hd6.v,(q1.Stanza:Int).toNat*1,none⟩)),(2,77,eh1.v),(3,78,.pointer (some ⟨zcL hd6.v,(q1.Stanza:Int).toNat*1,none⟩)),(4,79,.pointer (some ⟨zcL hd6.v,(q1.Stanza:Int).toNat*1,none⟩)),(5,80,eh1.v),(6,81,zI (x6.length:Int)),(7,82,zI ((x6.length:Int) - 1)),(8,83,.pointer (some ⟨zcL eh1.v,((x6.length:Int) - 1:Int).toNat*1,none⟩)),(9,84,.string q2),(10,85,.pointer (some ⟨b2,5,none⟩)),(11,86,.string q1.Text)] mixed kr kr dc (by rfl) kr kr (zyP 1 0 rfl (zad ?_ (zad ?_ (zyP 1 3 rfl (zad ?_ (zad ?_ (zad ?_ (zad ?_ (zad ?_ (zad ?_ (zad ?_ (zad ?_ DrawPre.nil)))))))))))) ?_
      · exact fun D n d c u i=>zap rfl dc (zaa (m:=0) u rfl (d 0 dc)) (zaf 1 u i rfl)
      · exact fun D n d c u i=>zbi (i:=(q1.Stanza:Int).toNat) (j:=0) (k:=0) (q:=(x6,eh1)) zj9 zb5 rfl dc (zaa (m:=1) u rfl (d 1 dc)) rfl (za4 eq1) rfl dc rfl (zaf 2 u i rfl)
      · exact fun D n d c u i=>zap rfl dc (zaa (m:=3) u rfl (d 3 dc)) (zaf 4 u i rfl)
      · exact fun D n d c u i=>zbi (i:=(q1.Stanza:Int).toNat) (j:=0) (k:=0) (q:=(x6,eh1)) zj9 zb5 rfl dc (zaa (m:=4) u rfl (d 4 dc)) rfl (za4 eq1) rfl dc rfl (zaf 5 u i rfl)
      · exact fun D n d c u i=>zcr (k:=4) rfl dc (zaa (m:=5) u rfl (d 5 dc)) rfl Tryz.underlying70 (zaf 6 u i rfl)
      · exact fun D n d c u i=>zbJ rfl dc (zaa (m:=6) u rfl (d 6 dc)) rfl (zbD (r:=(x6.length:Int) - 1) (IntWalk.i64_in _ hg5)) (zaf 7 u i rfl)
      · exact fun D n d c u i=>zaM (k:=4) hq5 Tryz.underlying70 zlZ rfl dc (zaa (m:=2) u rfl (d 2 dc)) (zaa (m:=7) u rfl (d 7 dc)) rfl rfl (zaf 8 u i rfl)
      · exact fun D n d c u i=>zbi (i:=((x6.length:Int) - 1:Int).toNat) (j:=0) (k:=4) (q:=q2) ziz zff rfl dc (zaa (m:=8) u rfl (d 8 dc)) rfl (za4 hq5) rfl dc rfl (zaf 9 u i rfl)
      · exact fun D n d c u i=>zac zki rfl dc (zba (by rfl) rfl) (show _=5 from rfl) (zaf 10 u i rfl)
      · exact fun D n d c u i=>zan (k:=2) ziz rfl dc (zaa (m:=10) u rfl (d 10 dc)) rfl rfl (zaf 11 u i rfl)
      refine zaO rfl (zfh hg6) (zaM (k:=4) hq5 Tryz.underlying70 zlZ rfl dc rfl rfl rfl rfl ?_)
      refine zd2 (i:=((x6.length:Int) - 1:Int).toNat) (j:=0) (k:=4) (q:=q2) (q':=q2++q1.Text) zlZ zff rfl rfl rfl rfl (za4 hq5) rfl dc rfl (fun _ _=>rfl) ?_
      refine zaV (zoa (k:=0) rfl (zlW (zmI (za4 eq1)).symm (q1:=(x6,eh1)) (q2:=(x6.set ((x6.length:Int) - 1:Int).toNat (q2++q1.Text),eh1)) zb5 rfl) (zjt (k:=3) rfl (zae [4] kr rfl) rfl (znC (nest:=zbf) (zs:=zs2) (z:=(x6.set ((x6.length:Int) - 1:Int).toNat (q2++q1.Text),eh1)) (zle (za4 eq1)) zjC) ?_))
      refine zjt (k:=0) rfl (zae [3] kr rfl) rfl (zkH (enc:=zaQ) (nest:=zbf) (zpp hz2)) ?_
      exact zaq (stanzas6.set ((q1.Stanza:Int).toNat) (x6.set ((x6.length:Int) - 1:Int).toNat (q2++q1.Text))) h rfl (za7 rfl) (zae [0,1,2] kr rfl)
     rintro stanzas7 h
     rw [hj5] at h
     refine zaA (zaY (k:=2) (cs:=(zr4 q1)) ziB rfl dc rfl rfl rfl rfl (zaR (k:=1) (vs:=(zr4 q1)) (l':=(zr4 q1)) zf1 rfl rfl rfl rfl rfl (show _≤_ by simp) rfl rfl (zaV (zai ?_))))
     exact zaq (stanzas7,q1.Line,q1.Stanza,q1.Part,q1.Indent,q1.Number,q1.Text,hd6) h rfl (za7 rfl) (zae [0,1] kr rfl)
    rintro ⟨stanzas5,last19,last20,last21,last22,last23,last24,hd5⟩ h
    rw [hj2] at h
    refine zaA ?_
    obtain ⟨hg7,h⟩:=zbs h
    refine zaO rfl (zaT (r:=x3+1) (IntWalk.i64_in _ hg7)) (zyR 1 rfl (zaV ?_))
    subst hag1
    exact zaZ (n1,stanzas5,last19,last20,last21,last22,last23,last24,x3+1,hd5) h (Nat.lt_succ_self _) rfl (za7 rfl) (zae [0,1] kr rfl)
   refine za6 (zao (zao (zaw ?_)))
   exact zaq (stanzas4,hd4) h rfl (za7 rfl) (zae [0] kr rfl)
 rintro ⟨stanzas1,hd1⟩ h
 rw [hj1] at h
 refine zyG (zyR 2 rfl ?_)
 obtain ⟨r3,hq6,h⟩:=zbl h
 refine zd6 (vs:=[.string title1,hd1.v]) hrd rfl dc rfl rfl rfl zoX (zk4 (nest:=zbf) (e:=70) (v:=hd1.v) (xs:=stanzas1) (RD1:=[]) (RD2:=[]) zb5 ziH (fun zs_c0 hz_c0 hV_c0=>(zjH (vstanzas1:=hd1) hV_c0 hz_c0 hq6))) Splits.nil (.own (zae [0] (by kernel_rfl) rfl) (fun _ _ h=>sepL.one1.1 h) .nil) ?_
 rintro v3
 refine zbM (L':=[zfp zaQ zbf 70 1 hd1.v stanzas1,zfv zaI zaH 106 v3 r3.1]) (zae [0,1] kr rfl) (zax rfl dc rfl rfl (zax rfl dc rfl rfl (zyR 2 rfl (zyN (zau ?_)))))
 cases h
 exact zaC (rs:=[.tmp 4,.tmp 5]) v3 (.inl rfl) Tryz.results23 (.cons (.tmp rfl) (.cons (.tmp rfl) .nil)) rfl (zae [1] kr rfl)
end Go.Proofs.YtbempdelckaccaaGreatDoor

namespace Go.Proofs.YtbempdelckaccaaGreatDoor
open Go.RowKit Go.Lib
set_option linter.unusedVariables false
set_option linter.unusedSimpArgs false
def zcp (x3:Int) (j1:Option (List (Int×Gapi_Row))) (x4:List Gapi_Row) (ag2:Int→Option (List (Int×Gapi_Row))) (x7:Int):Option (List (Int×Gapi_Row)) :=
zav (decide ((x7:Int)<(x4.length:Int))) (
zar (zc9 x4 x7) fun (q1:Gapi_Row) =>
zhi (x3,q1) <|
grd (I64 (x7+1)) <|
ag2 (x7+1)
) (
j1
)
def zcq (c0:Gpage_Book) (ag1:Int→Option (List (Int×Gapi_Row))) (x3:Int):Option (List (Int×Gapi_Row)) :=
zav (decide ((x3:Int)<(c0.pages.length:Int))) (
zbp (fun (j1:Option (List (Int×Gapi_Row))) =>
zar (zc9 c0.pages x3) fun (x4:List Gapi_Row) =>
za9 (fun _=>none) (zcp x3 j1 x4) zcN 0
) (
grd (I64 (x3+1)) <|
ag1 (x3+1)
)
) (
some []
)
def zdJ (c0:Gpage_Book):Option (List (Int×Gapi_Row)) :=
za9 (fun _=>none) (zcq c0) zcN 0
theorem zfW {b_c0 p_c0:Nat} {c0:Gpage_Book} {c0_h0:Hd} {xs:(List (Int×Gapi_Row))} (h:zdJ c0=some xs):ItrR Tryz.prog 32 [zP b_c0] (fun q:Int×Gapi_Row=>[zI q.1,.agg (zr4 q.2).toArray]) xs [cells b_c0 [zP p_c0] 25,cells p_c0 [zI c0.layout_Width,zI c0.layout_Height,zI c0.layout_Turn,zI c0.layout_Every,c0_h0.v,zI c0.cost] 81,zfp zaN zaX 43 1 c0_h0.v c0.pages]:=by
 unfold zdJ at h
 refine ItrR.intro Tryz.func32 rfl Tryz.ntmps32 (by simp) ?_
 intro l w0 K I X hrd hy
 obtain ⟨r0,hx0⟩:∃ r,xs=[]++r:=⟨xs,rfl⟩
 have hr0:xs=r0:=hx0
 rw [hr0] at h
 refine zay (zyG (zaS (i:=0) hrd rfl zlg rfl dc rfl rfl (zaO rfl (zbB Tryz.underlying25) (zyN (zaL rfl (zat (zaE (zyG (zaS (i:=0) hrd rfl zlg rfl dc rfl rfl (zap rfl dc rfl ?_))))))))))
 refine zac zjj rfl dc rfl (show _=4 from rfl) (zaS (i:=1) hrd rfl zmM rfl dc rfl rfl ?_)
 obtain ⟨zs1,hz1,hV1,hrd⟩:=hrd.openN (i:=2) rfl zdM zfE
 replace hrd:Rd _ _ [cells b_c0 [zP p_c0] 25,cells p_c0 [zI c0.layout_Width,zI c0.layout_Height,zI c0.layout_Turn,zI c0.layout_Every,c0_h0.v,zI c0.cost] 81,zfp zaN zaX 43 1 c0_h0.v c0.pages,zdR zaN 1 c0_h0.v 0 zs1,ze9 zcH zs1]:=hrd
 refine ze4 hz1 hV1 rfl dc rfl Tryz.underlying79 (zyR 1 rfl (zyN (zaB ?_)))
 refine zbm (β:=Nat×Int×(List (Int×Gapi_Row))×(List (Int×Gapi_Row))) (fun b=>za9 (fun _=>none) (zcq c0) b.1 b.2.1=some b.2.2.2∧xs=b.2.2.1++b.2.2.2) (fun b=>[]) (fun b=>[(0,.func (.yield l) #[] #[]),(12,c0_h0.v),(13,zI (c0.pages.length:Int)),(14,zI b.2.1)]) (fun b=>[I b.2.2.1]) (fun b=>b.1) (zcN,0,([]:List (Int×Gapi_Row)),r0) ⟨h,hx0⟩ rfl (za7 rfl) (zae [0] kr rfl) ?_
 rintro ⟨n1,x3,acc3,rr3⟩ ⟨h,hx3⟩
 cases n1 with
 | zero=>exact zcS h
 | succ n1 =>
  obtain ⟨ag1,hag1⟩:∃ ag,ag=za9 (fun _=>none) (zcq c0) n1:=⟨_,rfl⟩
  have h:zcq c0 ag1 x3=some rr3:=by rw [hag1]; exact h
  unfold zcq at h
  refine zyG (zaO rfl zbv (zyN (zay ?_)))
  refine zyB rfl h (fun h => ?_) (fun h => ?_)
  ·
   refine zat (zaE ?_)
   obtain ⟨j1,hj1,h⟩:=zbw h
   refine zaU (β:=(List (Int×Gapi_Row))×(List (Int×Gapi_Row))) 0 rfl (fun b=>j1=some b.2∧xs=b.1++b.2) (fun b=>[]) (fun b=>[(0,.func (.yield l) #[] #[]),(12,c0_h0.v),(13,zI (c0.pages.length:Int)),(14,zI x3)]) (fun b=>[I b.1]) (fun cut => ?_) ?_
   ·
    refine cut (zaB (zyG (zyR 1 rfl ?_)))
    obtain ⟨x4,hq1,h⟩:=zbl h
    obtain ⟨eh1,eq1⟩:=ziU hz1 hq1
    have hrd:Rd _ _ [cells b_c0 [zP p_c0] 25,cells p_c0 [zI c0.layout_Width,zI c0.layout_Height,zI c0.layout_Turn,zI c0.layout_Every,c0_h0.v,zI c0.cost] 81,zfp zaN zaX 43 1 c0_h0.v c0.pages,zdR zaN 1 c0_h0.v 0 zs1,ze9 zcH zs1,zkw zbI 6 eh1 x4]:=hrd.openEl (i:=4) (z:=(x4,eh1)) rfl (Vw.get hV1 eq1)
    obtain ⟨vv1,k1,L1,hV2,hrd⟩:=hrd.openSl (i:=5) rfl
    replace hrd:Rd _ _ [cells b_c0 [zP p_c0] 25,cells p_c0 [zI c0.layout_Width,zI c0.layout_Height,zI c0.layout_Turn,zI c0.layout_Every,c0_h0.v,zI c0.cost] 81,zfp zaN zaX 43 1 c0_h0.v c0.pages,zdR zaN 1 c0_h0.v 0 zs1,ze9 zcH zs1,zkw zbI 6 eh1 x4,zdR zbI 6 vv1 k1 L1]:=hrd
    refine za3 hV1 eq1 Tryz.underlying79 znw rfl dc rfl rfl rfl (zcO (n:=0+(x3:Int).toNat) (j:=0) (i:=3) (q:=(x4,eh1)) hrd rfl (by omega) zjF rfl dc rfl (Vw.get hV1 eq1) rfl rfl (zyR 2 rfl (zyH (zyR 1 rfl (zcU hV2 rfl dc rfl Tryz.underlying43 (zyR 1 rfl (zyN (zaB ?_))))))))
    refine zbm (β:=Nat×Int×(List (Int×Gapi_Row))×(List (Int×Gapi_Row))) (fun b=>za9 (fun _=>none) (zcp x3 j1 x4) b.1 b.2.1=some b.2.2.2∧xs=b.2.2.1++b.2.2.2) (fun b=>[]) (fun b=>[(0,.func (.yield l) #[] #[]),(3,zI x3),(12,c0_h0.v),(13,zI (c0.pages.length:Int)),(14,zI x3),(19,eh1.v),(20,zI (x4.length:Int)),(21,zI b.2.1)]) (fun b=>[I b.2.2.1]) (fun b=>b.1) (zcN,0,acc3,rr3) ⟨h,hx3⟩ rfl (za7 rfl) (zae [0] kr rfl) ?_
    rintro ⟨n2,x7,acc7,rr7⟩ ⟨h,hx7⟩
    cases n2 with
    | zero=>exact zcS h
    | succ n2 =>
     obtain ⟨ag2,hag2⟩:∃ ag,ag=za9 (fun _=>none) (zcp x3 j1 x4) n2:=⟨_,rfl⟩
     have h:zcp x3 j1 x4 ag2 x7=some rr7:=by rw [hag2]; exact h
     unfold zcp at h
     refine zyG (zaO rfl zbv (zyN (zay ?_)))
     refine zyB rfl h (fun h => ?_) (fun h => ?_)
     ·
      refine zat (zaE (zay (zaB (zyG ?_))))
      obtain ⟨q1,hq2,h⟩:=zbl h
      refine za3 hV2 hq2 Tryz.underlying43 zf1 rfl dc rfl rfl rfl (zgR (m:=k1+(x7:Int).toNat) (j:=0) (i:=6) (q:=q1) (cs:=(zr4 q1)) hrd rfl (by omega) ziB rfl dc rfl (Vw.get hV2 hq2) rfl rfl rfl ?_)
      refine zbb zjy rfl dc (fun b1 => ?_)
      refine zaR (k:=1) (vs:=(zr4 q1)) (l':=(zr4 q1)) zf1 rfl rfl rfl rfl rfl (show _≤_ by simp) rfl rfl ?_
      refine zyH (zyR 2 rfl (zaY (k:=1) (cs:=(zr4 q1)) ziB rfl dc rfl rfl rfl rfl ?_))
      obtain ⟨rr8,hr1,h⟩:=zhH h
      have hx8:xs=acc7++(x3,q1)::rr8:=by rw [hx7,hr1]
      refine zdq hy rfl dc rfl hx8 rfl (k:=0) rfl ?_ ?_
      ·
       have hx9:xs=(acc7++[(x3,q1)])++rr8:=by rw [hx8]; simp
       refine zcZ rfl dc rfl zbZ (zyN (zaL rfl (zat (zai (zaE (zaA ?_))))))
       obtain ⟨hg1,h⟩:=zbs h
       refine zaO rfl (zaT (r:=x7+1) (IntWalk.i64_in _ hg1)) (zyR 1 rfl (zaV ?_))
       subst hag2
       exact zaZ (n2,x7+1,acc7++[(x3,q1)],rr8) ⟨h,hx9⟩ (Nat.lt_succ_self _) rfl (za7 rfl) (zae [0] kr rfl)
      refine zcZ rfl dc rfl zbZ (zyN (za0 rfl (zau (zaj (zah (zah (zaj (zaj (zah (zah (zaj ?_)))))))))))
      exact zip (ds:=[]) acc7 (x3,q1) rr8 hx8 (.inl rfl) Splits.nil Tryz.results32 (zae [0] kr rfl)
     refine za6 (zao (zao (zaw (zai ?_))))
     exact zaq (acc7,rr7) ⟨h,hx7⟩ rfl (za7 rfl) (zae [0] kr rfl)
   rintro ⟨acc4,rr4⟩ ⟨h,hx4⟩
   rw [hj1] at h
   refine zaA ?_
   obtain ⟨hg2,h⟩:=zbs h
   refine zaO rfl (zaT (r:=x3+1) (IntWalk.i64_in _ hg2)) (zyR 1 rfl (zaV ?_))
   subst hag1
   exact zaZ (n1,x3+1,acc4,rr4) ⟨h,hx4⟩ (Nat.lt_succ_self _) rfl (za7 rfl) (zae [0] kr rfl)
  refine za6 (zao (zao (zaw ?_)))
  cases h
  exact zhk (ds:=[]) (.inr rfl) Splits.nil Tryz.results32 (congrArg I (hx3.trans (List.append_nil _))) (zae [0] kr rfl)
def zel (b1:Gpage_Book):Option Unit :=
some ()
theorem zg4 {bb1:Nat} {b1:Gpage_Book} {b1_h0:Hd} {r:Unit} (h:zel b1=some r):FnR Tryz.prog 10 [zP bb1] [cells bb1 [zI b1.layout_Width,zI b1.layout_Height,zI b1.layout_Turn,zI b1.layout_Every,b1_h0.v,zI b1.cost] 81,zfp zaN zaX 43 1 b1_h0.v b1.pages] [] (fun v0:Nat=>.func (.func 32) #[] #[zP v0]) (fun v0=>[cells v0 [zP bb1] 25]):=by
 unfold zel at h
 refine FnR.intro Tryz.func10 rfl Tryz.ntmps10 (by simp) ?_
 intro w0 K hrd
 refine zyG ?_
 refine zcP rfl dc rfl (fun b2 => ?_)
 refine zyR 1 rfl (zyH (zeF (x1:=[]) (x2:=[.tmp 1]) rfl dc rfl rfl (zyR 1 rfl (zyN (zau ?_)))))
 cases h
 exact zaC (rs:=[.tmp 2]) b2 (.inl rfl) Tryz.results10 (.cons (.tmp rfl) .nil) rfl (zae [0] kr rfl)
end Go.Proofs.YtbempdelckaccaaGreatDoor

namespace Go.Proofs.YtbempdelckaccaaGreatDoor
open Go.RowKit Go.Lib
set_option linter.unusedVariables false
set_option linter.unusedSimpArgs false
def zcw (x1:Int×Gapi_Row) (ag1:Option ByteArray):Option ByteArray :=
none
def zdX (b1:Gpage_Book):Option ByteArray :=
zbp (fun (j1:Option ByteArray) =>
zar (zel b1) fun (r1:Unit) =>
zar (zdJ b1) fun (its1:(List (Int×Gapi_Row))) =>
zbp (fun (dn1:Option ByteArray) =>
zdE dn1 (zcw) its1
) (
j1
)
) (
some (⟨#[]⟩:ByteArray)
)
theorem zgt {bb1:Nat} {b1:Gpage_Book} {b1_h0:Hd} {r:ByteArray} (h:zdX b1=some r):FnR Tryz.prog 27 [zP bb1] [cells bb1 [zI b1.layout_Width,zI b1.layout_Height,zI b1.layout_Turn,zI b1.layout_Every,b1_h0.v,zI b1.cost] 81,zfp zaN zaX 43 1 b1_h0.v b1.pages] [] (fun _:Unit=>(.string r)) (fun _=>[]):=by
 unfold zdX at h
 refine FnR.intro Tryz.func27 rfl Tryz.ntmps27 (by simp) ?_
 intro w0 K hrd
 refine zfR ?_
 obtain ⟨j1,hj1,h⟩:=zbw h
 refine zaU (β:=Nat×(List Nat)) 3 rfl (fun b=>j1=some r) (fun b=>zeC b.2) (fun b=>[(3,zP b.1)]) (fun b=>[ziZ b.1 (⟨#[]⟩:ByteArray),zfS ((b.2:List Nat).map zhD)]) (fun cut => ?_) ?_
 ·
  refine zyG ?_
  refine zcP rfl dc rfl (fun b3 => ?_)
  refine zyR 1 rfl (zyH ?_)
  refine zbb zk5 rfl dc (fun b4 => ?_)
  refine zlM (k:=2) rfl zho ?_
  refine zyH ?_
  refine zbb zox rfl dc (fun b5 => ?_)
  refine zaG (k:=3) (l':=[zI 0]) zeX rfl rfl rfl rfl rfl (fun _ _=>rfl) rfl ?_
  refine zyN (cut (zyG (zan (k:=1) zlg rfl dc rfl rfl rfl ?_)))
  obtain ⟨r1,hq1,h⟩:=zbl h
  refine zd6 (vs:=[zP bb1]) hrd rfl dc rfl rfl rfl zm2 (zg4 (bb1:=bb1) (b1:=b1) (b1_h0:=b1_h0) hq1) Splits.nil (.ro 0 rfl (.ro 1 rfl .nil)) ?_
  rintro b6
  refine zbM (L':=[zfS ((([]:List Nat):List Nat).map zhD),cells b3 [zP bb1] 25,ziZ b4 (⟨#[]⟩:ByteArray),cells b5 [zI 0] 3,cells b6 [zP bb1] 25]) (zae [0,1,2,3,4] kr rfl) (zyN (zaB ?_))
  obtain ⟨its1,hq2,h⟩:=zbl h
  obtain ⟨dn1,hdn1,h⟩:=zbw h
  refine zgT (α:=Int×Gapi_Row) (β:=Unit) (γ:=Unit) (δ:=Nat) (ps:=[11,12]) hrd Ro.nil rfl zm0 (zfW hq2) (fun pre b=>∀ post,its1=pre++post→zdE dn1 (zcw) post=some r) (fun pre b=>[cells b3 [zP bb1] 25,ziZ b4 (⟨#[]⟩:ByteArray),cells b5 [zI 0] 3]) (fun c pre g=>False) (fun c pre g=>[]) (fun pre x b j=>[(1,zP b3),(2,.string (⟨#[]⟩:ByteArray)),(3,zP b4),(4,zP b5),(10,.func (.func 32) #[] #[zP b6]),(5,zI x.1),(6,zP j)]) (fun pre x b j=>[cells b3 [zP bb1] 25,ziZ b4 (⟨#[]⟩:ByteArray),cells b5 [zI 0] 3,cells j (zr4 x.2) 33]) () (fun post e=>by rw [List.nil_append] at e; subst e; exact h) (zae [1,2,3] kr rfl) (.own (As:=[cells b6 [zP bb1] 25]) (zae [4] (by kernel_rfl) rfl) (fun _ _ h=>sepL.one1.1 h) (.ro 0 rfl (.ro 1 rfl .nil))) (fun _=>rfl) dc ?_ ?_ ?_ ?_
  ·
   rintro lp rc pre x1 post _ w1 K1 hxs1 hext hro hinv
   have hrd:=hrd.ext hext
   refine zyG (zyR 1 rfl (zyN (zaA ?_)))
   refine zbb zjy rfl dc (fun b7 => ?_)
   refine zaR (k:=3) (vs:=(zr4 x1.2)) (l':=(zr4 x1.2)) zf1 rfl rfl rfl rfl rfl (show _≤_ by simp) rfl rfl ?_
   refine zaV ?_
   exact fun a w ha hw=>⟨b7,(za7 rfl) _ _ _ ha,hw.weaken (zae [0,1,2,3] kr rfl)⟩
  ·
   rintro lp rc pre x1 post1 _ jb1 w1 K1 hxs1 hext hro hinv
   have hrd:=hrd.ext hext
   have h:=hinv (x1::post1) hxs1
   obtain ⟨ag1,hag1⟩:∃ ag,ag=zdE dn1 (zcw) post1:=⟨_,rfl⟩
   have h:zcw x1 ag1=some r:=by rw [hag1]; exact h
   unfold zcw at h
   exact zcS h
  ·
   rintro dm1 _ hinv
   have h:dn1=some r:=hinv [] (List.append_nil _).symm
   rw [hdn1] at h
   refine zd1 (k:=8) (j:=0) rfl rfl dc ?_
   refine zai ?_
   exact zaq (b4,dm1::([]:List Nat)) h rfl (za7 rfl) (zae [6,0] kr rfl)
  rintro dm1 c pre x1 post g hxs hX
  exact (show False from hX).elim
 rintro ⟨b2,ds1⟩ h
 rw [hj1] at h
 refine zyG (zcB (vs:=[zP b2]) rfl dc rfl rfl rfl zmX (zko b2 (⟨#[]⟩:ByteArray)) (zae [0] kr rfl) ?_)
 rintro _
 refine zyR 1 rfl (zyN (zau ?_))
 cases h
 exact zbR (rs:=[.tmp 2]) ds1 () (.inl rfl) (zaK (k:=1) rfl) Tryz.results27 (.cons (.tmp rfl) .nil) rfl Splits.nil
end Go.Proofs.YtbempdelckaccaaGreatDoor

namespace Go.Proofs.YtbempdelckaccaaGreatDoor
open Go.RowKit Go.Lib
set_option linter.unusedVariables false
set_option linter.unusedSimpArgs false
def zc7  : Option Int :=
some 0
theorem zft  {r:Int} (h:zc7=some r):FnP Tryz.prog 16 [.pointer none] (zI r):=by
 unfold zc7 at h
 refine FnP.intro Tryz.func16 rfl Tryz.ntmps16 (by simp) ?_
 intro w0 K
 refine zyG (zyR 1 rfl (zyN (zay (zyG (zyR 1 rfl (zaO rfl (zcK (m:=(none:Option Unit)) Tryz.underlying25 (.inl ⟨rfl,rfl⟩)) (zyN (za0 rfl (zay ?_)))))))))
 refine zaA (zyR 1 rfl (zyN (zau (zah ?_))))
 cases h
 exact zaC (rs:=[.tmp 2]) () (.inl rfl) Tryz.results16 (.cons (.tmp rfl) .nil) rfl Splits.nil
def zdl  : Option Int :=
some 0
theorem zfC  {r:Int} (h:zdl=some r):FnP Tryz.prog 18 [.pointer none] (zI r):=by
 unfold zdl at h
 refine FnP.intro Tryz.func18 rfl Tryz.ntmps18 (by simp) ?_
 intro w0 K
 refine zyG (zyR 1 rfl (zyN (zay (zyG (zyR 1 rfl (zaO rfl (zcK (m:=(none:Option Unit)) Tryz.underlying25 (.inl ⟨rfl,rfl⟩)) (zyN (za0 rfl (zay ?_)))))))))
 refine zaA (zyR 1 rfl (zyN (zau (zah ?_))))
 cases h
 exact zaC (rs:=[.tmp 2]) () (.inl rfl) Tryz.results18 (.cons (.tmp rfl) .nil) rfl Splits.nil
def zdk (line1:Int):Option (Int×Int×Int) :=
some (0,0,1)
theorem zfB {line1:Int} {r:(Int×Int×Int)} (h:zdk line1=some r):FnP Tryz.prog 21 [.pointer none,zI line1] (.tuple #[zI r.1,zI r.2.1,zI r.2.2]):=by
 unfold zdk at h
 refine FnP.intro Tryz.func21 rfl Tryz.ntmps21 (by simp) ?_
 intro w0 K
 refine zyG (zyR 3 rfl (zyN (zay (zyG (zyR 1 rfl (zaO rfl (zcK (m:=(none:Option Unit)) Tryz.underlying25 (.inl ⟨rfl,rfl⟩)) (zyN ?_)))))))
 refine za0 rfl (zyG (zyR 3 rfl (zyN (zau (zah ?_)))))
 cases h
 exact zaC (rs:=[.tmp 4,.tmp 5,.tmp 6]) () (.inl rfl) Tryz.results21 (.cons (.tmp rfl) (.cons (.tmp rfl) (.cons (.tmp rfl) .nil))) rfl Splits.nil
def zdj (k1:Int):Option ((List Gapi_Row)×Int) :=
some (([]:List Gapi_Row),1)
theorem zfA {k1:Int} {r:((List Gapi_Row)×Int)} (h:zdj k1=some r):Fn Tryz.prog 19 [.pointer none,zI k1] [] (fun v0:Value=>.tuple #[v0,zI r.2]) (fun v0=>[zv1 v0 r.1]):=by
 unfold zdj at h
 refine Fn.intro Tryz.func19 rfl Tryz.ntmps19 (by simp) ?_
 intro w0 K
 refine zyG (zyR 2 rfl (zyN (zay (zaB (zyG (zyR 1 rfl (zaO rfl (zcK (m:=(none:Option Unit)) Tryz.underlying25 (.inl ⟨rfl,rfl⟩)) (zyR 1 rfl (zaV ?_)))))))))
 refine zaE (za0 rfl (zyG (zyR 2 rfl (zyN (zau (zaj (zah (zfK (enc:=zbI) (e:=33) (size:=6) ?_))))))))
 cases h
 exact zaC (rs:=[.tmp 4,.tmp 5]) (.slice none 0 0) (.inl rfl) Tryz.results19 (.cons (.tmp rfl) (.cons (.tmp rfl) .nil)) rfl (zae [0] kr rfl)
def zcs  : Option (List (Int×Gapi_Row)) :=
some []
theorem zdw {b_c0:Nat} {xs:(List (Int×Gapi_Row))} (h:zcs=some xs):ItrR Tryz.prog 32 [zP b_c0] (fun q:Int×Gapi_Row=>[zI q.1,.agg (zr4 q.2).toArray]) xs [cells b_c0 [.pointer none] 25]:=by
 unfold zcs at h
 refine ItrR.intro Tryz.func32 rfl Tryz.ntmps32 (by simp) ?_
 intro l w0 K I X hrd hy
 obtain ⟨r0,hx0⟩:∃ r,xs=[]++r:=⟨xs,rfl⟩
 have hr0:xs=r0:=hx0
 rw [hr0] at h
 refine zay (zyG (zaS (i:=0) hrd rfl zlg rfl dc rfl rfl (zaO rfl (zcK (m:=(none:Option Unit)) Tryz.underlying25 (.inl ⟨rfl,rfl⟩)) (zyN (za0 rfl (zau (zah ?_)))))))
 cases h
 exact zhk (ds:=[]) (.inl rfl) Splits.nil Tryz.results32 (congrArg I (hx0.trans (List.append_nil _))) (zae [0] kr rfl)
def zcC  : Option Unit :=
some ()
theorem zed  {r:Unit} (h:zcC=some r):Fn Tryz.prog 10 [.pointer none] [] (fun v0:Nat=>.func (.func 32) #[] #[zP v0]) (fun v0=>[cells v0 [.pointer none] 25]):=by
 unfold zcC at h
 refine Fn.intro Tryz.func10 rfl Tryz.ntmps10 (by simp) ?_
 intro w0 K
 refine zyG ?_
 refine zcP rfl dc rfl (fun b2 => ?_)
 refine zyR 1 rfl (zyH (zeF (x1:=[]) (x2:=[.tmp 1]) rfl dc rfl rfl (zyR 1 rfl (zyN (zau ?_)))))
 cases h
 exact zaC (rs:=[.tmp 2]) b2 (.inl rfl) Tryz.results10 (.cons (.tmp rfl) .nil) rfl (zae [0] kr rfl)
def zb4 (x1:Int×Gapi_Row) (ag1:Option ByteArray):Option ByteArray :=
none
def zc6  : Option ByteArray :=
zbp (fun (j1:Option ByteArray) =>
zar (zcC) fun (r1:Unit) =>
zar (zcs) fun (its1:(List (Int×Gapi_Row))) =>
zbp (fun (dn1:Option ByteArray) =>
zdE dn1 (zb4) its1
) (
j1
)
) (
some (⟨#[]⟩:ByteArray)
)
theorem zfs  {r:ByteArray} (h:zc6=some r):FnP Tryz.prog 27 [.pointer none] (.string r):=by
 unfold zc6 at h
 refine FnP.intro Tryz.func27 rfl Tryz.ntmps27 (by simp) ?_
 intro w0 K
 refine zfR ?_
 obtain ⟨j1,hj1,h⟩:=zbw h
 refine zaU (β:=Nat×(List Nat)) 3 rfl (fun b=>j1=some r) (fun b=>zeC b.2) (fun b=>[(3,zP b.1)]) (fun b=>[ziZ b.1 (⟨#[]⟩:ByteArray),zfS ((b.2:List Nat).map zhD)]) (fun cut => ?_) ?_
 ·
  refine zyG ?_
  refine zcP rfl dc rfl (fun b3 => ?_)
  refine zyR 1 rfl (zyH ?_)
  refine zbb zk5 rfl dc (fun b4 => ?_)
  refine zlM (k:=2) rfl zho ?_
  refine zyH ?_
  refine zbb zox rfl dc (fun b5 => ?_)
  refine zaG (k:=3) (l':=[zI 0]) zeX rfl rfl rfl rfl rfl (fun _ _=>rfl) rfl ?_
  refine zyN (cut (zyG (zan (k:=1) zlg rfl dc rfl rfl rfl ?_)))
  obtain ⟨r1,hq1,h⟩:=zbl h
  refine zcB (vs:=[.pointer none]) rfl dc rfl rfl rfl zm2 (zed hq1) Splits.nil ?_
  rintro b6
  refine zbM (L':=[zfS ((([]:List Nat):List Nat).map zhD),cells b3 [.pointer none] 25,ziZ b4 (⟨#[]⟩:ByteArray),cells b5 [zI 0] 3,cells b6 [.pointer none] 25]) (zae [0,1,2,3,4] kr rfl) (zyN (zaB ?_))
  obtain ⟨its1,hq2,h⟩:=zbl h
  obtain ⟨dn1,hdn1,h⟩:=zbw h
  refine zgT (α:=Int×Gapi_Row) (β:=Unit) (γ:=Unit) (δ:=Nat) (ps:=[11,12]) (Rd.nil:Rd _ _ []) Ro.nil rfl zm0 (zdw hq2) (fun pre b=>∀ post,its1=pre++post→zdE dn1 (zb4) post=some r) (fun pre b=>[cells b3 [.pointer none] 25,ziZ b4 (⟨#[]⟩:ByteArray),cells b5 [zI 0] 3]) (fun c pre g=>False) (fun c pre g=>[]) (fun pre x b j=>[(1,zP b3),(2,.string (⟨#[]⟩:ByteArray)),(3,zP b4),(4,zP b5),(10,.func (.func 32) #[] #[zP b6]),(5,zI x.1),(6,zP j)]) (fun pre x b j=>[cells b3 [.pointer none] 25,ziZ b4 (⟨#[]⟩:ByteArray),cells b5 [zI 0] 3,cells j (zr4 x.2) 33]) () (fun post e=>by rw [List.nil_append] at e; subst e; exact h) (zae [1,2,3] kr rfl) (.own (As:=[cells b6 [.pointer none] 25]) (zae [4] (by kernel_rfl) rfl) (fun _ _ h=>sepL.one1.1 h) .nil) (fun _=>rfl) dc ?_ ?_ ?_ ?_
  ·
   rintro lp rc pre x1 post _ w1 K1 hxs1 hext hro hinv
   refine zyG (zyR 1 rfl (zyN (zaA ?_)))
   refine zbb zjy rfl dc (fun b7 => ?_)
   refine zaR (k:=3) (vs:=(zr4 x1.2)) (l':=(zr4 x1.2)) zf1 rfl rfl rfl rfl rfl (show _≤_ by simp) rfl rfl ?_
   refine zaV ?_
   exact fun a w ha hw=>⟨b7,(za7 rfl) _ _ _ ha,hw.weaken (zae [0,1,2,3] kr rfl)⟩
  ·
   rintro lp rc pre x1 post1 _ jb1 w1 K1 hxs1 hext hro hinv
   have h:=hinv (x1::post1) hxs1
   obtain ⟨ag1,hag1⟩:∃ ag,ag=zdE dn1 (zb4) post1:=⟨_,rfl⟩
   have h:zb4 x1 ag1=some r:=by rw [hag1]; exact h
   unfold zb4 at h
   exact zcS h
  ·
   rintro dm1 _ hinv
   have h:dn1=some r:=hinv [] (List.append_nil _).symm
   rw [hdn1] at h
   refine zd1 (k:=8) (j:=0) rfl rfl dc ?_
   refine zai ?_
   exact zaq (b4,dm1::([]:List Nat)) h rfl (za7 rfl) (zae [6,0] kr rfl)
  rintro dm1 c pre x1 post g hxs hX
  exact (show False from hX).elim
 rintro ⟨b2,ds1⟩ h
 rw [hj1] at h
 refine zyG (zcB (vs:=[zP b2]) rfl dc rfl rfl rfl zmX (zko b2 (⟨#[]⟩:ByteArray)) (zae [0] kr rfl) ?_)
 rintro _
 refine zyR 1 rfl (zyN (zau ?_))
 cases h
 exact zbR (rs:=[.tmp 2]) ds1 () (.inl rfl) (zaK (k:=1) rfl) Tryz.results27 (.cons (.tmp rfl) .nil) rfl Splits.nil
def zeS (l1:Gapi_Layout):Option ((Option Gpage_Book)×Int) :=
some (none,1)
theorem zid {l1:Gapi_Layout} {r:((Option Gpage_Book)×Int)} (h:zeS l1=some r):Fn Tryz.prog 28 [.pointer none,.agg (zr0 l1).toArray] [] (fun v0:Value=>.tuple #[v0,zI r.2]) (fun v0=>[zfv zbe zbd 81 v0 r.1]):=by
 unfold zeS at h
 refine Fn.intro Tryz.func28 rfl Tryz.ntmps28 (by simp) ?_
 intro w0 K
 refine zyG ?_
 refine zcP rfl dc rfl (fun b1 => ?_)
 refine zyR 2 rfl (zyN (zay (zaB (zyG (zyR 1 rfl (zaO rfl (zcK (m:=(none:Option Unit)) Tryz.underlying58 (.inl ⟨rfl,rfl⟩)) (zyR 1 rfl (zyN (za0 rfl ?_)))))))))
 refine zyG (zyR 2 rfl (zyN (zau (zaj (zah (zca zbe zbd 81 ?_))))))
 cases h
 exact zaC (rs:=[.tmp 4,.tmp 5]) (.pointer none) (.inl rfl) Tryz.results28 (.cons (.tmp rfl) (.cons (.tmp rfl) .nil)) rfl (zae [1] kr rfl)
end Go.Proofs.YtbempdelckaccaaGreatDoor

namespace Go.Proofs.YtbempdelckaccaaGreatDoor
open Go.RowKit Go.Lib
set_option linter.unusedVariables false
set_option linter.unusedSimpArgs false
def zcx (ek1:Option Bool) (x2:Int×Gapi_Row) (ag1:Option Bool):Option Bool :=
ek1
def zdZ  : Option Bool :=
zar (zeH) fun (r1:Bool) =>
zav (!r1) (
some false
) (
zbp (fun (j1:(List Gapi_Row)→Int→Int→Int→Int→Option Bool) =>
zar (zdj 0) fun (r2:((List Gapi_Row)×Int)) =>
zar (zdk 0) fun (r3:(Int×Int×Int)) =>
zar (zcC) fun (r4:Unit) =>
zar (zcs) fun (its1:(List (Int×Gapi_Row))) =>
zbp (fun (ek1:Option Bool) =>
zbp (fun (dn1:Option Bool) =>
zdE dn1 (zcx ek1) its1
) (
j1 r2.1 r2.2 r3.1 r3.2.1 r3.2.2
)
) (
some false
)
) (fun (a1:List Gapi_Row) (e1x1:Int) (x1:Int) (y1:Int) (e2x1:Int) =>
zar (zeS (⟨0,0,0,0⟩:Gapi_Layout)) fun (r5:((Option Gpage_Book)×Int)) =>
zar (zfb (⟨#[35,32,116]⟩:ByteArray)) fun (r6:((Option Gpoem_Poem)×Gapi_Spot)) =>
zav (r6.1.isNone) (
some false
) (
zav ((r6.2.Err:Int) != 0) (
some false
) (
zar (r6.1) fun (p1:Gpoem_Poem) =>
zar (zfO p1 (⟨8,4,7,512⟩:Gapi_Layout)) fun (r7:((Option Gpage_Book)×Int)) =>
zav (r7.1.isNone) (
some false
) (
zav ((r7.2:Int) != 0) (
some false
) (
zar (zga (⟨#[116]⟩:ByteArray) ([]:List Gapi_Row)) fun (r8:((Option Gpoem_Poem)×Int)) =>
zav (r8.1.isNone) (
some false
) (
zav ((r8.2:Int) != 0) (
some false
) (
zar (zfO p1 (⟨8,4,8,512⟩:Gapi_Layout)) fun (r9:((Option Gpage_Book)×Int)) =>
zar (zfd (⟨#[]⟩:ByteArray) 0 (⟨256,200,0,0⟩:Gapi_Layout)) fun (r10:((List ByteArray)×Int×Int)) =>
zav (((a1.length:Int):Int)==0) (
zav ((e1x1:Int)==1) (
zav ((x1:Int)==0) (
zav ((y1:Int)==0) (
zav ((e2x1:Int)==1) (
zar (zc7) fun (r11:Int) =>
zav ((r11:Int)==0) (
zar (zdl) fun (r12:Int) =>
zav ((r12:Int)==0) (
zar (zc6) fun (r13:ByteArray) =>
zav (decide (r13=(⟨#[]⟩:ByteArray))) (
zav (r5.1.isNone) (
zav ((r5.2:Int)==1) (
zar (r7.1) fun (p2:Gpage_Book) =>
zar (zdY p2) fun (r14:Int) =>
zav ((r14:Int)==0) (
zar (zem p2) fun (r15:Int) =>
zav ((r15:Int)==0) (
zar (zdX p2) fun (r16:ByteArray) =>
zav (decide (r16=(⟨#[]⟩:ByteArray))) (
zar (r8.1) fun (p3:Gpoem_Poem) =>
zar (zeh p3 p1) fun (r17:Bool) =>
zav (r17) (
zav (r9.1.isNone) (
zav ((r9.2:Int)==2) (
zav (((r10.1.length:Int):Int)==0) (
zav ((r10.2.1:Int)==0) (
zav ((r10.2.2:Int)==0) (
zar (zeH) fun (r18:Bool) =>
some r18
) (
some false
)
) (
some false
)
) (
some false
)
) (
some false
)
) (
some false
)
) (
some false
)
) (
some false
)
) (
some false
)
) (
some false
)
) (
some false
)
) (
some false
)
) (
some false
)
) (
some false
)
) (
some false
)
) (
some false
)
) (
some false
)
) (
some false
)
) (
some false
)
) (
some false
)
)
)
)
)
)
)
)
)
theorem zgx  {r:Bool} (h:zdZ=some r):FnP Tryz.prog 7 [] (.bool r):=by
 unfold zdZ at h
 refine FnP.intro Tryz.func7 rfl Tryz.ntmps7 (by simp) ?_
 intro w0 K
 refine zfR ?_
 refine zyG ?_
 refine zbb zpq rfl dc (fun b1 => ?_)
 refine zyN (zay (zyG ?_))
 obtain ⟨r1,hq1,h⟩:=zbl h
 refine za5 (v:=.bool r1) (vs:=[]) rfl dc rfl rfl rfl zps (zgw hq1) (zcZ rfl dc rfl zbZ (zyN ?_))
 refine zyB rfl h (fun h => ?_) (fun h => ?_)
 ·
  refine zyG ?_
  refine zaG (k:=1) (l':=[.bool false]) zgj rfl rfl rfl rfl rfl (fun _ _=>rfl) rfl ?_
  refine zyN (zau (zah ?_))
  cases h
  exact zbR (rs:=[.cell 0 4]) ([]:List Nat) () (.inl rfl) (zaK (k:=0) rfl) Tryz.results7 (.cons (.cell zf2 (k:=1) rfl rfl) .nil) rfl Splits.nil
 refine zat (zaE ?_)
 obtain ⟨j1,hj1,h⟩:=zbw h
 refine zaU (β:=(List Gapi_Row)×Int×Int×Int×Int×Hd×(List Nat)) 3 rfl (fun b=>j1 b.1 b.2.1 b.2.2.1 b.2.2.2.1 b.2.2.2.2.1=some r) (fun b=>zeC b.2.2.2.2.2.2) (fun b=>[(0,zP b1),(1,.pointer none),(2,b.2.2.2.2.2.1.v),(3,zI b.2.1),(4,zI b.2.2.1),(5,zI b.2.2.2.1),(6,zI b.2.2.2.2.1)]) (fun b=>[cells b1 [.bool false] 4,zv1 b.2.2.2.2.2.1.v b.1,zfS ((b.2.2.2.2.2.2:List Nat).map zhD)]) (fun cut => ?_) ?_
 ·
  refine zyG (zyR 1 rfl (zyH (zyR 1 rfl ?_)))
  obtain ⟨r2,hq2,h⟩:=zbl h
  refine zcB (vs:=[.pointer none,zI 0]) rfl dc rfl rfl rfl zpa (zfA hq2) Splits.nil ?_
  rintro v1
  refine zbo (k:=2) rfl (fun hd2 he1 => ?_)
  subst he1
  refine zyR 1 rfl (zax rfl dc rfl rfl (zax rfl dc rfl rfl (zyR 2 rfl (zyH (zyR 1 rfl ?_)))))
  obtain ⟨r3,hq3,h⟩:=zbl h
  refine za5 (v:=.tuple #[zI r3.1,zI r3.2.1,zI r3.2.2]) (vs:=[.pointer none,zI 0]) rfl dc rfl rfl rfl zo9 (zfB hq3) (zyR 1 rfl (zax rfl dc rfl rfl (zax rfl dc rfl rfl (zax rfl dc rfl rfl (zyR 3 rfl (zyN (cut (zyG (zyR 1 rfl ?_)))))))))
  obtain ⟨r4,hq4,h⟩:=zbl h
  refine zcB (vs:=[.pointer none]) rfl dc rfl rfl rfl zm2 (zed hq4) Splits.nil ?_
  rintro b2
  refine zbM (L':=[zfS ((([]:List Nat):List Nat).map zhD),cells b1 [.bool false] 4,zv1 hd2.v r2.1,cells b2 [.pointer none] 25]) (zae [0,1,2,3] kr rfl) (zyN (zaB ?_))
  obtain ⟨its1,hq5,h⟩:=zbl h
  obtain ⟨ek1,hek1,h⟩:=zbw h
  obtain ⟨dn1,hdn1,h⟩:=zbw h
  refine zgT (α:=Int×Gapi_Row) (β:=Unit) (γ:=Unit) (δ:=Unit) (ps:=[36,37]) (Rd.nil:Rd _ _ []) Ro.nil rfl zm0 (zdw hq5) (fun pre b=>∀ post,its1=pre++post→zdE dn1 (zcx ek1) post=some r) (fun pre b=>[cells b1 [.bool false] 4,zv1 hd2.v r2.1]) (fun c pre g=>(fun g=>c=.ret∧ek1=some r) g) (fun c pre g=>(fun g=>[cells b1 [.bool false] 4,zv1 hd2.v r2.1]) g) (fun pre x b j=>[(0,zP b1),(1,.pointer none),(2,hd2.v),(3,zI r2.2),(4,zI r3.1),(5,zI r3.2.1),(6,zI r3.2.2),(35,.func (.func 32) #[] #[zP b2])]) (fun pre x b j=>[cells b1 [.bool false] 4,zv1 hd2.v r2.1]) () (fun post e=>by rw [List.nil_append] at e; subst e; exact h) (zae [1,2] kr rfl) (.own (As:=[cells b2 [.pointer none] 25]) (zae [3] (by kernel_rfl) rfl) (fun _ _ h=>sepL.one1.1 h) .nil) (fun _=>rfl) dc ?_ ?_ ?_ ?_
  ·
   rintro lp rc pre x2 post _ w1 K1 hxs1 hext hro hinv
   refine zat ?_
   exact fun a w ha hw=>⟨(),(za7 rfl) _ _ _ ha,hw.weaken (zae [0,1] kr rfl)⟩
  ·
   rintro lp rc pre x2 post1 _ _ w1 K1 hxs1 hext hro hinv
   have h:=hinv (x2::post1) hxs1
   obtain ⟨ag1,hag1⟩:∃ ag,ag=zdE dn1 (zcx ek1) post1:=⟨_,rfl⟩
   have h:zcx ek1 x2 ag1=some r:=by rw [hag1]; exact h
   unfold zcx at h
   refine zaB (zyG ?_)
   refine zaG (k:=0) (l':=[.bool false]) zgj rfl rfl rfl rfl rfl (fun _ _=>rfl) rfl ?_
   refine zyN (zau (zaj ?_))
   exact zcT () (show _∧_ from ⟨rfl,h⟩) (zae [0,1] kr rfl)
  ·
   rintro dm1 _ hinv
   have h:dn1=some r:=hinv [] (List.append_nil _).symm
   rw [hdn1] at h
   refine zd1 (k:=6) (j:=0) rfl rfl dc ?_
   refine zai ?_
   exact zaq (r2.1,r2.2,r3.1,r3.2.1,r3.2.2,hd2,dm1::([]:List Nat)) h rfl (za7 rfl) (zae [4,5,0] kr rfl)
  rintro dm1 c pre x2 post g hxs hX
  obtain ⟨rfl,h⟩:=(show _∧_ from hX)
  rw [hek1] at h
  refine zis (k:=6) (j:=0) rfl rfl dc ?_
  refine zau (zaj (zah ?_))
  cases h
  exact zbR (rs:=[.cell 0 4]) (dm1::([]:List Nat)) () (.inl rfl) (zaK (k:=0) rfl) Tryz.results7 (.cons (.cell zf2 (k:=4) rfl rfl) .nil) rfl Splits.nil
 rintro ⟨a1,e1x1,x1,y1,e2x1,hd1,ds1⟩ h
 rw [hj1] at h
 refine zyG ?_
 refine zbg (v:=.agg #[zI 0,zI 0,zI 0,zI 0]) (ps:=[]) rfl dc rfl (fun _=>by kernel_rfl) ?_
 obtain ⟨r5,hq6,h⟩:=zbl h
 refine zcB (vs:=[.pointer none,.agg #[zI 0,zI 0,zI 0,zI 0]]) rfl dc rfl rfl rfl zm1 (zid (l1:=(⟨0,0,0,0⟩:Gapi_Layout)) hq6) Splits.nil ?_
 rintro v2
 refine zbM (L':=[cells b1 [.bool false] 4,zv1 hd1.v a1,zfS ((ds1:List Nat).map zhD),zfv zbe zbd 81 v2 r5.1]) (zae [0,1,2,3] kr rfl) (zyR 1 rfl (zax rfl dc rfl rfl (zax rfl dc rfl rfl (zyR 2 rfl (zyH ?_)))))
 obtain ⟨r6,hq7,h⟩:=zbl h
 refine zcB (vs:=[.string (⟨#[35,32,116]⟩:ByteArray)]) rfl dc rfl rfl rfl znV (zht hq7) Splits.nil ?_
 rintro v3
 refine zbM (L':=[cells b1 [.bool false] 4,zv1 hd1.v a1,zfS ((ds1:List Nat).map zhD),zfv zbe zbd 81 v2 r5.1,zfv zaI zaH 106 v3 r6.1]) (zae [0,1,2,3,4] kr rfl) (zyR 1 rfl (zax rfl dc rfl rfl (zax rfl dc rfl rfl ?_)))
 refine zbb zmK rfl dc (fun b3 => ?_)
 refine zyR 1 rfl (zaR (k:=5) (vs:=(zr5 r6.2)) (l':=(zr5 r6.2)) zj8 rfl rfl rfl rfl rfl (show _≤_ by simp) rfl rfl ?_)
 refine zyN (zay (zyG (zyR 1 rfl ?_)))
 refine zfL (k:=4) rfl (fun hv1 => ?_)
 refine zaO rfl (zcK Tryz.underlying58 hv1) (zyR 1 rfl ?_)
 refine zyS (s:=49) rfl h (fun h => ?_) (fun h => ?_)
 ·
  refine zyR 4 rfl (zyN (za0 rfl (zyG ?_)))
  refine zaG (k:=0) (l':=[.bool false]) zgj rfl rfl rfl rfl rfl (fun _ _=>rfl) rfl ?_
  refine zyN (zau (zah ?_))
  cases h
  exact zbR (rs:=[.cell 0 4]) ds1 () (.inl rfl) (zaK (k:=2) rfl) Tryz.results7 (.cons (.cell zf2 (k:=0) rfl rfl) .nil) rfl Splits.nil
 refine zac zmU rfl dc rfl (show _=0 from rfl) (zan (k:=5) zoF rfl dc rfl rfl rfl (zaO rfl zbq (zyR 1 rfl (zyN ?_))))
 refine zyB rfl h (fun h => ?_) (fun h => ?_)
 ·
  refine zyG ?_
  refine zaG (k:=0) (l':=[.bool false]) zgj rfl rfl rfl rfl rfl (fun _ _=>rfl) rfl ?_
  refine zyN (zau (zah ?_))
  cases h
  exact zbR (rs:=[.cell 0 4]) ds1 () (.inl rfl) (zaK (k:=2) rfl) Tryz.results7 (.cons (.cell zf2 (k:=0) rfl rfl) .nil) rfl Splits.nil
 refine zat (zaE (zyG ?_))
 refine zbg (v:=.agg #[zI 8,zI 4,zI 7,zI 512]) (ps:=[(0,.const (zI 8)),(1,.const (zI 4)),(2,.const (zI 7)),(3,.const (zI 512))]) rfl dc rfl (fun _=>by kernel_rfl) ?_
 refine zbb zoy rfl dc (fun b4 => ?_)
 refine zaR (k:=6) (vs:=[zI 8,zI 4,zI 7,zI 512]) (l':=[zI 8,zI 4,zI 7,zI 512]) zoE rfl rfl rfl rfl rfl (show _≤_ by simp) rfl rfl ?_
 refine zyH (zyR 1 rfl (zaY (k:=6) (cs:=[zI 8,zI 4,zI 7,zI 512]) zjf rfl dc rfl rfl rfl rfl ?_))
 obtain ⟨p1,hq8,h⟩:=zbl h
 refine zjv (As:=[zfv zaI zaH 106 v3 r6.1]) (zae [4] kr rfl) (zeN hq8) ?_
 rintro ⟨b5,hd3,hd4⟩ hv2
 have hkp:=h
 subst hv2
 have h:=hkp
 obtain ⟨r7,hq9,h⟩:=zbl h
 refine zd6 (vs:=[zP b5,.agg #[zI 8,zI 4,zI 7,zI 512]]) (Rd.nil:Rd _ _ []) rfl dc rfl rfl rfl zm1 (zie (bx1:=b5) (x1:=p1) (x1_h0:=hd3) (x1_h1:=hd4) (l1:=(⟨8,4,7,512⟩:Gapi_Layout)) hq9) Splits.nil (.own (zae [7] (by kernel_rfl) rfl) (fun _ _ h=>sepL.one1.1 h) (.own (zae [8] (by kernel_rfl) rfl) (fun _ _ h=>sepL.one1.1 h) (.own (zae [9] (by kernel_rfl) rfl) (fun _ _ h=>sepL.one1.1 h) .nil))) ?_
 rintro v4
 refine zbM (L':=[cells b1 [.bool false] 4,zv1 hd1.v a1,zfS ((ds1:List Nat).map zhD),zfv zbe zbd 81 v2 r5.1,emp,cells b3 (zr5 r6.2) 60,cells b4 [zI 8,zI 4,zI 7,zI 512] 23,cells b5 [.string p1.told_title,hd3.v,hd4.v,.string p1.source] 106,zv6 hd3.v p1.told_lines,zv7 hd4.v p1.told_stanzas,zfv zbe zbd 81 v4 r7.1]) (zae [0,1,2,3,4,5,6,7,8,9,10] kr rfl) (zyR 1 rfl (zax rfl dc rfl rfl (zax rfl dc rfl rfl (zyR 2 rfl (zyN (zay (zyG (zyR 1 rfl ?_))))))))
 refine zfL (k:=10) rfl (fun hv3 => ?_)
 refine zaO rfl (zcK Tryz.underlying25 hv3) (zyR 1 rfl ?_)
 refine zyS (s:=63) rfl h (fun h => ?_) (fun h => ?_)
 ·
  refine zyR 3 rfl (zyN (za0 rfl (zyG ?_)))
  refine zaG (k:=0) (l':=[.bool false]) zgj rfl rfl rfl rfl rfl (fun _ _=>rfl) rfl ?_
  refine zyN (zau (zah ?_))
  cases h
  exact zbR (rs:=[.cell 0 4]) ds1 () (.inl rfl) (zaK (k:=2) rfl) Tryz.results7 (.cons (.cell zf2 (k:=0) rfl rfl) .nil) rfl Splits.nil
 refine zyR 1 rfl (zaO rfl zbq (zyR 1 rfl (zyN ?_)))
 refine zyB rfl h (fun h => ?_) (fun h => ?_)
 ·
  refine zyG ?_
  refine zaG (k:=0) (l':=[.bool false]) zgj rfl rfl rfl rfl rfl (fun _ _=>rfl) rfl ?_
  refine zyN (zau (zah ?_))
  cases h
  exact zbR (rs:=[.cell 0 4]) ds1 () (.inl rfl) (zaK (k:=2) rfl) Tryz.results7 (.cons (.cell zf2 (k:=0) rfl rfl) .nil) rfl Splits.nil
 refine zat (zaE (zyG (ze3 (enc:=zbI) (e:=33) (size:=6) ?_)))
 refine zkI (k:=11) rfl (fun hw1 => ?_)
 obtain ⟨r8,hq10,h⟩:=zbl h
 refine zd6 (vs:=[.string (⟨#[116]⟩:ByteArray),.slice none 0 0]) (Rd.nil:Rd _ _ []) rfl dc rfl rfl rfl zo8 (zjK hw1 hq10) Splits.nil (.own (As:=[zv1 (.slice none 0 0) ([]:List Gapi_Row)]) (zae [11] (by kernel_rfl) rfl) (fun _ _ h=>zh6 zbA (sepL.one1.1 h)) .nil) ?_
 rintro v5
 refine zbM (L':=[cells b1 [.bool false] 4,zv1 hd1.v a1,zfS ((ds1:List Nat).map zhD),zfv zbe zbd 81 v2 r5.1,emp,cells b3 (zr5 r6.2) 60,cells b4 [zI 8,zI 4,zI 7,zI 512] 23,cells b5 [.string p1.told_title,hd3.v,hd4.v,.string p1.source] 106,zv6 hd3.v p1.told_lines,zv7 hd4.v p1.told_stanzas,zfv zbe zbd 81 v4 r7.1,zv1 (.slice none 0 0) ([]:List Gapi_Row),zfv zaI zaH 106 v5 r8.1]) (zae [0,1,2,3,4,5,6,7,8,9,10,11,12] kr rfl) (zyR 1 rfl (zax rfl dc rfl rfl (zax rfl dc rfl rfl (zyR 2 rfl (zyN (zay (zyG (zyR 1 rfl ?_))))))))
 refine zfL (k:=12) rfl (fun hv4 => ?_)
 refine zaO rfl (zcK Tryz.underlying58 hv4) (zyR 1 rfl ?_)
 refine zyS (s:=73) rfl h (fun h => ?_) (fun h => ?_)
 ·
  refine zyR 3 rfl (zyN (za0 rfl (zyG ?_)))
  refine zaG (k:=0) (l':=[.bool false]) zgj rfl rfl rfl rfl rfl (fun _ _=>rfl) rfl ?_
  refine zyN (zau (zah ?_))
  cases h
  exact zbR (rs:=[.cell 0 4]) ds1 () (.inl rfl) (zaK (k:=2) rfl) Tryz.results7 (.cons (.cell zf2 (k:=0) rfl rfl) .nil) rfl Splits.nil
 refine zyR 1 rfl (zaO rfl zbq (zyR 1 rfl (zyN ?_)))
 refine zyB rfl h (fun h => ?_) (fun h => ?_)
 ·
  refine zyG ?_
  refine zaG (k:=0) (l':=[.bool false]) zgj rfl rfl rfl rfl rfl (fun _ _=>rfl) rfl ?_
  refine zyN (zau (zah ?_))
  cases h
  exact zbR (rs:=[.cell 0 4]) ds1 () (.inl rfl) (zaK (k:=2) rfl) Tryz.results7 (.cons (.cell zf2 (k:=0) rfl rfl) .nil) rfl Splits.nil
 refine zat (zaE (zyG (zac zij rfl dc rfl (show _=2 from rfl) ?_)))
 refine zaG (k:=6) (l':=[zI 8,zI 4,zI 8,zI 512]) zeX rfl rfl rfl rfl rfl (fun _ _=>rfl) rfl ?_
 refine zyH (zyR 1 rfl (zaY (k:=6) (cs:=[zI 8,zI 4,zI 8,zI 512]) zjf rfl dc rfl rfl rfl rfl ?_))
 obtain ⟨r9,hq11,h⟩:=zbl h
 refine zd6 (vs:=[zP b5,.agg #[zI 8,zI 4,zI 8,zI 512]]) (Rd.nil:Rd _ _ []) rfl dc rfl rfl rfl zm1 (zie (bx1:=b5) (x1:=p1) (x1_h0:=hd3) (x1_h1:=hd4) (l1:=(⟨8,4,8,512⟩:Gapi_Layout)) hq11) Splits.nil (.own (zae [7] (by kernel_rfl) rfl) (fun _ _ h=>sepL.one1.1 h) (.own (zae [8] (by kernel_rfl) rfl) (fun _ _ h=>sepL.one1.1 h) (.own (zae [9] (by kernel_rfl) rfl) (fun _ _ h=>sepL.one1.1 h) .nil))) ?_
 rintro v6
 refine zbM (L':=[cells b1 [.bool false] 4,zv1 hd1.v a1,zfS ((ds1:List Nat).map zhD),zfv zbe zbd 81 v2 r5.1,emp,cells b3 (zr5 r6.2) 60,cells b4 [zI 8,zI 4,zI 8,zI 512] 23,cells b5 [.string p1.told_title,hd3.v,hd4.v,.string p1.source] 106,zv6 hd3.v p1.told_lines,zv7 hd4.v p1.told_stanzas,zfv zbe zbd 81 v4 r7.1,zv1 (.slice none 0 0) ([]:List Gapi_Row),zfv zaI zaH 106 v5 r8.1,zfv zbe zbd 81 v6 r9.1]) (zae [0,1,2,3,4,5,6,7,8,9,10,11,12,13] kr rfl) (zyR 1 rfl (zax rfl dc rfl rfl (zax rfl dc rfl rfl (zyR 2 rfl (zyH ?_)))))
 refine zbg (v:=.agg #[zI 256,zI 200,zI 0,zI 0]) (ps:=[(0,.const (zI 256)),(1,.const (zI 200))]) rfl dc rfl (fun _=>by kernel_rfl) ?_
 obtain ⟨r10,hq12,h⟩:=zbl h
 refine zcB (vs:=[.string (⟨#[]⟩:ByteArray),zI 0,.agg #[zI 256,zI 200,zI 0,zI 0]]) rfl dc rfl rfl rfl znT (zhv (l1:=(⟨256,200,0,0⟩:Gapi_Layout)) hq12) Splits.nil ?_
 rintro v7
 refine zbo (k:=14) rfl (fun hd5 he2 => ?_)
 subst he2
 refine zyR 1 rfl (zax rfl dc rfl rfl (zax rfl dc rfl rfl (zax rfl dc rfl rfl (zyR 3 rfl (zyH (zyR 2 rfl (zcr (k:=1) rfl dc rfl rfl Tryz.underlying43 ?_)))))))
 refine zaO rfl zaP (zyR 2 rfl ?_)
 refine zyS (s:=95) rfl h (fun h => ?_) (fun h => ?_)
 ·
  refine zyR 1 rfl (zaO rfl zaP (zyR 2 rfl ?_))
  refine zyS (s:=99) rfl h (fun h => ?_) (fun h => ?_)
  ·
   refine zyR 1 rfl (zaO rfl zaP (zyR 2 rfl ?_))
   refine zyS (s:=103) rfl h (fun h => ?_) (fun h => ?_)
   ·
    refine zyR 1 rfl (zaO rfl zaP (zyR 2 rfl ?_))
    refine zyS (s:=107) rfl h (fun h => ?_) (fun h => ?_)
    ·
     refine zyR 1 rfl (zaO rfl zaP (zyR 2 rfl ?_))
     refine zyS (s:=111) rfl h (fun h => ?_) (fun h => ?_)
     ·
      refine zyR 1 rfl ?_
      obtain ⟨r11,hq13,h⟩:=zbl h
      refine za5 (v:=zI r11) (vs:=[.pointer none]) rfl dc rfl rfl rfl znX (zft hq13) (zaO rfl zaP (zyR 2 rfl ?_))
      refine zyS (s:=116) rfl h (fun h => ?_) (fun h => ?_)
      ·
       refine zyR 1 rfl ?_
       obtain ⟨r12,hq14,h⟩:=zbl h
       refine za5 (v:=zI r12) (vs:=[.pointer none]) rfl dc rfl rfl rfl znW (zfC hq14) (zaO rfl zaP (zyR 2 rfl ?_))
       refine zyS (s:=121) rfl h (fun h => ?_) (fun h => ?_)
       ·
        refine zyR 1 rfl ?_
        obtain ⟨r13,hq15,h⟩:=zbl h
        refine za5 (v:=.string r13) (vs:=[.pointer none]) rfl dc rfl rfl rfl znU (zfs hq15) (zaO rfl zeL (zyR 2 rfl ?_))
        refine zyS (s:=126) rfl h (fun h => ?_) (fun h => ?_)
        ·
         refine zyR 1 rfl ?_
         refine zfL (k:=3) rfl (fun hv5 => ?_)
         refine zaO rfl (zcK Tryz.underlying25 hv5) (zyR 2 rfl ?_)
         refine zyS (s:=130) rfl h (fun h => ?_) (fun h => ?_)
         ·
          refine zyR 1 rfl (zaO rfl zaP (zyR 2 rfl ?_))
          refine zyS (s:=134) rfl h (fun h => ?_) (fun h => ?_)
          ·
           refine zyR 1 rfl ?_
           obtain ⟨p2,hq16,h⟩:=zbl h
           refine zjv (As:=[zfv zbe zbd 81 v4 r7.1]) (zae [10] kr rfl) (zeN hq16) ?_
           rintro ⟨b6,hd6⟩ hv6
           have hkp:=h
           subst hv6
           have h:=hkp
           obtain ⟨r14,hq17,h⟩:=zbl h
           refine zbH (v:=zI r14) (vs:=[zP b6]) (Rd.nil:Rd _ _ []) rfl dc rfl rfl rfl znX (zgu (bb1:=b6) (b1:=p2) (b1_h0:=hd6) hq17) (.own (zae [15] (by kernel_rfl) rfl) (fun _ _ h=>sepL.one1.1 h) (.own (zae [16] (by kernel_rfl) rfl) (fun _ _ h=>sepL.one1.1 h) .nil)) ?_
           refine zaO rfl zaP (zyR 2 rfl ?_)
           refine zyS (s:=139) rfl h (fun h => ?_) (fun h => ?_)
           ·
            refine zyR 1 rfl ?_
            obtain ⟨r15,hq18,h⟩:=zbl h
            refine zbH (v:=zI r15) (vs:=[zP b6]) (Rd.nil:Rd _ _ []) rfl dc rfl rfl rfl znW (zg5 (bb1:=b6) (b1:=p2) (b1_h0:=hd6) hq18) (.own (zae [15] (by kernel_rfl) rfl) (fun _ _ h=>sepL.one1.1 h) (.own (zae [16] (by kernel_rfl) rfl) (fun _ _ h=>sepL.one1.1 h) .nil)) ?_
            refine zaO rfl zaP (zyR 2 rfl ?_)
            refine zyS (s:=144) rfl h (fun h => ?_) (fun h => ?_)
            ·
             refine zyR 1 rfl ?_
             obtain ⟨r16,hq19,h⟩:=zbl h
             refine zbH (v:=.string r16) (vs:=[zP b6]) (Rd.nil:Rd _ _ []) rfl dc rfl rfl rfl znU (zgt (bb1:=b6) (b1:=p2) (b1_h0:=hd6) hq19) (.own (zae [15] (by kernel_rfl) rfl) (fun _ _ h=>sepL.one1.1 h) (.own (zae [16] (by kernel_rfl) rfl) (fun _ _ h=>sepL.one1.1 h) .nil)) ?_
             refine zaO rfl zeL (zyR 2 rfl ?_)
             refine zyS (s:=149) rfl h (fun h => ?_) (fun h => ?_)
             ·
              refine zyR 2 rfl ?_
              obtain ⟨p3,hq20,h⟩:=zbl h
              refine zjv (As:=[zfv zaI zaH 106 v5 r8.1]) (zae [12] kr rfl) (zeN hq20) ?_
              rintro ⟨b7,hd7,hd8⟩ hv7
              have hkp:=h
              subst hv7
              have h:=hkp
              obtain ⟨r17,hq21,h⟩:=zbl h
              refine zbH (v:=.bool r17) (vs:=[zP b7,zP b5]) (Rd.nil:Rd _ _ []) rfl dc rfl rfl rfl zo7 (zg0 (bp1:=b7) (p1:=p3) (p1_h0:=hd7) (p1_h1:=hd8) (bq1:=b5) (q1:=p1) (q1_h0:=hd3) (q1_h1:=hd4) hq21) (.own (zae [17] (by kernel_rfl) rfl) (fun _ _ h=>sepL.one1.1 h) (.own (zae [18] (by kernel_rfl) rfl) (fun _ _ h=>sepL.one1.1 h) (.own (zae [19] (by kernel_rfl) rfl) (fun _ _ h=>sepL.one1.1 h) (.own (zae [7] (by kernel_rfl) rfl) (fun _ _ h=>sepL.one1.1 h) (.own (zae [8] (by kernel_rfl) rfl) (fun _ _ h=>sepL.one1.1 h) (.own (zae [9] (by kernel_rfl) rfl) (fun _ _ h=>sepL.one1.1 h) .nil)))))) ?_
              refine zyR 2 rfl ?_
              refine zyS (s:=154) rfl h (fun h => ?_) (fun h => ?_)
              ·
               refine zyR 1 rfl ?_
               refine zfL (k:=13) rfl (fun hv8 => ?_)
               refine zaO rfl (zcK Tryz.underlying25 hv8) (zyR 2 rfl ?_)
               refine zyS (s:=158) rfl h (fun h => ?_) (fun h => ?_)
               ·
                refine zyR 1 rfl (zaO rfl zaP (zyR 2 rfl ?_))
                refine zyS (s:=162) rfl h (fun h => ?_) (fun h => ?_)
                ·
                 refine zyR 1 rfl (zcr (k:=14) rfl dc rfl rfl Tryz.underlying70 (zaO rfl zaP (zyR 2 rfl ?_)))
                 refine zyS (s:=167) rfl h (fun h => ?_) (fun h => ?_)
                 ·
                  refine zyR 1 rfl (zaO rfl zaP (zyR 2 rfl ?_))
                  refine zyS (s:=171) rfl h (fun h => ?_) (fun h => ?_)
                  ·
                   refine zyR 1 rfl (zaO rfl zaP (zyR 2 rfl ?_))
                   refine zyS (s:=175) rfl h (fun h => ?_) (fun h => ?_)
                   ·
                    obtain ⟨r18,hq22,h⟩:=zbl h
                    refine za5 (v:=.bool r18) (vs:=[]) rfl dc rfl rfl rfl zps (zgw hq22) (zyR 1 rfl ?_)
                    refine zaG (k:=0) (l':=[.bool r18]) zgj rfl rfl rfl rfl rfl (fun _ _=>rfl) rfl ?_
                    refine zyN (zau ?_)
                    cases h
                    exact zbR (rs:=[.cell 0 4]) ds1 () (.inl rfl) (zaK (k:=2) rfl) Tryz.results7 (.cons (.cell zf2 (k:=0) rfl rfl) .nil) rfl Splits.nil
                   refine zyR 2 rfl ?_
                   refine zaG (k:=0) (l':=[.bool false]) zgj rfl rfl rfl rfl rfl (fun _ _=>rfl) rfl ?_
                   refine zyN (zau ?_)
                   cases h
                   exact zbR (rs:=[.cell 0 4]) ds1 () (.inl rfl) (zaK (k:=2) rfl) Tryz.results7 (.cons (.cell zf2 (k:=0) rfl rfl) .nil) rfl Splits.nil
                  refine zyR 6 rfl ?_
                  refine zaG (k:=0) (l':=[.bool false]) zgj rfl rfl rfl rfl rfl (fun _ _=>rfl) rfl ?_
                  refine zyN (zau ?_)
                  cases h
                  exact zbR (rs:=[.cell 0 4]) ds1 () (.inl rfl) (zaK (k:=2) rfl) Tryz.results7 (.cons (.cell zf2 (k:=0) rfl rfl) .nil) rfl Splits.nil
                 refine zyR 10 rfl ?_
                 refine zaG (k:=0) (l':=[.bool false]) zgj rfl rfl rfl rfl rfl (fun _ _=>rfl) rfl ?_
                 refine zyN (zau ?_)
                 cases h
                 exact zbR (rs:=[.cell 0 4]) ds1 () (.inl rfl) (zaK (k:=2) rfl) Tryz.results7 (.cons (.cell zf2 (k:=0) rfl rfl) .nil) rfl Splits.nil
                refine zyR 14 rfl ?_
                refine zyR 1 rfl ?_
                refine zaG (k:=0) (l':=[.bool false]) zgj rfl rfl rfl rfl rfl (fun _ _=>rfl) rfl ?_
                refine zyN (zau ?_)
                cases h
                exact zbR (rs:=[.cell 0 4]) ds1 () (.inl rfl) (zaK (k:=2) rfl) Tryz.results7 (.cons (.cell zf2 (k:=0) rfl rfl) .nil) rfl Splits.nil
               refine zyR 14 rfl ?_
               refine zyR 5 rfl ?_
               refine zaG (k:=0) (l':=[.bool false]) zgj rfl rfl rfl rfl rfl (fun _ _=>rfl) rfl ?_
               refine zyN (zau ?_)
               cases h
               exact zbR (rs:=[.cell 0 4]) ds1 () (.inl rfl) (zaK (k:=2) rfl) Tryz.results7 (.cons (.cell zf2 (k:=0) rfl rfl) .nil) rfl Splits.nil
              refine zyR 14 rfl ?_
              refine zyR 9 rfl ?_
              refine zaG (k:=0) (l':=[.bool false]) zgj rfl rfl rfl rfl rfl (fun _ _=>rfl) rfl ?_
              refine zyN (zau ?_)
              cases h
              exact zbR (rs:=[.cell 0 4]) ds1 () (.inl rfl) (zaK (k:=2) rfl) Tryz.results7 (.cons (.cell zf2 (k:=0) rfl rfl) .nil) rfl Splits.nil
             refine zyR 14 rfl ?_
             refine zyR 14 rfl ?_
             refine zaG (k:=0) (l':=[.bool false]) zgj rfl rfl rfl rfl rfl (fun _ _=>rfl) rfl ?_
             refine zyN (zau ?_)
             cases h
             exact zbR (rs:=[.cell 0 4]) ds1 () (.inl rfl) (zaK (k:=2) rfl) Tryz.results7 (.cons (.cell zf2 (k:=0) rfl rfl) .nil) rfl Splits.nil
            refine zyR 14 rfl ?_
            refine zyR 14 rfl ?_
            refine zyR 5 rfl ?_
            refine zaG (k:=0) (l':=[.bool false]) zgj rfl rfl rfl rfl rfl (fun _ _=>rfl) rfl ?_
            refine zyN (zau ?_)
            cases h
            exact zbR (rs:=[.cell 0 4]) ds1 () (.inl rfl) (zaK (k:=2) rfl) Tryz.results7 (.cons (.cell zf2 (k:=0) rfl rfl) .nil) rfl Splits.nil
           refine zyR 14 rfl ?_
           refine zyR 14 rfl ?_
           refine zyR 10 rfl ?_
           refine zaG (k:=0) (l':=[.bool false]) zgj rfl rfl rfl rfl rfl (fun _ _=>rfl) rfl ?_
           refine zyN (zau ?_)
           cases h
           exact zbR (rs:=[.cell 0 4]) ds1 () (.inl rfl) (zaK (k:=2) rfl) Tryz.results7 (.cons (.cell zf2 (k:=0) rfl rfl) .nil) rfl Splits.nil
          refine zyR 14 rfl ?_
          refine zyR 14 rfl ?_
          refine zyR 14 rfl ?_
          refine zyR 1 rfl ?_
          refine zaG (k:=0) (l':=[.bool false]) zgj rfl rfl rfl rfl rfl (fun _ _=>rfl) rfl ?_
          refine zyN (zau ?_)
          cases h
          exact zbR (rs:=[.cell 0 4]) ds1 () (.inl rfl) (zaK (k:=2) rfl) Tryz.results7 (.cons (.cell zf2 (k:=0) rfl rfl) .nil) rfl Splits.nil
         refine zyR 14 rfl ?_
         refine zyR 14 rfl ?_
         refine zyR 14 rfl ?_
         refine zyR 5 rfl ?_
         refine zaG (k:=0) (l':=[.bool false]) zgj rfl rfl rfl rfl rfl (fun _ _=>rfl) rfl ?_
         refine zyN (zau ?_)
         cases h
         exact zbR (rs:=[.cell 0 4]) ds1 () (.inl rfl) (zaK (k:=2) rfl) Tryz.results7 (.cons (.cell zf2 (k:=0) rfl rfl) .nil) rfl Splits.nil
        refine zyR 14 rfl ?_
        refine zyR 14 rfl ?_
        refine zyR 14 rfl ?_
        refine zyR 9 rfl ?_
        refine zaG (k:=0) (l':=[.bool false]) zgj rfl rfl rfl rfl rfl (fun _ _=>rfl) rfl ?_
        refine zyN (zau ?_)
        cases h
        exact zbR (rs:=[.cell 0 4]) ds1 () (.inl rfl) (zaK (k:=2) rfl) Tryz.results7 (.cons (.cell zf2 (k:=0) rfl rfl) .nil) rfl Splits.nil
       refine zyR 14 rfl ?_
       refine zyR 14 rfl ?_
       refine zyR 14 rfl ?_
       refine zyR 14 rfl ?_
       refine zaG (k:=0) (l':=[.bool false]) zgj rfl rfl rfl rfl rfl (fun _ _=>rfl) rfl ?_
       refine zyN (zau ?_)
       cases h
       exact zbR (rs:=[.cell 0 4]) ds1 () (.inl rfl) (zaK (k:=2) rfl) Tryz.results7 (.cons (.cell zf2 (k:=0) rfl rfl) .nil) rfl Splits.nil
      refine zyR 14 rfl ?_
      refine zyR 14 rfl ?_
      refine zyR 14 rfl ?_
      refine zyR 14 rfl ?_
      refine zyR 5 rfl ?_
      refine zaG (k:=0) (l':=[.bool false]) zgj rfl rfl rfl rfl rfl (fun _ _=>rfl) rfl ?_
      refine zyN (zau ?_)
      cases h
      exact zbR (rs:=[.cell 0 4]) ds1 () (.inl rfl) (zaK (k:=2) rfl) Tryz.results7 (.cons (.cell zf2 (k:=0) rfl rfl) .nil) rfl Splits.nil
     refine zyR 14 rfl ?_
     refine zyR 14 rfl ?_
     refine zyR 14 rfl ?_
     refine zyR 14 rfl ?_
     refine zyR 10 rfl ?_
     refine zaG (k:=0) (l':=[.bool false]) zgj rfl rfl rfl rfl rfl (fun _ _=>rfl) rfl ?_
     refine zyN (zau ?_)
     cases h
     exact zbR (rs:=[.cell 0 4]) ds1 () (.inl rfl) (zaK (k:=2) rfl) Tryz.results7 (.cons (.cell zf2 (k:=0) rfl rfl) .nil) rfl Splits.nil
    refine zyR 14 rfl ?_
    refine zyR 14 rfl ?_
    refine zyR 14 rfl ?_
    refine zyR 14 rfl ?_
    refine zyR 14 rfl ?_
    refine zaG (k:=0) (l':=[.bool false]) zgj rfl rfl rfl rfl rfl (fun _ _=>rfl) rfl ?_
    refine zyN (zau ?_)
    cases h
    exact zbR (rs:=[.cell 0 4]) ds1 () (.inl rfl) (zaK (k:=2) rfl) Tryz.results7 (.cons (.cell zf2 (k:=0) rfl rfl) .nil) rfl Splits.nil
   refine zyR 14 rfl ?_
   refine zyR 14 rfl ?_
   refine zyR 14 rfl ?_
   refine zyR 14 rfl ?_
   refine zyR 14 rfl ?_
   refine zyR 4 rfl ?_
   refine zaG (k:=0) (l':=[.bool false]) zgj rfl rfl rfl rfl rfl (fun _ _=>rfl) rfl ?_
   refine zyN (zau ?_)
   cases h
   exact zbR (rs:=[.cell 0 4]) ds1 () (.inl rfl) (zaK (k:=2) rfl) Tryz.results7 (.cons (.cell zf2 (k:=0) rfl rfl) .nil) rfl Splits.nil
  refine zyR 14 rfl ?_
  refine zyR 14 rfl ?_
  refine zyR 14 rfl ?_
  refine zyR 14 rfl ?_
  refine zyR 14 rfl ?_
  refine zyR 8 rfl ?_
  refine zaG (k:=0) (l':=[.bool false]) zgj rfl rfl rfl rfl rfl (fun _ _=>rfl) rfl ?_
  refine zyN (zau ?_)
  cases h
  exact zbR (rs:=[.cell 0 4]) ds1 () (.inl rfl) (zaK (k:=2) rfl) Tryz.results7 (.cons (.cell zf2 (k:=0) rfl rfl) .nil) rfl Splits.nil
 refine zyR 14 rfl ?_
 refine zyR 14 rfl ?_
 refine zyR 14 rfl ?_
 refine zyR 14 rfl ?_
 refine zyR 14 rfl ?_
 refine zyR 12 rfl ?_
 refine zaG (k:=0) (l':=[.bool false]) zgj rfl rfl rfl rfl rfl (fun _ _=>rfl) rfl ?_
 refine zyN (zau ?_)
 cases h
 exact zbR (rs:=[.cell 0 4]) ds1 () (.inl rfl) (zaK (k:=2) rfl) Tryz.results7 (.cons (.cell zf2 (k:=0) rfl rfl) .nil) rfl Splits.nil
end Go.Proofs.YtbempdelckaccaaGreatDoor

namespace Go.Proofs.YtbempdelckaccaaGreatDoor
open Go.RowKit Go.Lib
set_option linter.unusedVariables false
set_option linter.unusedSimpArgs false
theorem zkd:zdZ=some true:=by decide +kernel
theorem pageNames_any (w:World):Calls Tryz.prog 7 #[] w fun e w'=>e=.returned (.bool true)∧Below w.heap.size w w' :=
 zgx zkd w
end Go.Proofs.YtbempdelckaccaaGreatDoor
