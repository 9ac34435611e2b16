/-
  Texts laid together: LgC, LgA, PgB, PgC, PgD, LgB, LgD, PgE. Nothing is assumed.
-/
import Derived.Test.YtbempdelckaccaaGreatDoorPageSets4
import Derived.Test.YtbempdelckaccaaGreatDoorPageSets2
import Derived.Test.YtbempdelckaccaaGreatDoorPageSets3
import Derived.Test.YtbempdelckaccaaGreatDoorPageSets5
set_option maxRecDepth 100000
set_option maxHeartbeats 4000000

namespace Go.Proofs.YtbempdelckaccaaGreatDoor
open Go.RowKit Go.Lib
set_option linter.unusedVariables false
set_option linter.unusedSimpArgs false
def zc0 (v1:List Gapi_Verse) (l1:Gapi_Layout) (sum4:Int) (k3:Int) (j2:(List Gapi_Row)→Int→Option ((List Gapi_Row)×Int)) (r1:((List ByteArray)×Int)) (ag2:(List Gapi_Row)→Int→Option ((List Gapi_Row)×Int)) (out8:List Gapi_Row) (p3:Int):Option ((List Gapi_Row)×Int) :=
zay (decide ((p3:Int)<(r1.1.length:Int))) (
zbk (fun (j3:Int→Int→Int→ByteArray→Option ((List Gapi_Row)×Int)) =>
zah (zbm v1 k3) fun (q2:Gapi_Verse) =>
zah (zbm r1.1 p3) fun (q3:ByteArray) =>
zay ((p3:Int)==0) (
zah (zbm v1 k3) fun (q4:Gapi_Verse) =>
zay (decide ((0:Int)<l1.Every)) (
grd (I64 (k3+1)) <|
grd (l1.Every≠0) <|
zay (((Int.tmod (k3+1) l1.Every):Int)==0) (
grd (I64 (k3+1)) <|
j3 q2.Stanza q4.Indent (k3+1) q3
) (
j3 q2.Stanza q4.Indent 0 q3
)
) (
j3 q2.Stanza q4.Indent 0 q3
)
) (
j3 q2.Stanza l1.Turn 0 q3
)
) (fun (r2:Int) (r3:Int) (r4:Int) (r5:ByteArray) =>
grd (out8.length+1≤2147483648) <|
grd (I64 (p3+1)) <|
ag2 (out8++[(⟨k3,r2,p3,r3,r4,r5⟩:Gapi_Row)]) (p3+1)
)
) (
j2 out8 (sum4+r1.2)
)
def zc1 (v1:List Gapi_Verse) (l1:Gapi_Layout) (j1:(List Gapi_Row)→Int→Option ((List Gapi_Row)×Int)) (ag1:(List Gapi_Row)→Int→Int→Option ((List Gapi_Row)×Int)) (out4:List Gapi_Row) (sum4:Int) (k3:Int):Option ((List Gapi_Row)×Int) :=
zay (decide ((k3:Int)<(v1.length:Int))) (
zbk (fun (j2:(List Gapi_Row)→Int→Option ((List Gapi_Row)×Int)) =>
zah (zbm v1 k3) fun (q1:Gapi_Verse) =>
zah (zfM q1.Text q1.Indent l1) fun (r1:((List ByteArray)×Int)) =>
grd (I64 (sum4+r1.2)) <|
zaE (fun _ _=>none) (zc0 v1 l1 sum4 k3 j2 r1) zbN out4 0
) (fun (out5:List Gapi_Row) (sum5:Int) =>
grd (I64 (k3+1)) <|
ag1 out5 sum5 (k3+1)
)
) (
j1 out4 sum4
)
def zfN (v1:List Gapi_Verse) (l1:Gapi_Layout):Option ((List Gapi_Row)×Int) :=
zbk (fun (j1:(List Gapi_Row)→Int→Option ((List Gapi_Row)×Int)) =>
zaE (fun _ _ _=>none) (zc1 v1 l1 j1) zbN ([]:List Gapi_Row) 0 0
) (fun (out1:List Gapi_Row) (sum1:Int) =>
some (out1,sum1)
)
theorem zmJ {vvv1 vv1:Value} {Lv1:List Gapi_Verse} {kv1:Nat} {v1:List Gapi_Verse} (hwv1:Vw vvv1 Lv1 6 kv1 vv1 v1) {l1:Gapi_Layout} {r:((List Gapi_Row)×Int)} (h:zfN v1 l1=some r):FnR Tryz.prog 14 [vv1,.agg (zr0 l1).toArray] [zfh zbF 6 vvv1 kv1 Lv1] [] (fun v0:Value=>.tuple #[v0,zI r.2]) (fun v0=>[zv1 v0 r.1]):=by
 unfold zfN at h
 refine FnR.intro Tryz.func14 rfl Tryz.ntmps14 (by simp) ?_
 intro w0 K hrd
 obtain ⟨j1,hj1,h⟩:=zbG h
 refine zaX (β:=(List Gapi_Row)×Int×Value) 3 rfl (fun b=>j1 b.1 b.2.1=some r) (fun b=>[]) (fun b=>[(6,b.2.2),(7,zI b.2.1)]) (fun b=>[zv1 b.2.2 b.1]) (fun cut => ?_) ?_
 ·
  refine zyG ?_
  refine zea rfl dc rfl (fun b1 => ?_)
  refine zyR 2 rfl (zyH (zyR 1 rfl (zyH (zyR 1 rfl (zyN ?_)))))
  refine cut (zyG (zyR 1 rfl (zyN (zaF (zcR (enc:=zbf) (e:=33) (size:=6) ?_)))))
  refine zbj (β:=Nat×(List Gapi_Row)×Int×Int×Value) (fun b=>zaE (fun _ _ _=>none) (zc1 v1 l1 j1) b.1 b.2.1 b.2.2.1 b.2.2.2.1=some r) (fun b=>[]) (fun b=>[(0,vv1),(3,zP b1),(6,b.2.2.2.2),(7,zI b.2.2.1),(8,zI b.2.2.2.1)]) (fun b=>[cells b1 (zr0 l1) 23,zv1 b.2.2.2.2 b.2.1]) (fun b=>b.1) (zbN,([]:List Gapi_Row),0,0,(.slice none 0 0)) h rfl (za0 rfl) (zad [0,1] kr rfl) ?_
  rintro ⟨n1,out4,sum4,k3,v5⟩ h
  cases n1 with
  | zero=>exact zdp h
  | succ n1 =>
   obtain ⟨ag1,hag1⟩:∃ ag,ag=zaE (fun _ _ _=>none) (zc1 v1 l1 j1) n1:=⟨_,rfl⟩
   have h:zc1 v1 l1 j1 ag1 out4 sum4 k3=some r:=by rw [hag1]; exact h
   unfold zc1 at h
   refine zaI (zyG (zyR 2 rfl (zdT hwv1 rfl dc rfl Tryz.underlying26 (zaU rfl zbc (zyN ?_)))))
   refine zyB rfl h (fun h => ?_) (fun h => ?_)
   ·
    refine zar (zaH ?_)
    obtain ⟨j2,hj2,h⟩:=zbG h
    refine zaX (β:=(List Gapi_Row)×Int×Value) 0 rfl (fun b=>j2 b.1 b.2.1=some r) (fun b=>[]) (fun b=>[(0,vv1),(3,zP b1),(6,b.2.2),(7,zI b.2.1),(8,zI k3)]) (fun b=>[cells b1 (zr0 l1) 23,zv1 b.2.2 b.1]) (fun cut => ?_) ?_
    ·
     refine cut (zaF (zaI ?_))
     obtain ⟨q1,hq1,h⟩:=zbi h
     obtain ⟨r1,hq2,h⟩:=zbi h
     refine zgs 1 ?_
     refine let vals1:(Value)→List (Nat×Nat×Value):=fun b=>[(0,20,vv1),(1,21,zI k3),(2,22,.pointer (some ⟨zbY vvv1,(kv1+(k3:Int).toNat)*6,none⟩)),(3,23,.pointer (some ⟨zbY vvv1,(kv1+(k3:Int).toNat)*6,none⟩)),(4,24,.string q1.Text),(5,25,vv1),(6,26,zI k3),(7,27,.pointer (some ⟨zbY vvv1,(kv1+(k3:Int).toNat)*6,none⟩)),(8,28,.pointer (some ⟨zbY vvv1,(kv1+(k3:Int).toNat)*6+1,none⟩)),(9,29,zI q1.Indent),(10,30,.agg (zr0 l1).toArray),(11,31,.tuple #[b,zI r1.2]),(12,19,.tuple #[b,zI r1.2]),(13,32,b),(14,33,zI r1.2),(15,9,b)]; let LL1:(Nat→Prop)→(Value)→List Asn:=fun D b=>[cells b1 (zr0 l1) 23,zv1 v5 out4,eD D emp [(11,zv5 b r1.1)]]; ?_
     refine zd3 (β:=Value) 16 (.slice none 0 0:Value) vals1 LL1 mixed kr kr dc (fun _=>rfl) (zdh (zae zb7 rfl)) (zaB ?_ (zaB ?_ (zaB ?_ (zaB ?_ (zaB ?_ (zaB ?_ (zaB ?_ (zaB ?_ (zaB ?_ (zaB ?_ (zaB ?_ (zaB ?_ (zaB ?_ (zaB ?_ (zaB ?_ (zaB ?_ DrawG.nil)))))))))))))))) ?_
     ·
      intro D b hn hd hcl
      revert b; intro v7
      refine zaL (zdh (zae (zak (fun hD=>hn (hcl 2 _ rfl (hcl 3 _ rfl (hcl 4 _ rfl (hcl 11 _ rfl hD 4 dc) 3 dc) 2 dc) 0 dc)) zaq) rfl)) ?_
      refine zeE rfl dc (zbe (by rfl) rfl) ?_
      exact zaW v7 0 (by rfl) (by rfl) rfl (znj (zcL rfl)) (zdh (zae ((zap (by rfl)).trans (zak (fun hD=>hn (hcl 2 _ rfl (hcl 3 _ rfl (hcl 4 _ rfl (hcl 11 _ rfl hD 4 dc) 3 dc) 2 dc) 0 dc)) zaq)) rfl))
     ·
      intro D b hn hd hcl
      revert b; intro v7
      refine zaL (zdh (zae (zak (fun hD=>hn (hcl 2 _ rfl (hcl 3 _ rfl (hcl 4 _ rfl (hcl 11 _ rfl hD 4 dc) 3 dc) 2 dc) 1 dc)) zaq) rfl)) ?_
      refine zeE rfl dc (zbe (by rfl) rfl) ?_
      exact zaW v7 1 (by rfl) (by rfl) rfl (znj (zcL rfl)) (zdh (zae ((zap (by rfl)).trans (zak (fun hD=>hn (hcl 2 _ rfl (hcl 3 _ rfl (hcl 4 _ rfl (hcl 11 _ rfl hD 4 dc) 3 dc) 2 dc) 1 dc)) zaq)) rfl))
     ·
      intro D b hn hd hcl
      revert b; intro v7
      refine zaL (zdh (zae (zak (fun hD=>hn (hcl 3 _ rfl (hcl 4 _ rfl (hcl 11 _ rfl hD 4 dc) 3 dc) 2 dc)) zaq) rfl)) ?_
      refine za9 hwv1 hq1 Tryz.underlying26 zlq rfl dc (zaa (m:=0) rfl rfl (hd 0 dc)) (zaa (m:=1) rfl rfl (hd 1 dc)) rfl ?_
      exact zaW v7 2 (by rfl) (by rfl) rfl (znj (zcL rfl)) (zdh (zae ((zap (by rfl)).trans (zak (fun hD=>hn (hcl 3 _ rfl (hcl 4 _ rfl (hcl 11 _ rfl hD 4 dc) 3 dc) 2 dc)) zaq)) rfl))
     ·
      intro D b hn hd hcl
      revert b; intro v7
      refine zaL (zdh (zae (zak (fun hD=>hn (hcl 4 _ rfl (hcl 11 _ rfl hD 4 dc) 3 dc)) zaq) rfl)) ?_
      refine zab zoB rfl dc (zaa (m:=2) rfl rfl (hd 2 dc)) (show _=(kv1+(k3:Int).toNat)*6 from rfl) ?_
      exact zaW v7 3 (by rfl) (by rfl) rfl (znj (zcL rfl)) (zdh (zae ((zap (by rfl)).trans (zak (fun hD=>hn (hcl 4 _ rfl (hcl 11 _ rfl hD 4 dc) 3 dc)) zaq)) rfl))
     ·
      intro D b hn hd hcl
      revert b; intro v7
      refine zaL (zdh (zae (zak (fun hD=>hn (hcl 11 _ rfl hD 4 dc)) zaq) rfl)) ?_
      refine zca (n:=kv1+(k3:Int).toNat) (j:=0) (i:=0) (q:=q1) hrd rfl (by omega) zp7 rfl dc (zaa (m:=3) rfl rfl (hd 3 dc)) (Vw.get hwv1 hq1) rfl rfl ?_
      exact zaW v7 4 (by rfl) (by rfl) rfl (znj (zcL rfl)) (zdh (zae ((zap (by rfl)).trans (zak (fun hD=>hn (hcl 11 _ rfl hD 4 dc)) zaq)) rfl))
     ·
      intro D b hn hd hcl
      revert b; intro v7
      refine zaL (zdh (zae (zak (fun hD=>hn (hcl 7 _ rfl (hcl 8 _ rfl (hcl 9 _ rfl (hcl 11 _ rfl hD 9 dc) 8 dc) 7 dc) 5 dc)) zaq) rfl)) ?_
      refine zeE rfl dc (zbe (by rfl) rfl) ?_
      exact zaW v7 5 (by rfl) (by rfl) rfl (znj (zcL rfl)) (zdh (zae ((zap (by rfl)).trans (zak (fun hD=>hn (hcl 7 _ rfl (hcl 8 _ rfl (hcl 9 _ rfl (hcl 11 _ rfl hD 9 dc) 8 dc) 7 dc) 5 dc)) zaq)) rfl))
     ·
      intro D b hn hd hcl
      revert b; intro v7
      refine zaL (zdh (zae (zak (fun hD=>hn (hcl 7 _ rfl (hcl 8 _ rfl (hcl 9 _ rfl (hcl 11 _ rfl hD 9 dc) 8 dc) 7 dc) 6 dc)) zaq) rfl)) ?_
      refine zeE rfl dc (zbe (by rfl) rfl) ?_
      exact zaW v7 6 (by rfl) (by rfl) rfl (znj (zcL rfl)) (zdh (zae ((zap (by rfl)).trans (zak (fun hD=>hn (hcl 7 _ rfl (hcl 8 _ rfl (hcl 9 _ rfl (hcl 11 _ rfl hD 9 dc) 8 dc) 7 dc) 6 dc)) zaq)) rfl))
     ·
      intro D b hn hd hcl
      revert b; intro v7
      refine zaL (zdh (zae (zak (fun hD=>hn (hcl 8 _ rfl (hcl 9 _ rfl (hcl 11 _ rfl hD 9 dc) 8 dc) 7 dc)) zaq) rfl)) ?_
      refine za9 hwv1 hq1 Tryz.underlying26 zlq rfl dc (zaa (m:=5) rfl rfl (hd 5 dc)) (zaa (m:=6) rfl rfl (hd 6 dc)) rfl ?_
      exact zaW v7 7 (by rfl) (by rfl) rfl (znj (zcL rfl)) (zdh (zae ((zap (by rfl)).trans (zak (fun hD=>hn (hcl 8 _ rfl (hcl 9 _ rfl (hcl 11 _ rfl hD 9 dc) 8 dc) 7 dc)) zaq)) rfl))
     ·
      intro D b hn hd hcl
      revert b; intro v7
      refine zaL (zdh (zae (zak (fun hD=>hn (hcl 9 _ rfl (hcl 11 _ rfl hD 9 dc) 8 dc)) zaq) rfl)) ?_
      refine zab zmW rfl dc (zaa (m:=7) rfl rfl (hd 7 dc)) (show _=(kv1+(k3:Int).toNat)*6+1 from rfl) ?_
      exact zaW v7 8 (by rfl) (by rfl) rfl (znj (zcL rfl)) (zdh (zae ((zap (by rfl)).trans (zak (fun hD=>hn (hcl 9 _ rfl (hcl 11 _ rfl hD 9 dc) 8 dc)) zaq)) rfl))
     ·
      intro D b hn hd hcl
      revert b; intro v7
      refine zaL (zdh (zae (zak (fun hD=>hn (hcl 11 _ rfl hD 9 dc)) zaq) rfl)) ?_
      refine zca (n:=kv1+(k3:Int).toNat) (j:=1) (i:=0) (q:=q1) hrd rfl (by omega) zbp rfl dc (zaa (m:=8) rfl rfl (hd 8 dc)) (Vw.get hwv1 hq1) rfl rfl ?_
      exact zaW v7 9 (by rfl) (by rfl) rfl (znj (zcL rfl)) (zdh (zae ((zap (by rfl)).trans (zak (fun hD=>hn (hcl 11 _ rfl hD 9 dc)) zaq)) rfl))
     ·
      intro D b hn hd hcl
      revert b; intro v7
      refine zaL (zdh (zae (zak (fun hD=>hn (hcl 11 _ rfl hD 10 dc)) zaq) rfl)) ?_
      refine zbd (k:=0) (cs:=(zr0 l1)) zja rfl dc (zbe (by rfl) rfl) rfl rfl rfl ?_
      exact zaW v7 10 (by rfl) (by rfl) rfl (znj (zcL rfl)) (zdh (zae ((zap (by rfl)).trans (zak (fun hD=>hn (hcl 11 _ rfl hD 10 dc)) zaq)) rfl))
     ·
      intro D b hn hd hcl
      revert b; intro _b
      refine zaL (zdh (zae (zak hn zaq) rfl)) (zes (vs:=[.string q1.Text,zI q1.Indent,.agg (zr0 l1).toArray]) rfl dc rfl (evL.cons (zaa (m:=4) rfl rfl (hd 4 dc)) (evL.cons (zaa (m:=9) rfl rfl (hd 9 dc)) (evL.cons (zaa (m:=10) rfl rfl (hd 10 dc)) evL.nil))) rfl zxx (zmI (l1:=l1) hq2) Splits.nil ?_)
      rintro v7
      refine zep (L':=[cells b1 (zr0 l1) 23,zv1 v5 out4,emp,zv5 v7 r1.1]) (zad [0,1,2,3] kr rfl) (zcU 2 rfl rfl ?_)
      exact zaW v7 11 (by rfl) (by rfl) rfl (ztC (zas (fun hD=>absurd hD hn) (zas (fun hD=>absurd (hcl 12 _ rfl hD 11 dc) hn) (zas (fun hD=>absurd (hcl 12 _ rfl (hcl 13 _ rfl hD 12 dc) 11 dc) hn) (zas (fun _=>rfl) (zas (fun hD=>absurd (hcl 15 _ rfl hD 11 dc) hn) rfl)))))) (zdh (zae (zaM (Or.inr rfl) rfl) rfl))
     ·
      intro D b hn hd hcl
      revert b; intro v7
      refine zaL (zdh (zae (zaM (hd 11 dc) rfl) rfl)) (zeE rfl dc (zaa (m:=11) rfl rfl (hd 11 dc)) ?_)
      exact zaW v7 12 (by rfl) (by rfl) rfl (znj (zcL rfl)) (zdh (zae ((zap (by rfl)).trans (zaM (hd 11 dc) rfl)) rfl))
     ·
      intro D b hn hd hcl
      revert b; intro v7
      refine zaL (zdh (zae (zaM (hcl 12 _ rfl (hd 12 dc) 11 dc) rfl) rfl)) (zaN rfl dc (zaa (m:=12) rfl rfl (hd 12 dc)) rfl ?_)
      exact zaW v7 13 (by rfl) (by rfl) rfl (znj (zcL rfl)) (zdh (zae ((zap (by rfl)).trans (zaM (hcl 12 _ rfl (hd 12 dc) 11 dc) rfl)) rfl))
     ·
      intro D b hn hd hcl
      revert b; intro v7
      refine zaL (zdh (zae (zaM (hcl 12 _ rfl (hd 12 dc) 11 dc) rfl) rfl)) (zaN rfl dc (zaa (m:=12) rfl rfl (hd 12 dc)) rfl ?_)
      exact zaW v7 14 (by rfl) (by rfl) rfl (znj (zcL rfl)) (zdh (zae ((zap (by rfl)).trans (zaM (hcl 12 _ rfl (hd 12 dc) 11 dc) rfl)) rfl))
     ·
      intro D b hn hd hcl
      revert b; intro v7
      refine zaL (zdh (zae (zaM (hd 11 dc) rfl) rfl)) (zgX rfl dc (zaa (m:=13) rfl rfl (hd 13 dc)) ?_)
      exact zaW v7 15 (by rfl) (by rfl) rfl (znj (zcL rfl)) (zdh (zae ((zap (by rfl)).trans (zaM (hd 11 dc) rfl)) rfl))
     intro D b hall
     revert b; intro v7
     refine zaL (zdh (zae (zaM (hall 11 dc) rfl) rfl)) (zyR 1 rfl (zyH (zyR 2 rfl ?_)))
     obtain ⟨hg1,h⟩:=zbr h
     refine zaU rfl (zaR (r:=sum4+r1.2) (IntWalk.i64_in _ hg1)) (zyR 1 rfl (zyH (zyR 1 rfl (zyN (zaF ?_)))))
     refine zbj (β:=Nat×(List Gapi_Row)×Int×Value) (fun b=>zaE (fun _ _=>none) (zc0 v1 l1 sum4 k3 j2 r1) b.1 b.2.1 b.2.2.1=some r) (fun b=>[]) (fun b=>[(0,vv1),(3,zP b1),(6,b.2.2.2),(7,zI (sum4+r1.2)),(8,zI k3),(9,v7),(11,zI b.2.2.1)]) (fun b=>[cells b1 (zr0 l1) 23,zv1 b.2.2.2 b.2.1,zv5 v7 r1.1]) (fun b=>b.1) (zbN,out4,0,v5) h rfl (za0 rfl) (zad [0,1,2] kr rfl) ?_
     rintro ⟨n2,out8,p3,v10⟩ h
     cases n2 with
     | zero=>exact zdp h
     | succ n2 =>
      obtain ⟨ag2,hag2⟩:∃ ag,ag=zaE (fun _ _=>none) (zc0 v1 l1 sum4 k3 j2 r1) n2:=⟨_,rfl⟩
      have h:zc0 v1 l1 sum4 k3 j2 r1 ag2 out8 p3=some r:=by rw [hag2]; exact h
      unfold zc0 at h
      refine zaI (zyG (zyR 2 rfl (zbg (k:=2) rfl dc rfl rfl Tryz.underlying70 (zaU rfl zbc (zyN ?_)))))
      refine zyB rfl h (fun h => ?_) (fun h => ?_)
      ·
       refine zar (zaH (zaI (zaF ?_)))
       obtain ⟨j3,hj3,h⟩:=zbG h
       refine zaX (β:=Int×Int×Int×ByteArray×Nat) 1 rfl (fun b=>j3 b.1 b.2.1 b.2.2.1 b.2.2.2.1=some r) (fun b=>[]) (fun b=>[(0,vv1),(3,zP b1),(6,v10),(7,zI (sum4+r1.2)),(8,zI k3),(9,v7),(11,zI p3),(12,zP b.2.2.2.2)]) (fun b=>[cells b1 (zr0 l1) 23,zv1 v10 out8,zv5 v7 r1.1,cells b.2.2.2.2 [zI k3,zI b.1,zI p3,zI b.2.1,zI b.2.2.1,.string b.2.2.2.1] 33]) (fun cut => ?_) ?_
       ·
        refine zaI ?_
        obtain ⟨q2,hq3,h⟩:=zbi h
        obtain ⟨q3,hq4,h⟩:=zbi h
        refine zhV (β:=Nat) 15 14 _ [(0,43,zI k3),(1,44,vv1),(2,45,zI k3),(3,46,.pointer (some ⟨zbY vvv1,(kv1+(k3:Int).toNat)*6,none⟩)),(4,47,.pointer (some ⟨zbY vvv1,(kv1+(k3:Int).toNat)*6+2,none⟩)),(5,48,zI q2.Stanza),(6,49,zI p3),(7,50,.pointer (some ⟨b1,2,none⟩)),(8,51,zI l1.Turn),(9,52,v7),(10,53,zI p3),(11,54,.pointer (some ⟨zbY v7,(p3:Int).toNat*1,none⟩)),(12,55,.string q3),(13,56,.agg #[zI k3,zI q2.Stanza,zI p3,zI l1.Turn,zI 0,.string q3])] (fun b3=>[(12,zP b3)]) (fun b3=>[cells b1 (zr0 l1) 23,zv1 v10 out8,zv5 v7 r1.1,cells b3 [zI 0,zI 0,zI 0,zI 0,zI 0,.string ByteArray.empty] 33]) mixed kr kr rfl dc dc (by rfl) kr kr (zyE 3 0 rfl (zai ?_ (zai ?_ (zai ?_ (zyE 1 6 rfl (zai ?_ (zai ?_ (zyE 2 9 rfl (zai ?_ (zai ?_ (zai ?_ (zcD DrawPreX.nil)))))))))))) (fun b3=>(zyE 3 0 rfl (zai ?_ (zai ?_ (zai ?_ (zyE 1 6 rfl (zai ?_ (zai ?_ (zyE 2 9 rfl (zai ?_ (zai ?_ (zai ?_ (zcD DrawPreX.nil))))))))))))) ?_ ?_
        · exact fun D n d c u i=>za9 hwv1 hq3 Tryz.underlying26 zlq rfl dc (zaa (m:=1) u rfl (d 1 dc)) (zaa (m:=2) u rfl (d 2 dc)) rfl (zaf 3 u i rfl)
        · exact fun D n d c u i=>zab zjj rfl dc (zaa (m:=3) u rfl (d 3 dc)) (show _=(kv1+(k3:Int).toNat)*6+2 from rfl) (zaf 4 u i rfl)
        · exact fun D n d c u i=>zca (n:=kv1+(k3:Int).toNat) (j:=2) (i:=0) (q:=q2) hrd rfl (by omega) zbp rfl dc (zaa (m:=4) u rfl (d 4 dc)) (Vw.get hwv1 hq3) rfl rfl (zaf 5 u i rfl)
        · exact fun D n d c u i=>zab zg4 rfl dc (zbe (by rfl) rfl) (show _=2 from rfl) (zaf 7 u i rfl)
        · exact fun D n d c u i=>zau (k:=0) zbp rfl dc (zaa (m:=7) u rfl (d 7 dc)) rfl rfl (zaf 8 u i rfl)
        · exact fun D n d c u i=>zaj (k:=2) hq4 Tryz.underlying70 ztO rfl dc (zaa (m:=9) u rfl (d 9 dc)) (zaa (m:=10) u rfl (d 10 dc)) rfl rfl (zaf 11 u i rfl)
        · exact fun D n d c u i=>zaA (i:=(p3:Int).toNat) (j:=0) (k:=2) (q:=q3) zp7 zg9 rfl dc (zaa (m:=11) u rfl (d 11 dc)) rfl (zaz hq4) rfl dc rfl (zaf 12 u i rfl)
        · exact fun D n d c u i=>zba (v:=.agg #[zI k3,zI q2.Stanza,zI p3,zI l1.Turn,zI 0,.string q3]) (ps:=[(0,.tmp 43),(1,.tmp 48),(2,.tmp 49),(3,.tmp 51),(5,.tmp 55)]) rfl dc (evP.cons (zaa (m:=0) u rfl (d 0 dc)) (evP.cons (zaa (m:=5) u rfl (d 5 dc)) (evP.cons (zaa (m:=6) u rfl (d 6 dc)) (evP.cons (zaa (m:=8) u rfl (d 8 dc)) (evP.cons (zaa (m:=12) u rfl (d 12 dc)) evP.nil))))) (fun _=>by kernel_rfl) (zaf 13 u i rfl)
        · exact fun D n d c u i=>za9 hwv1 hq3 Tryz.underlying26 zlq rfl dc (zaa (m:=1) u rfl (d 1 dc)) (zaa (m:=2) u rfl (d 2 dc)) rfl (zaf 3 u i rfl)
        · exact fun D n d c u i=>zab zjj rfl dc (zaa (m:=3) u rfl (d 3 dc)) (show _=(kv1+(k3:Int).toNat)*6+2 from rfl) (zaf 4 u i rfl)
        · exact fun D n d c u i=>zca (n:=kv1+(k3:Int).toNat) (j:=2) (i:=0) (q:=q2) hrd rfl (by omega) zbp rfl dc (zaa (m:=4) u rfl (d 4 dc)) (Vw.get hwv1 hq3) rfl rfl (zaf 5 u i rfl)
        · exact fun D n d c u i=>zab zg4 rfl dc (zbe (by rfl) rfl) (show _=2 from rfl) (zaf 7 u i rfl)
        · exact fun D n d c u i=>zau (k:=0) zbp rfl dc (zaa (m:=7) u rfl (d 7 dc)) rfl rfl (zaf 8 u i rfl)
        · exact fun D n d c u i=>zaj (k:=2) hq4 Tryz.underlying70 ztO rfl dc (zaa (m:=9) u rfl (d 9 dc)) (zaa (m:=10) u rfl (d 10 dc)) rfl rfl (zaf 11 u i rfl)
        · exact fun D n d c u i=>zaA (i:=(p3:Int).toNat) (j:=0) (k:=2) (q:=q3) zp7 zg9 rfl dc (zaa (m:=11) u rfl (d 11 dc)) rfl (zaz hq4) rfl dc rfl (zaf 12 u i rfl)
        · exact fun D n d c u i=>zba (v:=.agg #[zI k3,zI q2.Stanza,zI p3,zI l1.Turn,zI 0,.string q3]) (ps:=[(0,.tmp 43),(1,.tmp 48),(2,.tmp 49),(3,.tmp 51),(5,.tmp 55)]) rfl dc (evP.cons (zaa (m:=0) u rfl (d 0 dc)) (evP.cons (zaa (m:=5) u rfl (d 5 dc)) (evP.cons (zaa (m:=6) u rfl (d 6 dc)) (evP.cons (zaa (m:=8) u rfl (d 8 dc)) (evP.cons (zaa (m:=12) u rfl (d 12 dc)) evP.nil))))) (fun _=>by kernel_rfl) (zaf 13 u i rfl)
        ·
         intro D hn hd hcl
         refine zbE zoh rfl dc (fun b3 => ?_)
         exact fun a w ha hw=>⟨b3,zld (by rfl) _ _ _ ha,hw⟩
        intro b3
        refine za6 (k:=3) (vs:=[zI k3,zI q2.Stanza,zI p3,zI l1.Turn,zI 0,.string q3]) (l':=[zI k3,zI q2.Stanza,zI p3,zI l1.Turn,zI 0,.string q3]) zeb rfl rfl rfl rfl rfl (show _≤_ by simp) rfl rfl (zyN (cut (zyG (zyR 1 rfl (zaU rfl zaT (zyN ?_))))))
        refine zyB rfl h (fun h => ?_) (fun h => ?_)
        ·
         refine zyG (zyR 2 rfl ?_)
         obtain ⟨q4,hq5,h⟩:=zbi h
         refine za9 hwv1 hq5 Tryz.underlying26 zlq rfl dc rfl rfl rfl (zab zmW rfl dc rfl (show _=(kv1+(k3:Int).toNat)*6+1 from rfl) (zca (n:=kv1+(k3:Int).toNat) (j:=1) (i:=0) (q:=q4) hrd rfl (by omega) zbp rfl dc rfl (Vw.get hwv1 hq5) rfl rfl (zab zrk rfl dc rfl (show _=3 from rfl) ?_)))
         refine zbb (k:=3) (l':=[zI k3,zI q2.Stanza,zI p3,zI q4.Indent,zI 0,.string q3]) zcs rfl rfl rfl rfl rfl (fun _ _=>rfl) rfl ?_
         refine zyH (zab zhA rfl dc rfl (show _=3 from rfl) (zau (k:=0) zbp rfl dc rfl rfl rfl (zaU rfl zct (zyR 1 rfl ?_))))
         refine zyS (s:=68) rfl h (fun h => ?_) (fun h => ?_)
         ·
          refine zyR 1 rfl ?_
          obtain ⟨hg2,h⟩:=zbr h
          refine zaU rfl (zaR (r:=k3+1) (IntWalk.i64_in _ hg2)) (zab zhA rfl dc rfl (show _=3 from rfl) (zau (k:=0) zbp rfl dc rfl rfl rfl ?_))
          obtain ⟨hg3,h⟩:=zbr h
          refine zaU rfl (zrI hg3 rfl) (zaU rfl zaT (zyR 1 rfl (zyN ?_)))
          refine zyB rfl h (fun h => ?_) (fun h => ?_)
          ·
           refine zav (zyR 1 rfl ?_)
           obtain ⟨hg4,h⟩:=zbr h
           refine zaU rfl (zaR (r:=k3+1) (IntWalk.i64_in _ hg4)) (zab zrj rfl dc rfl (show _=4 from rfl) ?_)
           refine zbb (k:=3) (l':=[zI k3,zI q2.Stanza,zI p3,zI q4.Indent,zI (k3+1),.string q3]) zcs rfl rfl rfl rfl rfl (fun _ _=>rfl) rfl ?_
           refine zaO ?_
           exact zal (q2.Stanza,q4.Indent,k3+1,q3,b3) h rfl (za0 rfl) (zad [0,1,2,3] kr rfl)
          refine zar ?_
          exact zal (q2.Stanza,q4.Indent,0,q3,b3) h rfl (za0 rfl) (zad [0,1,2,3] kr rfl)
         refine zyR 7 rfl (zyN (zaS rfl (zar ?_)))
         exact zal (q2.Stanza,q4.Indent,0,q3,b3) h rfl (za0 rfl) (zad [0,1,2,3] kr rfl)
        refine zar ?_
        exact zal (q2.Stanza,l1.Turn,0,q3,b3) h rfl (za0 rfl) (zad [0,1,2,3] kr rfl)
       rintro ⟨r2,r3,r4,r5,b2⟩ h
       rw [hj3] at h
       refine zav (zyR 1 rfl (zbd (k:=3) (cs:=[zI k3,zI r2,zI p3,zI r3,zI r4,.string r5]) zia rfl dc rfl rfl rfl rfl ?_))
       refine zaV (cs:=[zI k3,zI r2,zI p3,zI r3,zI r4,.string r5]) (te:=33) (ps:=[(0,.tmp 80)]) rfl dc rfl (fun _=>by kernel_rfl) (fun b4 => ?_)
       obtain ⟨hg5,h⟩:=zbr h
       refine za4 (k:=1) (k2:=4) (ys:=[(⟨k3,r2,p3,r3,r4,r5⟩:Gapi_Row)]) Tryz.underlying43 zoD za8 zdm rfl dc rfl rfl rfl rfl rfl rfl hg5 (fun v11 => ?_)
       refine zyR 1 rfl (zaO (zag (zaH (zav (zyR 1 rfl ?_)))))
       obtain ⟨hg6,h⟩:=zbr h
       refine zaU rfl (zaR (r:=p3+1) (IntWalk.i64_in _ hg6)) (zyR 1 rfl (zaO ?_))
       subst hag2
       exact za1 (n2,out8++[(⟨k3,r2,p3,r3,r4,r5⟩:Gapi_Row)],p3+1,v11) h (Nat.lt_succ_self _) rfl (za0 rfl) (zad [0,1,2] kr rfl)
      refine za3 (zan (zan (zax (zag ?_))))
      exact zal (out8,sum4+r1.2,v10) h rfl (za0 rfl) (zad [0,1] kr rfl)
    rintro ⟨out5,sum5,v6⟩ h
    rw [hj2] at h
    refine zav (zyR 1 rfl ?_)
    obtain ⟨hg7,h⟩:=zbr h
    refine zaU rfl (zaR (r:=k3+1) (IntWalk.i64_in _ hg7)) (zyR 1 rfl (zaO ?_))
    subst hag1
    exact za1 (n1,out5,sum5,k3+1,v6) h (Nat.lt_succ_self _) rfl (za0 rfl) (zad [0,1] kr rfl)
   refine za3 (zan (zan (zax ?_)))
   exact zal (out4,sum4,v5) h rfl (za0 rfl) (zad [1] kr rfl)
 rintro ⟨out1,sum1,v2⟩ h
 rw [hj1] at h
 refine zyG (zyR 4 rfl (zyN (zaG ?_)))
 cases h
 exact zaK (rs:=[.tmp 4,.tmp 5]) v2 (.inl rfl) Tryz.results14 (.cons (.tmp rfl) (.cons (.tmp rfl) .nil)) rfl (zad [0] kr rfl)
def zc2 (rows1:List Gapi_Row) (j1:Int→Option Int) (ag1:Int→Int→Option Int) (n4:Int) (i3:Int):Option Int :=
zay (decide ((i3:Int)<(rows1.length:Int))) (
zbk (fun (j2:Int→Option Int) =>
zah (zbm rows1 i3) fun (q1:Gapi_Row) =>
grd (I64 (i3 - 1)) <|
zah (zbm rows1 (i3 - 1)) fun (q2:Gapi_Row) =>
zay ((q1.Stanza:Int) != q2.Stanza) (
grd (I64 (n4+1)) <|
j2 (n4+1)
) (
j2 n4
)
) (fun (n6:Int) =>
grd (I64 (i3+1)) <|
ag1 n6 (i3+1)
)
) (
j1 n4
)
def zfP (rows1:List Gapi_Row):Option Int :=
zbk (fun (j1:Int→Option Int) =>
zaE (fun _ _=>none) (zc2 rows1 j1) zbN (rows1.length:Int) 1
) (fun (n1:Int) =>
some n1
)
theorem zmM {vvrows1 vrows1:Value} {Lrows1:List Gapi_Row} {krows1:Nat} {rows1:List Gapi_Row} (hwrows1:Vw vvrows1 Lrows1 6 krows1 vrows1 rows1) {r:Int} (h:zfP rows1=some r):FnR Tryz.prog 15 [vrows1] [zfh zbf 6 vvrows1 krows1 Lrows1] [] (fun _:Unit=>(zI r)) (fun _=>[]):=by
 unfold zfP at h
 refine FnR.intro Tryz.func15 rfl Tryz.ntmps15 (by simp) ?_
 intro w0 K hrd
 obtain ⟨j1,hj1,h⟩:=zbG h
 refine zaX (β:=Int) 2 rfl (fun b=>j1 b=some r) (fun b=>[]) (fun b=>[(3,zI b)]) (fun b=>[]) (fun cut => ?_) ?_
 ·
  refine zyG (zyR 1 rfl (zyH (zyR 1 rfl (zdT hwrows1 rfl dc rfl Tryz.underlying43 (zyR 1 rfl (zyN (cut (zaI ?_))))))))
  refine zav (zyR 1 rfl (zyN (zaF ?_)))
  refine zbj (β:=Nat×Int×Int) (fun b=>zaE (fun _ _=>none) (zc2 rows1 j1) b.1 b.2.1 b.2.2=some r) (fun b=>[]) (fun b=>[(0,vrows1),(3,zI b.2.1),(4,zI b.2.2)]) (fun b=>[]) (fun b=>b.1) (zbN,(rows1.length:Int),1) h rfl (za0 rfl) Splits.nil ?_
  rintro ⟨n5,n4,i3⟩ h
  cases n5 with
  | zero=>exact zdp h
  | succ n5 =>
   obtain ⟨ag1,hag1⟩:∃ ag,ag=zaE (fun _ _=>none) (zc2 rows1 j1) n5:=⟨_,rfl⟩
   have h:zc2 rows1 j1 ag1 n4 i3=some r:=by rw [hag1]; exact h
   unfold zc2 at h
   refine zaI (zyG (zyR 2 rfl (zdT hwrows1 rfl dc rfl Tryz.underlying43 (zaU rfl zbc (zyN ?_)))))
   refine zyB rfl h (fun h => ?_) (fun h => ?_)
   ·
    refine zar (zaH ?_)
    obtain ⟨j2,hj2,h⟩:=zbG h
    refine zaX (β:=Int) 0 rfl (fun b=>j2 b=some r) (fun b=>[]) (fun b=>[(0,vrows1),(3,zI b),(4,zI i3)]) (fun b=>[]) (fun cut => ?_) ?_
    ·
     refine cut (zaF (zaI ?_))
     obtain ⟨q1,hq1,h⟩:=zbi h
     obtain ⟨hg1,h⟩:=zbr h
     obtain ⟨q2,hq2,h⟩:=zbi h
     refine zbn 11 [(0,13,vrows1),(1,14,zI i3),(2,15,.pointer (some ⟨zbY vvrows1,(krows1+(i3:Int).toNat)*6,none⟩)),(3,16,.pointer (some ⟨zbY vvrows1,(krows1+(i3:Int).toNat)*6+1,none⟩)),(4,17,zI q1.Stanza),(5,18,vrows1),(6,19,zI i3),(7,20,zI (i3 - 1)),(8,21,.pointer (some ⟨zbY vvrows1,(krows1+(i3 - 1:Int).toNat)*6,none⟩)),(9,22,.pointer (some ⟨zbY vvrows1,(krows1+(i3 - 1:Int).toNat)*6+1,none⟩)),(10,23,zI q2.Stanza)] mixed kr kr dc (by rfl) kr kr (zyP 2 0 rfl (zac ?_ (zac ?_ (zac ?_ (zyP 2 5 rfl (zac ?_ (zac ?_ (zac ?_ (zac ?_ DrawPre.nil))))))))) ?_
     · exact fun D n d c u i=>za9 hwrows1 hq1 Tryz.underlying43 zeb rfl dc (zaa (m:=0) u rfl (d 0 dc)) (zaa (m:=1) u rfl (d 1 dc)) rfl (zaf 2 u i rfl)
     · exact fun D n d c u i=>zab zd0 rfl dc (zaa (m:=2) u rfl (d 2 dc)) (show _=(krows1+(i3:Int).toNat)*6+1 from rfl) (zaf 3 u i rfl)
     · exact fun D n d c u i=>zca (n:=krows1+(i3:Int).toNat) (j:=1) (i:=0) (q:=q1) hrd rfl (by omega) zbp rfl dc (zaa (m:=3) u rfl (d 3 dc)) (Vw.get hwrows1 hq1) rfl rfl (zaf 4 u i rfl)
     · exact fun D n d c u i=>zbz rfl dc (zaa (m:=6) u rfl (d 6 dc)) rfl (zbt (r:=i3 - 1) (IntWalk.i64_in _ hg1)) (zaf 7 u i rfl)
     · exact fun D n d c u i=>za9 hwrows1 hq2 Tryz.underlying43 zeb rfl dc (zaa (m:=5) u rfl (d 5 dc)) (zaa (m:=7) u rfl (d 7 dc)) rfl (zaf 8 u i rfl)
     · exact fun D n d c u i=>zab zd0 rfl dc (zaa (m:=8) u rfl (d 8 dc)) (show _=(krows1+(i3 - 1:Int).toNat)*6+1 from rfl) (zaf 9 u i rfl)
     · exact fun D n d c u i=>zca (n:=krows1+(i3 - 1:Int).toNat) (j:=1) (i:=0) (q:=q2) hrd rfl (by omega) zbp rfl dc (zaa (m:=9) u rfl (d 9 dc)) (Vw.get hwrows1 hq2) rfl rfl (zaf 10 u i rfl)
     refine zaU rfl zbS (zyN ?_)
     refine zyB rfl h (fun h => ?_) (fun h => ?_)
     ·
      refine zav (zyR 1 rfl ?_)
      obtain ⟨hg2,h⟩:=zbr h
      refine zaU rfl (zaR (r:=n4+1) (IntWalk.i64_in _ hg2)) (zyR 1 rfl (zaO (zag ?_)))
      exact zal (n4+1) h rfl (za0 rfl) Splits.nil
     refine zar (zag ?_)
     exact zal n4 h rfl (za0 rfl) Splits.nil
    rintro n6 h
    rw [hj2] at h
    refine zav (zyR 1 rfl ?_)
    obtain ⟨hg3,h⟩:=zbr h
    refine zaU rfl (zaR (r:=i3+1) (IntWalk.i64_in _ hg3)) (zyR 1 rfl (zaO ?_))
    subst hag1
    exact za1 (n5,n6,i3+1) h (Nat.lt_succ_self _) rfl (za0 rfl) Splits.nil
   refine za3 (zan (zan (zax ?_)))
   exact zal n4 h rfl (za0 rfl) Splits.nil
 rintro n1 h
 rw [hj1] at h
 refine zyG (zyR 2 rfl (zyN (zaG ?_)))
 cases h
 exact zaK (rs:=[.tmp 2]) () (.inl rfl) Tryz.results15 (.cons (.tmp rfl) .nil) rfl Splits.nil
def zdu (rows1:List Gapi_Row) (q1:Gapi_Row) (q2:Gapi_Row) (j1:Bool→Bool→Option Int) (ag1:Bool→Bool→Int→Option Int) (first4:Bool) (last4:Bool) (i3:Int):Option Int :=
zay (decide ((i3:Int)<(rows1.length:Int))) (
zbk (fun (j2:Bool→Bool→Option Int) =>
zbk (fun (j3:Bool→Option Int) =>
zah (zbm rows1 i3) fun (q3:Gapi_Row) =>
zay ((q3.Stanza:Int)==q1.Stanza) (
zay (decide ((q3.Line:Int)<q1.Line)) (
j3 false
) (
j3 first4
)
) (
j3 first4
)
) (fun (first6:Bool) =>
zah (zbm rows1 i3) fun (q4:Gapi_Row) =>
zay ((q4.Stanza:Int)==q1.Stanza) (
zay (decide ((q2.Line:Int)<q4.Line)) (
j2 first6 false
) (
j2 first6 last4
)
) (
j2 first6 last4
)
)
) (fun (first5:Bool) (last5:Bool) =>
grd (I64 (i3+1)) <|
ag1 first5 last5 (i3+1)
)
) (
j1 first4 last4
)
def zgh (rows1:List Gapi_Row) (k1:Int):Option Int :=
grd (I64 (k1 - 1)) <|
zah (zbm rows1 (k1 - 1)) fun (q1:Gapi_Row) =>
zah (zbm rows1 k1) fun (q2:Gapi_Row) =>
zay ((q1.Stanza:Int) != q2.Stanza) (
some 0
) (
zay ((q1.Line:Int)==q2.Line) (
some 100
) (
zbk (fun (j1:Bool→Bool→Option Int) =>
zaE (fun _ _ _=>none) (zdu rows1 q1 q2 j1) zbN true true 0
) (fun (first1:Bool) (last1:Bool) =>
zay (first1) (
some 50
) (
zay (last1) (
some 50
) (
some 10
)
)
)
)
)
theorem znH {vvrows1 vrows1:Value} {Lrows1:List Gapi_Row} {krows1:Nat} {rows1:List Gapi_Row} (hwrows1:Vw vvrows1 Lrows1 6 krows1 vrows1 rows1) {k1:Int} {r:Int} (h:zgh rows1 k1=some r):FnR Tryz.prog 43 [vrows1,zI k1] [zfh zbf 6 vvrows1 krows1 Lrows1] [] (fun _:Unit=>(zI r)) (fun _=>[]):=by
 unfold zgh at h
 refine FnR.intro Tryz.func43 rfl Tryz.ntmps43 (by simp) ?_
 intro w0 K hrd
 refine zyG (zyR 1 rfl (zyN (zaI ?_)))
 obtain ⟨hg1,h⟩:=zbr h
 obtain ⟨q1,hq1,h⟩:=zbi h
 obtain ⟨q2,hq2,h⟩:=zbi h
 refine zgs 2 ?_
 refine let vals1:(Nat×Nat)→List (Nat×Nat×Value):=fun b=>[(0,10,vrows1),(1,11,zI k1),(2,12,zI (k1 - 1)),(3,13,.pointer (some ⟨zbY vvrows1,(krows1+(k1 - 1:Int).toNat)*6,none⟩)),(4,14,.agg (zr3 q1).toArray),(5,15,vrows1),(6,16,zI k1),(7,17,.pointer (some ⟨zbY vvrows1,(krows1+(k1:Int).toNat)*6,none⟩)),(8,18,.agg (zr3 q2).toArray),(9,5,zP b.1),(10,6,zP b.2)]; let LL1:(Nat→Prop)→(Nat×Nat)→List Asn:=fun D b=>[eD D emp [(11,cells b.1 (zr3 q1) 33),(9,cells b.1 [zI 0,zI 0,zI 0,zI 0,zI 0,.string ByteArray.empty] 33)],eD D emp [(10,cells b.2 [zI 0,zI 0,zI 0,zI 0,zI 0,.string ByteArray.empty] 33)]]; ?_
 have zhq:zyQ [9,10,11] LL1:=fun i h D b=>zae (zjY rfl h) (zae (zjY rfl h) rfl)
 refine zd3 (β:=Nat×Nat) 12 ((0:Nat),(0:Nat)) vals1 LL1 mixed kr kr dc (fun _=>rfl) (zae zb7 (zae zb7 rfl)) (zmg zhq (fun _=>rfl) (fun _=>rfl) 2 0 (fun _=>rfl) rfl (zyq zhq rfl (fun _=>rfl) (fun _=>rfl) ?_ (zyq zhq rfl (fun _=>rfl) (fun _=>rfl) ?_ (zyq zhq rfl (fun _=>rfl) (fun _=>rfl) ?_ (zmg zhq (fun _=>rfl) (fun _=>rfl) 2 5 (fun _=>rfl) rfl (zyq zhq rfl (fun _=>rfl) (fun _=>rfl) ?_ (zyq zhq rfl (fun _=>rfl) (fun _=>rfl) ?_ (zaB ?_ (zaB ?_ (zaB ?_ DrawG.nil)))))))))) ?_
 · exact fun D ⟨b1,b2⟩ n d c u i=>zbz rfl dc (zaa (m:=1) u rfl (d 1 dc)) rfl (zbt (r:=k1 - 1) (IntWalk.i64_in _ hg1)) (zaf 2 u i rfl)
 · exact fun D ⟨b1,b2⟩ n d c u i=>za9 hwrows1 hq1 Tryz.underlying43 zeb rfl dc (zaa (m:=0) u rfl (d 0 dc)) (zaa (m:=2) u rfl (d 2 dc)) rfl (zaf 3 u i rfl)
 · exact fun D ⟨b1,b2⟩ n d c u i=>zf4 (m:=krows1+(k1 - 1:Int).toNat) (j:=0) (i:=0) (q:=q1) (cs:=(zr3 q1)) hrd rfl (by omega) zia rfl dc (zaa (m:=3) u rfl (d 3 dc)) (Vw.get hwrows1 hq1) rfl rfl rfl (zaf 4 u i rfl)
 · exact fun D ⟨b1,b2⟩ n d c u i=>za9 hwrows1 hq2 Tryz.underlying43 zeb rfl dc (zaa (m:=5) u rfl (d 5 dc)) (zaa (m:=6) u rfl (d 6 dc)) rfl (zaf 7 u i rfl)
 · exact fun D ⟨b1,b2⟩ n d c u i=>zf4 (m:=krows1+(k1:Int).toNat) (j:=0) (i:=0) (q:=q2) (cs:=(zr3 q2)) hrd rfl (by omega) zia rfl dc (zaa (m:=7) u rfl (d 7 dc)) (Vw.get hwrows1 hq2) rfl rfl rfl (zaf 8 u i rfl)
 ·
  intro D b hn hd hcl
  obtain ⟨zb0,b2⟩:=b
  refine zaL (zae (zak (fun hD=>hn (hcl 11 _ rfl hD 9 dc)) (zak hn zaq)) rfl) ?_
  refine zbE zoh rfl dc (fun b1 => ?_)
  refine zcU 0 rfl rfl ?_
  exact zaW (b:=(zb0,b2)) (b1,b2) 9 (by rfl) (by rfl) rfl (zwJ (zas (fun hD=>absurd hD hn) (zas (fun _=>rfl) rfl))) (zae (zak (fun h=>h.elim (fun hD=>hn (hcl 11 _ rfl hD 9 dc)) (fun h=>absurd h dc)) (zaM (Or.inr rfl) rfl)) (zae (zap (by rfl)) rfl))
 ·
  intro D b hn hd hcl
  obtain ⟨b1,zb1⟩:=b
  refine zaL (zae (zak (fun hD=>hn (hcl 11 _ rfl hD 10 dc)) rfl) (zae (zak hn zaq) rfl)) ?_
  refine zbE zoh rfl dc (fun b2 => ?_)
  refine zcU 1 rfl rfl ?_
  exact zaW (b:=(b1,zb1)) (b1,b2) 10 (by rfl) (by rfl) rfl (zrZ (zas (fun hD=>absurd hD hn) rfl)) (zae ((zap (by rfl)).trans (zak (fun hD=>hn (hcl 11 _ rfl hD 10 dc)) rfl)) (zae (zaM (Or.inr rfl) rfl) rfl))
 ·
  intro D b hn hd hcl
  obtain ⟨b1,b2⟩:=b
  refine zaL (zae (zak hn (zaM (hd 9 dc) rfl)) (zae (zaM (hd 10 dc) rfl) rfl)) (za6 (k:=0) (vs:=(zr3 q1)) (l':=(zr3 q1)) zeb rfl (zaa (m:=9) rfl rfl (hd 9 dc)) (zaa (m:=4) rfl rfl (hd 4 dc)) rfl rfl (show _≤_ by simp) rfl rfl ?_)
  exact zhT (b:=(b1,b2)) (b1,b2) (by rfl) (ztC rfl) (zae (zaM (Or.inr rfl) rfl) (zae ((zap (by rfl)).trans (zaM (hd 10 dc) rfl)) rfl))
 intro D b hall
 obtain ⟨b1,b2⟩:=b
 refine zaL (zae (zaM (hall 11 dc) rfl) (zae (zaM (hall 10 dc) rfl) rfl)) (za6 (k:=1) (vs:=(zr3 q2)) (l':=(zr3 q2)) zeb rfl rfl rfl rfl rfl (show _≤_ by simp) rfl rfl (zyN (zaI (zyG (zab zd0 rfl dc rfl (show _=1 from rfl) (zau (k:=0) zbp rfl dc rfl rfl rfl (zab zd0 rfl dc rfl (show _=1 from rfl) (zau (k:=1) zbp rfl dc rfl rfl rfl (zaU rfl zbS (zyN ?_))))))))))
 refine zyB rfl h (fun h => ?_) (fun h => ?_)
 ·
  refine zyG (zyR 1 rfl (zyN (zaG (zao ?_))))
  cases h
  exact zaK (rs:=[.tmp 4]) () (.inl rfl) Tryz.results43 (.cons (.tmp rfl) .nil) rfl Splits.nil
 refine zar (zaH (zaI (zyG (zab zfn rfl dc rfl (show _=0 from rfl) (zau (k:=0) zbp rfl dc rfl rfl rfl (zab zfn rfl dc rfl (show _=0 from rfl) (zau (k:=1) zbp rfl dc rfl rfl rfl (zaU rfl zaT (zyN ?_)))))))))
 refine zyB rfl h (fun h => ?_) (fun h => ?_)
 ·
  refine zyG (zyR 1 rfl (zyN (zaG (zao ?_))))
  cases h
  exact zaK (rs:=[.tmp 4]) () (.inl rfl) Tryz.results43 (.cons (.tmp rfl) .nil) rfl Splits.nil
 refine zar (zaH ?_)
 obtain ⟨j1,hj1,h⟩:=zbG h
 refine zaX (β:=Bool×Bool) 1 rfl (fun b=>j1 b.1 b.2=some r) (fun b=>[]) (fun b=>[(7,.bool b.1),(8,.bool b.2)]) (fun b=>[]) (fun cut => ?_) ?_
 ·
  refine zyG (zyR 2 rfl (zyN (cut (zyG (zyR 1 rfl (zyN (zaF ?_)))))))
  refine zbj (β:=Nat×Bool×Bool×Int) (fun b=>zaE (fun _ _ _=>none) (zdu rows1 q1 q2 j1) b.1 b.2.1 b.2.2.1 b.2.2.2=some r) (fun b=>[]) (fun b=>[(0,vrows1),(5,zP b1),(6,zP b2),(7,.bool b.2.1),(8,.bool b.2.2.1),(9,zI b.2.2.2)]) (fun b=>[cells b1 (zr3 q1) 33,cells b2 (zr3 q2) 33]) (fun b=>b.1) (zbN,true,true,0) h rfl (za0 rfl) (zad [0,1] kr rfl) ?_
  rintro ⟨n1,first4,last4,i3⟩ h
  cases n1 with
  | zero=>exact zdp h
  | succ n1 =>
   obtain ⟨ag1,hag1⟩:∃ ag,ag=zaE (fun _ _ _=>none) (zdu rows1 q1 q2 j1) n1:=⟨_,rfl⟩
   have h:zdu rows1 q1 q2 j1 ag1 first4 last4 i3=some r:=by rw [hag1]; exact h
   unfold zdu at h
   refine zaI (zyG (zyR 2 rfl (zdT hwrows1 rfl dc rfl Tryz.underlying43 (zaU rfl zbc (zyN ?_)))))
   refine zyB rfl h (fun h => ?_) (fun h => ?_)
   ·
    refine zar (zaH ?_)
    obtain ⟨j2,hj2,h⟩:=zbG h
    refine zaX (β:=Bool×Bool) 0 rfl (fun b=>j2 b.1 b.2=some r) (fun b=>[]) (fun b=>[(0,vrows1),(5,zP b1),(6,zP b2),(7,.bool b.1),(8,.bool b.2),(9,zI i3)]) (fun b=>[cells b1 (zr3 q1) 33,cells b2 (zr3 q2) 33]) (fun cut => ?_) ?_
    ·
     refine cut (zaF ?_)
     obtain ⟨j3,hj3,h⟩:=zbG h
     refine zaX (β:=Bool) 0 rfl (fun b=>j3 b=some r) (fun b=>[]) (fun b=>[(0,vrows1),(5,zP b1),(6,zP b2),(7,.bool b),(8,.bool last4),(9,zI i3)]) (fun b=>[cells b1 (zr3 q1) 33,cells b2 (zr3 q2) 33]) (fun cut => ?_) ?_
     ·
      refine cut (zaI ?_)
      obtain ⟨q3,hq3,h⟩:=zbi h
      refine zcW (b:=(q3.Stanza:Int)==q1.Stanza) (fun hb4 => ?_) (fun hb4 => ?_)
      ·
       have h:=zf0 hb4 h
       refine zbn 16 [(0,35,vrows1),(1,36,zI i3),(2,37,.pointer (some ⟨zbY vvrows1,(krows1+(i3:Int).toNat)*6,none⟩)),(3,38,.pointer (some ⟨zbY vvrows1,(krows1+(i3:Int).toNat)*6+1,none⟩)),(4,39,zI q3.Stanza),(5,40,.pointer (some ⟨b1,1,none⟩)),(6,41,zI q1.Stanza),(7,42,.bool true),(8,43,.bool true),(9,44,vrows1),(10,45,zI i3),(11,46,.pointer (some ⟨zbY vvrows1,(krows1+(i3:Int).toNat)*6,none⟩)),(12,47,.pointer (some ⟨zbY vvrows1,(krows1+(i3:Int).toNat)*6,none⟩)),(13,48,zI q3.Line),(14,49,zP b1),(15,50,zI q1.Line)] mixed kr kr dc (by rfl) kr kr (zyP 2 0 rfl (zac ?_ (zac ?_ (zac ?_ (zac ?_ (zac ?_ (zac ?_ (zyP 3 8 rfl (zac ?_ (zac ?_ (zac ?_ (zac ?_ (zac ?_ DrawPre.nil))))))))))))) ?_
       · exact fun D n d c u i=>za9 hwrows1 hq3 Tryz.underlying43 zeb rfl dc (zaa (m:=0) u rfl (d 0 dc)) (zaa (m:=1) u rfl (d 1 dc)) rfl (zaf 2 u i rfl)
       · exact fun D n d c u i=>zab zd0 rfl dc (zaa (m:=2) u rfl (d 2 dc)) (show _=(krows1+(i3:Int).toNat)*6+1 from rfl) (zaf 3 u i rfl)
       · exact fun D n d c u i=>zca (n:=krows1+(i3:Int).toNat) (j:=1) (i:=0) (q:=q3) hrd rfl (by omega) zbp rfl dc (zaa (m:=3) u rfl (d 3 dc)) (Vw.get hwrows1 hq3) rfl rfl (zaf 4 u i rfl)
       · exact fun D n d c u i=>zab zd0 rfl dc (zbe (by rfl) rfl) (show _=1 from rfl) (zaf 5 u i rfl)
       · exact fun D n d c u i=>zau (k:=0) zbp rfl dc (zaa (m:=5) u rfl (d 5 dc)) rfl rfl (zaf 6 u i rfl)
       · exact fun D n d c u i=>zbz rfl dc (zaa (m:=4) u rfl (d 4 dc)) (zaa (m:=6) u rfl (d 6 dc)) zaT (zcq (show Value.bool ((q3.Stanza:Int)==q1.Stanza)=Value.bool true from congrArg Value.bool hb4) (zaf 7 u i rfl))
       · exact fun D n d c u i=>za9 hwrows1 hq3 Tryz.underlying43 zeb (zdU rfl (zaa (m:=8) u rfl (d 8 dc))) dc (zaa (m:=9) u rfl (d 9 dc)) (zaa (m:=10) u rfl (d 10 dc)) rfl (zaf 11 u i rfl)
       · exact fun D n d c u i=>zab zfn (zdU rfl (zaa (m:=8) u rfl (d 8 dc))) dc (zaa (m:=11) u rfl (d 11 dc)) (show _=(krows1+(i3:Int).toNat)*6 from rfl) (zaf 12 u i rfl)
       · exact fun D n d c u i=>zca (n:=krows1+(i3:Int).toNat) (j:=0) (i:=0) (q:=q3) hrd rfl (by omega) zbp (zdU rfl (zaa (m:=8) u rfl (d 8 dc))) dc (zaa (m:=12) u rfl (d 12 dc)) (Vw.get hwrows1 hq3) rfl rfl (zaf 13 u i rfl)
       · exact fun D n d c u i=>zab zfn (zdU rfl (zaa (m:=8) u rfl (d 8 dc))) dc (zbe (by rfl) rfl) (show _=0 from rfl) (zaf 14 u i rfl)
       · exact fun D n d c u i=>zau (k:=0) zbp (zdU rfl (zaa (m:=8) u rfl (d 8 dc))) dc (zaa (m:=14) u rfl (d 14 dc)) rfl rfl (zaf 15 u i rfl)
       refine zaU rfl zbc (zyR 1 rfl (zyN ?_))
       refine zyB rfl h (fun h => ?_) (fun h => ?_)
       ·
        refine zav (zyR 1 rfl (zaO ?_))
        exact zal false h rfl (za0 rfl) (zad [0,1] kr rfl)
       refine zar ?_
       exact zal first4 h rfl (za0 rfl) (zad [0,1] kr rfl)
      have h:=zf1 hb4 h
      refine zbn 16 [(0,35,vrows1),(1,36,zI i3),(2,37,.pointer (some ⟨zbY vvrows1,(krows1+(i3:Int).toNat)*6,none⟩)),(3,38,.pointer (some ⟨zbY vvrows1,(krows1+(i3:Int).toNat)*6+1,none⟩)),(4,39,zI q3.Stanza),(5,40,.pointer (some ⟨b1,1,none⟩)),(6,41,zI q1.Stanza),(7,42,.bool false),(8,43,.bool false),(9,44,undef),(10,45,undef),(11,46,undef),(12,47,undef),(13,48,undef),(14,49,undef),(15,50,undef)] mixed kr kr dc (by rfl) kr kr (zyP 2 0 rfl (zac ?_ (zac ?_ (zac ?_ (zac ?_ (zac ?_ (zac ?_ (zyP 8 8 rfl DrawPre.nil)))))))) ?_
      · exact fun D n d c u i=>za9 hwrows1 hq3 Tryz.underlying43 zeb rfl dc (zaa (m:=0) u rfl (d 0 dc)) (zaa (m:=1) u rfl (d 1 dc)) rfl (zaf 2 u i rfl)
      · exact fun D n d c u i=>zab zd0 rfl dc (zaa (m:=2) u rfl (d 2 dc)) (show _=(krows1+(i3:Int).toNat)*6+1 from rfl) (zaf 3 u i rfl)
      · exact fun D n d c u i=>zca (n:=krows1+(i3:Int).toNat) (j:=1) (i:=0) (q:=q3) hrd rfl (by omega) zbp rfl dc (zaa (m:=3) u rfl (d 3 dc)) (Vw.get hwrows1 hq3) rfl rfl (zaf 4 u i rfl)
      · exact fun D n d c u i=>zab zd0 rfl dc (zbe (by rfl) rfl) (show _=1 from rfl) (zaf 5 u i rfl)
      · exact fun D n d c u i=>zau (k:=0) zbp rfl dc (zaa (m:=5) u rfl (d 5 dc)) rfl rfl (zaf 6 u i rfl)
      · exact fun D n d c u i=>zbz rfl dc (zaa (m:=4) u rfl (d 4 dc)) (zaa (m:=6) u rfl (d 6 dc)) zaT (zcq (show Value.bool ((q3.Stanza:Int)==q1.Stanza)=Value.bool false from congrArg Value.bool hb4) (zaf 7 u i rfl))
      refine zyR 2 rfl (zyN (zaS rfl (zar ?_)))
      exact zal first4 h rfl (za0 rfl) (zad [0,1] kr rfl)
     rintro first6 h
     rw [hj3] at h
     refine zaI ?_
     obtain ⟨q4,hq4,h⟩:=zbi h
     refine zcW (b:=(q4.Stanza:Int)==q1.Stanza) (fun hb6 => ?_) (fun hb6 => ?_)
     ·
      have h:=zf0 hb6 h
      refine zbn 16 [(0,53,vrows1),(1,54,zI i3),(2,55,.pointer (some ⟨zbY vvrows1,(krows1+(i3:Int).toNat)*6,none⟩)),(3,56,.pointer (some ⟨zbY vvrows1,(krows1+(i3:Int).toNat)*6+1,none⟩)),(4,57,zI q4.Stanza),(5,58,.pointer (some ⟨b1,1,none⟩)),(6,59,zI q1.Stanza),(7,60,.bool true),(8,61,.bool true),(9,62,vrows1),(10,63,zI i3),(11,64,.pointer (some ⟨zbY vvrows1,(krows1+(i3:Int).toNat)*6,none⟩)),(12,65,.pointer (some ⟨zbY vvrows1,(krows1+(i3:Int).toNat)*6,none⟩)),(13,66,zI q4.Line),(14,67,zP b2),(15,68,zI q2.Line)] mixed kr kr dc (by rfl) kr kr (zyP 2 0 rfl (zac ?_ (zac ?_ (zac ?_ (zac ?_ (zac ?_ (zac ?_ (zyP 3 8 rfl (zac ?_ (zac ?_ (zac ?_ (zac ?_ (zac ?_ DrawPre.nil))))))))))))) ?_
      · exact fun D n d c u i=>za9 hwrows1 hq4 Tryz.underlying43 zeb rfl dc (zaa (m:=0) u rfl (d 0 dc)) (zaa (m:=1) u rfl (d 1 dc)) rfl (zaf 2 u i rfl)
      · exact fun D n d c u i=>zab zd0 rfl dc (zaa (m:=2) u rfl (d 2 dc)) (show _=(krows1+(i3:Int).toNat)*6+1 from rfl) (zaf 3 u i rfl)
      · exact fun D n d c u i=>zca (n:=krows1+(i3:Int).toNat) (j:=1) (i:=0) (q:=q4) hrd rfl (by omega) zbp rfl dc (zaa (m:=3) u rfl (d 3 dc)) (Vw.get hwrows1 hq4) rfl rfl (zaf 4 u i rfl)
      · exact fun D n d c u i=>zab zd0 rfl dc (zbe (by rfl) rfl) (show _=1 from rfl) (zaf 5 u i rfl)
      · exact fun D n d c u i=>zau (k:=0) zbp rfl dc (zaa (m:=5) u rfl (d 5 dc)) rfl rfl (zaf 6 u i rfl)
      · exact fun D n d c u i=>zbz rfl dc (zaa (m:=4) u rfl (d 4 dc)) (zaa (m:=6) u rfl (d 6 dc)) zaT (zcq (show Value.bool ((q4.Stanza:Int)==q1.Stanza)=Value.bool true from congrArg Value.bool hb6) (zaf 7 u i rfl))
      · exact fun D n d c u i=>za9 hwrows1 hq4 Tryz.underlying43 zeb (zdU rfl (zaa (m:=8) u rfl (d 8 dc))) dc (zaa (m:=9) u rfl (d 9 dc)) (zaa (m:=10) u rfl (d 10 dc)) rfl (zaf 11 u i rfl)
      · exact fun D n d c u i=>zab zfn (zdU rfl (zaa (m:=8) u rfl (d 8 dc))) dc (zaa (m:=11) u rfl (d 11 dc)) (show _=(krows1+(i3:Int).toNat)*6 from rfl) (zaf 12 u i rfl)
      · exact fun D n d c u i=>zca (n:=krows1+(i3:Int).toNat) (j:=0) (i:=0) (q:=q4) hrd rfl (by omega) zbp (zdU rfl (zaa (m:=8) u rfl (d 8 dc))) dc (zaa (m:=12) u rfl (d 12 dc)) (Vw.get hwrows1 hq4) rfl rfl (zaf 13 u i rfl)
      · exact fun D n d c u i=>zab zfn (zdU rfl (zaa (m:=8) u rfl (d 8 dc))) dc (zbe (by rfl) rfl) (show _=0 from rfl) (zaf 14 u i rfl)
      · exact fun D n d c u i=>zau (k:=1) zbp (zdU rfl (zaa (m:=8) u rfl (d 8 dc))) dc (zaa (m:=14) u rfl (d 14 dc)) rfl rfl (zaf 15 u i rfl)
      refine zaU rfl zct (zyR 1 rfl (zyN ?_))
      refine zyB rfl h (fun h => ?_) (fun h => ?_)
      ·
       refine zav (zyR 1 rfl (zaO (zag ?_)))
       exact zal (first6,false) h rfl (za0 rfl) (zad [0,1] kr rfl)
      refine zar (zag ?_)
      exact zal (first6,last4) h rfl (za0 rfl) (zad [0,1] kr rfl)
     have h:=zf1 hb6 h
     refine zbn 16 [(0,53,vrows1),(1,54,zI i3),(2,55,.pointer (some ⟨zbY vvrows1,(krows1+(i3:Int).toNat)*6,none⟩)),(3,56,.pointer (some ⟨zbY vvrows1,(krows1+(i3:Int).toNat)*6+1,none⟩)),(4,57,zI q4.Stanza),(5,58,.pointer (some ⟨b1,1,none⟩)),(6,59,zI q1.Stanza),(7,60,.bool false),(8,61,.bool false),(9,62,undef),(10,63,undef),(11,64,undef),(12,65,undef),(13,66,undef),(14,67,undef),(15,68,undef)] mixed kr kr dc (by rfl) kr kr (zyP 2 0 rfl (zac ?_ (zac ?_ (zac ?_ (zac ?_ (zac ?_ (zac ?_ (zyP 8 8 rfl DrawPre.nil)))))))) ?_
     · exact fun D n d c u i=>za9 hwrows1 hq4 Tryz.underlying43 zeb rfl dc (zaa (m:=0) u rfl (d 0 dc)) (zaa (m:=1) u rfl (d 1 dc)) rfl (zaf 2 u i rfl)
     · exact fun D n d c u i=>zab zd0 rfl dc (zaa (m:=2) u rfl (d 2 dc)) (show _=(krows1+(i3:Int).toNat)*6+1 from rfl) (zaf 3 u i rfl)
     · exact fun D n d c u i=>zca (n:=krows1+(i3:Int).toNat) (j:=1) (i:=0) (q:=q4) hrd rfl (by omega) zbp rfl dc (zaa (m:=3) u rfl (d 3 dc)) (Vw.get hwrows1 hq4) rfl rfl (zaf 4 u i rfl)
     · exact fun D n d c u i=>zab zd0 rfl dc (zbe (by rfl) rfl) (show _=1 from rfl) (zaf 5 u i rfl)
     · exact fun D n d c u i=>zau (k:=0) zbp rfl dc (zaa (m:=5) u rfl (d 5 dc)) rfl rfl (zaf 6 u i rfl)
     · exact fun D n d c u i=>zbz rfl dc (zaa (m:=4) u rfl (d 4 dc)) (zaa (m:=6) u rfl (d 6 dc)) zaT (zcq (show Value.bool ((q4.Stanza:Int)==q1.Stanza)=Value.bool false from congrArg Value.bool hb6) (zaf 7 u i rfl))
     refine zyR 2 rfl (zyN (zaS rfl (zar (zag ?_))))
     exact zal (first6,last4) h rfl (za0 rfl) (zad [0,1] kr rfl)
    rintro ⟨first5,last5⟩ h
    rw [hj2] at h
    refine zav (zyR 1 rfl ?_)
    obtain ⟨hg2,h⟩:=zbr h
    refine zaU rfl (zaR (r:=i3+1) (IntWalk.i64_in _ hg2)) (zyR 1 rfl (zaO ?_))
    subst hag1
    exact za1 (n1,first5,last5,i3+1) h (Nat.lt_succ_self _) rfl (za0 rfl) (zad [0,1] kr rfl)
   refine za3 (zan (zan (zax ?_)))
   exact zal (first4,last4) h rfl (za0 rfl) Splits.nil
 rintro ⟨first1,last1⟩ h
 rw [hj1] at h
 refine zaI (zyG (zyR 2 rfl ?_))
 refine zyS (s:=72) rfl h (fun h => ?_) (fun h => ?_)
 ·
  refine zyR 2 rfl (zyN (za5 rfl (zyG (zyR 1 rfl (zyN (zaG (zao ?_)))))))
  cases h
  exact zaK (rs:=[.tmp 4]) () (.inl rfl) Tryz.results43 (.cons (.tmp rfl) .nil) rfl Splits.nil
 refine zyR 2 rfl (zyN ?_)
 refine zyB rfl h (fun h => ?_) (fun h => ?_)
 ·
  refine zyG (zyR 1 rfl (zyN (zaG (zao ?_))))
  cases h
  exact zaK (rs:=[.tmp 4]) () (.inl rfl) Tryz.results43 (.cons (.tmp rfl) .nil) rfl Splits.nil
 refine zar (zaH (zyG (zyR 1 rfl (zyN (zaG ?_)))))
 cases h
 exact zaK (rs:=[.tmp 4]) () (.inl rfl) Tryz.results43 (.cons (.tmp rfl) .nil) rfl Splits.nil
def zcy (rows1:List Gapi_Row) (height1:Int) (from3:Int) (j2:(List Int)→(List Int)→(List Int)→Option ((List Int)×Int)) (ag2:(List Int)→(List Int)→(List Int)→Int→Option ((List Int)×Int)) (cost8:List Int) (pages7:List Int) (next8:List Int) (to3:Int):Option ((List Int)×Int) :=
zay (decide ((from3:Int)<to3)) (
zbk (fun (j4:(List Int)→(List Int)→(List Int)→Option ((List Int)×Int)) =>
grd (0≤(from3:Int)∧(from3:Int)≤to3∧(to3:Int)≤(rows1.length:Int)) <|
zah (zfP (zjV rows1 from3 to3)) fun (r1:Int) =>
zay (decide ((height1:Int)<r1)) (
j4 cost8 pages7 next8
) (
zbk (fun (j5:Int→Option ((List Int)×Int)) =>
zah (zbm cost8 to3) fun (q2:Int) =>
zay (decide ((to3:Int)<(rows1.length:Int))) (
grd (I64 (height1 - r1)) <|
grd (I64 (height1 - r1)) <|
grd (I64 ((height1 - r1)*(height1 - r1))) <|
grd (I64 (q2+((height1 - r1)*(height1 - r1)))) <|
zah (zgh rows1 to3) fun (r2:Int) =>
grd (I64 ((q2+((height1 - r1)*(height1 - r1)))+r2)) <|
j5 ((q2+((height1 - r1)*(height1 - r1)))+r2)
) (
j5 q2
)
) (fun (c1:Int) =>
zah (zbm pages7 from3) fun (q3:Int) =>
zay (decide ((q3:Int)<0)) (
zah (zbm pages7 to3) fun (q4:Int) =>
grd (I64 (q4+1)) <|
zah (zbm cost8 from3) fun (q5:Int) =>
zah (zbm pages7 from3) fun (q6:Int) =>
zah (zbm next8 from3) fun (q7:Int) =>
j4 (cost8.set (from3:Int).toNat c1) (pages7.set (from3:Int).toNat (q4+1)) (next8.set (from3:Int).toNat to3)
) (
zah (zbm cost8 from3) fun (q8:Int) =>
zay (decide ((c1:Int)<q8)) (
zah (zbm pages7 to3) fun (q9:Int) =>
grd (I64 (q9+1)) <|
zah (zbm cost8 from3) fun (q10:Int) =>
zah (zbm pages7 from3) fun (q11:Int) =>
zah (zbm next8 from3) fun (q12:Int) =>
j4 (cost8.set (from3:Int).toNat c1) (pages7.set (from3:Int).toNat (q9+1)) (next8.set (from3:Int).toNat to3)
) (
zay ((c1:Int)==q8) (
zah (zbm pages7 to3) fun (q13:Int) =>
grd (I64 (q13+1)) <|
zay (decide (((q13+1):Int)<q3)) (
zah (zbm pages7 to3) fun (q14:Int) =>
grd (I64 (q14+1)) <|
zah (zbm cost8 from3) fun (q15:Int) =>
zah (zbm pages7 from3) fun (q16:Int) =>
zah (zbm next8 from3) fun (q17:Int) =>
j4 (cost8.set (from3:Int).toNat c1) (pages7.set (from3:Int).toNat (q14+1)) (next8.set (from3:Int).toNat to3)
) (
j4 cost8 pages7 next8
)
) (
j4 cost8 pages7 next8
)
)
)
)
)
) (fun (cost9:List Int) (pages8:List Int) (next9:List Int) =>
grd (I64 (to3 - 1)) <|
ag2 cost9 pages8 next9 (to3 - 1)
)
) (
j2 cost8 pages7 next8
)
def zcM (rows1:List Gapi_Row) (height1:Int) (j1:(List Int)→(List Int)→Option ((List Int)×Int)) (ag1:(List Int)→(List Int)→(List Int)→Int→Option ((List Int)×Int)) (cost4:List Int) (pages3:List Int) (next4:List Int) (from3:Int):Option ((List Int)×Int) :=
zay (decide ((0:Int)≤from3)) (
zbk (fun (j2:(List Int)→(List Int)→(List Int)→Option ((List Int)×Int)) =>
zbk (fun (j3:Int→Option ((List Int)×Int)) =>
zah (zbm pages3 from3) fun (q1:Int) =>
grd (I64 (from3+height1)) <|
zay (decide (((rows1.length:Int):Int)<(from3+height1))) (
j3 (rows1.length:Int)
) (
j3 (from3+height1)
)
) (fun (most1:Int) =>
zaE (fun _ _ _ _=>none) (zcy rows1 height1 from3 j2) zbN cost4 (pages3.set (from3:Int).toNat (-1)) next4 most1
)
) (fun (cost5:List Int) (pages4:List Int) (next5:List Int) =>
grd (I64 (from3 - 1)) <|
ag1 cost5 pages4 next5 (from3 - 1)
)
) (
j1 cost4 next4
)
def zcx (rows1:List Gapi_Row) (next1:List Int) (j6:(List Int)→Option ((List Int)×Int)) (ag3:(List Int)→Int→Option ((List Int)×Int)) (out4:List Int) (from6:Int):Option ((List Int)×Int) :=
zay (decide ((from6:Int)<(rows1.length:Int))) (
zah (zbm next1 from6) fun (q18:Int) =>
grd (out4.length+1≤2147483648) <|
ag3 (out4++[q18]) q18
) (
j6 out4
)
def zfi (rows1:List Gapi_Row) (height1:Int):Option ((List Int)×Int) :=
zbk (fun (j1:(List Int)→(List Int)→Option ((List Int)×Int)) =>
grd (I64 ((rows1.length:Int)+1)) <|
grd (0≤((rows1.length:Int)+1)∧((rows1.length:Int)+1)≤2147483648) <|
grd (I64 ((rows1.length:Int)+1)) <|
grd (0≤((rows1.length:Int)+1)∧((rows1.length:Int)+1)≤2147483648) <|
grd (I64 ((rows1.length:Int)+1)) <|
grd (0≤((rows1.length:Int)+1)∧((rows1.length:Int)+1)≤2147483648) <|
grd (I64 ((rows1.length:Int) - 1)) <|
zaE (fun _ _ _ _=>none) (zcM rows1 height1 j1) zbN (List.replicate ((rows1.length:Int)+1:Int).toNat 0:List Int) (List.replicate ((rows1.length:Int)+1:Int).toNat 0:List Int) (List.replicate ((rows1.length:Int)+1:Int).toNat 0:List Int) ((rows1.length:Int) - 1)
) (fun (cost1:List Int) (next1:List Int) =>
zbk (fun (j6:(List Int)→Option ((List Int)×Int)) =>
zaE (fun _ _=>none) (zcx rows1 next1 j6) zbN ([]:List Int) 0
) (fun (out1:List Int) =>
zah (zbm cost1 0) fun (q19:Int) =>
some (out1,q19)
)
)
theorem zlt {vvrows1 vrows1:Value} {Lrows1:List Gapi_Row} {krows1:Nat} {rows1:List Gapi_Row} (hwrows1:Vw vvrows1 Lrows1 6 krows1 vrows1 rows1) {height1:Int} {r:((List Int)×Int)} (h:zfi rows1 height1=some r):FnR Tryz.prog 17 [vrows1,zI height1] [zfh zbf 6 vvrows1 krows1 Lrows1] [] (fun v0:Value=>.tuple #[v0,zI r.2]) (fun v0=>[zv0 v0 r.1]):=by
 unfold zfi at h
 refine FnR.intro Tryz.func17 rfl Tryz.ntmps17 (by simp) ?_
 intro w0 K hrd
 obtain ⟨j1,hj1,h⟩:=zbG h
 refine zaX (β:=(List Int)×(List Int)×Value×Value) 5 rfl (fun b=>j1 b.1 b.2.1=some r) (fun b=>[]) (fun b=>[(6,zI (rows1.length:Int)),(7,b.2.2.1),(9,b.2.2.2)]) (fun b=>[zv0 b.2.2.1 b.1,zv0 b.2.2.2 b.2.1]) (fun cut => ?_) ?_
 ·
  refine zyG (zyR 2 rfl (zyH (zyR 1 rfl (zdT hwrows1 rfl dc rfl Tryz.underlying43 (zyR 1 rfl (zyN (zaI ?_)))))))
  refine zav (zyR 1 rfl ?_)
  obtain ⟨hg1,h⟩:=zbr h
  refine zaU rfl (zaR (r:=(rows1.length:Int)+1) (IntWalk.i64_in _ hg1)) ?_
  obtain ⟨hg2,h⟩:=zbr h
  refine zfc (z:=0) Tryz.underlying49 zpv ztH zaQ rfl dc rfl hg2 (fun v3 => ?_)
  refine zyR 1 rfl (zyH (zyR 1 rfl ?_))
  obtain ⟨hg3,h⟩:=zbr h
  refine zaU rfl (zaR (r:=(rows1.length:Int)+1) (IntWalk.i64_in _ hg3)) ?_
  obtain ⟨hg4,h⟩:=zbr h
  refine zfc (z:=0) Tryz.underlying49 zpv ztH zaQ rfl dc rfl hg4 (fun v4 => ?_)
  refine zyR 1 rfl (zyH (zyR 1 rfl ?_))
  obtain ⟨hg5,h⟩:=zbr h
  refine zaU rfl (zaR (r:=(rows1.length:Int)+1) (IntWalk.i64_in _ hg5)) ?_
  obtain ⟨hg6,h⟩:=zbr h
  refine zfc (z:=0) Tryz.underlying49 zpv ztH zaQ rfl dc rfl hg6 (fun v5 => ?_)
  refine zyR 1 rfl (zyN (cut (zyG (zyR 1 rfl ?_))))
  obtain ⟨hg7,h⟩:=zbr h
  refine zaU rfl (zbt (r:=(rows1.length:Int) - 1) (IntWalk.i64_in _ hg7)) (zyR 1 rfl (zyN (zaF ?_)))
  refine zbj (β:=Nat×(List Int)×(List Int)×(List Int)×Int) (fun b=>zaE (fun _ _ _ _=>none) (zcM rows1 height1 j1) b.1 b.2.1 b.2.2.1 b.2.2.2.1 b.2.2.2.2=some r) (fun b=>[]) (fun b=>[(0,vrows1),(1,zI height1),(6,zI (rows1.length:Int)),(7,v3),(8,v4),(9,v5),(10,zI b.2.2.2.2)]) (fun b=>[zv0 v3 b.2.1,zv0 v4 b.2.2.1,zv0 v5 b.2.2.2.1]) (fun b=>b.1) (zbN,(List.replicate ((rows1.length:Int)+1:Int).toNat 0:List Int),(List.replicate ((rows1.length:Int)+1:Int).toNat 0:List Int),(List.replicate ((rows1.length:Int)+1:Int).toNat 0:List Int),(rows1.length:Int) - 1) h rfl (za0 rfl) (zad [0,1,2] kr rfl) ?_
  rintro ⟨n1,cost4,pages3,next4,from3⟩ h
  cases n1 with
  | zero=>exact zdp h
  | succ n1 =>
   obtain ⟨ag1,hag1⟩:∃ ag,ag=zaE (fun _ _ _ _=>none) (zcM rows1 height1 j1) n1:=⟨_,rfl⟩
   have h:zcM rows1 height1 j1 ag1 cost4 pages3 next4 from3=some r:=by rw [hag1]; exact h
   unfold zcM at h
   refine zaI (zyG (zyR 1 rfl (zaU rfl zer (zyN ?_))))
   refine zyB rfl h (fun h => ?_) (fun h => ?_)
   ·
    refine zar (zaH ?_)
    obtain ⟨j2,hj2,h⟩:=zbG h
    refine zaX (β:=(List Int)×(List Int)×(List Int)) 0 rfl (fun b=>j2 b.1 b.2.1 b.2.2=some r) (fun b=>[]) (fun b=>[(0,vrows1),(1,zI height1),(6,zI (rows1.length:Int)),(7,v3),(8,v4),(9,v5),(10,zI from3)]) (fun b=>[zv0 v3 b.1,zv0 v4 b.2.1,zv0 v5 b.2.2]) (fun cut => ?_) ?_
    ·
     refine cut (zaF ?_)
     obtain ⟨j3,hj3,h⟩:=zbG h
     refine zaX (β:=Int) 2 rfl (fun b=>j3 b=some r) (fun b=>[]) (fun b=>[(0,vrows1),(1,zI height1),(6,zI (rows1.length:Int)),(7,v3),(8,v4),(9,v5),(10,zI from3),(11,zI b)]) (fun b=>[zv0 v3 cost4,zv0 v4 (pages3.set (from3:Int).toNat (-1)),zv0 v5 next4]) (fun cut => ?_) ?_
     ·
      refine zyG (zyR 2 rfl ?_)
      obtain ⟨q1,hq1,h⟩:=zbi h
      refine zaj (k:=1) hq1 Tryz.underlying49 zcs rfl dc rfl rfl rfl rfl ?_
      refine zbv (i:=(from3:Int).toNat) (j:=0) (k:=1) (q:=q1) (q':=(-1)) zcs zaQ rfl rfl rfl rfl (zaz hq1) rfl dc rfl (fun _ _=>rfl) ?_
      refine zyH (zyR 2 rfl ?_)
      obtain ⟨hg8,h⟩:=zbr h
      refine zaU rfl (zaR (r:=from3+height1) (IntWalk.i64_in _ hg8)) (zyR 1 rfl (zyN (cut (zyG (zyR 2 rfl (zaU rfl zct (zyN ?_)))))))
      refine zyB rfl h (fun h => ?_) (fun h => ?_)
      ·
       refine zav (zyR 2 rfl (zaO ?_))
       exact zal (rows1.length:Int) h rfl (za0 rfl) (zad [0,1,2] kr rfl)
      refine zar ?_
      exact zal (from3+height1) h rfl (za0 rfl) (zad [0,1,2] kr rfl)
     rintro most1 h
     rw [hj3] at h
     refine zyG (zyR 2 rfl (zyN (zaF ?_)))
     refine zbj (β:=Nat×(List Int)×(List Int)×(List Int)×Int) (fun b=>zaE (fun _ _ _ _=>none) (zcy rows1 height1 from3 j2) b.1 b.2.1 b.2.2.1 b.2.2.2.1 b.2.2.2.2=some r) (fun b=>[]) (fun b=>[(0,vrows1),(1,zI height1),(6,zI (rows1.length:Int)),(7,v3),(8,v4),(9,v5),(10,zI from3),(12,zI b.2.2.2.2)]) (fun b=>[zv0 v3 b.2.1,zv0 v4 b.2.2.1,zv0 v5 b.2.2.2.1]) (fun b=>b.1) (zbN,cost4,pages3.set (from3:Int).toNat (-1),next4,most1) h rfl (za0 rfl) (zad [0,1,2] kr rfl) ?_
     rintro ⟨n2,cost8,pages7,next8,to3⟩ h
     cases n2 with
     | zero=>exact zdp h
     | succ n2 =>
      obtain ⟨ag2,hag2⟩:∃ ag,ag=zaE (fun _ _ _ _=>none) (zcy rows1 height1 from3 j2) n2:=⟨_,rfl⟩
      have h:zcy rows1 height1 from3 j2 ag2 cost8 pages7 next8 to3=some r:=by rw [hag2]; exact h
      unfold zcy at h
      refine zaI (zyG (zyR 2 rfl (zaU rfl zct (zyN ?_))))
      refine zyB rfl h (fun h => ?_) (fun h => ?_)
      ·
       refine zar (zaH ?_)
       obtain ⟨j4,hj4,h⟩:=zbG h
       refine zaX (β:=(List Int)×(List Int)×(List Int)) 0 rfl (fun b=>j4 b.1 b.2.1 b.2.2=some r) (fun b=>[]) (fun b=>[(0,vrows1),(1,zI height1),(6,zI (rows1.length:Int)),(7,v3),(8,v4),(9,v5),(10,zI from3),(12,zI to3)]) (fun b=>[zv0 v3 b.1,zv0 v4 b.2.1,zv0 v5 b.2.2]) (fun cut => ?_) ?_
       ·
        refine cut (zaF (zyG (zyR 3 rfl ?_)))
        obtain ⟨hg9,h⟩:=zbr h
        obtain ⟨v6,hv1,hs1⟩:=zj2 (lo:=some (zI from3)) (hi:=some (zI to3)) hwrows1 Tryz.underlying43 zeb (.inr rfl) (.inr rfl) hg9
        refine zdG rfl dc rfl rfl rfl hs1 ?_
        have hrd:Rd _ _ [zfh zbf 6 vvrows1 krows1 Lrows1,zfh zbf 6 vvrows1 (krows1+(from3:Int).toNat) Lrows1]:=hrd.up (i:=0) rfl
        obtain ⟨r1,hq2,h⟩:=zbi h
        refine zch (v:=zI r1) (vs:=[v6]) hrd rfl dc rfl rfl rfl zxK (zmM hv1 hq2) (.ro 1 rfl .nil) (zyR 1 rfl (zyN (zaI (zyG (zyR 2 rfl (zaU rfl zct (zyN ?_)))))))
        refine zyB rfl h (fun h => ?_) (fun h => ?_)
        ·
         refine za3 (zan (zax ?_))
         exact zal (cost8,pages7,next8) h rfl (za0 rfl) (zad [0,1,2] kr rfl)
        refine zar (zaH ?_)
        obtain ⟨j5,hj5,h⟩:=zbG h
        refine zaX (β:=Int) 1 rfl (fun b=>j5 b=some r) (fun b=>[]) (fun b=>[(0,vrows1),(1,zI height1),(6,zI (rows1.length:Int)),(7,v3),(8,v4),(9,v5),(10,zI from3),(12,zI to3),(14,zI b)]) (fun b=>[zv0 v3 cost8,zv0 v4 pages7,zv0 v5 next8]) (fun cut => ?_) ?_
        ·
         refine zyG (zyR 2 rfl ?_)
         obtain ⟨q2,hq3,h⟩:=zbi h
         refine zaj (k:=0) hq3 Tryz.underlying49 zcs rfl dc rfl rfl rfl rfl (zaA (i:=(to3:Int).toNat) (j:=0) (k:=0) (q:=q2) zbp zaQ rfl dc rfl rfl (zaz hq3) rfl dc rfl (zyR 1 rfl (zyN (cut (zyG (zyR 2 rfl (zaU rfl zbc (zyN ?_))))))))
         refine zyB rfl h (fun h => ?_) (fun h => ?_)
         ·
          refine zav (zyR 3 rfl ?_)
          obtain ⟨hg10,h⟩:=zbr h
          refine zaU rfl (zbt (r:=height1 - r1) (IntWalk.i64_in _ hg10)) (zyR 2 rfl ?_)
          obtain ⟨hg11,h⟩:=zbr h
          refine zaU rfl (zbt (r:=height1 - r1) (IntWalk.i64_in _ hg11)) ?_
          obtain ⟨hg12,h⟩:=zbr h
          refine zaU rfl (znc (r:=(height1 - r1)*(height1 - r1)) (IntWalk.i64_in _ hg12)) ?_
          obtain ⟨hg13,h⟩:=zbr h
          refine zaU rfl (zaR (r:=q2+((height1 - r1)*(height1 - r1))) (IntWalk.i64_in _ hg13)) (zyR 2 rfl ?_)
          obtain ⟨r2,hq4,h⟩:=zbi h
          refine zch (v:=zI r2) (vs:=[vrows1,zI to3]) hrd rfl dc rfl rfl rfl zxw (znH hwrows1 hq4) (.ro 0 rfl .nil) ?_
          obtain ⟨hg14,h⟩:=zbr h
          refine zaU rfl (zaR (r:=(q2+((height1 - r1)*(height1 - r1)))+r2) (IntWalk.i64_in _ hg14)) (zyR 1 rfl (zaO ?_))
          exact zal ((q2+((height1 - r1)*(height1 - r1)))+r2) h rfl (za0 rfl) (zad [0,1,2] kr rfl)
         refine zar ?_
         exact zal q2 h rfl (za0 rfl) (zad [0,1,2] kr rfl)
        rintro c1 h
        rw [hj5] at h
        refine zaI ?_
        obtain ⟨q3,hq5,h⟩:=zbi h
        refine zcW (b:=decide ((q3:Int)<0)) (fun hb6 => ?_) (fun hb6 => ?_)
        ·
         have h:=zf0 hb6 h
         refine zbn 30 [(0,78,v4),(1,79,zI from3),(2,80,.pointer (some ⟨zbY v4,(from3:Int).toNat*1,none⟩)),(3,81,zI q3),(4,82,.bool true),(5,83,.bool true),(6,84,undef),(7,85,undef),(8,86,undef),(9,87,undef),(10,88,undef),(11,89,undef),(12,90,.bool true),(13,91,.bool true),(14,92,undef),(15,93,undef),(16,94,undef),(17,95,undef),(18,96,undef),(19,97,undef),(20,98,undef),(21,99,undef),(22,100,undef),(23,101,undef),(24,102,undef),(25,103,undef),(26,104,undef),(27,105,undef),(28,106,undef),(29,107,undef)] mixed kr kr dc (by rfl) kr kr (zyP 2 0 rfl (zac ?_ (zac ?_ (zac ?_ (zyP 25 5 rfl DrawPre.nil))))) ?_
         · exact fun D n d c u i=>zaj (k:=1) hq5 Tryz.underlying49 zcs rfl dc (zaa (m:=0) u rfl (d 0 dc)) (zaa (m:=1) u rfl (d 1 dc)) rfl rfl (zaf 2 u i rfl)
         · exact fun D n d c u i=>zaA (i:=(from3:Int).toNat) (j:=0) (k:=1) (q:=q3) zbp zaQ rfl dc (zaa (m:=2) u rfl (d 2 dc)) rfl (zaz hq5) rfl dc rfl (zaf 3 u i rfl)
         · exact fun D n d c u i=>zbz rfl dc (zaa (m:=3) u rfl (d 3 dc)) rfl zbc (zcq (show Value.bool (decide ((q3:Int)<0))=Value.bool true from congrArg Value.bool hb6) (zaf 4 u i rfl))
         refine zyR 3 rfl (zyN (za5 rfl (zav (zyR 7 rfl ?_))))
         refine zyR 2 rfl ?_
         obtain ⟨q4,hq6,h⟩:=zbi h
         refine zaj (k:=1) hq6 Tryz.underlying49 zcs rfl dc rfl rfl rfl rfl (zaA (i:=(to3:Int).toNat) (j:=0) (k:=1) (q:=q4) zbp zaQ rfl dc rfl rfl (zaz hq6) rfl dc rfl ?_)
         obtain ⟨hg15,h⟩:=zbr h
         refine zaU rfl (zaR (r:=q4+1) (IntWalk.i64_in _ hg15)) (zyR 1 rfl ?_)
         obtain ⟨q5,hq7,h⟩:=zbi h
         refine zaj (k:=0) hq7 Tryz.underlying49 zcs rfl dc rfl rfl rfl rfl ?_
         refine zbv (i:=(from3:Int).toNat) (j:=0) (k:=0) (q:=q5) (q':=c1) zcs zaQ rfl rfl rfl rfl (zaz hq7) rfl dc rfl (fun _ _=>rfl) ?_
         obtain ⟨q6,hq8,h⟩:=zbi h
         refine zaj (k:=1) hq8 Tryz.underlying49 zcs rfl dc rfl rfl rfl rfl ?_
         refine zbv (i:=(from3:Int).toNat) (j:=0) (k:=1) (q:=q6) (q':=q4+1) zcs zaQ rfl rfl rfl rfl (zaz hq8) rfl dc rfl (fun _ _=>rfl) ?_
         obtain ⟨q7,hq9,h⟩:=zbi h
         refine zaj (k:=2) hq9 Tryz.underlying49 zcs rfl dc rfl rfl rfl rfl ?_
         refine zbv (i:=(from3:Int).toNat) (j:=0) (k:=2) (q:=q7) (q':=to3) zcs zaQ rfl rfl rfl rfl (zaz hq9) rfl dc rfl (fun _ _=>rfl) ?_
         refine zaO (zag ?_)
         exact zal (cost8.set (from3:Int).toNat c1,pages7.set (from3:Int).toNat (q4+1),next8.set (from3:Int).toNat to3) h rfl (za0 rfl) (zad [0,1,2] kr rfl)
        have h:=zf1 hb6 h
        obtain ⟨q8,hq10,h⟩:=zbi h
        refine zcW (b:=decide ((c1:Int)<q8)) (fun hb7 => ?_) (fun hb7 => ?_)
        ·
         have h:=zf0 hb7 h
         refine zbn 30 [(0,78,v4),(1,79,zI from3),(2,80,.pointer (some ⟨zbY v4,(from3:Int).toNat*1,none⟩)),(3,81,zI q3),(4,82,.bool false),(5,83,.bool false),(6,84,zI c1),(7,85,v3),(8,86,zI from3),(9,87,.pointer (some ⟨zbY v3,(from3:Int).toNat*1,none⟩)),(10,88,zI q8),(11,89,.bool true),(12,90,.bool true),(13,91,.bool true),(14,92,undef),(15,93,undef),(16,94,undef),(17,95,undef),(18,96,undef),(19,97,undef),(20,98,undef),(21,99,undef),(22,100,undef),(23,101,undef),(24,102,undef),(25,103,undef),(26,104,undef),(27,105,undef),(28,106,undef),(29,107,undef)] mixed kr kr dc (by rfl) kr kr (zyP 2 0 rfl (zac ?_ (zac ?_ (zac ?_ (zyP 4 5 rfl (zac ?_ (zac ?_ (zac ?_ (zyP 18 12 rfl DrawPre.nil))))))))) ?_
         · exact fun D n d c u i=>zaj (k:=1) hq5 Tryz.underlying49 zcs rfl dc (zaa (m:=0) u rfl (d 0 dc)) (zaa (m:=1) u rfl (d 1 dc)) rfl rfl (zaf 2 u i rfl)
         · exact fun D n d c u i=>zaA (i:=(from3:Int).toNat) (j:=0) (k:=1) (q:=q3) zbp zaQ rfl dc (zaa (m:=2) u rfl (d 2 dc)) rfl (zaz hq5) rfl dc rfl (zaf 3 u i rfl)
         · exact fun D n d c u i=>zbz rfl dc (zaa (m:=3) u rfl (d 3 dc)) rfl zbc (zcq (show Value.bool (decide ((q3:Int)<0))=Value.bool false from congrArg Value.bool hb6) (zaf 4 u i rfl))
         · exact fun D n d c u i=>zaj (k:=0) hq10 Tryz.underlying49 zcs (zdU rfl (zaa (m:=5) u rfl (d 5 dc))) dc (zaa (m:=7) u rfl (d 7 dc)) (zaa (m:=8) u rfl (d 8 dc)) rfl rfl (zaf 9 u i rfl)
         · exact fun D n d c u i=>zaA (i:=(from3:Int).toNat) (j:=0) (k:=0) (q:=q8) zbp zaQ (zdU rfl (zaa (m:=5) u rfl (d 5 dc))) dc (zaa (m:=9) u rfl (d 9 dc)) rfl (zaz hq10) rfl dc rfl (zaf 10 u i rfl)
         · exact fun D n d c u i=>zbz (zdU rfl (zaa (m:=5) u rfl (d 5 dc))) dc (zaa (m:=6) u rfl (d 6 dc)) (zaa (m:=10) u rfl (d 10 dc)) zbc (zcq (show Value.bool (decide ((c1:Int)<q8))=Value.bool true from congrArg Value.bool hb7) (zaf 11 u i rfl))
         refine zyR 3 rfl (zyN (za5 rfl (zav (zyR 7 rfl ?_))))
         refine zyR 2 rfl ?_
         obtain ⟨q9,hq11,h⟩:=zbi h
         refine zaj (k:=1) hq11 Tryz.underlying49 zcs rfl dc rfl rfl rfl rfl (zaA (i:=(to3:Int).toNat) (j:=0) (k:=1) (q:=q9) zbp zaQ rfl dc rfl rfl (zaz hq11) rfl dc rfl ?_)
         obtain ⟨hg16,h⟩:=zbr h
         refine zaU rfl (zaR (r:=q9+1) (IntWalk.i64_in _ hg16)) (zyR 1 rfl ?_)
         obtain ⟨q10,hq12,h⟩:=zbi h
         refine zaj (k:=0) hq12 Tryz.underlying49 zcs rfl dc rfl rfl rfl rfl ?_
         refine zbv (i:=(from3:Int).toNat) (j:=0) (k:=0) (q:=q10) (q':=c1) zcs zaQ rfl rfl rfl rfl (zaz hq12) rfl dc rfl (fun _ _=>rfl) ?_
         obtain ⟨q11,hq13,h⟩:=zbi h
         refine zaj (k:=1) hq13 Tryz.underlying49 zcs rfl dc rfl rfl rfl rfl ?_
         refine zbv (i:=(from3:Int).toNat) (j:=0) (k:=1) (q:=q11) (q':=q9+1) zcs zaQ rfl rfl rfl rfl (zaz hq13) rfl dc rfl (fun _ _=>rfl) ?_
         obtain ⟨q12,hq14,h⟩:=zbi h
         refine zaj (k:=2) hq14 Tryz.underlying49 zcs rfl dc rfl rfl rfl rfl ?_
         refine zbv (i:=(from3:Int).toNat) (j:=0) (k:=2) (q:=q12) (q':=to3) zcs zaQ rfl rfl rfl rfl (zaz hq14) rfl dc rfl (fun _ _=>rfl) ?_
         refine zaO (zag ?_)
         exact zal (cost8.set (from3:Int).toNat c1,pages7.set (from3:Int).toNat (q9+1),next8.set (from3:Int).toNat to3) h rfl (za0 rfl) (zad [0,1,2] kr rfl)
        have h:=zf1 hb7 h
        refine zcW (b:=(c1:Int)==q8) (fun hb8 => ?_) (fun hb8 => ?_)
        ·
         have h:=zf0 hb8 h
         obtain ⟨q13,hq15,h⟩:=zbi h
         obtain ⟨hg17,h⟩:=zbr h
         refine zbn 30 [(0,78,v4),(1,79,zI from3),(2,80,.pointer (some ⟨zbY v4,(from3:Int).toNat*1,none⟩)),(3,81,zI q3),(4,82,.bool false),(5,83,.bool false),(6,84,zI c1),(7,85,v3),(8,86,zI from3),(9,87,.pointer (some ⟨zbY v3,(from3:Int).toNat*1,none⟩)),(10,88,zI q8),(11,89,.bool false),(12,90,.bool false),(13,91,.bool false),(14,92,zI c1),(15,93,v3),(16,94,zI from3),(17,95,.pointer (some ⟨zbY v3,(from3:Int).toNat*1,none⟩)),(18,96,zI q8),(19,97,.bool true),(20,98,.bool true),(21,99,v4),(22,100,zI to3),(23,101,.pointer (some ⟨zbY v4,(to3:Int).toNat*1,none⟩)),(24,102,zI q13),(25,103,zI (q13+1)),(26,104,v4),(27,105,zI from3),(28,106,.pointer (some ⟨zbY v4,(from3:Int).toNat*1,none⟩)),(29,107,zI q3)] mixed kr kr dc (by rfl) kr kr (zyP 2 0 rfl (zac ?_ (zac ?_ (zac ?_ (zyP 4 5 rfl (zac ?_ (zac ?_ (zac ?_ (zyP 5 12 rfl (zac ?_ (zac ?_ (zac ?_ (zyP 3 20 rfl (zac ?_ (zac ?_ (zac ?_ (zyP 2 26 rfl (zac ?_ (zac ?_ DrawPre.nil))))))))))))))))))) ?_
         · exact fun D n d c u i=>zaj (k:=1) hq5 Tryz.underlying49 zcs rfl dc (zaa (m:=0) u rfl (d 0 dc)) (zaa (m:=1) u rfl (d 1 dc)) rfl rfl (zaf 2 u i rfl)
         · exact fun D n d c u i=>zaA (i:=(from3:Int).toNat) (j:=0) (k:=1) (q:=q3) zbp zaQ rfl dc (zaa (m:=2) u rfl (d 2 dc)) rfl (zaz hq5) rfl dc rfl (zaf 3 u i rfl)
         · exact fun D n d c u i=>zbz rfl dc (zaa (m:=3) u rfl (d 3 dc)) rfl zbc (zcq (show Value.bool (decide ((q3:Int)<0))=Value.bool false from congrArg Value.bool hb6) (zaf 4 u i rfl))
         · exact fun D n d c u i=>zaj (k:=0) hq10 Tryz.underlying49 zcs (zdU rfl (zaa (m:=5) u rfl (d 5 dc))) dc (zaa (m:=7) u rfl (d 7 dc)) (zaa (m:=8) u rfl (d 8 dc)) rfl rfl (zaf 9 u i rfl)
         · exact fun D n d c u i=>zaA (i:=(from3:Int).toNat) (j:=0) (k:=0) (q:=q8) zbp zaQ (zdU rfl (zaa (m:=5) u rfl (d 5 dc))) dc (zaa (m:=9) u rfl (d 9 dc)) rfl (zaz hq10) rfl dc rfl (zaf 10 u i rfl)
         · exact fun D n d c u i=>zbz (zdU rfl (zaa (m:=5) u rfl (d 5 dc))) dc (zaa (m:=6) u rfl (d 6 dc)) (zaa (m:=10) u rfl (d 10 dc)) zbc (zcq (show Value.bool (decide ((c1:Int)<q8))=Value.bool false from congrArg Value.bool hb7) (zaf 11 u i rfl))
         · exact fun D n d c u i=>zaj (k:=0) hq10 Tryz.underlying49 zcs (zdU rfl (zaa (m:=13) u rfl (d 13 dc))) dc (zaa (m:=15) u rfl (d 15 dc)) (zaa (m:=16) u rfl (d 16 dc)) rfl rfl (zaf 17 u i rfl)
         · exact fun D n d c u i=>zaA (i:=(from3:Int).toNat) (j:=0) (k:=0) (q:=q8) zbp zaQ (zdU rfl (zaa (m:=13) u rfl (d 13 dc))) dc (zaa (m:=17) u rfl (d 17 dc)) rfl (zaz hq10) rfl dc rfl (zaf 18 u i rfl)
         · exact fun D n d c u i=>zbz (zdU rfl (zaa (m:=13) u rfl (d 13 dc))) dc (zaa (m:=14) u rfl (d 14 dc)) (zaa (m:=18) u rfl (d 18 dc)) zaT (zcq (show Value.bool ((c1:Int)==q8)=Value.bool true from congrArg Value.bool hb8) (zaf 19 u i rfl))
         · exact fun D n d c u i=>zaj (k:=1) hq15 Tryz.underlying49 zcs (zdU rfl (zaa (m:=20) u rfl (d 20 dc))) dc (zaa (m:=21) u rfl (d 21 dc)) (zaa (m:=22) u rfl (d 22 dc)) rfl rfl (zaf 23 u i rfl)
         · exact fun D n d c u i=>zaA (i:=(to3:Int).toNat) (j:=0) (k:=1) (q:=q13) zbp zaQ (zdU rfl (zaa (m:=20) u rfl (d 20 dc))) dc (zaa (m:=23) u rfl (d 23 dc)) rfl (zaz hq15) rfl dc rfl (zaf 24 u i rfl)
         · exact fun D n d c u i=>zbz (zdU rfl (zaa (m:=20) u rfl (d 20 dc))) dc (zaa (m:=24) u rfl (d 24 dc)) rfl (zaR (r:=q13+1) (IntWalk.i64_in _ hg17)) (zaf 25 u i rfl)
         · exact fun D n d c u i=>zaj (k:=1) hq5 Tryz.underlying49 zcs (zdU rfl (zaa (m:=20) u rfl (d 20 dc))) dc (zaa (m:=26) u rfl (d 26 dc)) (zaa (m:=27) u rfl (d 27 dc)) rfl rfl (zaf 28 u i rfl)
         · exact fun D n d c u i=>zaA (i:=(from3:Int).toNat) (j:=0) (k:=1) (q:=q3) zbp zaQ (zdU rfl (zaa (m:=20) u rfl (d 20 dc))) dc (zaa (m:=28) u rfl (d 28 dc)) rfl (zaz hq5) rfl dc rfl (zaf 29 u i rfl)
         refine zaU rfl zbc (zyR 2 rfl (zyN ?_))
         refine zyB rfl h (fun h => ?_) (fun h => ?_)
         ·
          refine zav (zyR 9 rfl ?_)
          obtain ⟨q14,hq16,h⟩:=zbi h
          refine zaj (k:=1) hq16 Tryz.underlying49 zcs rfl dc rfl rfl rfl rfl (zaA (i:=(to3:Int).toNat) (j:=0) (k:=1) (q:=q14) zbp zaQ rfl dc rfl rfl (zaz hq16) rfl dc rfl ?_)
          obtain ⟨hg18,h⟩:=zbr h
          refine zaU rfl (zaR (r:=q14+1) (IntWalk.i64_in _ hg18)) (zyR 1 rfl ?_)
          obtain ⟨q15,hq17,h⟩:=zbi h
          refine zaj (k:=0) hq17 Tryz.underlying49 zcs rfl dc rfl rfl rfl rfl ?_
          refine zbv (i:=(from3:Int).toNat) (j:=0) (k:=0) (q:=q15) (q':=c1) zcs zaQ rfl rfl rfl rfl (zaz hq17) rfl dc rfl (fun _ _=>rfl) ?_
          obtain ⟨q16,hq18,h⟩:=zbi h
          refine zaj (k:=1) hq18 Tryz.underlying49 zcs rfl dc rfl rfl rfl rfl ?_
          refine zbv (i:=(from3:Int).toNat) (j:=0) (k:=1) (q:=q16) (q':=q14+1) zcs zaQ rfl rfl rfl rfl (zaz hq18) rfl dc rfl (fun _ _=>rfl) ?_
          obtain ⟨q17,hq19,h⟩:=zbi h
          refine zaj (k:=2) hq19 Tryz.underlying49 zcs rfl dc rfl rfl rfl rfl ?_
          refine zbv (i:=(from3:Int).toNat) (j:=0) (k:=2) (q:=q17) (q':=to3) zcs zaQ rfl rfl rfl rfl (zaz hq19) rfl dc rfl (fun _ _=>rfl) ?_
          refine zaO (zag ?_)
          exact zal (cost8.set (from3:Int).toNat c1,pages7.set (from3:Int).toNat (q14+1),next8.set (from3:Int).toNat to3) h rfl (za0 rfl) (zad [0,1,2] kr rfl)
         refine zar (zag ?_)
         exact zal (cost8,pages7,next8) h rfl (za0 rfl) (zad [0,1,2] kr rfl)
        have h:=zf1 hb8 h
        refine zbn 30 [(0,78,v4),(1,79,zI from3),(2,80,.pointer (some ⟨zbY v4,(from3:Int).toNat*1,none⟩)),(3,81,zI q3),(4,82,.bool false),(5,83,.bool false),(6,84,zI c1),(7,85,v3),(8,86,zI from3),(9,87,.pointer (some ⟨zbY v3,(from3:Int).toNat*1,none⟩)),(10,88,zI q8),(11,89,.bool false),(12,90,.bool false),(13,91,.bool false),(14,92,zI c1),(15,93,v3),(16,94,zI from3),(17,95,.pointer (some ⟨zbY v3,(from3:Int).toNat*1,none⟩)),(18,96,zI q8),(19,97,.bool false),(20,98,.bool false),(21,99,undef),(22,100,undef),(23,101,undef),(24,102,undef),(25,103,undef),(26,104,undef),(27,105,undef),(28,106,undef),(29,107,undef)] mixed kr kr dc (by rfl) kr kr (zyP 2 0 rfl (zac ?_ (zac ?_ (zac ?_ (zyP 4 5 rfl (zac ?_ (zac ?_ (zac ?_ (zyP 5 12 rfl (zac ?_ (zac ?_ (zac ?_ (zyP 10 20 rfl DrawPre.nil))))))))))))) ?_
        · exact fun D n d c u i=>zaj (k:=1) hq5 Tryz.underlying49 zcs rfl dc (zaa (m:=0) u rfl (d 0 dc)) (zaa (m:=1) u rfl (d 1 dc)) rfl rfl (zaf 2 u i rfl)
        · exact fun D n d c u i=>zaA (i:=(from3:Int).toNat) (j:=0) (k:=1) (q:=q3) zbp zaQ rfl dc (zaa (m:=2) u rfl (d 2 dc)) rfl (zaz hq5) rfl dc rfl (zaf 3 u i rfl)
        · exact fun D n d c u i=>zbz rfl dc (zaa (m:=3) u rfl (d 3 dc)) rfl zbc (zcq (show Value.bool (decide ((q3:Int)<0))=Value.bool false from congrArg Value.bool hb6) (zaf 4 u i rfl))
        · exact fun D n d c u i=>zaj (k:=0) hq10 Tryz.underlying49 zcs (zdU rfl (zaa (m:=5) u rfl (d 5 dc))) dc (zaa (m:=7) u rfl (d 7 dc)) (zaa (m:=8) u rfl (d 8 dc)) rfl rfl (zaf 9 u i rfl)
        · exact fun D n d c u i=>zaA (i:=(from3:Int).toNat) (j:=0) (k:=0) (q:=q8) zbp zaQ (zdU rfl (zaa (m:=5) u rfl (d 5 dc))) dc (zaa (m:=9) u rfl (d 9 dc)) rfl (zaz hq10) rfl dc rfl (zaf 10 u i rfl)
        · exact fun D n d c u i=>zbz (zdU rfl (zaa (m:=5) u rfl (d 5 dc))) dc (zaa (m:=6) u rfl (d 6 dc)) (zaa (m:=10) u rfl (d 10 dc)) zbc (zcq (show Value.bool (decide ((c1:Int)<q8))=Value.bool false from congrArg Value.bool hb7) (zaf 11 u i rfl))
        · exact fun D n d c u i=>zaj (k:=0) hq10 Tryz.underlying49 zcs (zdU rfl (zaa (m:=13) u rfl (d 13 dc))) dc (zaa (m:=15) u rfl (d 15 dc)) (zaa (m:=16) u rfl (d 16 dc)) rfl rfl (zaf 17 u i rfl)
        · exact fun D n d c u i=>zaA (i:=(from3:Int).toNat) (j:=0) (k:=0) (q:=q8) zbp zaQ (zdU rfl (zaa (m:=13) u rfl (d 13 dc))) dc (zaa (m:=17) u rfl (d 17 dc)) rfl (zaz hq10) rfl dc rfl (zaf 18 u i rfl)
        · exact fun D n d c u i=>zbz (zdU rfl (zaa (m:=13) u rfl (d 13 dc))) dc (zaa (m:=14) u rfl (d 14 dc)) (zaa (m:=18) u rfl (d 18 dc)) zaT (zcq (show Value.bool ((c1:Int)==q8)=Value.bool false from congrArg Value.bool hb8) (zaf 19 u i rfl))
        refine zyR 3 rfl (zyN (zaS rfl (zar (zag ?_))))
        exact zal (cost8,pages7,next8) h rfl (za0 rfl) (zad [0,1,2] kr rfl)
       rintro ⟨cost9,pages8,next9⟩ h
       rw [hj4] at h
       refine zav (zyR 1 rfl ?_)
       obtain ⟨hg19,h⟩:=zbr h
       refine zaU rfl (zbt (r:=to3 - 1) (IntWalk.i64_in _ hg19)) (zyR 1 rfl (zaO ?_))
       subst hag2
       exact za1 (n2,cost9,pages8,next9,to3 - 1) h (Nat.lt_succ_self _) rfl (za0 rfl) (zad [0,1,2] kr rfl)
      refine za3 (zan (zan (zax (zag ?_))))
      exact zal (cost8,pages7,next8) h rfl (za0 rfl) (zad [0,1,2] kr rfl)
    rintro ⟨cost5,pages4,next5⟩ h
    rw [hj2] at h
    refine zav (zyR 1 rfl ?_)
    obtain ⟨hg20,h⟩:=zbr h
    refine zaU rfl (zbt (r:=from3 - 1) (IntWalk.i64_in _ hg20)) (zyR 1 rfl (zaO ?_))
    subst hag1
    exact za1 (n1,cost5,pages4,next5,from3 - 1) h (Nat.lt_succ_self _) rfl (za0 rfl) (zad [0,1,2] kr rfl)
   refine za3 (zan (zan (zax ?_)))
   exact zal (cost4,next4,v3,v5) h rfl (za0 rfl) (zad [0,2] kr rfl)
 rintro ⟨cost1,next1,v1,v2⟩ h
 rw [hj1] at h
 obtain ⟨j6,hj6,h⟩:=zbG h
 refine zaX (β:=(List Int)×Value) 2 rfl (fun b=>j6 b.1=some r) (fun b=>[]) (fun b=>[(7,v1),(15,b.2)]) (fun b=>[zv0 v1 cost1,zv0 b.2 b.1]) (fun cut => ?_) ?_
 ·
  refine zyG (zyR 1 rfl (zyH (zyR 1 rfl (zyN (cut (zaF (zcR (enc:=(zqb (.i64))) (e:=3) (size:=1) ?_)))))))
  refine zbj (β:=Nat×(List Int)×Int×Value) (fun b=>zaE (fun _ _=>none) (zcx rows1 next1 j6) b.1 b.2.1 b.2.2.1=some r) (fun b=>[]) (fun b=>[(6,zI (rows1.length:Int)),(7,v1),(9,v2),(15,b.2.2.2),(16,zI b.2.2.1)]) (fun b=>[zv0 v1 cost1,zv0 v2 next1,zv0 b.2.2.2 b.2.1]) (fun b=>b.1) (zbN,([]:List Int),0,(.slice none 0 0)) h rfl (za0 rfl) (zad [0,1,2] kr rfl) ?_
  rintro ⟨n3,out4,from6,v10⟩ h
  cases n3 with
  | zero=>exact zdp h
  | succ n3 =>
   obtain ⟨ag3,hag3⟩:∃ ag,ag=zaE (fun _ _=>none) (zcx rows1 next1 j6) n3:=⟨_,rfl⟩
   have h:zcx rows1 next1 j6 ag3 out4 from6=some r:=by rw [hag3]; exact h
   unfold zcx at h
   refine zaI (zyG (zyR 2 rfl (zaU rfl zbc (zyN ?_))))
   refine zyB rfl h (fun h => ?_) (fun h => ?_)
   ·
    refine zar (zaH (zaF (zyG (zyR 2 rfl ?_))))
    obtain ⟨q18,hq20,h⟩:=zbi h
    refine zaj (k:=1) hq20 Tryz.underlying49 zcs rfl dc rfl rfl rfl rfl (zaA (i:=(from6:Int).toNat) (j:=0) (k:=1) (q:=q18) zbp zaQ rfl dc rfl rfl (zaz hq20) rfl dc rfl (zyR 1 rfl (zyN (zav (zyR 2 rfl ?_)))))
    refine zaV (cs:=[zI q18]) (te:=3) (ps:=[(0,.tmp 135)]) rfl dc rfl (fun _=>by kernel_rfl) (fun b1 => ?_)
    obtain ⟨hg21,h⟩:=zbr h
    refine za4 (k:=2) (k2:=3) (ys:=[q18]) Tryz.underlying49 zpv zaQ zgC rfl dc rfl rfl rfl rfl rfl rfl hg21 (fun v11 => ?_)
    refine zyR 1 rfl (zaO (zag ?_))
    subst hag3
    exact za1 (n3,out4++[q18],q18,v11) h (Nat.lt_succ_self _) rfl (za0 rfl) (zad [0,1,2] kr rfl)
   refine za3 (zan (zan (zax ?_)))
   exact zal (out4,v10) h rfl (za0 rfl) (zad [0,2] kr rfl)
 rintro ⟨out1,v7⟩ h
 rw [hj6] at h
 refine zaI ?_
 obtain ⟨q19,hq21,h⟩:=zbi h
 refine zbn 5 [(0,138,v7),(1,139,v1),(2,140,.pointer (some ⟨zbY v1,(0:Int).toNat*1,none⟩)),(3,141,zI q19),(4,4,v7)] mixed kr kr dc (by rfl) kr kr (zyP 2 0 rfl (zac ?_ (zac ?_ (zyP 1 4 rfl DrawPre.nil)))) ?_
 · exact fun D n d c u i=>zaj (k:=0) hq21 Tryz.underlying49 zcs rfl dc (zaa (m:=1) u rfl (d 1 dc)) rfl rfl rfl (zaf 2 u i rfl)
 · exact fun D n d c u i=>zaA (i:=(0:Int).toNat) (j:=0) (k:=0) (q:=q19) zbp zaQ rfl dc (zaa (m:=2) u rfl (d 2 dc)) rfl (zaz hq21) rfl dc rfl (zaf 3 u i rfl)
 refine zyR 1 rfl (zyN (zaG ?_))
 cases h
 exact zaK (rs:=[.tmp 4,.tmp 5]) v7 (.inl rfl) Tryz.results17 (.cons (.tmp rfl) (.cons (.tmp rfl) .nil)) rfl (zad [1] kr rfl)
end Go.Proofs.YtbempdelckaccaaGreatDoor

namespace Go.Proofs.YtbempdelckaccaaGreatDoor
open Go.RowKit Go.Lib
set_option linter.unusedVariables false
set_option linter.unusedSimpArgs false
def zdg (p1:Gpage_parter) (from1:Int) (to1:Int):Option Int :=
grd (I64 (to1 - from1)) <|
grd (I64 (to1 - 1)) <|
zah (zbm p1.blanks (to1 - 1)) fun (q1:Int) =>
grd (I64 ((to1 - from1)+q1)) <|
zah (zbm p1.blanks from1) fun (q2:Int) =>
grd (I64 (((to1 - from1)+q1) - q2)) <|
some (((to1 - from1)+q1) - q2)
theorem zgm {bp1:Nat} {p1:Gpage_parter} {p1_h0 p1_h1 p1_h2 p1_h3:Hd} {from1:Int} {to1:Int} {r:Int} (h:zdg p1 from1 to1=some r):FnR Tryz.prog 93 [zP bp1,zI from1,zI to1] [cells bp1 [p1_h0.v,p1_h1.v,p1_h2.v,p1_h3.v,zI p1.heights] 131,zv1 p1_h0.v p1.rows,zv0 p1_h1.v p1.blanks,zv0 p1_h2.v p1.firsts,zv0 p1_h3.v p1.lasts] [] (fun _:Unit=>(zI r)) (fun _=>[]):=by
 unfold zdg at h
 refine FnR.intro Tryz.func93 rfl Tryz.ntmps93 (by simp) ?_
 intro w0 K hrd
 refine zyG (zyR 1 rfl (zyN (zaI ?_)))
 obtain ⟨hg1,h⟩:=zbr h
 obtain ⟨hg2,h⟩:=zbr h
 obtain ⟨q1,hq1,h⟩:=zbi h
 obtain ⟨hg3,h⟩:=zbr h
 obtain ⟨q2,hq2,h⟩:=zbi h
 obtain ⟨hg4,h⟩:=zbr h
 refine zbn 19 [(0,7,zI to1),(1,8,zI from1),(2,9,zI (to1 - from1)),(3,10,zP bp1),(4,11,zP bp1),(5,12,.pointer (some ⟨bp1,1,none⟩)),(6,13,p1_h1.v),(7,14,zI to1),(8,15,zI (to1 - 1)),(9,16,.pointer (some ⟨zbY p1_h1.v,(0+(to1 - 1:Int).toNat)*1,none⟩)),(10,17,zI q1),(11,18,zI ((to1 - from1)+q1)),(12,19,zP bp1),(13,20,zP bp1),(14,21,.pointer (some ⟨bp1,1,none⟩)),(15,22,p1_h1.v),(16,23,zI from1),(17,24,.pointer (some ⟨zbY p1_h1.v,(0+(from1:Int).toNat)*1,none⟩)),(18,25,zI q2)] mixed kr kr dc (by rfl) kr kr (zyP 2 0 rfl (zac ?_ (zyP 1 3 rfl (zac ?_ (zac ?_ (zac ?_ (zyP 1 7 rfl (zac ?_ (zac ?_ (zac ?_ (zac ?_ (zyP 1 12 rfl (zac ?_ (zac ?_ (zac ?_ (zyP 1 16 rfl (zac ?_ (zac ?_ DrawPre.nil)))))))))))))))))) ?_
 · exact fun D n d c u i=>zbz rfl dc (zaa (m:=0) u rfl (d 0 dc)) (zaa (m:=1) u rfl (d 1 dc)) (zbt (r:=to1 - from1) (IntWalk.i64_in _ hg1)) (zaf 2 u i rfl)
 · exact fun D n d c u i=>zaD rfl dc (zaa (m:=3) u rfl (d 3 dc)) (zaf 4 u i rfl)
 · exact fun D n d c u i=>zab zkd rfl dc (zaa (m:=4) u rfl (d 4 dc)) (show _=1 from rfl) (zaf 5 u i rfl)
 · exact fun D n d c u i=>zbw (i:=0) hrd rfl zhh rfl dc (zaa (m:=5) u rfl (d 5 dc)) rfl (zaf 6 u i rfl)
 · exact fun D n d c u i=>zbz rfl dc (zaa (m:=7) u rfl (d 7 dc)) rfl (zbt (r:=to1 - 1) (IntWalk.i64_in _ hg2)) (zaf 8 u i rfl)
 · exact fun D n d c u i=>za9 (hrd.vw (i:=2) rfl) hq1 Tryz.underlying49 zcs rfl dc (zaa (m:=6) u rfl (d 6 dc)) (zaa (m:=8) u rfl (d 8 dc)) rfl (zaf 9 u i rfl)
 · exact fun D n d c u i=>zcI (n:=0+(to1 - 1:Int).toNat) (j:=0) (i:=2) (q:=q1) hrd rfl zbp zaQ rfl dc (zaa (m:=9) u rfl (d 9 dc)) (Vw.get (hrd.vw (i:=2) rfl) hq1) rfl dc rfl (zaf 10 u i rfl)
 · exact fun D n d c u i=>zbz rfl dc (zaa (m:=2) u rfl (d 2 dc)) (zaa (m:=10) u rfl (d 10 dc)) (zaR (r:=(to1 - from1)+q1) (IntWalk.i64_in _ hg3)) (zaf 11 u i rfl)
 · exact fun D n d c u i=>zaD rfl dc (zaa (m:=12) u rfl (d 12 dc)) (zaf 13 u i rfl)
 · exact fun D n d c u i=>zab zkd rfl dc (zaa (m:=13) u rfl (d 13 dc)) (show _=1 from rfl) (zaf 14 u i rfl)
 · exact fun D n d c u i=>zbw (i:=0) hrd rfl zhh rfl dc (zaa (m:=14) u rfl (d 14 dc)) rfl (zaf 15 u i rfl)
 · exact fun D n d c u i=>za9 (hrd.vw (i:=2) rfl) hq2 Tryz.underlying49 zcs rfl dc (zaa (m:=15) u rfl (d 15 dc)) (zaa (m:=16) u rfl (d 16 dc)) rfl (zaf 17 u i rfl)
 · exact fun D n d c u i=>zcI (n:=0+(from1:Int).toNat) (j:=0) (i:=2) (q:=q2) hrd rfl zbp zaQ rfl dc (zaa (m:=17) u rfl (d 17 dc)) (Vw.get (hrd.vw (i:=2) rfl) hq2) rfl dc rfl (zaf 18 u i rfl)
 refine zaU rfl (zbt (r:=((to1 - from1)+q1) - q2) (IntWalk.i64_in _ hg4)) (zyR 1 rfl (zyN (zaG ?_)))
 cases h
 exact zaK (rs:=[.tmp 6]) () (.inl rfl) Tryz.results93 (.cons (.tmp rfl) .nil) rfl Splits.nil
def zd6 (p1:Gpage_parter) (k1:Int):Option Int :=
grd (I64 (k1 - 1)) <|
zah (zbm p1.rows (k1 - 1)) fun (q1:Gapi_Row) =>
zah (zbm p1.rows k1) fun (q2:Gapi_Row) =>
zay ((q1.Stanza:Int) != q2.Stanza) (
some 0
) (
zay ((q1.Line:Int)==q2.Line) (
some 100
) (
zah (zbm p1.firsts q1.Stanza) fun (q3:Int) =>
zay ((q1.Line:Int)==q3) (
some 50
) (
zah (zbm p1.lasts q2.Stanza) fun (q4:Int) =>
zay ((q2.Line:Int)==q4) (
some 50
) (
some 10
)
)
)
)
theorem ziF {bp1:Nat} {p1:Gpage_parter} {p1_h0 p1_h1 p1_h2 p1_h3:Hd} {k1:Int} {r:Int} (h:zd6 p1 k1=some r):FnR Tryz.prog 94 [zP bp1,zI k1] [cells bp1 [p1_h0.v,p1_h1.v,p1_h2.v,p1_h3.v,zI p1.heights] 131,zv1 p1_h0.v p1.rows,zv0 p1_h1.v p1.blanks,zv0 p1_h2.v p1.firsts,zv0 p1_h3.v p1.lasts] [] (fun _:Unit=>(zI r)) (fun _=>[]):=by
 unfold zd6 at h
 refine FnR.intro Tryz.func94 rfl Tryz.ntmps94 (by simp) ?_
 intro w0 K hrd
 refine zyG (zyR 1 rfl (zyN (zaI ?_)))
 obtain ⟨hg1,h⟩:=zbr h
 obtain ⟨q1,hq1,h⟩:=zbi h
 obtain ⟨q2,hq2,h⟩:=zbi h
 refine zgs 2 ?_
 refine let vals1:(Nat×Nat)→List (Nat×Nat×Value):=fun b=>[(0,7,zP bp1),(1,8,zP bp1),(2,9,zP bp1),(3,10,p1_h0.v),(4,11,zI k1),(5,12,zI (k1 - 1)),(6,13,.pointer (some ⟨zbY p1_h0.v,(0+(k1 - 1:Int).toNat)*6,none⟩)),(7,14,.agg (zr3 q1).toArray),(8,15,zP bp1),(9,16,zP bp1),(10,17,zP bp1),(11,18,p1_h0.v),(12,19,zI k1),(13,20,.pointer (some ⟨zbY p1_h0.v,(0+(k1:Int).toNat)*6,none⟩)),(14,21,.agg (zr3 q2).toArray),(15,5,zP b.1),(16,6,zP b.2)]; let LL1:(Nat→Prop)→(Nat×Nat)→List Asn:=fun D b=>[eD D emp [(17,cells b.1 (zr3 q1) 33),(15,cells b.1 [zI 0,zI 0,zI 0,zI 0,zI 0,.string ByteArray.empty] 33)],eD D emp [(16,cells b.2 [zI 0,zI 0,zI 0,zI 0,zI 0,.string ByteArray.empty] 33)]]; ?_
 have zhq:zyQ [15,16,17] LL1:=fun i h D b=>zae (zjY rfl h) (zae (zjY rfl h) rfl)
 refine zd3 (β:=Nat×Nat) 18 ((0:Nat),(0:Nat)) vals1 LL1 mixed kr kr dc (fun _=>rfl) (zae zb7 (zae zb7 rfl)) (zmg zhq (fun _=>rfl) (fun _=>rfl) 1 0 (fun _=>rfl) rfl (zyq zhq rfl (fun _=>rfl) (fun _=>rfl) ?_ (zyq zhq rfl (fun _=>rfl) (fun _=>rfl) ?_ (zyq zhq rfl (fun _=>rfl) (fun _=>rfl) ?_ (zmg zhq (fun _=>rfl) (fun _=>rfl) 1 4 (fun _=>rfl) rfl (zyq zhq rfl (fun _=>rfl) (fun _=>rfl) ?_ (zyq zhq rfl (fun _=>rfl) (fun _=>rfl) ?_ (zi5 zhq rfl (fun _=>rfl) (fun _=>rfl) ?_ (zmg zhq (fun _=>rfl) (fun _=>rfl) 1 8 (fun _=>rfl) rfl (zyq zhq rfl (fun _=>rfl) (fun _=>rfl) ?_ (zyq zhq rfl (fun _=>rfl) (fun _=>rfl) ?_ (zyq zhq rfl (fun _=>rfl) (fun _=>rfl) ?_ (zmg zhq (fun _=>rfl) (fun _=>rfl) 1 12 (fun _=>rfl) rfl (zyq zhq rfl (fun _=>rfl) (fun _=>rfl) ?_ (zi5 zhq rfl (fun _=>rfl) (fun _=>rfl) ?_ (zaB ?_ (zaB ?_ (zaB ?_ DrawG.nil)))))))))))))))))) ?_
 · exact fun D ⟨b1,b2⟩ n d c u i=>zaD rfl dc (zaa (m:=0) u rfl (d 0 dc)) (zaf 1 u i rfl)
 · exact fun D ⟨b1,b2⟩ n d c u i=>zab zgy rfl dc (zaa (m:=1) u rfl (d 1 dc)) (show _=0 from rfl) (zaf 2 u i rfl)
 · exact fun D ⟨b1,b2⟩ n d c u i=>zbw (i:=0) hrd rfl zmz rfl dc (zaa (m:=2) u rfl (d 2 dc)) rfl (zaf 3 u i rfl)
 · exact fun D ⟨b1,b2⟩ n d c u i=>zbz rfl dc (zaa (m:=4) u rfl (d 4 dc)) rfl (zbt (r:=k1 - 1) (IntWalk.i64_in _ hg1)) (zaf 5 u i rfl)
 · exact fun D ⟨b1,b2⟩ n d c u i=>za9 (hrd.vw (i:=1) rfl) hq1 Tryz.underlying43 zeb rfl dc (zaa (m:=3) u rfl (d 3 dc)) (zaa (m:=5) u rfl (d 5 dc)) rfl (zaf 6 u i rfl)
 · exact fun D ⟨b1,b2⟩ n d c u i=>⟨_,(zae (zak (fun hD=>n (c 17 _ rfl hD 7 dc)) rfl) rfl),zeN (m:=0+(k1 - 1:Int).toNat) (j:=0) (i:=1) (q:=q1) (cs:=(zr3 q1)) hrd rfl zia za8 rfl dc (zaa (m:=6) u rfl (d 6 dc)) (Vw.get (hrd.vw (i:=1) rfl) hq1) rfl rfl rfl (zaf 7 u i rfl)⟩
 · exact fun D ⟨b1,b2⟩ n d c u i=>zaD rfl dc (zaa (m:=8) u rfl (d 8 dc)) (zaf 9 u i rfl)
 · exact fun D ⟨b1,b2⟩ n d c u i=>zab zgy rfl dc (zaa (m:=9) u rfl (d 9 dc)) (show _=0 from rfl) (zaf 10 u i rfl)
 · exact fun D ⟨b1,b2⟩ n d c u i=>zbw (i:=0) hrd rfl zmz rfl dc (zaa (m:=10) u rfl (d 10 dc)) rfl (zaf 11 u i rfl)
 · exact fun D ⟨b1,b2⟩ n d c u i=>za9 (hrd.vw (i:=1) rfl) hq2 Tryz.underlying43 zeb rfl dc (zaa (m:=11) u rfl (d 11 dc)) (zaa (m:=12) u rfl (d 12 dc)) rfl (zaf 13 u i rfl)
 · exact fun D ⟨b1,b2⟩ n d c u i=>⟨_,(zdh rfl),zeN (m:=0+(k1:Int).toNat) (j:=0) (i:=1) (q:=q2) (cs:=(zr3 q2)) hrd rfl zia za8 rfl dc (zaa (m:=13) u rfl (d 13 dc)) (Vw.get (hrd.vw (i:=1) rfl) hq2) rfl rfl rfl (zaf 14 u i rfl)⟩
 ·
  intro D b hn hd hcl
  obtain ⟨zb0,b2⟩:=b
  refine zaL (zae (zak (fun hD=>hn (hcl 17 _ rfl hD 15 dc)) (zak hn zaq)) rfl) ?_
  refine zbE zoh rfl dc (fun b1 => ?_)
  refine zcU 0 rfl rfl ?_
  exact zaW (b:=(zb0,b2)) (b1,b2) 15 (by rfl) (by rfl) rfl (zuT (zcL (zas (fun hD=>absurd hD hn) (zas (fun _=>rfl) rfl)))) (zae (zak (fun h=>h.elim (fun hD=>hn (hcl 17 _ rfl hD 15 dc)) (fun h=>absurd h dc)) (zaM (Or.inr rfl) rfl)) (zae (zap (by rfl)) rfl))
 ·
  intro D b hn hd hcl
  obtain ⟨b1,zb1⟩:=b
  refine zaL (zae (zak (fun hD=>hn (hcl 17 _ rfl hD 16 dc)) rfl) (zae (zak hn zaq) rfl)) ?_
  refine zbE zoh rfl dc (fun b2 => ?_)
  refine zcU 1 rfl rfl ?_
  exact zaW (b:=(b1,zb1)) (b1,b2) 16 (by rfl) (by rfl) rfl (znj (zcL (zas (fun hD=>absurd hD hn) rfl))) (zae ((zap (by rfl)).trans (zak (fun hD=>hn (hcl 17 _ rfl hD 16 dc)) rfl)) (zae (zaM (Or.inr rfl) rfl) rfl))
 ·
  intro D b hn hd hcl
  obtain ⟨b1,b2⟩:=b
  refine zaL (zae (zak hn (zaM (hd 15 dc) rfl)) (zae (zaM (hd 16 dc) rfl) rfl)) (za6 (k:=0) (vs:=(zr3 q1)) (l':=(zr3 q1)) zeb rfl (zaa (m:=15) rfl rfl (hd 15 dc)) (zaa (m:=7) rfl rfl (hd 7 dc)) rfl rfl (show _≤_ by simp) rfl rfl ?_)
  exact zhT (b:=(b1,b2)) (b1,b2) (by rfl) (znk (zcL rfl)) (zae (zaM (Or.inr rfl) rfl) (zae ((zap (by rfl)).trans (zaM (hd 16 dc) rfl)) rfl))
 intro D b hall
 obtain ⟨b1,b2⟩:=b
 refine zaL (zae (zaM (hall 17 dc) rfl) (zae (zaM (hall 16 dc) rfl) rfl)) (za6 (k:=1) (vs:=(zr3 q2)) (l':=(zr3 q2)) zeb rfl rfl rfl rfl rfl (show _≤_ by simp) rfl rfl (zyN (zaI (zaF (zyG (zab zd0 rfl dc rfl (show _=1 from rfl) (zau (k:=0) zbp rfl dc rfl rfl rfl (zab zd0 rfl dc rfl (show _=1 from rfl) (zau (k:=1) zbp rfl dc rfl rfl rfl (zaU rfl zbS (zyR 1 rfl ?_)))))))))))
 refine zyN ?_
 refine zyB rfl h (fun h => ?_) (fun h => ?_)
 ·
  refine zyG (zyR 1 rfl (zyN (zaG (zat (zao ?_)))))
  cases h
  exact zaK (rs:=[.tmp 4]) () (.inl rfl) Tryz.results94 (.cons (.tmp rfl) .nil) rfl Splits.nil
 refine zyG (zab zfn rfl dc rfl (show _=0 from rfl) (zau (k:=0) zbp rfl dc rfl rfl rfl (zab zfn rfl dc rfl (show _=0 from rfl) (zau (k:=1) zbp rfl dc rfl rfl rfl (zaU rfl zaT (zyR 1 rfl (zyN ?_)))))))
 refine zyB rfl h (fun h => ?_) (fun h => ?_)
 ·
  refine zyG (zyR 1 rfl (zyN (zaG (zat (zao ?_)))))
  cases h
  exact zaK (rs:=[.tmp 4]) () (.inl rfl) Tryz.results94 (.cons (.tmp rfl) .nil) rfl Splits.nil
 refine zaI ?_
 obtain ⟨q3,hq3,h⟩:=zbi h
 refine zcW (b:=(q1.Line:Int)==q3) (fun hb3 => ?_) (fun hb3 => ?_)
 ·
  have h:=zf0 hb3 h
  refine zbn 22 [(0,35,zP b1),(1,36,zI q1.Line),(2,37,zP bp1),(3,38,zP bp1),(4,39,.pointer (some ⟨bp1,2,none⟩)),(5,40,p1_h2.v),(6,41,.pointer (some ⟨b1,1,none⟩)),(7,42,zI q1.Stanza),(8,43,.pointer (some ⟨zbY p1_h2.v,(0+(q1.Stanza:Int).toNat)*1,none⟩)),(9,44,zI q3),(10,45,.bool true),(11,46,.bool true),(12,47,undef),(13,48,undef),(14,49,undef),(15,50,undef),(16,51,undef),(17,52,undef),(18,53,undef),(19,54,undef),(20,55,undef),(21,56,undef)] mixed kr kr dc (by rfl) kr kr (zac ?_ (zac ?_ (zyP 1 2 rfl (zac ?_ (zac ?_ (zac ?_ (zac ?_ (zac ?_ (zac ?_ (zac ?_ (zac ?_ (zyP 11 11 rfl DrawPre.nil)))))))))))) ?_
  · exact fun D n d c u i=>zab zfn rfl dc (zbe (by rfl) rfl) (show _=0 from rfl) (zaf 0 u i rfl)
  · exact fun D n d c u i=>zau (k:=0) zbp rfl dc (zaa (m:=0) u rfl (d 0 dc)) rfl rfl (zaf 1 u i rfl)
  · exact fun D n d c u i=>zaD rfl dc (zaa (m:=2) u rfl (d 2 dc)) (zaf 3 u i rfl)
  · exact fun D n d c u i=>zab ziP rfl dc (zaa (m:=3) u rfl (d 3 dc)) (show _=2 from rfl) (zaf 4 u i rfl)
  · exact fun D n d c u i=>zbw (i:=0) hrd rfl zhh rfl dc (zaa (m:=4) u rfl (d 4 dc)) rfl (zaf 5 u i rfl)
  · exact fun D n d c u i=>zab zd0 rfl dc (zbe (by rfl) rfl) (show _=1 from rfl) (zaf 6 u i rfl)
  · exact fun D n d c u i=>zau (k:=0) zbp rfl dc (zaa (m:=6) u rfl (d 6 dc)) rfl rfl (zaf 7 u i rfl)
  · exact fun D n d c u i=>za9 (hrd.vw (i:=3) rfl) hq3 Tryz.underlying49 zcs rfl dc (zaa (m:=5) u rfl (d 5 dc)) (zaa (m:=7) u rfl (d 7 dc)) rfl (zaf 8 u i rfl)
  · exact fun D n d c u i=>zcI (n:=0+(q1.Stanza:Int).toNat) (j:=0) (i:=3) (q:=q3) hrd rfl zbp zaQ rfl dc (zaa (m:=8) u rfl (d 8 dc)) (Vw.get (hrd.vw (i:=3) rfl) hq3) rfl dc rfl (zaf 9 u i rfl)
  · exact fun D n d c u i=>zbz rfl dc (zaa (m:=1) u rfl (d 1 dc)) (zaa (m:=9) u rfl (d 9 dc)) zaT (zcq (show Value.bool ((q1.Line:Int)==q3)=Value.bool true from congrArg Value.bool hb3) (zaf 10 u i rfl))
  refine zyR 3 rfl (zyN (za5 rfl (zyG (zyR 1 rfl (zyN (zaG (zat (zao ?_))))))))
  cases h
  exact zaK (rs:=[.tmp 4]) () (.inl rfl) Tryz.results94 (.cons (.tmp rfl) .nil) rfl Splits.nil
 have h:=zf1 hb3 h
 obtain ⟨q4,hq4,h⟩:=zbi h
 refine zbn 22 [(0,35,zP b1),(1,36,zI q1.Line),(2,37,zP bp1),(3,38,zP bp1),(4,39,.pointer (some ⟨bp1,2,none⟩)),(5,40,p1_h2.v),(6,41,.pointer (some ⟨b1,1,none⟩)),(7,42,zI q1.Stanza),(8,43,.pointer (some ⟨zbY p1_h2.v,(0+(q1.Stanza:Int).toNat)*1,none⟩)),(9,44,zI q3),(10,45,.bool false),(11,46,.bool false),(12,47,zP b2),(13,48,zI q2.Line),(14,49,zP bp1),(15,50,zP bp1),(16,51,.pointer (some ⟨bp1,3,none⟩)),(17,52,p1_h3.v),(18,53,.pointer (some ⟨b2,1,none⟩)),(19,54,zI q2.Stanza),(20,55,.pointer (some ⟨zbY p1_h3.v,(0+(q2.Stanza:Int).toNat)*1,none⟩)),(21,56,zI q4)] mixed kr kr dc (by rfl) kr kr (zac ?_ (zac ?_ (zyP 1 2 rfl (zac ?_ (zac ?_ (zac ?_ (zac ?_ (zac ?_ (zac ?_ (zac ?_ (zac ?_ (zyP 1 11 rfl (zac ?_ (zac ?_ (zyP 1 14 rfl (zac ?_ (zac ?_ (zac ?_ (zac ?_ (zac ?_ (zac ?_ (zac ?_ DrawPre.nil)))))))))))))))))))))) ?_
 · exact fun D n d c u i=>zab zfn rfl dc (zbe (by rfl) rfl) (show _=0 from rfl) (zaf 0 u i rfl)
 · exact fun D n d c u i=>zau (k:=0) zbp rfl dc (zaa (m:=0) u rfl (d 0 dc)) rfl rfl (zaf 1 u i rfl)
 · exact fun D n d c u i=>zaD rfl dc (zaa (m:=2) u rfl (d 2 dc)) (zaf 3 u i rfl)
 · exact fun D n d c u i=>zab ziP rfl dc (zaa (m:=3) u rfl (d 3 dc)) (show _=2 from rfl) (zaf 4 u i rfl)
 · exact fun D n d c u i=>zbw (i:=0) hrd rfl zhh rfl dc (zaa (m:=4) u rfl (d 4 dc)) rfl (zaf 5 u i rfl)
 · exact fun D n d c u i=>zab zd0 rfl dc (zbe (by rfl) rfl) (show _=1 from rfl) (zaf 6 u i rfl)
 · exact fun D n d c u i=>zau (k:=0) zbp rfl dc (zaa (m:=6) u rfl (d 6 dc)) rfl rfl (zaf 7 u i rfl)
 · exact fun D n d c u i=>za9 (hrd.vw (i:=3) rfl) hq3 Tryz.underlying49 zcs rfl dc (zaa (m:=5) u rfl (d 5 dc)) (zaa (m:=7) u rfl (d 7 dc)) rfl (zaf 8 u i rfl)
 · exact fun D n d c u i=>zcI (n:=0+(q1.Stanza:Int).toNat) (j:=0) (i:=3) (q:=q3) hrd rfl zbp zaQ rfl dc (zaa (m:=8) u rfl (d 8 dc)) (Vw.get (hrd.vw (i:=3) rfl) hq3) rfl dc rfl (zaf 9 u i rfl)
 · exact fun D n d c u i=>zbz rfl dc (zaa (m:=1) u rfl (d 1 dc)) (zaa (m:=9) u rfl (d 9 dc)) zaT (zcq (show Value.bool ((q1.Line:Int)==q3)=Value.bool false from congrArg Value.bool hb3) (zaf 10 u i rfl))
 · exact fun D n d c u i=>zab zfn (zdU rfl (zaa (m:=11) u rfl (d 11 dc))) dc (zbe (by rfl) rfl) (show _=0 from rfl) (zaf 12 u i rfl)
 · exact fun D n d c u i=>zau (k:=1) zbp (zdU rfl (zaa (m:=11) u rfl (d 11 dc))) dc (zaa (m:=12) u rfl (d 12 dc)) rfl rfl (zaf 13 u i rfl)
 · exact fun D n d c u i=>zaD (zdU rfl (zaa (m:=11) u rfl (d 11 dc))) dc (zaa (m:=14) u rfl (d 14 dc)) (zaf 15 u i rfl)
 · exact fun D n d c u i=>zab zkc (zdU rfl (zaa (m:=11) u rfl (d 11 dc))) dc (zaa (m:=15) u rfl (d 15 dc)) (show _=3 from rfl) (zaf 16 u i rfl)
 · exact fun D n d c u i=>zbw (i:=0) hrd rfl zhh (zdU rfl (zaa (m:=11) u rfl (d 11 dc))) dc (zaa (m:=16) u rfl (d 16 dc)) rfl (zaf 17 u i rfl)
 · exact fun D n d c u i=>zab zd0 (zdU rfl (zaa (m:=11) u rfl (d 11 dc))) dc (zbe (by rfl) rfl) (show _=1 from rfl) (zaf 18 u i rfl)
 · exact fun D n d c u i=>zau (k:=1) zbp (zdU rfl (zaa (m:=11) u rfl (d 11 dc))) dc (zaa (m:=18) u rfl (d 18 dc)) rfl rfl (zaf 19 u i rfl)
 · exact fun D n d c u i=>za9 (hrd.vw (i:=4) rfl) hq4 Tryz.underlying49 zcs (zdU rfl (zaa (m:=11) u rfl (d 11 dc))) dc (zaa (m:=17) u rfl (d 17 dc)) (zaa (m:=19) u rfl (d 19 dc)) rfl (zaf 20 u i rfl)
 · exact fun D n d c u i=>zcI (n:=0+(q2.Stanza:Int).toNat) (j:=0) (i:=4) (q:=q4) hrd rfl zbp zaQ (zdU rfl (zaa (m:=11) u rfl (d 11 dc))) dc (zaa (m:=20) u rfl (d 20 dc)) (Vw.get (hrd.vw (i:=4) rfl) hq4) rfl dc rfl (zaf 21 u i rfl)
 refine zaU rfl zaT (zyR 2 rfl (zyN ?_))
 refine zyB rfl h (fun h => ?_) (fun h => ?_)
 ·
  refine zyG (zyR 1 rfl (zyN (zaG (zat (zao ?_)))))
  cases h
  exact zaK (rs:=[.tmp 4]) () (.inl rfl) Tryz.results94 (.cons (.tmp rfl) .nil) rfl Splits.nil
 refine zar (zag (zaH (zyG (zyR 1 rfl (zyN (zaG ?_))))))
 cases h
 exact zaK (rs:=[.tmp 4]) () (.inl rfl) Tryz.results94 (.cons (.tmp rfl) .nil) rfl Splits.nil
def zbT (p1:Gpage_parter) (from3:Int) (j2:(List Gpage_best)→Option ((List Int)×Int)) (ag2:(List Gpage_best)→Int→Option ((List Int)×Int)) (all8:List Gpage_best) (to3:Int):Option ((List Int)×Int) :=
zay (decide ((to3:Int)≤(p1.rows.length:Int))) (
zah (zdg p1 from3 to3) fun (r1:Int) =>
zay (decide ((r1:Int)≤p1.heights)) (
zbk (fun (j3:(List Gpage_best)→Option ((List Int)×Int)) =>
zbk (fun (j4:Int→Int→Option ((List Int)×Int)) =>
zay (decide ((to3:Int)<(p1.rows.length:Int))) (
zah (zdg p1 from3 to3) fun (r2:Int) =>
grd (I64 (p1.heights - r2)) <|
grd (I64 ((p1.heights - r2)*(p1.heights - r2))) <|
zah (zd6 p1 to3) fun (r3:Int) =>
grd (I64 (((p1.heights - r2)*(p1.heights - r2))+r3)) <|
zah (zbm all8 to3) fun (q2:Gpage_best) =>
grd (I64 ((((p1.heights - r2)*(p1.heights - r2))+r3)+q2.cost)) <|
grd (I64 (q2.rows+1)) <|
j4 ((((p1.heights - r2)*(p1.heights - r2))+r3)+q2.cost) (q2.rows+1)
) (
j4 0 1
)
) (fun (b2:Int) (b3:Int) =>
zah (zbm all8 from3) fun (q3:Gpage_best) =>
zay (decide ((q3.rows:Int)<0)) (
zah (zbm all8 from3) fun (q4:Gpage_best) =>
j3 (all8.set (from3:Int).toNat (⟨b2,b3,to3⟩:Gpage_best))
) (
zay (decide ((b2:Int)<q3.cost)) (
zah (zbm all8 from3) fun (q5:Gpage_best) =>
j3 (all8.set (from3:Int).toNat (⟨b2,b3,to3⟩:Gpage_best))
) (
zay ((b2:Int)==q3.cost) (
zay (decide ((b3:Int)≤q3.rows)) (
zah (zbm all8 from3) fun (q6:Gpage_best) =>
j3 (all8.set (from3:Int).toNat (⟨b2,b3,to3⟩:Gpage_best))
) (
j3 all8
)
) (
j3 all8
)
)
)
)
) (fun (all9:List Gpage_best) =>
grd (I64 (to3+1)) <|
ag2 all9 (to3+1)
)
) (
j2 all8
)
) (
j2 all8
)
def zbU (p1:Gpage_parter) (j1:(List Gpage_best)→Option ((List Int)×Int)) (ag1:(List Gpage_best)→Int→Option ((List Int)×Int)) (all4:List Gpage_best) (from3:Int):Option ((List Int)×Int) :=
zay (decide ((0:Int)≤from3)) (
zbk (fun (j2:(List Gpage_best)→Option ((List Int)×Int)) =>
zah (zbm all4 from3) fun (q1:Gpage_best) =>
grd (I64 (from3+1)) <|
zaE (fun _ _=>none) (zbT p1 from3 j2) zbN (all4.set (from3:Int).toNat (⟨q1.cost,(-1),q1.to_⟩:Gpage_best)) (from3+1)
) (fun (all5:List Gpage_best) =>
grd (I64 (from3 - 1)) <|
ag1 all5 (from3 - 1)
)
) (
j1 all4
)
def zbH (p1:Gpage_parter) (all1:List Gpage_best) (j5:(List Int)→Option ((List Int)×Int)) (ag3:(List Int)→Int→Option ((List Int)×Int)) (out4:List Int) (from6:Int):Option ((List Int)×Int) :=
zay (decide ((from6:Int)<(p1.rows.length:Int))) (
zah (zbm all1 from6) fun (q7:Gpage_best) =>
grd (out4.length+1≤2147483648) <|
zah (zbm all1 from6) fun (q8:Gpage_best) =>
ag3 (out4++[q7.to_]) q8.to_
) (
j5 out4
)
def zdD (p1:Gpage_parter):Option ((List Int)×Int) :=
zbk (fun (j1:(List Gpage_best)→Option ((List Int)×Int)) =>
grd (I64 ((p1.rows.length:Int)+1)) <|
grd (0≤((p1.rows.length:Int)+1)∧((p1.rows.length:Int)+1)≤2147483648) <|
grd (I64 ((p1.rows.length:Int) - 1)) <|
zaE (fun _ _=>none) (zbU p1 j1) zbN (List.replicate ((p1.rows.length:Int)+1:Int).toNat (⟨0,0,0⟩:Gpage_best):List Gpage_best) ((p1.rows.length:Int) - 1)
) (fun (all1:List Gpage_best) =>
zbk (fun (j5:(List Int)→Option ((List Int)×Int)) =>
zaE (fun _ _=>none) (zbH p1 all1 j5) zbN ([]:List Int) 0
) (fun (out1:List Int) =>
zah (zbm all1 0) fun (q9:Gpage_best) =>
some (out1,q9.cost)
)
)
theorem zhY {bp1:Nat} {p1:Gpage_parter} {p1_h0 p1_h1 p1_h2 p1_h3:Hd} {r:((List Int)×Int)} (h:zdD p1=some r):FnR Tryz.prog 66 [zP bp1] [cells bp1 [p1_h0.v,p1_h1.v,p1_h2.v,p1_h3.v,zI p1.heights] 131,zv1 p1_h0.v p1.rows,zv0 p1_h1.v p1.blanks,zv0 p1_h2.v p1.firsts,zv0 p1_h3.v p1.lasts] [] (fun v0:Value=>.tuple #[v0,zI r.2]) (fun v0=>[zv0 v0 r.1]):=by
 unfold zdD at h
 refine FnR.intro Tryz.func66 rfl Tryz.ntmps66 (by simp) ?_
 intro w0 K hrd
 obtain ⟨j1,hj1,h⟩:=zbG h
 refine zaX (β:=(List Gpage_best)×Value) 3 rfl (fun b=>j1 b.1=some r) (fun b=>[]) (fun b=>[(4,zI (p1.rows.length:Int)),(5,b.2)]) (fun b=>[zv8 b.2 b.1]) (fun cut => ?_) ?_
 ·
  refine zyG (zyR 2 rfl (zyH (zyR 1 rfl (zaD rfl dc rfl (zab zgy rfl dc rfl (show _=0 from rfl) (zbw (i:=0) hrd rfl zmz rfl dc rfl rfl (zdT (hrd.vw (i:=1) rfl) rfl dc rfl Tryz.underlying43 (zyR 1 rfl ?_))))))))
  refine zyH (zyR 1 rfl ?_)
  obtain ⟨hg1,h⟩:=zbr h
  refine zaU rfl (zaR (r:=(p1.rows.length:Int)+1) (IntWalk.i64_in _ hg1)) ?_
  obtain ⟨hg2,h⟩:=zbr h
  refine zfc (z:=(⟨0,0,0⟩:Gpage_best)) Tryz.underlying174 ztq zlF za2 rfl dc rfl hg2 (fun v2 => ?_)
  refine zyR 1 rfl (zyN (cut (zyG (zyR 1 rfl ?_))))
  obtain ⟨hg3,h⟩:=zbr h
  refine zaU rfl (zbt (r:=(p1.rows.length:Int) - 1) (IntWalk.i64_in _ hg3)) (zyR 1 rfl (zyN (zaF ?_)))
  refine zbj (β:=Nat×(List Gpage_best)×Int) (fun b=>zaE (fun _ _=>none) (zbU p1 j1) b.1 b.2.1 b.2.2=some r) (fun b=>[]) (fun b=>[(0,zP bp1),(4,zI (p1.rows.length:Int)),(5,v2),(6,zI b.2.2)]) (fun b=>[zv8 v2 b.2.1]) (fun b=>b.1) (zbN,(List.replicate ((p1.rows.length:Int)+1:Int).toNat (⟨0,0,0⟩:Gpage_best):List Gpage_best),(p1.rows.length:Int) - 1) h rfl (za0 rfl) (zad [0] kr rfl) ?_
  rintro ⟨n1,all4,from3⟩ h
  cases n1 with
  | zero=>exact zdp h
  | succ n1 =>
   obtain ⟨ag1,hag1⟩:∃ ag,ag=zaE (fun _ _=>none) (zbU p1 j1) n1:=⟨_,rfl⟩
   have h:zbU p1 j1 ag1 all4 from3=some r:=by rw [hag1]; exact h
   unfold zbU at h
   refine zaI (zyG (zyR 1 rfl (zaU rfl zer (zyN ?_))))
   refine zyB rfl h (fun h => ?_) (fun h => ?_)
   ·
    refine zar (zaH ?_)
    obtain ⟨j2,hj2,h⟩:=zbG h
    refine zaX (β:=(List Gpage_best)) 0 rfl (fun b=>j2 b=some r) (fun b=>[]) (fun b=>[(0,zP bp1),(4,zI (p1.rows.length:Int)),(5,v2),(6,zI from3)]) (fun b=>[zv8 v2 b]) (fun cut => ?_) ?_
    ·
     refine cut (zaF (zyG (zyR 2 rfl ?_)))
     obtain ⟨q1,hq1,h⟩:=zbi h
     refine zaj (k:=0) hq1 Tryz.underlying174 zdn rfl dc rfl rfl rfl rfl (zab zfo rfl dc rfl (show _=((from3:Int).toNat)*3+1 from rfl) ?_)
     refine zbv (i:=(from3:Int).toNat) (j:=1) (k:=0) (q:=q1) (q':=(⟨q1.cost,(-1),q1.to_⟩:Gpage_best)) zcs za2 rfl rfl rfl rfl (zaz hq1) rfl dc rfl (fun _ _=>rfl) ?_
     refine zyH (zyR 1 rfl ?_)
     obtain ⟨hg4,h⟩:=zbr h
     refine zaU rfl (zaR (r:=from3+1) (IntWalk.i64_in _ hg4)) (zyR 1 rfl (zyN (zaF ?_)))
     refine zbj (β:=Nat×(List Gpage_best)×Int) (fun b=>zaE (fun _ _=>none) (zbT p1 from3 j2) b.1 b.2.1 b.2.2=some r) (fun b=>[]) (fun b=>[(0,zP bp1),(4,zI (p1.rows.length:Int)),(5,v2),(6,zI from3),(7,zI b.2.2)]) (fun b=>[zv8 v2 b.2.1]) (fun b=>b.1) (zbN,all4.set (from3:Int).toNat (⟨q1.cost,(-1),q1.to_⟩:Gpage_best),from3+1) h rfl (za0 rfl) (zad [0] kr rfl) ?_
     rintro ⟨n2,all8,to3⟩ h
     cases n2 with
     | zero=>exact zdp h
     | succ n2 =>
      obtain ⟨ag2,hag2⟩:∃ ag,ag=zaE (fun _ _=>none) (zbT p1 from3 j2) n2:=⟨_,rfl⟩
      have h:zbT p1 from3 j2 ag2 all8 to3=some r:=by rw [hag2]; exact h
      unfold zbT at h
      refine zaI (zaI ?_)
      refine zcW (b:=decide ((to3:Int)≤(p1.rows.length:Int))) (fun hb2 => ?_) (fun hb2 => ?_)
      ·
       have h:=zf0 hb2 h
       obtain ⟨r1,hq2,h⟩:=zbi h
       refine zbn 12 [(0,33,zI to3),(1,34,zI (p1.rows.length:Int)),(2,35,.bool true),(3,36,.bool true),(4,37,zP bp1),(5,38,zI from3),(6,39,zI to3),(7,40,zI r1),(8,41,zP bp1),(9,42,zP bp1),(10,43,.pointer (some ⟨bp1,4,none⟩)),(11,44,zI p1.heights)] mixed kr kr dc (by rfl) kr kr (zyP 2 0 rfl (zac ?_ (zyP 4 3 rfl (zac ?_ (zyP 1 8 rfl (zac ?_ (zac ?_ (zac ?_ DrawPre.nil)))))))) ?_
       · exact fun D n d c u i=>zbz rfl dc (zaa (m:=0) u rfl (d 0 dc)) (zaa (m:=1) u rfl (d 1 dc)) zdJ (zcq (show Value.bool (decide ((to3:Int)≤(p1.rows.length:Int)))=Value.bool true from congrArg Value.bool hb2) (zaf 2 u i rfl))
       · exact fun D n d c u i=>zch (v:=zI r1) (vs:=[zP bp1,zI from3,zI to3]) hrd (zdU rfl (zaa (m:=3) u rfl (d 3 dc))) dc rfl (evL.cons (zaa (m:=4) u rfl (d 4 dc)) (evL.cons (zaa (m:=5) u rfl (d 5 dc)) (evL.cons (zaa (m:=6) u rfl (d 6 dc)) evL.nil))) rfl zvQ (zgm (bp1:=bp1) (p1:=p1) (p1_h0:=p1_h0) (p1_h1:=p1_h1) (p1_h2:=p1_h2) (p1_h3:=p1_h3) hq2) (.ro 0 rfl (.ro 1 rfl (.ro 2 rfl (.ro 3 rfl (.ro 4 rfl .nil))))) (zaf 7 u i rfl)
       · exact fun D n d c u i=>zaD (zdU rfl (zaa (m:=3) u rfl (d 3 dc))) dc (zaa (m:=8) u rfl (d 8 dc)) (zaf 9 u i rfl)
       · exact fun D n d c u i=>zab zps (zdU rfl (zaa (m:=3) u rfl (d 3 dc))) dc (zaa (m:=9) u rfl (d 9 dc)) (show _=4 from rfl) (zaf 10 u i rfl)
       · exact fun D n d c u i=>zbw (i:=0) hrd rfl zbp (zdU rfl (zaa (m:=3) u rfl (d 3 dc))) dc (zaa (m:=10) u rfl (d 10 dc)) rfl (zaf 11 u i rfl)
       refine zaU rfl zdJ (zyR 1 rfl (zyN ?_))
       refine zyB rfl h (fun h => ?_) (fun h => ?_)
       ·
        refine zar (zaH ?_)
        obtain ⟨j3,hj3,h⟩:=zbG h
        refine zaX (β:=(List Gpage_best)) 0 rfl (fun b=>j3 b=some r) (fun b=>[]) (fun b=>[(0,zP bp1),(4,zI (p1.rows.length:Int)),(5,v2),(6,zI from3),(7,zI to3),(37,zP bp1),(38,zI from3),(39,zI to3),(40,zI r1),(41,zP bp1),(42,zP bp1),(43,.pointer (some ⟨bp1,4,none⟩)),(44,zI p1.heights),(45,.bool (decide ((r1:Int)≤p1.heights)))]) (fun b=>[zv8 v2 b]) (fun cut => ?_) ?_
        ·
         refine cut (zaF ?_)
         obtain ⟨j4,hj4,h⟩:=zbG h
         refine zaX (β:=Int×Int×Nat) 1 rfl (fun b=>j4 b.1 b.2.1=some r) (fun b=>[]) (fun b=>[(0,zP bp1),(4,zI (p1.rows.length:Int)),(5,v2),(6,zI from3),(7,zI to3),(8,zP b.2.2),(37,zP bp1),(38,zI from3),(39,zI to3),(40,zI r1),(41,zP bp1),(42,zP bp1),(43,.pointer (some ⟨bp1,4,none⟩)),(44,zI p1.heights),(45,.bool (decide ((r1:Int)≤p1.heights)))]) (fun b=>[zv8 v2 all8,cells b.2.2 [zI b.1,zI b.2.1,zI to3] 176]) (fun cut => ?_) ?_
         ·
          refine zyG (zyR 1 rfl ?_)
          refine zba (v:=.agg #[zI 0,zI 1,zI to3]) (ps:=[(1,.const (zI 1)),(2,.tmp 49)]) rfl dc rfl (fun _=>by kernel_rfl) ?_
          refine zbE zlF rfl dc (fun b4 => ?_)
          refine za6 (k:=1) (vs:=[zI 0,zI 1,zI to3]) (l':=[zI 0,zI 1,zI to3]) zdn rfl rfl rfl rfl rfl (show _≤_ by simp) rfl rfl ?_
          refine zyN (cut (zyG (zyR 2 rfl (zaU rfl zbc (zyN ?_)))))
          refine zyB rfl h (fun h => ?_) (fun h => ?_)
          ·
           refine zaI ?_
           obtain ⟨r2,hq3,h⟩:=zbi h
           obtain ⟨hg5,h⟩:=zbr h
           refine zbn 8 [(0,54,zP bp1),(1,55,zP bp1),(2,56,.pointer (some ⟨bp1,4,none⟩)),(3,57,zI p1.heights),(4,58,zP bp1),(5,59,zI from3),(6,60,zI to3),(7,61,zI r2)] mixed kr kr dc (by rfl) kr kr (zyP 1 0 rfl (zac ?_ (zac ?_ (zac ?_ (zyP 3 4 rfl (zac ?_ DrawPre.nil)))))) ?_
           · exact fun D n d c u i=>zaD rfl dc (zaa (m:=0) u rfl (d 0 dc)) (zaf 1 u i rfl)
           · exact fun D n d c u i=>zab zps rfl dc (zaa (m:=1) u rfl (d 1 dc)) (show _=4 from rfl) (zaf 2 u i rfl)
           · exact fun D n d c u i=>zbw (i:=0) hrd rfl zbp rfl dc (zaa (m:=2) u rfl (d 2 dc)) rfl (zaf 3 u i rfl)
           · exact fun D n d c u i=>zch (v:=zI r2) (vs:=[zP bp1,zI from3,zI to3]) hrd rfl dc rfl (evL.cons (zaa (m:=4) u rfl (d 4 dc)) (evL.cons (zaa (m:=5) u rfl (d 5 dc)) (evL.cons (zaa (m:=6) u rfl (d 6 dc)) evL.nil))) rfl zvQ (zgm (bp1:=bp1) (p1:=p1) (p1_h0:=p1_h0) (p1_h1:=p1_h1) (p1_h2:=p1_h2) (p1_h3:=p1_h3) hq3) (.ro 0 rfl (.ro 1 rfl (.ro 2 rfl (.ro 3 rfl (.ro 4 rfl .nil))))) (zaf 7 u i rfl)
           refine zaU rfl (zbt (r:=p1.heights - r2) (IntWalk.i64_in _ hg5)) (zyR 1 rfl (zyN ?_))
           obtain ⟨hg6,h⟩:=zbr h
           obtain ⟨r3,hq4,h⟩:=zbi h
           obtain ⟨hg7,h⟩:=zbr h
           obtain ⟨q2,hq5,h⟩:=zbi h
           obtain ⟨hg8,h⟩:=zbr h
           obtain ⟨hg9,h⟩:=zbr h
           refine zbn 20 [(0,63,zI (p1.heights - r2)),(1,64,zI (p1.heights - r2)),(2,65,zI ((p1.heights - r2)*(p1.heights - r2))),(3,66,zP bp1),(4,67,zI to3),(5,68,zI r3),(6,69,zI (((p1.heights - r2)*(p1.heights - r2))+r3)),(7,70,v2),(8,71,zI to3),(9,72,.pointer (some ⟨zbY v2,(to3:Int).toNat*3,none⟩)),(10,73,.pointer (some ⟨zbY v2,((to3:Int).toNat)*3,none⟩)),(11,74,zI q2.cost),(12,75,zI ((((p1.heights - r2)*(p1.heights - r2))+r3)+q2.cost)),(13,76,v2),(14,77,zI to3),(15,78,.pointer (some ⟨zbY v2,(to3:Int).toNat*3,none⟩)),(16,79,.pointer (some ⟨zbY v2,((to3:Int).toNat)*3+1,none⟩)),(17,80,zI q2.rows),(18,81,zI (q2.rows+1)),(19,82,zI to3)] mixed kr kr dc (by rfl) kr kr (zyP 2 0 rfl (zac ?_ (zyP 2 3 rfl (zac ?_ (zac ?_ (zyP 2 7 rfl (zac ?_ (zac ?_ (zac ?_ (zac ?_ (zyP 2 13 rfl (zac ?_ (zac ?_ (zac ?_ (zac ?_ (zyP 1 19 rfl DrawPre.nil)))))))))))))))) ?_
           · exact fun D n d c u i=>zbz rfl dc (zaa (m:=0) u rfl (d 0 dc)) (zaa (m:=1) u rfl (d 1 dc)) (znc (r:=(p1.heights - r2)*(p1.heights - r2)) (IntWalk.i64_in _ hg6)) (zaf 2 u i rfl)
           · exact fun D n d c u i=>zch (v:=zI r3) (vs:=[zP bp1,zI to3]) hrd rfl dc rfl (evL.cons (zaa (m:=3) u rfl (d 3 dc)) (evL.cons (zaa (m:=4) u rfl (d 4 dc)) evL.nil)) rfl zw9 (ziF (bp1:=bp1) (p1:=p1) (p1_h0:=p1_h0) (p1_h1:=p1_h1) (p1_h2:=p1_h2) (p1_h3:=p1_h3) hq4) (.ro 0 rfl (.ro 1 rfl (.ro 2 rfl (.ro 3 rfl (.ro 4 rfl .nil))))) (zaf 5 u i rfl)
           · exact fun D n d c u i=>zbz rfl dc (zaa (m:=2) u rfl (d 2 dc)) (zaa (m:=5) u rfl (d 5 dc)) (zaR (r:=((p1.heights - r2)*(p1.heights - r2))+r3) (IntWalk.i64_in _ hg7)) (zaf 6 u i rfl)
           · exact fun D n d c u i=>zaj (k:=0) hq5 Tryz.underlying174 zdn rfl dc (zaa (m:=7) u rfl (d 7 dc)) (zaa (m:=8) u rfl (d 8 dc)) rfl rfl (zaf 9 u i rfl)
           · exact fun D n d c u i=>zab zeY rfl dc (zaa (m:=9) u rfl (d 9 dc)) (show _=((to3:Int).toNat)*3 from rfl) (zaf 10 u i rfl)
           · exact fun D n d c u i=>zaA (i:=(to3:Int).toNat) (j:=0) (k:=0) (q:=q2) zbp za2 rfl dc (zaa (m:=10) u rfl (d 10 dc)) rfl (zaz hq5) rfl dc rfl (zaf 11 u i rfl)
           · exact fun D n d c u i=>zbz rfl dc (zaa (m:=6) u rfl (d 6 dc)) (zaa (m:=11) u rfl (d 11 dc)) (zaR (r:=(((p1.heights - r2)*(p1.heights - r2))+r3)+q2.cost) (IntWalk.i64_in _ hg8)) (zaf 12 u i rfl)
           · exact fun D n d c u i=>zaj (k:=0) hq5 Tryz.underlying174 zdn rfl dc (zaa (m:=13) u rfl (d 13 dc)) (zaa (m:=14) u rfl (d 14 dc)) rfl rfl (zaf 15 u i rfl)
           · exact fun D n d c u i=>zab zfo rfl dc (zaa (m:=15) u rfl (d 15 dc)) (show _=((to3:Int).toNat)*3+1 from rfl) (zaf 16 u i rfl)
           · exact fun D n d c u i=>zaA (i:=(to3:Int).toNat) (j:=1) (k:=0) (q:=q2) zbp za2 rfl dc (zaa (m:=16) u rfl (d 16 dc)) rfl (zaz hq5) rfl dc rfl (zaf 17 u i rfl)
           · exact fun D n d c u i=>zbz rfl dc (zaa (m:=17) u rfl (d 17 dc)) rfl (zaR (r:=q2.rows+1) (IntWalk.i64_in _ hg9)) (zaf 18 u i rfl)
           refine zba (v:=.agg #[zI ((((p1.heights - r2)*(p1.heights - r2))+r3)+q2.cost),zI (q2.rows+1),zI to3]) (ps:=[(0,.tmp 75),(1,.tmp 81),(2,.tmp 82)]) rfl dc rfl (fun _=>by kernel_rfl) ?_
           refine za6 (k:=1) (vs:=[zI ((((p1.heights - r2)*(p1.heights - r2))+r3)+q2.cost),zI (q2.rows+1),zI to3]) (l':=[zI ((((p1.heights - r2)*(p1.heights - r2))+r3)+q2.cost),zI (q2.rows+1),zI to3]) zdn rfl rfl rfl rfl rfl (show _≤_ by simp) rfl rfl (zaO ?_)
           exact zal ((((p1.heights - r2)*(p1.heights - r2))+r3)+q2.cost,q2.rows+1,b4) h rfl (za0 rfl) (zad [0,1] kr rfl)
          refine zar ?_
          exact zal (0,1,b4) h rfl (za0 rfl) (zad [0,1] kr rfl)
         rintro ⟨b2,b3,b1⟩ h
         rw [hj4] at h
         refine zyG (zyR 2 rfl ?_)
         obtain ⟨q3,hq6,h⟩:=zbi h
         refine zaj (k:=0) hq6 Tryz.underlying174 zdn rfl dc rfl rfl rfl rfl (zcQ (i:=(from3:Int).toNat) (j:=0) (k:=0) (q:=q3) (cs:=(zr7 q3)) zjE za2 rfl dc rfl rfl (zaz hq6) rfl rfl rfl ?_)
         refine zbE zlF rfl dc (fun b5 => ?_)
         refine za6 (k:=2) (vs:=(zr7 q3)) (l':=(zr7 q3)) zdn rfl rfl rfl rfl rfl (show _≤_ by simp) rfl rfl ?_
         refine zyH (zab zfo rfl dc rfl (show _=1 from rfl) (zau (k:=2) zbp rfl dc rfl rfl rfl (zaU rfl zbc (zyR 1 rfl ?_))))
         refine zyS (s:=91) rfl h (fun h => ?_) (fun h => ?_)
         ·
          refine zyR 14 rfl ?_
          refine zyR 6 rfl (zyN (za5 rfl (zav (zyR 2 rfl (zbd (k:=1) (cs:=[zI b2,zI b3,zI to3]) zjE rfl dc rfl rfl rfl rfl ?_)))))
          obtain ⟨q4,hq7,h⟩:=zbi h
          refine zaj (k:=0) hq7 Tryz.underlying174 zdn rfl dc rfl rfl rfl rfl ?_
          refine zfb (i:=(from3:Int).toNat) (j:=0) (k:=0) (q:=q4) (q':=(⟨b2,b3,to3⟩:Gpage_best)) (vs:=[zI b2,zI b3,zI to3]) zdn za2 rfl rfl rfl rfl (zaz hq7) rfl dc rfl rfl (fun m=>[q4,(⟨b2,q4.rows,q4.to_⟩:Gpage_best),(⟨b2,b3,q4.to_⟩:Gpage_best),(⟨b2,b3,to3⟩:Gpage_best)].getD m q4) rfl rfl (by intro m hm; rcases m with _ | _ | _ | m <;> first | rfl | (exfalso; omega)) ?_
          refine zaO (zag ?_)
          exact zal (all8.set (from3:Int).toNat (⟨b2,b3,to3⟩:Gpage_best)) h rfl (za0 rfl) (zad [0] kr rfl)
         refine zab zeY rfl dc rfl (show _=0 from rfl) (zau (k:=1) zbp rfl dc rfl rfl rfl (zab zeY rfl dc rfl (show _=0 from rfl) (zau (k:=2) zbp rfl dc rfl rfl rfl (zaU rfl zbc (zyR 2 rfl ?_)))))
         refine zyS (s:=98) rfl h (fun h => ?_) (fun h => ?_)
         ·
          refine zyR 13 rfl (zaO ?_)
          refine zaH (za5 rfl (zav (zyR 2 rfl (zbd (k:=1) (cs:=[zI b2,zI b3,zI to3]) zjE rfl dc rfl rfl rfl rfl ?_))))
          obtain ⟨q5,hq8,h⟩:=zbi h
          refine zaj (k:=0) hq8 Tryz.underlying174 zdn rfl dc rfl rfl rfl rfl ?_
          refine zfb (i:=(from3:Int).toNat) (j:=0) (k:=0) (q:=q5) (q':=(⟨b2,b3,to3⟩:Gpage_best)) (vs:=[zI b2,zI b3,zI to3]) zdn za2 rfl rfl rfl rfl (zaz hq8) rfl dc rfl rfl (fun m=>[q5,(⟨b2,q5.rows,q5.to_⟩:Gpage_best),(⟨b2,b3,q5.to_⟩:Gpage_best),(⟨b2,b3,to3⟩:Gpage_best)].getD m q5) rfl rfl (by intro m hm; rcases m with _ | _ | _ | m <;> first | rfl | (exfalso; omega)) ?_
          refine zaO (zag ?_)
          exact zal (all8.set (from3:Int).toNat (⟨b2,b3,to3⟩:Gpage_best)) h rfl (za0 rfl) (zad [0] kr rfl)
         refine zab zeY rfl dc rfl (show _=0 from rfl) (zau (k:=1) zbp rfl dc rfl rfl rfl (zab zeY rfl dc rfl (show _=0 from rfl) (zau (k:=2) zbp rfl dc rfl rfl rfl (zaU rfl zaT (zyR 1 rfl ?_)))))
         refine zyS (s:=104) rfl h (fun h => ?_) (fun h => ?_)
         ·
          refine zab zfo rfl dc rfl (show _=1 from rfl) (zau (k:=1) zbp rfl dc rfl rfl rfl (zab zfo rfl dc rfl (show _=1 from rfl) (zau (k:=2) zbp rfl dc rfl rfl rfl (zaU rfl zdJ (zyR 2 rfl (zyN ?_))))))
          refine zyB rfl h (fun h => ?_) (fun h => ?_)
          ·
           refine zav (zyR 2 rfl (zbd (k:=1) (cs:=[zI b2,zI b3,zI to3]) zjE rfl dc rfl rfl rfl rfl ?_))
           obtain ⟨q6,hq9,h⟩:=zbi h
           refine zaj (k:=0) hq9 Tryz.underlying174 zdn rfl dc rfl rfl rfl rfl ?_
           refine zfb (i:=(from3:Int).toNat) (j:=0) (k:=0) (q:=q6) (q':=(⟨b2,b3,to3⟩:Gpage_best)) (vs:=[zI b2,zI b3,zI to3]) zdn za2 rfl rfl rfl rfl (zaz hq9) rfl dc rfl rfl (fun m=>[q6,(⟨b2,q6.rows,q6.to_⟩:Gpage_best),(⟨b2,b3,q6.to_⟩:Gpage_best),(⟨b2,b3,to3⟩:Gpage_best)].getD m q6) rfl rfl (by intro m hm; rcases m with _ | _ | _ | m <;> first | rfl | (exfalso; omega)) ?_
           refine zaO (zag ?_)
           exact zal (all8.set (from3:Int).toNat (⟨b2,b3,to3⟩:Gpage_best)) h rfl (za0 rfl) (zad [0] kr rfl)
          refine zar (zag ?_)
          exact zal all8 h rfl (za0 rfl) (zad [0] kr rfl)
         refine zyR 7 rfl (zyN (zaS rfl (zar (zag ?_))))
         exact zal all8 h rfl (za0 rfl) (zad [0] kr rfl)
        rintro all9 h
        rw [hj3] at h
        refine zav (zyR 1 rfl ?_)
        obtain ⟨hg10,h⟩:=zbr h
        refine zaU rfl (zaR (r:=to3+1) (IntWalk.i64_in _ hg10)) (zyR 1 rfl (zaO ?_))
        subst hag2
        exact za1 (n2,all9,to3+1) h (Nat.lt_succ_self _) rfl (za0 rfl) (zad [0] kr rfl)
       refine za3 (zan (zan (zax (zag ?_))))
       exact zal all8 h rfl (za0 rfl) (zad [0] kr rfl)
      have h:=zf1 hb2 h
      refine zbn 12 [(0,33,zI to3),(1,34,zI (p1.rows.length:Int)),(2,35,.bool false),(3,36,.bool false),(4,37,undef),(5,38,undef),(6,39,undef),(7,40,undef),(8,41,undef),(9,42,undef),(10,43,undef),(11,44,undef)] mixed kr kr dc (by rfl) kr kr (zyP 2 0 rfl (zac ?_ (zyP 9 3 rfl DrawPre.nil))) ?_
      · exact fun D n d c u i=>zbz rfl dc (zaa (m:=0) u rfl (d 0 dc)) (zaa (m:=1) u rfl (d 1 dc)) zdJ (zcq (show Value.bool (decide ((to3:Int)≤(p1.rows.length:Int)))=Value.bool false from congrArg Value.bool hb2) (zaf 2 u i rfl))
      refine zyR 2 rfl (zyN (zaS rfl (za3 (zan (zan (zax (zag ?_)))))))
      exact zal all8 h rfl (za0 rfl) (zad [0] kr rfl)
    rintro all5 h
    rw [hj2] at h
    refine zav (zyR 1 rfl ?_)
    obtain ⟨hg11,h⟩:=zbr h
    refine zaU rfl (zbt (r:=from3 - 1) (IntWalk.i64_in _ hg11)) (zyR 1 rfl (zaO ?_))
    subst hag1
    exact za1 (n1,all5,from3 - 1) h (Nat.lt_succ_self _) rfl (za0 rfl) (zad [0] kr rfl)
   refine za3 (zan (zan (zax ?_)))
   exact zal (all4,v2) h rfl (za0 rfl) (zad [0] kr rfl)
 rintro ⟨all1,v1⟩ h
 rw [hj1] at h
 obtain ⟨j5,hj5,h⟩:=zbG h
 refine zaX (β:=(List Int)×Hd) 1 rfl (fun b=>j5 b.1=some r) (fun b=>[]) (fun b=>[(5,v1),(11,b.2.v)]) (fun b=>[zv8 v1 all1,zv0 b.2.v b.1]) (fun cut => ?_) ?_
 ·
  refine zyG (zyR 1 rfl (zyN (cut (zyG (zyR 1 rfl (zyN (zaF (zcR (enc:=(zqb (.i64))) (e:=3) (size:=1) ?_))))))))
  refine zbj (β:=Nat×(List Int)×Int×Hd) (fun b=>zaE (fun _ _=>none) (zbH p1 all1 j5) b.1 b.2.1 b.2.2.1=some r) (fun b=>[]) (fun b=>[(4,zI (p1.rows.length:Int)),(5,v1),(11,b.2.2.2.v),(12,zI b.2.2.1)]) (fun b=>[zv8 v1 all1,zv0 b.2.2.2.v b.2.1]) (fun b=>b.1) (zbN,([]:List Int),0,Hd.nil) h rfl (za0 rfl) (zad [0,1] kr rfl) ?_
  rintro ⟨n3,out4,from6,hd4⟩ h
  cases n3 with
  | zero=>exact zdp h
  | succ n3 =>
   obtain ⟨ag3,hag3⟩:∃ ag,ag=zaE (fun _ _=>none) (zbH p1 all1 j5) n3:=⟨_,rfl⟩
   have h:zbH p1 all1 j5 ag3 out4 from6=some r:=by rw [hag3]; exact h
   unfold zbH at h
   refine zaI (zyG (zyR 2 rfl (zaU rfl zbc (zyN ?_))))
   refine zyB rfl h (fun h => ?_) (fun h => ?_)
   ·
    refine zar (zaH (zaI (zaF (zav (zyR 3 rfl ?_)))))
    obtain ⟨q7,hq10,h⟩:=zbi h
    refine zaj (k:=0) hq10 Tryz.underlying174 zdn rfl dc rfl rfl rfl rfl (zab zj9 rfl dc rfl (show _=((from6:Int).toNat)*3+2 from rfl) (zaA (i:=(from6:Int).toNat) (j:=2) (k:=0) (q:=q7) zbp za2 rfl dc rfl rfl (zaz hq10) rfl dc rfl ?_))
    refine zaV (cs:=[zI q7.to_]) (te:=3) (ps:=[(0,.tmp 129)]) rfl dc rfl (fun _=>by kernel_rfl) (fun b6 => ?_)
    obtain ⟨hg12,h⟩:=zbr h
    refine za4 (k:=1) (k2:=2) (ys:=[q7.to_]) Tryz.underlying49 zpv zaQ zgC rfl dc rfl rfl rfl rfl rfl rfl hg12 (fun v3 => ?_)
    refine zby (k:=1) rfl (fun hd5 he1 => ?_)
    subst he1
    refine zyR 1 rfl (zaO (zag (zaH (zav (zyR 2 rfl ?_)))))
    obtain ⟨q8,hq11,h⟩:=zbi h
    refine zaj (k:=0) hq11 Tryz.underlying174 zdn rfl dc rfl rfl rfl rfl (zab zj9 rfl dc rfl (show _=((from6:Int).toNat)*3+2 from rfl) (zaA (i:=(from6:Int).toNat) (j:=2) (k:=0) (q:=q8) zbp za2 rfl dc rfl rfl (zaz hq11) rfl dc rfl (zyR 1 rfl (zaO ?_))))
    subst hag3
    exact za1 (n3,out4++[q7.to_],q8.to_,hd5) h (Nat.lt_succ_self _) rfl (za0 rfl) (zad [0,1] kr rfl)
   refine za3 (zan (zan (zax ?_)))
   exact zal (out4,hd4) h rfl (za0 rfl) (zad [0,1] kr rfl)
 rintro ⟨out1,hd1⟩ h
 rw [hj5] at h
 refine zaI ?_
 obtain ⟨q9,hq12,h⟩:=zbi h
 refine zbn 6 [(0,132,hd1.v),(1,133,v1),(2,134,.pointer (some ⟨zbY v1,(0:Int).toNat*3,none⟩)),(3,135,.pointer (some ⟨zbY v1,((0:Int).toNat)*3,none⟩)),(4,136,zI q9.cost),(5,2,hd1.v)] mixed kr kr dc (by rfl) kr kr (zyP 2 0 rfl (zac ?_ (zac ?_ (zac ?_ (zyP 1 5 rfl DrawPre.nil))))) ?_
 · exact fun D n d c u i=>zaj (k:=0) hq12 Tryz.underlying174 zdn rfl dc (zaa (m:=1) u rfl (d 1 dc)) rfl rfl rfl (zaf 2 u i rfl)
 · exact fun D n d c u i=>zab zeY rfl dc (zaa (m:=2) u rfl (d 2 dc)) (show _=((0:Int).toNat)*3 from rfl) (zaf 3 u i rfl)
 · exact fun D n d c u i=>zaA (i:=(0:Int).toNat) (j:=0) (k:=0) (q:=q9) zbp za2 rfl dc (zaa (m:=3) u rfl (d 3 dc)) rfl (zaz hq12) rfl dc rfl (zaf 4 u i rfl)
 refine zyR 1 rfl (zyN (zaG ?_))
 cases h
 exact zaK (rs:=[.tmp 2,.tmp 3]) hd1.v (.inl rfl) Tryz.results66 (.cons (.tmp rfl) (.cons (.tmp rfl) .nil)) rfl (zad [1] kr rfl)
def zbI (l1:Gapi_Layout) (x2:Int×Gapi_Verse) (ag1:(List Gapi_Row)→(List Int)→(List Int)→(List Int)→Int→Option (Int×Gpage_parter)) (cost4:Int) (l18:List Int) (l19:List Int) (r2:((List ByteArray)×Int)) (ag2:(List Gapi_Row)→(List Int)→Int→Option (Int×Gpage_parter)) (l24:List Gapi_Row) (l25:List Int) (x5:Int):Option (Int×Gpage_parter) :=
zay (decide ((x5:Int)<(r2.1.length:Int))) (
zbk (fun (j3:Int→Int→ByteArray→Option (Int×Gpage_parter)) =>
zah (zbm r2.1 x5) fun (q2:ByteArray) =>
zay ((x5:Int)==0) (
zay (decide ((0:Int)<l1.Every)) (
grd (I64 (x2.1+1)) <|
grd (l1.Every≠0) <|
zay (((Int.tmod (x2.1+1) l1.Every):Int)==0) (
grd (I64 (x2.1+1)) <|
j3 x2.2.Indent (x2.1+1) q2
) (
j3 x2.2.Indent 0 q2
)
) (
j3 x2.2.Indent 0 q2
)
) (
j3 l1.Turn 0 q2
)
) (fun (r3:Int) (r4:Int) (r5:ByteArray) =>
grd (l24.length+1≤2147483648) <|
grd (l25.length+1≤2147483648) <|
grd (I64 (x5+1)) <|
ag2 (l24++[(⟨x2.1,x2.2.Stanza,x5,r3,r4,r5⟩:Gapi_Row)]) (l25++[x2.2.Stanza]) (x5+1)
)
) (
ag1 l24 l25 l18 (l19.set (x2.2.Stanza:Int).toNat x2.1) (cost4+r2.2)
)
def zbV (l1:Gapi_Layout) (x2:Int×Gapi_Verse) (ag1:(List Gapi_Row)→(List Int)→(List Int)→(List Int)→Int→Option (Int×Gpage_parter)) (l14:List Gapi_Row) (l15:List Int) (l16:List Int) (l17:List Int) (cost4:Int):Option (Int×Gpage_parter) :=
zbk (fun (j2:(List Int)→(List Int)→Option (Int×Gpage_parter)) =>
zay ((x2.2.Stanza:Int)==(l16.length:Int)) (
grd (l16.length+1≤2147483648) <|
grd (l17.length+1≤2147483648) <|
j2 (l16++[x2.1]) (l17++[x2.1])
) (
j2 l16 l17
)
) (fun (l18:List Int) (l19:List Int) =>
zah (zbm l19 x2.2.Stanza) fun (q1:Int) =>
zah (ze4 x2.2.Text x2.2.Indent l1) fun (r2:((List ByteArray)×Int)) =>
grd (I64 (cost4+r2.2)) <|
zaE (fun _ _ _=>none) (zbI l1 x2 ag1 cost4 l18 l19 r2) zbN l14 l15 0
)
def zdE (p1:Gpage_parter) (x1:Gpoem_Poem) (l1:Gapi_Layout):Option (Int×Gpage_parter) :=
zbk (fun (j1:(List Gapi_Row)→(List Int)→(List Int)→(List Int)→Int→Option (Int×Gpage_parter)) =>
zah (zeg x1) fun (r1:Unit) =>
zah (zdf x1) fun (its1:(List (Int×Gapi_Verse))) =>
zbk (fun (dn1:(List Gapi_Row)→(List Int)→(List Int)→(List Int)→Int→Option (Int×Gpage_parter)) =>
zev dn1 (zbV l1) its1 p1.rows p1.blanks p1.firsts p1.lasts 0
) (fun (l14:List Gapi_Row) (l15:List Int) (l16:List Int) (l17:List Int) (cost4:Int) =>
j1 l14 l15 l16 l17 cost4
)
) (fun (l2:List Gapi_Row) (l3:List Int) (l4:List Int) (l5:List Int) (cost1:Int) =>
some (cost1,(⟨l2,l3,l4,l5,p1.heights⟩:Gpage_parter))
)
theorem zhZ {bp1:Nat} {p1:Gpage_parter} {p1_h0 p1_h1 p1_h2 p1_h3:Hd} {bx1:Nat} {x1:Gpoem_Poem} {x1_h0 x1_h1:Hd} {l1:Gapi_Layout} {r:(Int×Gpage_parter)} (h:zdE p1 x1 l1=some r):FnR Tryz.prog 65 [zP bp1,zP bx1,.agg (zr0 l1).toArray] [cells bx1 [.string x1.told_title,x1_h0.v,x1_h1.v,.string x1.source] 106,zv6 x1_h0.v x1.told_lines,zv7 x1_h1.v x1.told_stanzas] [cells bp1 [p1_h0.v,p1_h1.v,p1_h2.v,p1_h3.v,zI p1.heights] 131,zv1 p1_h0.v p1.rows,zv0 p1_h1.v p1.blanks,zv0 p1_h2.v p1.firsts,zv0 p1_h3.v p1.lasts] (fun b:Hd×Hd×Hd×Hd=>zI r.1) (fun b=>[cells bp1 [b.1.v,b.2.1.v,b.2.2.1.v,b.2.2.2.v,zI r.2.heights] 131,zv1 b.1.v r.2.rows,zv0 b.2.1.v r.2.blanks,zv0 b.2.2.1.v r.2.firsts,zv0 b.2.2.2.v r.2.lasts]):=by
 unfold zdE at h
 refine FnR.intro Tryz.func65 rfl Tryz.ntmps65 (by simp) ?_
 intro w0 K hrd
 refine znh ?_
 obtain ⟨j1,hj1,h⟩:=zbG h
 refine zaX (β:=(List Gapi_Row)×(List Int)×(List Int)×(List Int)×Int×Hd×Hd×Hd×Hd×Nat×(List Nat)) 2 rfl (fun b=>j1 b.1 b.2.1 b.2.2.1 b.2.2.2.1 b.2.2.2.2.1=some r) (fun b=>zhw b.2.2.2.2.2.2.2.2.2.2) (fun b=>[(7,zP b.2.2.2.2.2.2.2.2.2.1)]) (fun b=>[cells bp1 [b.2.2.2.2.2.1.v,b.2.2.2.2.2.2.1.v,b.2.2.2.2.2.2.2.1.v,b.2.2.2.2.2.2.2.2.1.v,zI p1.heights] 131,zv1 b.2.2.2.2.2.1.v b.1,zv0 b.2.2.2.2.2.2.1.v b.2.1,zv0 b.2.2.2.2.2.2.2.1.v b.2.2.1,zv0 b.2.2.2.2.2.2.2.2.1.v b.2.2.2.1,cells b.2.2.2.2.2.2.2.2.2.1 [zI b.2.2.2.2.1] 3,zlj ((b.2.2.2.2.2.2.2.2.2.2:List Nat).map zpf)]) (fun cut => ?_) ?_
 ·
  refine zyG ?_
  refine zea rfl dc rfl (fun b2 => ?_)
  refine zea rfl dc rfl (fun b3 => ?_)
  refine zyR 1 rfl (zyH ?_)
  refine zbE ztH rfl dc (fun b4 => ?_)
  refine zbb (k:=8) (l':=[zI 0]) zcs rfl rfl rfl rfl rfl (fun _ _=>rfl) rfl ?_
  refine zyN (cut (zyG (zyR 1 rfl ?_)))
  obtain ⟨r1,hq1,h⟩:=zbi h
  refine zft (vs:=[zP bx1]) hrd rfl dc rfl rfl rfl zxa (zjb (bp1:=bx1) (p1:=x1) (p1_h0:=x1_h0) (p1_h1:=x1_h1) hq1) Splits.nil (.ro 0 rfl (.ro 1 rfl (.ro 2 rfl .nil))) ?_
  rintro b5
  refine zep (L':=[cells bp1 [p1_h0.v,p1_h1.v,p1_h2.v,p1_h3.v,zI p1.heights] 131,zv1 p1_h0.v p1.rows,zv0 p1_h1.v p1.blanks,zv0 p1_h2.v p1.firsts,zv0 p1_h3.v p1.lasts,zlj ((([]:List Nat):List Nat).map zpf),cells b2 [zP bp1] 129,cells b3 (zr0 l1) 23,cells b4 [zI 0] 3,cells b5 [zP bx1] 58]) (zad [0,1,2,3,4,5,6,7,8,9] kr rfl) (zyN (zaF ?_))
  obtain ⟨its1,hq2,h⟩:=zbi h
  obtain ⟨dn1,hdn1,h⟩:=zbG h
  refine zrP (α:=Int×Gapi_Verse) (β:=(List Gapi_Row)×(List Int)×(List Int)×(List Int)×Int×Hd×Hd×Hd×Hd) (γ:=Unit) (δ:=Nat) (ps:=[17,18]) hrd Ro.nil rfl zvZ (zhX hq2) (fun pre b=>∀ post,its1=pre++post→zev dn1 (zbV l1) post b.1 b.2.1 b.2.2.1 b.2.2.2.1 b.2.2.2.2.1=some r) (fun pre b=>[cells bp1 [b.2.2.2.2.2.1.v,b.2.2.2.2.2.2.1.v,b.2.2.2.2.2.2.2.1.v,b.2.2.2.2.2.2.2.2.v,zI p1.heights] 131,zv1 b.2.2.2.2.2.1.v b.1,zv0 b.2.2.2.2.2.2.1.v b.2.1,zv0 b.2.2.2.2.2.2.2.1.v b.2.2.1,zv0 b.2.2.2.2.2.2.2.2.v b.2.2.2.1,cells b2 [zP bp1] 129,cells b3 (zr0 l1) 23,cells b4 [zI b.2.2.2.2.1] 3]) (fun c pre g=>False) (fun c pre g=>[]) (fun pre x b j=>[(3,zP b2),(5,zP b3),(6,zI 0),(7,zP b4),(16,.func (.func 115) #[] #[zP b5]),(8,zI x.1),(9,zP j)]) (fun pre x b j=>[cells bp1 [b.2.2.2.2.2.1.v,b.2.2.2.2.2.2.1.v,b.2.2.2.2.2.2.2.1.v,b.2.2.2.2.2.2.2.2.v,zI p1.heights] 131,zv1 b.2.2.2.2.2.1.v b.1,zv0 b.2.2.2.2.2.2.1.v b.2.1,zv0 b.2.2.2.2.2.2.2.1.v b.2.2.1,zv0 b.2.2.2.2.2.2.2.2.v b.2.2.2.1,cells b2 [zP bp1] 129,cells b3 (zr0 l1) 23,cells b4 [zI b.2.2.2.2.1] 3,cells j (zr4 x.2) 76]) (p1.rows,p1.blanks,p1.firsts,p1.lasts,0,p1_h0,p1_h1,p1_h2,p1_h3) (fun post e=>by rw [List.nil_append] at e; subst e; exact h) (zad [0,1,2,3,4,6,7,8] kr rfl) (.own (As:=[cells b5 [zP bx1] 58]) (zad [9] (by kernel_rfl) rfl) (fun _ _ h=>sepL.one1.1 h) (.ro 0 rfl (.ro 1 rfl (.ro 2 rfl .nil)))) (fun _=>rfl) dc ?_ ?_ ?_ ?_
  ·
   rintro lp rc pre x2 post ⟨l14,l15,l16,l17,cost4,hd13,hd14,hd15,hd16⟩ w1 K1 hxs1 hext hro hinv
   have hrd:=hrd.ext hext
   refine zyG (zyR 1 rfl (zyN (zav ?_)))
   refine zbE ztF rfl dc (fun b6 => ?_)
   refine za6 (k:=8) (vs:=(zr4 x2.2)) (l':=(zr4 x2.2)) zlq rfl rfl rfl rfl rfl (show _≤_ by simp) rfl rfl ?_
   refine zaO ?_
   exact fun a w ha hw=>⟨b6,(za0 rfl) _ _ _ ha,hw.weaken (zad [0,1,2,3,4,5,6,7,8] kr rfl)⟩
  ·
   rintro lp rc pre x2 post1 ⟨l14,l15,l16,l17,cost4,hd13,hd14,hd15,hd16⟩ jb1 w1 K1 hxs1 hext hro hinv
   have hrd:=hrd.ext hext
   have h:=hinv (x2::post1) hxs1
   obtain ⟨ag1,hag1⟩:∃ ag,ag=zev dn1 (zbV l1) post1:=⟨_,rfl⟩
   have h:zbV l1 x2 ag1 l14 l15 l16 l17 cost4=some r:=by rw [hag1]; exact h
   unfold zbV at h
   refine zaF ?_
   obtain ⟨j2,hj2,h⟩:=zbG h
   refine zaX (β:=(List Int)×(List Int)×Hd×Hd) 0 rfl (fun b=>j2 b.1 b.2.1=some r) (fun b=>[]) (fun b=>[(3,zP b2),(5,zP b3),(6,zI 0),(7,zP b4),(8,zI x2.1),(9,zP jb1),(16,.func (.func 115) #[] #[zP b5])]) (fun b=>[cells bp1 [hd13.v,hd14.v,b.2.2.1.v,b.2.2.2.v,zI p1.heights] 131,zv1 hd13.v l14,zv0 hd14.v l15,zv0 b.2.2.1.v b.1,zv0 b.2.2.2.v b.2.1,cells b2 [zP bp1] 129,cells b3 (zr0 l1) 23,cells b4 [zI cost4] 3,cells jb1 (zr4 x2.2) 76]) (fun cut => ?_) ?_
   ·
    refine cut (zaI ?_)
    refine zbn 7 [(0,19,.pointer (some ⟨jb1,2,none⟩)),(1,20,zI x2.2.Stanza),(2,21,zP bp1),(3,22,zP bp1),(4,23,.pointer (some ⟨bp1,2,none⟩)),(5,24,hd15.v),(6,25,zI (l16.length:Int))] mixed kr kr dc (by rfl) kr kr (zac ?_ (zac ?_ (zac ?_ (zac ?_ (zac ?_ (zac ?_ (zac ?_ DrawPre.nil))))))) ?_
    · exact fun D n d c u i=>zab zjj rfl dc (zbe (by rfl) rfl) (show _=2 from rfl) (zaf 0 u i rfl)
    · exact fun D n d c u i=>zau (k:=8) zbp rfl dc (zaa (m:=0) u rfl (d 0 dc)) rfl rfl (zaf 1 u i rfl)
    · exact fun D n d c u i=>zau (k:=5) zh4 rfl dc (zbe (by rfl) rfl) rfl rfl (zaf 2 u i rfl)
    · exact fun D n d c u i=>zaD rfl dc (zaa (m:=2) u rfl (d 2 dc)) (zaf 3 u i rfl)
    · exact fun D n d c u i=>zab ziP rfl dc (zaa (m:=3) u rfl (d 3 dc)) (show _=2 from rfl) (zaf 4 u i rfl)
    · exact fun D n d c u i=>zau (k:=0) zhh rfl dc (zaa (m:=4) u rfl (d 4 dc)) rfl rfl (zaf 5 u i rfl)
    · exact fun D n d c u i=>zbg (k:=3) rfl dc (zaa (m:=5) u rfl (d 5 dc)) rfl Tryz.underlying49 (zaf 6 u i rfl)
    refine zaU rfl zaT (zyN ?_)
    refine zyB rfl h (fun h => ?_) (fun h => ?_)
    ·
     obtain ⟨hg1,h⟩:=zbr h
     obtain ⟨hg2,h⟩:=zbr h
     refine zgs 2 ?_
     refine let vals1:(Nat×Hd×Nat×Hd)→List (Nat×Nat×Value):=fun b=>[(0,27,zP bp1),(1,28,zP bp1),(2,29,zP bp1),(3,30,zP bp1),(4,31,.pointer (some ⟨bp1,2,none⟩)),(5,32,hd15.v),(6,33,zI x2.1),(7,34,.slice (some ⟨b.1,0,none⟩) 1 1),(8,35,b.2.1.v),(9,36,zP bp1),(10,37,zP bp1),(11,38,.pointer (some ⟨bp1,3,none⟩)),(12,39,hd16.v),(13,40,zI x2.1),(14,41,.slice (some ⟨b.2.2.1,0,none⟩) 1 1),(15,42,b.2.2.2.v),(16,43,zP bp1),(17,44,.pointer (some ⟨bp1,2,none⟩))]; let LL1:(Nat→Prop)→(Nat×Hd×Nat×Hd)→List Asn:=fun D b=>[eD D (cells bp1 [hd13.v,hd14.v,hd15.v,hd16.v,zI p1.heights] 131) [(18,cells bp1 [hd13.v,hd14.v,b.2.1.v,hd16.v,zI p1.heights] 131)],zv1 hd13.v l14,zv0 hd14.v l15,eD D (zv0 hd15.v l16) [(8,zv0 b.2.1.v (l16++[x2.1]))],eD D (zv0 hd16.v l17) [(15,zv0 b.2.2.2.v (l17++[x2.1]))],cells b2 [zP bp1] 129,cells b3 (zr0 l1) 23,cells b4 [zI cost4] 3,cells jb1 (zr4 x2.2) 76,eD D emp [(7,cells b.1 [zI x2.1] 3)],eD D emp [(14,cells b.2.2.1 [zI x2.1] 3)]]; ?_
     have zhq:zyQ [7,8,14,15,18] LL1:=fun i h D b=>zae (zjY rfl h) (zae rfl (zae rfl (zae (zjY rfl h) (zae (zjY rfl h) (zae rfl (zae rfl (zae rfl (zae rfl (zae (zjY rfl h) (zae (zjY rfl h) rfl))))))))))
     refine zd3 (β:=Nat×Hd×Nat×Hd) 19 ((0:Nat),Hd.nil,(0:Nat),Hd.nil) vals1 LL1 mixed kr kr dc (fun _=>rfl) (zae zb7 (zdh (zae zb7 (zae zb7 (zfL (zae zb7 (zae zb7 rfl))))))) (zi5 zhq rfl (fun _=>rfl) (fun _=>rfl) ?_ (zi5 zhq rfl (fun _=>rfl) (fun _=>rfl) ?_ (zi5 zhq rfl (fun _=>rfl) (fun _=>rfl) ?_ (zyq zhq rfl (fun _=>rfl) (fun _=>rfl) ?_ (zyq zhq rfl (fun _=>rfl) (fun _=>rfl) ?_ (zi5 zhq rfl (fun _=>rfl) (fun _=>rfl) ?_ (zmg zhq (fun _=>rfl) (fun _=>rfl) 1 6 (fun _=>rfl) rfl (zaB ?_ (zaB ?_ (zi5 zhq rfl (fun _=>rfl) (fun _=>rfl) ?_ (zyq zhq rfl (fun _=>rfl) (fun _=>rfl) ?_ (zyq zhq rfl (fun _=>rfl) (fun _=>rfl) ?_ (zi5 zhq rfl (fun _=>rfl) (fun _=>rfl) ?_ (zmg zhq (fun _=>rfl) (fun _=>rfl) 1 13 (fun _=>rfl) rfl (zaB ?_ (zaB ?_ (zyq zhq rfl (fun _=>rfl) (fun _=>rfl) ?_ (zyq zhq rfl (fun _=>rfl) (fun _=>rfl) ?_ (zaB ?_ DrawG.nil))))))))))))))))))) ?_
     · exact fun D ⟨b7,hd19,b8,hd20⟩ n d c u i=>⟨_,(zae (zak (fun hD=>n (c 18 _ rfl hD 0 dc)) zaq) (zmh rfl)),zau (k:=5) zh4 rfl dc (zbe (by rfl) rfl) rfl rfl (zaf 0 u i rfl)⟩
     · exact fun D ⟨b7,hd19,b8,hd20⟩ n d c u i=>⟨_,(zlm rfl),zau (k:=5) zh4 rfl dc (zbe (by rfl) rfl) rfl rfl (zaf 1 u i rfl)⟩
     · exact fun D ⟨b7,hd19,b8,hd20⟩ n d c u i=>⟨_,(zae (zak (fun hD=>n (c 18 _ rfl hD 2 dc)) zaq) (zdh (zae (zak (fun hD=>n (c 3 _ rfl (c 4 _ rfl (c 5 _ rfl (c 8 _ rfl hD 5 dc) 4 dc) 3 dc) 2 dc)) zaq) (zae (zak (fun hD=>n (c 3 _ rfl (c 4 _ rfl (c 5 _ rfl (c 8 _ rfl (c 15 _ rfl hD 8 dc) 5 dc) 4 dc) 3 dc) 2 dc)) zaq) (ztz rfl))))),zau (k:=5) zh4 rfl dc (zbe (by rfl) rfl) rfl rfl (zaf 2 u i rfl)⟩
     · exact fun D ⟨b7,hd19,b8,hd20⟩ n d c u i=>zaD rfl dc (zaa (m:=2) u rfl (d 2 dc)) (zaf 3 u i rfl)
     · exact fun D ⟨b7,hd19,b8,hd20⟩ n d c u i=>zab ziP rfl dc (zaa (m:=3) u rfl (d 3 dc)) (show _=2 from rfl) (zaf 4 u i rfl)
     · exact fun D ⟨b7,hd19,b8,hd20⟩ n d c u i=>⟨_,(zae (zak (fun hD=>n (c 18 _ rfl hD 5 dc)) zaq) (zdh (zae (zak (fun hD=>n (c 8 _ rfl hD 5 dc)) zaq) (zae (zak (fun hD=>n (c 8 _ rfl (c 15 _ rfl hD 8 dc) 5 dc)) zaq) (ztz rfl))))),zau (k:=0) zhh rfl dc (zaa (m:=4) u rfl (d 4 dc)) rfl rfl (zaf 5 u i rfl)⟩
     ·
      intro D b hn hd hcl
      obtain ⟨zb0,hd19,b8,hd20⟩:=b
      refine zaL (zae (zak (fun hD=>hn (hcl 18 _ rfl hD 7 dc)) zaq) (zdh (zae (zak (fun hD=>hn (hcl 8 _ rfl hD 7 dc)) zaq) (zae (zak (fun hD=>hn (hcl 8 _ rfl (hcl 15 _ rfl hD 8 dc) 7 dc)) zaq) (zfL (zae (zak hn zaq) rfl)))))) ?_
      refine zaV (cs:=[zI x2.1]) (te:=3) (ps:=[(0,.tmp 33)]) rfl dc (evP.cons (zaa (m:=6) rfl rfl (hd 6 dc)) evP.nil) (fun _=>by kernel_rfl) (fun b7 => ?_)
      refine zcU 9 rfl rfl ?_
      exact zaW (b:=(zb0,hd19,b8,hd20)) (b7,hd19,b8,hd20) 7 (by rfl) (by rfl) rfl (zjP (zas (fun hD=>absurd hD hn) (zrZ rfl))) (zae ((zap (by rfl)).trans (zak (fun hD=>hn (hcl 18 _ rfl hD 7 dc)) zaq)) (zdh (zae ((zap (by rfl)).trans (zak (fun hD=>hn (hcl 8 _ rfl hD 7 dc)) zaq)) (zae ((zap (by rfl)).trans (zak (fun hD=>hn (hcl 8 _ rfl (hcl 15 _ rfl hD 8 dc) 7 dc)) zaq)) (zfL (zae (zaM (Or.inr rfl) rfl) (zae (zap (by rfl)) rfl)))))))
     ·
      intro D b hn hd hcl
      obtain ⟨b7,zb1,b8,hd20⟩:=b
      refine zaL (zae (zak (fun hD=>hn (hcl 18 _ rfl hD 8 dc)) zaq) (zdh (zae (zak hn zaq) (zae (zak (fun hD=>hn (hcl 15 _ rfl hD 8 dc)) zaq) (zfL (zae (zaM (hd 7 dc) rfl) rfl)))))) ?_
      refine za4 (k:=3) (k2:=9) (ys:=[x2.1]) Tryz.underlying49 zpv zaQ zgC rfl dc (zaa (m:=5) rfl rfl (hd 5 dc)) (zaa (m:=7) rfl rfl (hd 7 dc)) rfl rfl rfl rfl hg1 (fun v1 => ?_)
      refine zby (k:=3) rfl (fun hd19 he1 => ?_)
      subst he1
      exact zaW (b:=(b7,zb1,b8,hd20)) (b7,hd19,b8,hd20) 8 (by rfl) (by rfl) rfl (zi6 (zas (fun hD=>absurd hD hn) (zwJ rfl))) (zae ((zap (by rfl)).trans (zak (fun hD=>hn (hcl 18 _ rfl hD 8 dc)) zaq)) (zdh (zae (zaM (Or.inr rfl) rfl) (zae ((zap (by rfl)).trans (zak (fun hD=>hn (hcl 15 _ rfl hD 8 dc)) zaq)) (zfL (zae ((zap (by rfl)).trans (zaM (hd 7 dc) rfl)) (zae (zap (by rfl)) rfl)))))))
     · exact fun D ⟨b7,hd19,b8,hd20⟩ n d c u i=>⟨_,(zae (zak (fun hD=>n (c 10 _ rfl (c 11 _ rfl (c 12 _ rfl (c 18 _ rfl hD 12 dc) 11 dc) 10 dc) 9 dc)) zaq) (zcK (zae (zak (fun hD=>n (c 10 _ rfl (c 11 _ rfl (c 12 _ rfl (c 15 _ rfl hD 12 dc) 11 dc) 10 dc) 9 dc)) zaq) (ztz rfl)))),zau (k:=5) zh4 rfl dc (zbe (by rfl) rfl) rfl rfl (zaf 9 u i rfl)⟩
     · exact fun D ⟨b7,hd19,b8,hd20⟩ n d c u i=>zaD rfl dc (zaa (m:=9) u rfl (d 9 dc)) (zaf 10 u i rfl)
     · exact fun D ⟨b7,hd19,b8,hd20⟩ n d c u i=>zab zkc rfl dc (zaa (m:=10) u rfl (d 10 dc)) (show _=3 from rfl) (zaf 11 u i rfl)
     · exact fun D ⟨b7,hd19,b8,hd20⟩ n d c u i=>⟨_,(zae (zak (fun hD=>n (c 18 _ rfl hD 12 dc)) zaq) (zcK (zae (zak (fun hD=>n (c 15 _ rfl hD 12 dc)) zaq) (ztz rfl)))),zau (k:=0) zhh rfl dc (zaa (m:=11) u rfl (d 11 dc)) rfl rfl (zaf 12 u i rfl)⟩
     ·
      intro D b hn hd hcl
      obtain ⟨b7,hd19,zb2,hd20⟩:=b
      refine zaL (zae (zak (fun hD=>hn (hcl 15 _ rfl (hcl 18 _ rfl hD 15 dc) 14 dc)) zaq) (zcK (zae (zak (fun hD=>hn (hcl 15 _ rfl hD 14 dc)) zaq) (zog (zae (zak hn zaq) rfl))))) ?_
      refine zaV (cs:=[zI x2.1]) (te:=3) (ps:=[(0,.tmp 40)]) rfl dc (evP.cons (zaa (m:=13) rfl rfl (hd 13 dc)) evP.nil) (fun _=>by kernel_rfl) (fun b8 => ?_)
      refine zcU 10 rfl rfl ?_
      exact zaW (b:=(b7,hd19,zb2,hd20)) (b7,hd19,b8,hd20) 14 (by rfl) (by rfl) rfl (zu1 (zcL (zas (fun hD=>absurd hD hn) (zuT rfl)))) (zae ((zap (by rfl)).trans (zak (fun hD=>hn (hcl 15 _ rfl (hcl 18 _ rfl hD 15 dc) 14 dc)) zaq)) (zdh (zae (zap (by rfl)) (zae ((zap (by rfl)).trans (zak (fun hD=>hn (hcl 15 _ rfl hD 14 dc)) zaq)) (zfL (zae (zap (by rfl)) (zae (zaM (Or.inr rfl) rfl) rfl)))))))
     ·
      intro D b hn hd hcl
      obtain ⟨b7,hd19,b8,zb3⟩:=b
      refine zaL (zae (zak (fun hD=>hn (hcl 18 _ rfl hD 15 dc)) zaq) (zdh (zae (zaM (hd 8 dc) rfl) (zae (zak hn zaq) (zfL (zae (zaM (hcl 8 _ rfl (hd 8 dc) 7 dc) rfl) (zae (zaM (hd 14 dc) rfl) rfl))))))) ?_
      refine za4 (k:=4) (k2:=10) (ys:=[x2.1]) Tryz.underlying49 zpv zaQ zgC rfl dc (zaa (m:=12) rfl rfl (hd 12 dc)) (zaa (m:=14) rfl rfl (hd 14 dc)) rfl rfl rfl rfl hg2 (fun v2 => ?_)
      refine zby (k:=4) rfl (fun hd20 he2 => ?_)
      subst he2
      exact zaW (b:=(b7,hd19,b8,zb3)) (b7,hd19,b8,hd20) 15 (by rfl) (by rfl) rfl (zuT (zcL (zas (fun hD=>absurd hD hn) (zu1 rfl)))) (zae ((zap (by rfl)).trans (zak (fun hD=>hn (hcl 18 _ rfl hD 15 dc)) zaq)) (zdh (zae ((zap (by rfl)).trans (zaM (hd 8 dc) rfl)) (zae (zaM (Or.inr rfl) rfl) (zfL (zae ((zap (by rfl)).trans (zaM (hcl 8 _ rfl (hd 8 dc) 7 dc) rfl)) (zae ((zap (by rfl)).trans (zaM (hd 14 dc) rfl)) rfl)))))))
     · exact fun D ⟨b7,hd19,b8,hd20⟩ n d c u i=>zaD rfl dc (zaa (m:=0) u rfl (d 0 dc)) (zaf 16 u i rfl)
     · exact fun D ⟨b7,hd19,b8,hd20⟩ n d c u i=>zab ziP rfl dc (zaa (m:=16) u rfl (d 16 dc)) (show _=2 from rfl) (zaf 17 u i rfl)
     ·
      intro D b hn hd hcl
      obtain ⟨b7,hd19,b8,hd20⟩:=b
      refine zaL (zae (zak hn zaq) (zdh (zae (zaM (hd 8 dc) rfl) (zae (zaM (hd 15 dc) rfl) (zfL (zae (zaM (hd 7 dc) rfl) (zae (zaM (hcl 15 _ rfl (hd 15 dc) 14 dc) rfl) rfl))))))) ?_
      refine zbb (k:=0) (l':=[hd13.v,hd14.v,hd19.v,hd16.v,zI p1.heights]) zqt rfl (zaa (m:=17) rfl rfl (hd 17 dc)) (zaa (m:=8) rfl rfl (hd 8 dc)) rfl rfl (fun _ _=>rfl) rfl ?_
      exact zhT (b:=(b7,hd19,b8,hd20)) (b7,hd19,b8,hd20) (by rfl) (ztB (zcL rfl)) (zae (zaM (Or.inr rfl) rfl) (zdh (zae ((zap (by rfl)).trans (zaM (hd 8 dc) rfl)) (zae ((zap (by rfl)).trans (zaM (hd 15 dc) rfl)) (zfL (zae ((zap (by rfl)).trans (zaM (hd 7 dc) rfl)) (zae ((zap (by rfl)).trans (zaM (hcl 15 _ rfl (hd 15 dc) 14 dc) rfl)) rfl)))))))
     intro D b hall
     obtain ⟨b7,hd19,b8,hd20⟩:=b
     refine zaL (zae (zaM (hall 18 dc) rfl) (zdh (zae (zaM (hall 8 dc) rfl) (zae (zaM (hall 15 dc) rfl) (zfL (zae (zaM (hall 7 dc) rfl) (zae (zaM (hall 14 dc) rfl) rfl))))))) (zaD rfl dc rfl (zab zkc rfl dc rfl (show _=3 from rfl) ?_))
     refine zbb (k:=0) (l':=[hd13.v,hd14.v,hd19.v,hd20.v,zI p1.heights]) zqt rfl rfl rfl rfl rfl (fun _ _=>rfl) rfl ?_
     refine zaO ?_
     exact zal (l16++[x2.1],l17++[x2.1],hd19,hd20) h rfl (za0 rfl) (zad [0,1,2,3,4,5,6,7,8] kr rfl)
    refine zar ?_
    exact zal (l16,l17,hd15,hd16) h rfl (za0 rfl) (zad [0,1,2,3,4,5,6,7,8] kr rfl)
   rintro ⟨l18,l19,hd17,hd18⟩ h
   rw [hj2] at h
   refine zaI ?_
   obtain ⟨q1,hq3,h⟩:=zbi h
   refine zbn 7 [(0,47,zP bp1),(1,48,zP bp1),(2,49,.pointer (some ⟨bp1,3,none⟩)),(3,50,hd18.v),(4,51,.pointer (some ⟨jb1,2,none⟩)),(5,52,zI x2.2.Stanza),(6,53,zI x2.1)] mixed kr kr dc (by rfl) kr kr (zac ?_ (zac ?_ (zac ?_ (zac ?_ (zac ?_ (zac ?_ (zyP 1 6 rfl DrawPre.nil))))))) ?_
   · exact fun D n d c u i=>zau (k:=5) zh4 rfl dc (zbe (by rfl) rfl) rfl rfl (zaf 0 u i rfl)
   · exact fun D n d c u i=>zaD rfl dc (zaa (m:=0) u rfl (d 0 dc)) (zaf 1 u i rfl)
   · exact fun D n d c u i=>zab zkc rfl dc (zaa (m:=1) u rfl (d 1 dc)) (show _=3 from rfl) (zaf 2 u i rfl)
   · exact fun D n d c u i=>zau (k:=0) zhh rfl dc (zaa (m:=2) u rfl (d 2 dc)) rfl rfl (zaf 3 u i rfl)
   · exact fun D n d c u i=>zab zjj rfl dc (zbe (by rfl) rfl) (show _=2 from rfl) (zaf 4 u i rfl)
   · exact fun D n d c u i=>zau (k:=8) zbp rfl dc (zaa (m:=4) u rfl (d 4 dc)) rfl rfl (zaf 5 u i rfl)
   refine zaj (k:=4) hq3 Tryz.underlying49 zcs rfl dc rfl rfl rfl rfl ?_
   refine zbv (i:=(x2.2.Stanza:Int).toNat) (j:=0) (k:=4) (q:=q1) (q':=x2.1) zcs zaQ rfl rfl rfl rfl (zaz hq3) rfl dc rfl (fun _ _=>rfl) ?_
   refine zyH (zab zoB rfl dc rfl (show _=0 from rfl) (zau (k:=8) zp7 rfl dc rfl rfl rfl (zab zmW rfl dc rfl (show _=1 from rfl) (zau (k:=8) zbp rfl dc rfl rfl rfl (zbd (k:=6) (cs:=(zr0 l1)) zja rfl dc rfl rfl rfl rfl ?_)))))
   obtain ⟨r2,hq4,h⟩:=zbi h
   refine zes (vs:=[.string x2.2.Text,zI x2.2.Indent,.agg (zr0 l1).toArray]) rfl dc rfl rfl rfl zvS (zjF (l1:=l1) hq4) Splits.nil ?_
   rintro v3
   refine zby (k:=9) rfl (fun hd21 he3 => ?_)
   subst he3
   refine zyR 1 rfl (zaN rfl dc rfl rfl (zaN rfl dc rfl rfl (zyR 2 rfl (zyH (zau (k:=7) zbp rfl dc rfl rfl rfl (zyR 1 rfl ?_))))))
   obtain ⟨hg3,h⟩:=zbr h
   refine zaU rfl (zaR (r:=cost4+r2.2) (IntWalk.i64_in _ hg3)) ?_
   refine zbb (k:=7) (l':=[zI (cost4+r2.2)]) zcs rfl rfl rfl rfl rfl (fun _ _=>rfl) rfl ?_
   refine zyH (zyR 1 rfl (zbg (k:=9) rfl dc rfl rfl Tryz.underlying70 (zyR 1 rfl (zyN (zaF ?_)))))
   refine zbj (β:=Nat×(List Gapi_Row)×(List Int)×Int×Hd×Hd) (fun b=>zaE (fun _ _ _=>none) (zbI l1 x2 ag1 cost4 l18 l19 r2) b.1 b.2.1 b.2.2.1 b.2.2.2.1=some r) (fun b=>[]) (fun b=>[(3,zP b2),(5,zP b3),(6,zI 0),(7,zP b4),(8,zI x2.1),(9,zP jb1),(16,.func (.func 115) #[] #[zP b5]),(67,hd21.v),(68,zI (r2.1.length:Int)),(69,zI b.2.2.2.1)]) (fun b=>[cells bp1 [b.2.2.2.2.1.v,b.2.2.2.2.2.v,hd17.v,hd18.v,zI p1.heights] 131,zv1 b.2.2.2.2.1.v b.2.1,zv0 b.2.2.2.2.2.v b.2.2.1,zv0 hd17.v l18,zv0 hd18.v (l19.set (x2.2.Stanza:Int).toNat x2.1),cells b2 [zP bp1] 129,cells b3 (zr0 l1) 23,cells b4 [zI (cost4+r2.2)] 3,cells jb1 (zr4 x2.2) 76,zv5 hd21.v r2.1]) (fun b=>b.1) (zbN,l14,l15,0,hd13,hd14) h rfl (za0 rfl) (zad [0,1,2,3,4,5,6,7,8,9] kr rfl) ?_
   rintro ⟨n1,l24,l25,x5,hd26,hd27⟩ h
   cases n1 with
   | zero=>exact zdp h
   | succ n1 =>
    obtain ⟨ag2,hag2⟩:∃ ag,ag=zaE (fun _ _ _=>none) (zbI l1 x2 ag1 cost4 l18 l19 r2) n1:=⟨_,rfl⟩
    have h:zbI l1 x2 ag1 cost4 l18 l19 r2 ag2 l24 l25 x5=some r:=by rw [hag2]; exact h
    unfold zbI at h
    refine zyG (zaU rfl zbc (zyN (zaI ?_)))
    refine zyB rfl h (fun h => ?_) (fun h => ?_)
    ·
     refine zar (zaH (zaI (zaF ?_)))
     obtain ⟨j3,hj3,h⟩:=zbG h
     refine zaX (β:=Int×Int×ByteArray×Nat) 2 rfl (fun b=>j3 b.1 b.2.1 b.2.2.1=some r) (fun b=>[]) (fun b=>[(3,zP b2),(5,zP b3),(6,zI 0),(7,zP b4),(8,zI x2.1),(9,zP jb1),(14,zP b.2.2.2),(16,.func (.func 115) #[] #[zP b5]),(67,hd21.v),(68,zI (r2.1.length:Int)),(69,zI x5)]) (fun b=>[cells bp1 [hd26.v,hd27.v,hd17.v,hd18.v,zI p1.heights] 131,zv1 hd26.v l24,zv0 hd27.v l25,zv0 hd17.v l18,zv0 hd18.v (l19.set (x2.2.Stanza:Int).toNat x2.1),cells b2 [zP bp1] 129,cells b3 (zr0 l1) 23,cells b4 [zI (cost4+r2.2)] 3,cells jb1 (zr4 x2.2) 76,cells b.2.2.2 [zI x2.1,zI x2.2.Stanza,zI x5,zI b.1,zI b.2.1,.string b.2.2.1] 33,zv5 hd21.v r2.1]) (fun cut => ?_) ?_
     ·
      refine zyG (zyR 1 rfl ?_)
      obtain ⟨q2,hq5,h⟩:=zbi h
      refine zaj (k:=9) hq5 Tryz.underlying70 ztO rfl dc rfl rfl rfl rfl (zaA (i:=(x5:Int).toNat) (j:=0) (k:=9) (q:=q2) zp7 zg9 rfl dc rfl rfl (zaz hq5) rfl dc rfl (zyR 2 rfl (zyH (zyR 1 rfl (zab zjj rfl dc rfl (show _=2 from rfl) (zau (k:=8) zbp rfl dc rfl rfl rfl (zyR 1 rfl (zab zg4 rfl dc rfl (show _=2 from rfl) (zau (k:=6) zbp rfl dc rfl rfl rfl ?_)))))))))
      refine zyR 1 rfl ?_
      refine zba (v:=.agg #[zI x2.1,zI x2.2.Stanza,zI x5,zI l1.Turn,zI 0,.string q2]) (ps:=[(0,.tmp 74),(1,.tmp 76),(2,.tmp 77),(3,.tmp 79),(5,.tmp 80)]) rfl dc rfl (fun _=>by kernel_rfl) ?_
      refine zbE zoh rfl dc (fun b10 => ?_)
      refine za6 (k:=10) (vs:=[zI x2.1,zI x2.2.Stanza,zI x5,zI l1.Turn,zI 0,.string q2]) (l':=[zI x2.1,zI x2.2.Stanza,zI x5,zI l1.Turn,zI 0,.string q2]) zeb rfl rfl rfl rfl rfl (show _≤_ by simp) rfl rfl ?_
      refine zyN (cut (zyG (zyR 1 rfl (zaU rfl zaT (zyN ?_)))))
      refine zyB rfl h (fun h => ?_) (fun h => ?_)
      ·
       refine zyG (zab zmW rfl dc rfl (show _=1 from rfl) (zau (k:=8) zbp rfl dc rfl rfl rfl (zab zrk rfl dc rfl (show _=3 from rfl) ?_)))
       refine zbb (k:=10) (l':=[zI x2.1,zI x2.2.Stanza,zI x5,zI x2.2.Indent,zI 0,.string q2]) zcs rfl rfl rfl rfl rfl (fun _ _=>rfl) rfl ?_
       refine zyH (zab zhA rfl dc rfl (show _=3 from rfl) (zau (k:=6) zbp rfl dc rfl rfl rfl (zaU rfl zct (zyR 1 rfl ?_))))
       refine zyS (s:=90) rfl h (fun h => ?_) (fun h => ?_)
       ·
        refine zyR 1 rfl ?_
        obtain ⟨hg4,h⟩:=zbr h
        refine zaU rfl (zaR (r:=x2.1+1) (IntWalk.i64_in _ hg4)) (zab zhA rfl dc rfl (show _=3 from rfl) (zau (k:=6) zbp rfl dc rfl rfl rfl ?_))
        obtain ⟨hg5,h⟩:=zbr h
        refine zaU rfl (zrI hg5 rfl) (zaU rfl zaT (zyR 1 rfl (zyN ?_)))
        refine zyB rfl h (fun h => ?_) (fun h => ?_)
        ·
         refine zav (zyR 1 rfl ?_)
         obtain ⟨hg6,h⟩:=zbr h
         refine zaU rfl (zaR (r:=x2.1+1) (IntWalk.i64_in _ hg6)) (zab zrj rfl dc rfl (show _=4 from rfl) ?_)
         refine zbb (k:=10) (l':=[zI x2.1,zI x2.2.Stanza,zI x5,zI x2.2.Indent,zI (x2.1+1),.string q2]) zcs rfl rfl rfl rfl rfl (fun _ _=>rfl) rfl ?_
         refine zaO ?_
         exact zal (x2.2.Indent,x2.1+1,q2,b10) h rfl (za0 rfl) (zad [0,1,2,3,4,5,6,7,8,10,9] kr rfl)
        refine zar ?_
        exact zal (x2.2.Indent,0,q2,b10) h rfl (za0 rfl) (zad [0,1,2,3,4,5,6,7,8,10,9] kr rfl)
       refine zyR 7 rfl (zyN (zaS rfl (zar ?_)))
       exact zal (x2.2.Indent,0,q2,b10) h rfl (za0 rfl) (zad [0,1,2,3,4,5,6,7,8,10,9] kr rfl)
      refine zar ?_
      exact zal (l1.Turn,0,q2,b10) h rfl (za0 rfl) (zad [0,1,2,3,4,5,6,7,8,10,9] kr rfl)
     rintro ⟨r3,r4,r5,b9⟩ h
     rw [hj3] at h
     obtain ⟨hg7,h⟩:=zbr h
     obtain ⟨hg8,h⟩:=zbr h
     refine zgs 2 ?_
     refine let vals2:(Nat×Hd×Nat×Hd)→List (Nat×Nat×Value):=fun b=>[(0,101,zP bp1),(1,102,zP bp1),(2,103,zP bp1),(3,104,zP bp1),(4,105,zP bp1),(5,106,hd26.v),(6,107,.agg #[zI x2.1,zI x2.2.Stanza,zI x5,zI r3,zI r4,.string r5]),(7,108,.slice (some ⟨b.1,0,none⟩) 1 1),(8,109,b.2.1.v),(9,110,zP bp1),(10,111,zP bp1),(11,112,.pointer (some ⟨bp1,1,none⟩)),(12,113,hd27.v),(13,114,.pointer (some ⟨jb1,2,none⟩)),(14,115,zI x2.2.Stanza),(15,116,.slice (some ⟨b.2.2.1,0,none⟩) 1 1),(16,117,b.2.2.2.v),(17,118,zP bp1),(18,119,zP bp1)]; let LL2:(Nat→Prop)→(Nat×Hd×Nat×Hd)→List Asn:=fun D b=>[eD D (cells bp1 [hd26.v,hd27.v,hd17.v,hd18.v,zI p1.heights] 131) [(19,cells bp1 [b.2.1.v,hd27.v,hd17.v,hd18.v,zI p1.heights] 131)],eD D (zv1 hd26.v l24) [(8,zv1 b.2.1.v (l24++[(⟨x2.1,x2.2.Stanza,x5,r3,r4,r5⟩:Gapi_Row)]))],eD D (zv0 hd27.v l25) [(16,zv0 b.2.2.2.v (l25++[x2.2.Stanza]))],zv0 hd17.v l18,zv0 hd18.v (l19.set (x2.2.Stanza:Int).toNat x2.1),cells b2 [zP bp1] 129,cells b3 (zr0 l1) 23,cells b4 [zI (cost4+r2.2)] 3,cells jb1 (zr4 x2.2) 76,cells b9 [zI x2.1,zI x2.2.Stanza,zI x5,zI r3,zI r4,.string r5] 33,zv5 hd21.v r2.1,eD D emp [(7,cells b.1 [zI x2.1,zI x2.2.Stanza,zI x5,zI r3,zI r4,.string r5] 33)],eD D emp [(15,cells b.2.2.1 [zI x2.2.Stanza] 3)]]; ?_
     refine zd3 (β:=Nat×Hd×Nat×Hd) 20 ((0:Nat),Hd.nil,(0:Nat),Hd.nil) vals2 LL2 mixed kr kr dc (fun _=>rfl) (zae zb7 (zae zb7 (zae zb7 (zip (zae zb7 (zae zb7 rfl)))))) (zaB ?_ (zaB ?_ (zaB ?_ (zaB ?_ (zaB ?_ (zaB ?_ (zaB ?_ (zaB ?_ (zaB ?_ (zaB ?_ (zaB ?_ (zaB ?_ (zaB ?_ (zaB ?_ (zaB ?_ (zaB ?_ (zaB ?_ (zaB ?_ (zaB ?_ (zaB ?_ DrawG.nil)))))))))))))))))))) ?_
     ·
      intro D b hn hd hcl
      obtain ⟨b11,hd28,b12,hd29⟩:=b
      refine zaL (zae (zak (fun hD=>hn (hcl 19 _ rfl hD 0 dc)) zaq) (ztA rfl)) ?_
      refine zau (k:=5) zh4 rfl dc (zbe (by rfl) rfl) rfl rfl ?_
      exact zaW (b:=(b11,hd28,b12,hd29)) (b11,hd28,b12,hd29) 0 (by rfl) (by rfl) rfl (zjP (zcL rfl)) (zae ((zap (by rfl)).trans (zak (fun hD=>hn (hcl 19 _ rfl hD 0 dc)) zaq)) (zae (zap (by rfl)) (zae (zap (by rfl)) (zip (zae (zap (by rfl)) (zae (zap (by rfl)) rfl))))))
     ·
      intro D b hn hd hcl
      obtain ⟨b11,hd28,b12,hd29⟩:=b
      refine zaL (zae rfl (ztA rfl)) (zau (k:=5) zh4 rfl dc (zbe (by rfl) rfl) rfl rfl ?_)
      exact zaW (b:=(b11,hd28,b12,hd29)) (b11,hd28,b12,hd29) 1 (by rfl) (by rfl) rfl (zjP (zcL rfl)) (zae (zap (by rfl)) (zae (zap (by rfl)) (zae (zap (by rfl)) (zip (zae (zap (by rfl)) (zae (zap (by rfl)) rfl))))))
     ·
      intro D b hn hd hcl
      obtain ⟨b11,hd28,b12,hd29⟩:=b
      refine zaL (zae (zak (fun hD=>hn (hcl 19 _ rfl hD 2 dc)) zaq) (zae (zak (fun hD=>hn (hcl 3 _ rfl (hcl 4 _ rfl (hcl 5 _ rfl (hcl 8 _ rfl hD 5 dc) 4 dc) 3 dc) 2 dc)) zaq) (zae (zak (fun hD=>hn (hcl 3 _ rfl (hcl 4 _ rfl (hcl 5 _ rfl (hcl 8 _ rfl (hcl 16 _ rfl hD 8 dc) 5 dc) 4 dc) 3 dc) 2 dc)) zaq) (zmh rfl)))) ?_
      refine zau (k:=5) zh4 rfl dc (zbe (by rfl) rfl) rfl rfl ?_
      exact zaW (b:=(b11,hd28,b12,hd29)) (b11,hd28,b12,hd29) 2 (by rfl) (by rfl) rfl (zjP (zcL rfl)) (zae ((zap (by rfl)).trans (zak (fun hD=>hn (hcl 19 _ rfl hD 2 dc)) zaq)) (zae ((zap (by rfl)).trans (zak (fun hD=>hn (hcl 3 _ rfl (hcl 4 _ rfl (hcl 5 _ rfl (hcl 8 _ rfl hD 5 dc) 4 dc) 3 dc) 2 dc)) zaq)) (zae ((zap (by rfl)).trans (zak (fun hD=>hn (hcl 3 _ rfl (hcl 4 _ rfl (hcl 5 _ rfl (hcl 8 _ rfl (hcl 16 _ rfl hD 8 dc) 5 dc) 4 dc) 3 dc) 2 dc)) zaq)) (zip (zae (zap (by rfl)) (zae (zap (by rfl)) rfl))))))
     ·
      intro D b hn hd hcl
      obtain ⟨b11,hd28,b12,hd29⟩:=b
      refine zaL (zae (zak (fun hD=>hn (hcl 19 _ rfl hD 3 dc)) zaq) (zae (zak (fun hD=>hn (hcl 4 _ rfl (hcl 5 _ rfl (hcl 8 _ rfl hD 5 dc) 4 dc) 3 dc)) zaq) (zae (zak (fun hD=>hn (hcl 4 _ rfl (hcl 5 _ rfl (hcl 8 _ rfl (hcl 16 _ rfl hD 8 dc) 5 dc) 4 dc) 3 dc)) zaq) (zmh rfl)))) ?_
      refine zaD rfl dc (zaa (m:=2) rfl rfl (hd 2 dc)) ?_
      exact zaW (b:=(b11,hd28,b12,hd29)) (b11,hd28,b12,hd29) 3 (by rfl) (by rfl) rfl (zjP (zcL rfl)) (zae ((zap (by rfl)).trans (zak (fun hD=>hn (hcl 19 _ rfl hD 3 dc)) zaq)) (zae ((zap (by rfl)).trans (zak (fun hD=>hn (hcl 4 _ rfl (hcl 5 _ rfl (hcl 8 _ rfl hD 5 dc) 4 dc) 3 dc)) zaq)) (zae ((zap (by rfl)).trans (zak (fun hD=>hn (hcl 4 _ rfl (hcl 5 _ rfl (hcl 8 _ rfl (hcl 16 _ rfl hD 8 dc) 5 dc) 4 dc) 3 dc)) zaq)) (zip (zae (zap (by rfl)) (zae (zap (by rfl)) rfl))))))
     ·
      intro D b hn hd hcl
      obtain ⟨b11,hd28,b12,hd29⟩:=b
      refine zaL (zae (zak (fun hD=>hn (hcl 19 _ rfl hD 4 dc)) zaq) (zae (zak (fun hD=>hn (hcl 5 _ rfl (hcl 8 _ rfl hD 5 dc) 4 dc)) zaq) (zae (zak (fun hD=>hn (hcl 5 _ rfl (hcl 8 _ rfl (hcl 16 _ rfl hD 8 dc) 5 dc) 4 dc)) zaq) (zmh rfl)))) ?_
      refine zab zgy rfl dc (zaa (m:=3) rfl rfl (hd 3 dc)) (show _=0 from rfl) ?_
      exact zaW (b:=(b11,hd28,b12,hd29)) (b11,hd28,b12,hd29) 4 (by rfl) (by rfl) rfl (zjP (zcL rfl)) (zae ((zap (by rfl)).trans (zak (fun hD=>hn (hcl 19 _ rfl hD 4 dc)) zaq)) (zae ((zap (by rfl)).trans (zak (fun hD=>hn (hcl 5 _ rfl (hcl 8 _ rfl hD 5 dc) 4 dc)) zaq)) (zae ((zap (by rfl)).trans (zak (fun hD=>hn (hcl 5 _ rfl (hcl 8 _ rfl (hcl 16 _ rfl hD 8 dc) 5 dc) 4 dc)) zaq)) (zip (zae (zap (by rfl)) (zae (zap (by rfl)) rfl))))))
     ·
      intro D b hn hd hcl
      obtain ⟨b11,hd28,b12,hd29⟩:=b
      refine zaL (zae (zak (fun hD=>hn (hcl 19 _ rfl hD 5 dc)) zaq) (zae (zak (fun hD=>hn (hcl 8 _ rfl hD 5 dc)) zaq) (zae (zak (fun hD=>hn (hcl 8 _ rfl (hcl 16 _ rfl hD 8 dc) 5 dc)) zaq) (zmh rfl)))) ?_
      refine zau (k:=0) zmz rfl dc (zaa (m:=4) rfl rfl (hd 4 dc)) rfl rfl ?_
      exact zaW (b:=(b11,hd28,b12,hd29)) (b11,hd28,b12,hd29) 5 (by rfl) (by rfl) rfl (zjP (zcL rfl)) (zae ((zap (by rfl)).trans (zak (fun hD=>hn (hcl 19 _ rfl hD 5 dc)) zaq)) (zae ((zap (by rfl)).trans (zak (fun hD=>hn (hcl 8 _ rfl hD 5 dc)) zaq)) (zae ((zap (by rfl)).trans (zak (fun hD=>hn (hcl 8 _ rfl (hcl 16 _ rfl hD 8 dc) 5 dc)) zaq)) (zip (zae (zap (by rfl)) (zae (zap (by rfl)) rfl))))))
     ·
      intro D b hn hd hcl
      obtain ⟨b11,hd28,b12,hd29⟩:=b
      refine zaL (zae (zak (fun hD=>hn (hcl 19 _ rfl hD 6 dc)) zaq) (zae (zak (fun hD=>hn (hcl 7 _ rfl (hcl 8 _ rfl hD 7 dc) 6 dc)) zaq) (zae (zak (fun hD=>hn (hcl 7 _ rfl (hcl 8 _ rfl (hcl 16 _ rfl hD 8 dc) 7 dc) 6 dc)) zaq) (zip (zae (zak (fun hD=>hn (hcl 7 _ rfl hD 6 dc)) zaq) rfl))))) ?_
      refine zbd (k:=9) (cs:=[zI x2.1,zI x2.2.Stanza,zI x5,zI r3,zI r4,.string r5]) zia rfl dc (zbe (by rfl) rfl) rfl rfl rfl ?_
      exact zaW (b:=(b11,hd28,b12,hd29)) (b11,hd28,b12,hd29) 6 (by rfl) (by rfl) rfl (zjP (zcL rfl)) (zae ((zap (by rfl)).trans (zak (fun hD=>hn (hcl 19 _ rfl hD 6 dc)) zaq)) (zae ((zap (by rfl)).trans (zak (fun hD=>hn (hcl 7 _ rfl (hcl 8 _ rfl hD 7 dc) 6 dc)) zaq)) (zae ((zap (by rfl)).trans (zak (fun hD=>hn (hcl 7 _ rfl (hcl 8 _ rfl (hcl 16 _ rfl hD 8 dc) 7 dc) 6 dc)) zaq)) (zip (zae ((zap (by rfl)).trans (zak (fun hD=>hn (hcl 7 _ rfl hD 6 dc)) zaq)) (zae (zap (by rfl)) rfl))))))
     ·
      intro D b hn hd hcl
      obtain ⟨zb0,hd28,b12,hd29⟩:=b
      refine zaL (zae (zak (fun hD=>hn (hcl 19 _ rfl hD 7 dc)) zaq) (zae (zak (fun hD=>hn (hcl 8 _ rfl hD 7 dc)) zaq) (zae (zak (fun hD=>hn (hcl 8 _ rfl (hcl 16 _ rfl hD 8 dc) 7 dc)) zaq) (zip (zae (zak hn zaq) rfl))))) ?_
      refine zaV (cs:=[zI x2.1,zI x2.2.Stanza,zI x5,zI r3,zI r4,.string r5]) (te:=33) (ps:=[(0,.tmp 107)]) rfl dc (evP.cons (zaa (m:=6) rfl rfl (hd 6 dc)) evP.nil) (fun _=>by kernel_rfl) (fun b11 => ?_)
      refine zcU 11 rfl rfl ?_
      exact zaW (b:=(zb0,hd28,b12,hd29)) (b11,hd28,b12,hd29) 7 (by rfl) (by rfl) rfl (zjP (zas (fun hD=>absurd hD hn) (ztC rfl))) (zae ((zap (by rfl)).trans (zak (fun hD=>hn (hcl 19 _ rfl hD 7 dc)) zaq)) (zae ((zap (by rfl)).trans (zak (fun hD=>hn (hcl 8 _ rfl hD 7 dc)) zaq)) (zae ((zap (by rfl)).trans (zak (fun hD=>hn (hcl 8 _ rfl (hcl 16 _ rfl hD 8 dc) 7 dc)) zaq)) (zip (zae (zaM (Or.inr rfl) rfl) (zae (zap (by rfl)) rfl))))))
     ·
      intro D b hn hd hcl
      obtain ⟨b11,zb1,b12,hd29⟩:=b
      refine zaL (zae (zak (fun hD=>hn (hcl 19 _ rfl hD 8 dc)) zaq) (zae (zak hn zaq) (zae (zak (fun hD=>hn (hcl 16 _ rfl hD 8 dc)) zaq) (zip (zae (zaM (hd 7 dc) rfl) rfl))))) ?_
      refine za4 (k:=1) (k2:=11) (ys:=[(⟨x2.1,x2.2.Stanza,x5,r3,r4,r5⟩:Gapi_Row)]) Tryz.underlying43 zoD za8 zdm rfl dc (zaa (m:=5) rfl rfl (hd 5 dc)) (zaa (m:=7) rfl rfl (hd 7 dc)) rfl rfl rfl rfl hg7 (fun v4 => ?_)
      refine zby (k:=1) rfl (fun hd28 he4 => ?_)
      subst he4
      exact zaW (b:=(b11,zb1,b12,hd29)) (b11,hd28,b12,hd29) 8 (by rfl) (by rfl) rfl (zi6 (zas (fun hD=>absurd hD hn) (zrZ rfl))) (zae ((zap (by rfl)).trans (zak (fun hD=>hn (hcl 19 _ rfl hD 8 dc)) zaq)) (zae (zaM (Or.inr rfl) rfl) (zae ((zap (by rfl)).trans (zak (fun hD=>hn (hcl 16 _ rfl hD 8 dc)) zaq)) (zip (zae ((zap (by rfl)).trans (zaM (hd 7 dc) rfl)) (zae (zap (by rfl)) rfl))))))
     ·
      intro D b hn hd hcl
      obtain ⟨b11,hd28,b12,hd29⟩:=b
      refine zaL (zae (zak (fun hD=>hn (hcl 10 _ rfl (hcl 11 _ rfl (hcl 12 _ rfl (hcl 19 _ rfl hD 12 dc) 11 dc) 10 dc) 9 dc)) zaq) (zae rfl (zae (zak (fun hD=>hn (hcl 10 _ rfl (hcl 11 _ rfl (hcl 12 _ rfl (hcl 16 _ rfl hD 12 dc) 11 dc) 10 dc) 9 dc)) zaq) (zmh rfl)))) ?_
      refine zau (k:=5) zh4 rfl dc (zbe (by rfl) rfl) rfl rfl ?_
      exact zaW (b:=(b11,hd28,b12,hd29)) (b11,hd28,b12,hd29) 9 (by rfl) (by rfl) rfl (zjP (zcL rfl)) (zae ((zap (by rfl)).trans (zak (fun hD=>hn (hcl 10 _ rfl (hcl 11 _ rfl (hcl 12 _ rfl (hcl 19 _ rfl hD 12 dc) 11 dc) 10 dc) 9 dc)) zaq)) (zae (zap (by rfl)) (zae ((zap (by rfl)).trans (zak (fun hD=>hn (hcl 10 _ rfl (hcl 11 _ rfl (hcl 12 _ rfl (hcl 16 _ rfl hD 12 dc) 11 dc) 10 dc) 9 dc)) zaq)) (zip (zae (zap (by rfl)) (zae (zap (by rfl)) rfl))))))
     ·
      intro D b hn hd hcl
      obtain ⟨b11,hd28,b12,hd29⟩:=b
      refine zaL (zae (zak (fun hD=>hn (hcl 11 _ rfl (hcl 12 _ rfl (hcl 19 _ rfl hD 12 dc) 11 dc) 10 dc)) zaq) (zae rfl (zae (zak (fun hD=>hn (hcl 11 _ rfl (hcl 12 _ rfl (hcl 16 _ rfl hD 12 dc) 11 dc) 10 dc)) zaq) (zmh rfl)))) ?_
      refine zaD rfl dc (zaa (m:=9) rfl rfl (hd 9 dc)) ?_
      exact zaW (b:=(b11,hd28,b12,hd29)) (b11,hd28,b12,hd29) 10 (by rfl) (by rfl) rfl (zjP (zcL rfl)) (zae ((zap (by rfl)).trans (zak (fun hD=>hn (hcl 11 _ rfl (hcl 12 _ rfl (hcl 19 _ rfl hD 12 dc) 11 dc) 10 dc)) zaq)) (zae (zap (by rfl)) (zae ((zap (by rfl)).trans (zak (fun hD=>hn (hcl 11 _ rfl (hcl 12 _ rfl (hcl 16 _ rfl hD 12 dc) 11 dc) 10 dc)) zaq)) (zip (zae (zap (by rfl)) (zae (zap (by rfl)) rfl))))))
     ·
      intro D b hn hd hcl
      obtain ⟨b11,hd28,b12,hd29⟩:=b
      refine zaL (zae (zak (fun hD=>hn (hcl 12 _ rfl (hcl 19 _ rfl hD 12 dc) 11 dc)) zaq) (zae rfl (zae (zak (fun hD=>hn (hcl 12 _ rfl (hcl 16 _ rfl hD 12 dc) 11 dc)) zaq) (zmh rfl)))) ?_
      refine zab zkd rfl dc (zaa (m:=10) rfl rfl (hd 10 dc)) (show _=1 from rfl) ?_
      exact zaW (b:=(b11,hd28,b12,hd29)) (b11,hd28,b12,hd29) 11 (by rfl) (by rfl) rfl (zjP (zcL rfl)) (zae ((zap (by rfl)).trans (zak (fun hD=>hn (hcl 12 _ rfl (hcl 19 _ rfl hD 12 dc) 11 dc)) zaq)) (zae (zap (by rfl)) (zae ((zap (by rfl)).trans (zak (fun hD=>hn (hcl 12 _ rfl (hcl 16 _ rfl hD 12 dc) 11 dc)) zaq)) (zip (zae (zap (by rfl)) (zae (zap (by rfl)) rfl))))))
     ·
      intro D b hn hd hcl
      obtain ⟨b11,hd28,b12,hd29⟩:=b
      refine zaL (zae (zak (fun hD=>hn (hcl 19 _ rfl hD 12 dc)) zaq) (zae rfl (zae (zak (fun hD=>hn (hcl 16 _ rfl hD 12 dc)) zaq) (zmh rfl)))) ?_
      refine zau (k:=0) zhh rfl dc (zaa (m:=11) rfl rfl (hd 11 dc)) rfl rfl ?_
      exact zaW (b:=(b11,hd28,b12,hd29)) (b11,hd28,b12,hd29) 12 (by rfl) (by rfl) rfl (zjP (zcL rfl)) (zae ((zap (by rfl)).trans (zak (fun hD=>hn (hcl 19 _ rfl hD 12 dc)) zaq)) (zae (zap (by rfl)) (zae ((zap (by rfl)).trans (zak (fun hD=>hn (hcl 16 _ rfl hD 12 dc)) zaq)) (zip (zae (zap (by rfl)) (zae (zap (by rfl)) rfl))))))
     ·
      intro D b hn hd hcl
      obtain ⟨b11,hd28,b12,hd29⟩:=b
      refine zaL (zae (zak (fun hD=>hn (hcl 14 _ rfl (hcl 15 _ rfl (hcl 16 _ rfl (hcl 19 _ rfl hD 16 dc) 15 dc) 14 dc) 13 dc)) zaq) (zae rfl (zae (zak (fun hD=>hn (hcl 14 _ rfl (hcl 15 _ rfl (hcl 16 _ rfl hD 15 dc) 14 dc) 13 dc)) zaq) (zwI (zae (zak (fun hD=>hn (hcl 14 _ rfl (hcl 15 _ rfl hD 14 dc) 13 dc)) zaq) rfl))))) ?_
      refine zab zjj rfl dc (zbe (by rfl) rfl) (show _=2 from rfl) ?_
      exact zaW (b:=(b11,hd28,b12,hd29)) (b11,hd28,b12,hd29) 13 (by rfl) (by rfl) rfl (zjP (zcL rfl)) (zae ((zap (by rfl)).trans (zak (fun hD=>hn (hcl 14 _ rfl (hcl 15 _ rfl (hcl 16 _ rfl (hcl 19 _ rfl hD 16 dc) 15 dc) 14 dc) 13 dc)) zaq)) (zae (zap (by rfl)) (zae ((zap (by rfl)).trans (zak (fun hD=>hn (hcl 14 _ rfl (hcl 15 _ rfl (hcl 16 _ rfl hD 15 dc) 14 dc) 13 dc)) zaq)) (zip (zae (zap (by rfl)) (zae ((zap (by rfl)).trans (zak (fun hD=>hn (hcl 14 _ rfl (hcl 15 _ rfl hD 14 dc) 13 dc)) zaq)) rfl))))))
     ·
      intro D b hn hd hcl
      obtain ⟨b11,hd28,b12,hd29⟩:=b
      refine zaL (zae (zak (fun hD=>hn (hcl 15 _ rfl (hcl 16 _ rfl (hcl 19 _ rfl hD 16 dc) 15 dc) 14 dc)) zaq) (zae rfl (zae (zak (fun hD=>hn (hcl 15 _ rfl (hcl 16 _ rfl hD 15 dc) 14 dc)) zaq) (zwI (zae (zak (fun hD=>hn (hcl 15 _ rfl hD 14 dc)) zaq) rfl))))) ?_
      refine zau (k:=8) zbp rfl dc (zaa (m:=13) rfl rfl (hd 13 dc)) rfl rfl ?_
      exact zaW (b:=(b11,hd28,b12,hd29)) (b11,hd28,b12,hd29) 14 (by rfl) (by rfl) rfl (zjP (zcL rfl)) (zae ((zap (by rfl)).trans (zak (fun hD=>hn (hcl 15 _ rfl (hcl 16 _ rfl (hcl 19 _ rfl hD 16 dc) 15 dc) 14 dc)) zaq)) (zae (zap (by rfl)) (zae ((zap (by rfl)).trans (zak (fun hD=>hn (hcl 15 _ rfl (hcl 16 _ rfl hD 15 dc) 14 dc)) zaq)) (zip (zae (zap (by rfl)) (zae ((zap (by rfl)).trans (zak (fun hD=>hn (hcl 15 _ rfl hD 14 dc)) zaq)) rfl))))))
     ·
      intro D b hn hd hcl
      obtain ⟨b11,hd28,zb2,hd29⟩:=b
      refine zaL (zae (zak (fun hD=>hn (hcl 16 _ rfl (hcl 19 _ rfl hD 16 dc) 15 dc)) zaq) (zae rfl (zae (zak (fun hD=>hn (hcl 16 _ rfl hD 15 dc)) zaq) (zwI (zae (zak hn zaq) rfl))))) ?_
      refine zaV (cs:=[zI x2.2.Stanza]) (te:=3) (ps:=[(0,.tmp 115)]) rfl dc (evP.cons (zaa (m:=14) rfl rfl (hd 14 dc)) evP.nil) (fun _=>by kernel_rfl) (fun b12 => ?_)
      refine zcU 12 rfl rfl ?_
      exact zaW (b:=(b11,hd28,zb2,hd29)) (b11,hd28,b12,hd29) 15 (by rfl) (by rfl) rfl (zuT (zcL (zas (fun hD=>absurd hD hn) (zuT rfl)))) (zae ((zap (by rfl)).trans (zak (fun hD=>hn (hcl 16 _ rfl (hcl 19 _ rfl hD 16 dc) 15 dc)) zaq)) (zae (zap (by rfl)) (zae ((zap (by rfl)).trans (zak (fun hD=>hn (hcl 16 _ rfl hD 15 dc)) zaq)) (zip (zae (zap (by rfl)) (zae (zaM (Or.inr rfl) rfl) rfl))))))
     ·
      intro D b hn hd hcl
      obtain ⟨b11,hd28,b12,zb3⟩:=b
      refine zaL (zae (zak (fun hD=>hn (hcl 19 _ rfl hD 16 dc)) zaq) (zae (zaM (hd 8 dc) rfl) (zae (zak hn zaq) (zip (zae (zaM (hcl 8 _ rfl (hd 8 dc) 7 dc) rfl) (zae (zaM (hd 15 dc) rfl) rfl)))))) ?_
      refine za4 (k:=2) (k2:=12) (ys:=[x2.2.Stanza]) Tryz.underlying49 zpv zaQ zgC rfl dc (zaa (m:=12) rfl rfl (hd 12 dc)) (zaa (m:=15) rfl rfl (hd 15 dc)) rfl rfl rfl rfl hg8 (fun v5 => ?_)
      refine zby (k:=2) rfl (fun hd29 he5 => ?_)
      subst he5
      exact zaW (b:=(b11,hd28,b12,zb3)) (b11,hd28,b12,hd29) 16 (by rfl) (by rfl) rfl (znj (zcL (zas (fun hD=>absurd hD hn) (zu1 rfl)))) (zae ((zap (by rfl)).trans (zak (fun hD=>hn (hcl 19 _ rfl hD 16 dc)) zaq)) (zae ((zap (by rfl)).trans (zaM (hd 8 dc) rfl)) (zae (zaM (Or.inr rfl) rfl) (zip (zae ((zap (by rfl)).trans (zaM (hcl 8 _ rfl (hd 8 dc) 7 dc) rfl)) (zae ((zap (by rfl)).trans (zaM (hd 15 dc) rfl)) rfl))))))
     ·
      intro D b hn hd hcl
      obtain ⟨b11,hd28,b12,hd29⟩:=b
      refine zaL (zae (zak (fun hD=>hn (hcl 18 _ rfl (hcl 19 _ rfl hD 18 dc) 17 dc)) zaq) (zae (zaM (hd 8 dc) rfl) (zae (zaM (hd 16 dc) rfl) (zip (zae (zaM (hd 7 dc) rfl) (zae (zaM (hcl 16 _ rfl (hd 16 dc) 15 dc) rfl) rfl)))))) ?_
      refine zaD rfl dc (zaa (m:=0) rfl rfl (hd 0 dc)) ?_
      exact zaW (b:=(b11,hd28,b12,hd29)) (b11,hd28,b12,hd29) 17 (by rfl) (by rfl) rfl (zjP (zcL rfl)) (zae ((zap (by rfl)).trans (zak (fun hD=>hn (hcl 18 _ rfl (hcl 19 _ rfl hD 18 dc) 17 dc)) zaq)) (zae ((zap (by rfl)).trans (zaM (hd 8 dc) rfl)) (zae ((zap (by rfl)).trans (zaM (hd 16 dc) rfl)) (zip (zae ((zap (by rfl)).trans (zaM (hd 7 dc) rfl)) (zae ((zap (by rfl)).trans (zaM (hcl 16 _ rfl (hd 16 dc) 15 dc) rfl)) rfl))))))
     ·
      intro D b hn hd hcl
      obtain ⟨b11,hd28,b12,hd29⟩:=b
      refine zaL (zae (zak (fun hD=>hn (hcl 19 _ rfl hD 18 dc)) zaq) (zae (zaM (hd 8 dc) rfl) (zae (zaM (hd 16 dc) rfl) (zip (zae (zaM (hd 7 dc) rfl) (zae (zaM (hcl 16 _ rfl (hd 16 dc) 15 dc) rfl) rfl)))))) ?_
      refine zab zgy rfl dc (zaa (m:=17) rfl rfl (hd 17 dc)) (show _=0 from rfl) ?_
      exact zaW (b:=(b11,hd28,b12,hd29)) (b11,hd28,b12,hd29) 18 (by rfl) (by rfl) rfl (zjP (zcL rfl)) (zae ((zap (by rfl)).trans (zak (fun hD=>hn (hcl 19 _ rfl hD 18 dc)) zaq)) (zae ((zap (by rfl)).trans (zaM (hd 8 dc) rfl)) (zae ((zap (by rfl)).trans (zaM (hd 16 dc) rfl)) (zip (zae ((zap (by rfl)).trans (zaM (hd 7 dc) rfl)) (zae ((zap (by rfl)).trans (zaM (hcl 16 _ rfl (hd 16 dc) 15 dc) rfl)) rfl))))))
     ·
      intro D b hn hd hcl
      obtain ⟨b11,hd28,b12,hd29⟩:=b
      refine zaL (zae (zak hn zaq) (zae (zaM (hd 8 dc) rfl) (zae (zaM (hd 16 dc) rfl) (zip (zae (zaM (hd 7 dc) rfl) (zae (zaM (hcl 16 _ rfl (hd 16 dc) 15 dc) rfl) rfl)))))) ?_
      refine zbb (k:=0) (l':=[hd28.v,hd27.v,hd17.v,hd18.v,zI p1.heights]) ztP rfl (zaa (m:=18) rfl rfl (hd 18 dc)) (zaa (m:=8) rfl rfl (hd 8 dc)) rfl rfl (fun _ _=>rfl) rfl ?_
      exact zhT (b:=(b11,hd28,b12,hd29)) (b11,hd28,b12,hd29) (by rfl) (zjP (zcL rfl)) (zae (zaM (Or.inr rfl) rfl) (zae ((zap (by rfl)).trans (zaM (hd 8 dc) rfl)) (zae ((zap (by rfl)).trans (zaM (hd 16 dc) rfl)) (zip (zae ((zap (by rfl)).trans (zaM (hd 7 dc) rfl)) (zae ((zap (by rfl)).trans (zaM (hcl 16 _ rfl (hd 16 dc) 15 dc) rfl)) rfl))))))
     intro D b hall
     obtain ⟨b11,hd28,b12,hd29⟩:=b
     refine zaL (zae (zaM (hall 19 dc) rfl) (zae (zaM (hall 8 dc) rfl) (zae (zaM (hall 16 dc) rfl) (zip (zae (zaM (hall 7 dc) rfl) (zae (zaM (hall 15 dc) rfl) rfl)))))) (zaD rfl dc rfl (zab zkd rfl dc rfl (show _=1 from rfl) ?_))
     refine zbb (k:=0) (l':=[hd28.v,hd29.v,hd17.v,hd18.v,zI p1.heights]) zqt rfl rfl rfl rfl rfl (fun _ _=>rfl) rfl ?_
     refine zaO (zag (zaH (zav ?_)))
     obtain ⟨hg9,h⟩:=zbr h
     refine zaU rfl (zaR (r:=x5+1) (IntWalk.i64_in _ hg9)) (zyR 1 rfl (zaO ?_))
     subst hag2
     exact za1 (n1,l24++[(⟨x2.1,x2.2.Stanza,x5,r3,r4,r5⟩:Gapi_Row)],l25++[x2.2.Stanza],x5+1,hd28,hd29) h (Nat.lt_succ_self _) rfl (za0 rfl) (zad [0,1,2,3,4,5,6,7,8,10] kr rfl)
    refine za3 (zan (zan (zax (zag ?_))))
    exact zhS (l24,l25,l18,l19.set (x2.2.Stanza:Int).toNat x2.1,cost4+r2.2,hd26,hd27,hd17,hd18) (fun post2 e2=>by have e9:=zgM hxs1 e2; subst e9; subst hag1; exact h) (zad [0,1,2,3,4,5,6,7] kr rfl)
  ·
   rintro dm1 ⟨l14,l15,l16,l17,cost4,hd13,hd14,hd15,hd16⟩ hinv
   have h:dn1 l14 l15 l16 l17 cost4=some r:=hinv [] (List.append_nil _).symm
   rw [hdn1] at h
   refine zim (k:=18) (j:=5) rfl rfl dc ?_
   refine zag ?_
   exact zal (l14,l15,l16,l17,cost4,hd13,hd14,hd15,hd16,b4,dm1::([]:List Nat)) h rfl (za0 rfl) (zad [10,11,12,13,14,17,5] kr rfl)
  rintro dm1 c pre x2 post g hxs hX
  exact (show False from hX).elim
 rintro ⟨l2,l3,l4,l5,cost1,hd1,hd2,hd3,hd4,b1,ds1⟩ h
 rw [hj1] at h
 refine zyG (zau (k:=5) zbp rfl dc rfl rfl rfl (zyR 1 rfl (zyN (zaG ?_))))
 cases h
 exact zrK (rs:=[.tmp 6]) ds1 (hd1,hd2,hd3,hd4) (.inl rfl) (zfd (k:=6) rfl) Tryz.results65 (.cons (.tmp rfl) .nil) rfl (zad [0,1,2,3,4] kr rfl)
end Go.Proofs.YtbempdelckaccaaGreatDoor

namespace Go.Proofs.YtbempdelckaccaaGreatDoor
open Go.RowKit Go.Lib
set_option linter.unusedVariables false
set_option linter.unusedSimpArgs false
def zmo (l:Gapi_Layout) (v:Gapi_Verse):List ByteArray:=zgK v.Text 0 (zkW v.Text (zre v.Indent l) (zq3 l))
def zqd (l:Gapi_Layout) (v:Gapi_Verse):Int:=(TT v.Text (zre v.Indent l) (zq3 l) 0).cost
def zyd (l:Gapi_Layout) (k:Int):Int:=if 0<l.Every then (if Int.tmod (k+1) l.Every=0 then k+1 else 0) else 0
def zte (l:Gapi_Layout) (k:Int) (v:Gapi_Verse) (p:Int) (t:ByteArray):Gapi_Row:=⟨k,v.Stanza,p,if p=0 then v.Indent else l.Turn,if p=0 then zyd l k else 0,t⟩
def zgv (l:Gapi_Layout) (k:Int) (v:Gapi_Verse):Int→List ByteArray→List Gapi_Row
 | _,[]=>[]
 | p,t::ts=>zte l k v p t::zgv l k v (p+1) ts
def zcJ (l:Gapi_Layout):Int→List Gapi_Verse→List Gapi_Row
 | _,[]=>[]
 | k,v::vs=>zgv l k v 0 (zmo l v)++zcJ l (k+1) vs
def zgp (l:Gapi_Layout):List Gapi_Verse→Int
 | []=>0
 | v::vs=>zqd l v+zgp l vs
theorem ziy (l:Gapi_Layout) (k:Int) (v:Gapi_Verse):∀ (ts:List ByteArray) (p:Int),(zgv l k v p ts).length=ts.length
 | [],_=>rfl
 | t::ts,p=>by show (zgv l k v (p+1) ts).length+1=_; rw [ziy l k v ts]; rfl
structure OkV (v:Gapi_Verse):Prop where
 sz:v.Text.size≤1024
 ne:0<v.Text.size
 i0:0≤v.Indent∧v.Indent≤1024
section
variable {l:Gapi_Layout} (hm:zlk l=true)
include hm
theorem zok {v:Gapi_Verse} (h:OkV v):(zmo l v).length≤1024:=by
 obtain ⟨h1,h2,h3⟩:=zqm hm h.i0
 have hs:v.Text.size≤100000:=by have:=h.sz; omega
 have hr:=ziX hs h2 h3 (zam v.Text).length 0 (zp0 hs h2 h3) (Nat.zero_le _)
 have hl:0+(zkW v.Text (zre v.Indent l) (zq3 l)).length≤max (zam v.Text).length 0:=zmG hr
 have hc:=zhQ v.Text
 have ht:∀ (ts:List Nat) (f:Nat),(zgK v.Text f ts).length=ts.length:=by
  intro ts
  induction ts with
  | nil=>intro f; rfl
  | cons t ts ih=>intro f; show (zgK v.Text t ts).length+1=_; rw [ih]; rfl
 unfold zmo
 rw [ht]
 have:=h.sz
 omega
theorem zoJ {v:Gapi_Verse} (h:OkV v):0≤zqd l v∧zqd l v≤2000000000000*1024:=by
 obtain ⟨h1,h2,h3⟩:=zqm hm h.i0
 have hs:v.Text.size≤100000:=by have:=h.sz; omega
 have hok:=zjX (R:=Rs v.Text (zre v.Indent l) (zq3 l)) (K:=Ks v.Text (zre v.Indent l) (zq3 l)) (n:=(zam v.Text).length) (zfT hs h2 h3) (zam v.Text).length 0
 obtain ⟨a,b,_⟩:=hok
 have hc:=zhQ v.Text
 have hz:=h.sz
 refine ⟨a,?_⟩
 show (Bf (Rs v.Text (zre v.Indent l) (zq3 l)) (Ks v.Text (zre v.Indent l) (zq3 l)) (zam v.Text).length (zam v.Text).length 0).cost≤_
 omega
theorem zk1:∀ (vs:List Gapi_Verse),(∀ v∈vs,OkV v)→0≤zgp l vs∧zgp l vs≤2000000000000*1024*vs.length
 | [],_=>⟨Int.le_refl _,Int.le_refl _⟩
 | v::vs,h=>by
  have h1:=zoJ hm (h v (List.mem_cons_self ..))
  have h2:=zk1 vs fun w hw=>h w (List.mem_cons_of_mem _ hw)
  have e:zgp l (v::vs)=zqd l v+zgp l vs:=rfl
  rw [e,List.length_cons]; push_cast; omega
theorem zkt:∀ (vs:List Gapi_Verse) (k:Int),(∀ v∈vs,OkV v)→(zcJ l k vs).length≤1024*vs.length
 | [],_,_=>Nat.le_refl _
 | v::vs,k,h=>by
  have h1:=zok hm (h v (List.mem_cons_self ..))
  have h2:=zkt vs (k+1) fun w hw=>h w (List.mem_cons_of_mem _ hw)
  show (zgv l k v 0 (zmo l v)++zcJ l (k+1) vs).length≤_
  rw [List.length_append,ziy,List.length_cons]; omega
end
theorem zsl (vs:List Gapi_Verse) (l:Gapi_Layout) (k:Nat) (v:Gapi_Verse) (hv:vs[k]?=some v) (hk:k≤1000000) (sum:Int) (j2:(List Gapi_Row)→Int→Option ((List Gapi_Row)×Int)) (ts:List ByteArray) (hts:ts.length≤1000000) (c:Int) :
  ∀ (d p m:Nat) (out:List Gapi_Row),p+d=ts.length→d<m→out.length+d≤2147483648→zaE (fun _ _=>none) (zc0 vs l sum (k:Int) j2 (ts,c)) m out (p:Int)=j2 (out++zgv l k v p (ts.drop p)) (sum+c):=by
 intro d
 induction d with
 | zero =>
  intro p m out hp hm ho
  obtain ⟨m,rfl⟩:∃ q,m=q+1:=⟨m - 1,by omega⟩
  rw [zb5]
  generalize zaE (fun _ _=>none) (zc0 vs l sum (k:Int) j2 (ts,c)) m=ag
  unfold zc0
  refine zaw (decide_eq_false (by show ¬ (p:Int)<(ts.length:Int); omega)) ?_
  rw [List.drop_of_length_le (by omega)]
  show j2 out (sum+c)=j2 (out++[]) (sum+c)
  rw [List.append_nil]
 | succ d ih =>
  intro p m out hp hm ho
  obtain ⟨m,rfl⟩:∃ q,m=q+1:=⟨m - 1,by omega⟩
  rw [zb5]
  have ih':=fun out' (h:out'.length=out.length+1)=>ih (p+1) m out' (by omega) (by omega) (by omega)
  generalize zaE (fun _ _=>none) (zc0 vs l sum (k:Int) j2 (ts,c)) m=ag at ih' ⊢
  have ht:ts[p]?=some ts[p]:=List.getElem?_eq_getElem (by omega)
  rw [show ((p+1:Nat):Int)=(p:Int)+1 by omega] at ih'
  have go:∀ (i n:Int),i=(zte l k v p ts[p]).Indent→n=(zte l k v p ts[p]).Number→(grd (out.length+1≤2147483648)<|grd (I64 ((p:Int)+1))<|ag (out++[(⟨(k:Int),v.Stanza,(p:Int),i,n,ts[p]⟩:Gapi_Row)]) ((p:Int)+1))=j2 (out++zgv l k v p (ts.drop p)) (sum+c):=by
   intro i n hi hn
   refine zbl (by omega) (zbl ⟨by omega,by omega⟩ ?_)
   subst hi; subst hn
   rw [ih' _ (by simp),List.drop_eq_getElem_cons (show p<ts.length by omega),List.append_assoc]; rfl
  unfold zc0
  refine zaC (decide_eq_true (by show (p:Int)<(ts.length:Int); omega)) (zbs (zaJ (zcj hv) (zaJ (zcj ht) ?_)))
  by_cases h0:(p:Int)=0
  ·refine zaC (zgt h0) (zaJ (zcj hv) ?_)
   by_cases he:0<l.Every
   ·refine zaC (decide_eq_true he) (zbl ⟨by omega,by omega⟩ (zbl (by omega) ?_))
    by_cases ht2:Int.tmod ((k:Int)+1) l.Every=0
    ·exact zaC (zgt ht2) (zbl ⟨by omega,by omega⟩ (go _ _ (if_pos h0).symm ((if_pos h0).trans ((if_pos he).trans (if_pos ht2))).symm))
    ·exact zaw (zgD ht2) (go _ _ (if_pos h0).symm ((if_pos h0).trans ((if_pos he).trans (if_neg ht2))).symm)
   ·exact zaw (decide_eq_false he) (go _ _ (if_pos h0).symm ((if_pos h0).trans (if_neg he)).symm)
  ·exact zaw (zgD h0) (go _ _ (if_neg h0).symm (if_neg h0).symm)
theorem zny (l:Gapi_Layout) (hm:zlk l=true) (vs:List Gapi_Verse) (hv:∀ v∈vs,OkV v) (hl:vs.length≤512) (j1:(List Gapi_Row)→Int→Option ((List Gapi_Row)×Int)) :
  ∀ (ws pre:List Gapi_Verse) (m:Nat) (out:List Gapi_Row) (sum:Int),vs=pre++ws→ws.length<m→out.length≤1024*pre.length→0≤sum∧sum≤2000000000000*1024*pre.length →
  zaE (fun _ _ _=>none) (zc1 vs l j1) m out sum (pre.length:Int)=j1 (out++zcJ l pre.length ws) (sum+zgp l ws)
 | [],pre,m,out,sum,h,hn,ho,hs=>by
  obtain ⟨m,rfl⟩:∃ q,m=q+1:=⟨m - 1,by simp at hn; omega⟩
  rw [List.append_nil] at h; subst h
  rw [zb5]
  generalize zaE (fun _ _ _=>none) (zc1 vs l j1) m=ag
  unfold zc1
  refine zaw zw3 ?_
  show j1 out sum=j1 (out++[]) (sum+0)
  rw [List.append_nil,Int.add_zero]
 | v::ws,pre,m,out,sum,h,hn,ho,hs=>by
  obtain ⟨m,rfl⟩:∃ q,m=q+1:=⟨m - 1,by simp at hn; omega⟩
  have hok:OkV v:=hv v (by rw [h]; simp)
  have hlen:pre.length+ws.length+1=vs.length:=by rw [h]; simp; omega
  have h1:=zok hm hok
  have h2:=zoJ hm hok
  obtain ⟨w1,w2,w3⟩:=zqm hm hok.i0
  have hsz:v.Text.size≤100000:=by have:=hok.sz; omega
  have ih:=zny l hm vs hv hl j1 ws (pre++[v]) m (out++zgv l pre.length v 0 (zmo l v)) (sum+zqd l v) (by rw [h]; simp) (by simp at hn; omega) (by rw [List.length_append,ziy,List.length_append,List.length_singleton]; omega) (by rw [List.length_append,List.length_singleton]; push_cast; omega)
  have hg:vs[pre.length]?=some v:=by rw [h]; simp
  rw [zb5]
  rw [show (((pre++[v]).length:Nat):Int)=(pre.length:Int)+1 by simp] at ih
  generalize zaE (fun _ _ _=>none) (zc1 vs l j1) m=ag at ih ⊢
  unfold zc1
  refine zaC (zow hg) (zbs (zaJ (zcj hg) (zaJ (zt9 v.Text hsz v.Indent l w1 w2 w3) (zbl ?_ ?_))))
  ·show I64 (sum+zqd l v)
   exact ⟨by omega,by omega⟩
  ·have hin:=zsl vs l pre.length v hg (by omega) sum (fun (out5:List Gapi_Row) (sum5:Int)=>grd (I64 ((pre.length:Int)+1))<|ag out5 sum5 ((pre.length:Int)+1)) (zmo l v) (by omega) (zqd l v) (zmo l v).length 0 zbN out (by omega) (zbM (by omega)) (by omega)
   refine hin.trans (zbl ⟨by omega,by omega⟩ ?_)
   rw [List.drop_zero]
   refine ih.trans ?_
   show j1 ((out++zgv l pre.length v 0 (zmo l v))++zcJ l ((pre.length:Int)+1) ws) ((sum+zqd l v)+zgp l ws)=j1 (out++(zgv l pre.length v 0 (zmo l v)++zcJ l ((pre.length:Int)+1) ws)) (sum+(zqd l v+zgp l ws))
   rw [List.append_assoc,Int.add_assoc]
theorem zua (l:Gapi_Layout) (hm:zlk l=true) (vs:List Gapi_Verse) (hv:∀ v∈vs,OkV v) (hl:vs.length≤512):zfN vs l=some (zcJ l 0 vs,zgp l vs):=by
 unfold zfN
 refine zbs ?_
 have:=zny l hm vs hv hl (fun (out1:List Gapi_Row) (sum1:Int)=>some (out1,sum1)) vs [] zbN [] 0 rfl (zbM (by omega)) (Nat.zero_le _) ⟨Int.le_refl _,by simp⟩
 refine this.trans ?_
 rw [List.nil_append,Int.zero_add]; rfl
def Stp:Int→List Gapi_Verse→Prop
 | _,[]=>True
 | c,v::vs=>(v.Stanza=c∨(0<c∧v.Stanza=c - 1))∧Stp (v.Stanza+1) vs
def flS:Int→List Int×List Int→List Gapi_Verse→List Int×List Int
 | _,a,[]=>a
 | k,a,v::vs=>flS (k+1) (if v.Stanza=(a.1.length:Int) then (a.1++[k],a.2++[k]) else (a.1,a.2.set v.Stanza.toNat k)) vs
theorem zsC (l:Gapi_Layout) (k:Int) (hk:0≤k∧k≤1000000) (v:Gapi_Verse) (ag1:(List Gapi_Row)→(List Int)→(List Int)→(List Int)→Int→Option (Int×Gpage_parter)) (cost:Int) (F L:List Int) (ts:List ByteArray) (hts:ts.length≤1000000) (c:Int) :
  ∀ (d p m:Nat) (out:List Gapi_Row) (bl:List Int),p+d=ts.length→d<m→out.length+d≤2147483648→bl.length=out.length→zaE (fun _ _ _=>none) (zbI l (k,v) ag1 cost F L (ts,c)) m out bl (p:Int) =
   ag1 (out++zgv l k v p (ts.drop p)) (bl++(zgv l k v p (ts.drop p)).map (·.Stanza)) F (L.set v.Stanza.toNat k) (cost+c):=by
 intro d
 induction d with
 | zero =>
  intro p m out bl hp hm ho hb
  obtain ⟨m,rfl⟩:∃ q,m=q+1:=⟨m - 1,by omega⟩
  rw [zb5]
  generalize zaE (fun _ _ _=>none) (zbI l (k,v) ag1 cost F L (ts,c)) m=ag
  unfold zbI
  refine zaw (decide_eq_false (by show ¬ (p:Int)<(ts.length:Int); omega)) ?_
  rw [List.drop_of_length_le (by omega)]
  show ag1 out bl F (L.set v.Stanza.toNat k) (cost+c)=ag1 (out++[]) (bl++[]) F (L.set v.Stanza.toNat k) (cost+c)
  rw [List.append_nil,List.append_nil]
 | succ d ih =>
  intro p m out bl hp hm ho hb
  obtain ⟨m,rfl⟩:∃ q,m=q+1:=⟨m - 1,by omega⟩
  rw [zb5]
  have ih':=fun out' bl' (h:out'.length=out.length+1) (h2:bl'.length=out'.length)=>ih (p+1) m out' bl' (by omega) (by omega) (by omega) h2
  generalize zaE (fun _ _ _=>none) (zbI l (k,v) ag1 cost F L (ts,c)) m=ag at ih' ⊢
  have ht:ts[p]?=some ts[p]:=List.getElem?_eq_getElem (by omega)
  rw [show ((p+1:Nat):Int)=(p:Int)+1 by omega] at ih'
  have go:∀ (i n:Int),i=(zte l k v p ts[p]).Indent→n=(zte l k v p ts[p]).Number→(grd (out.length+1≤2147483648)<|grd (bl.length+1≤2147483648)<|grd (I64 ((p:Int)+1))<|ag (out++[(⟨k,v.Stanza,(p:Int),i,n,ts[p]⟩:Gapi_Row)]) (bl++[v.Stanza]) ((p:Int)+1)) =
    ag1 (out++zgv l k v p (ts.drop p)) (bl++(zgv l k v p (ts.drop p)).map (·.Stanza)) F (L.set v.Stanza.toNat k) (cost+c):=by
   intro i n hi hn
   refine zbl (by omega) (zbl (by omega) (zbl ⟨by omega,by omega⟩ ?_))
   subst hi; subst hn
   rw [ih' _ _ (by simp) (by simp; omega),List.drop_eq_getElem_cons (show p<ts.length by omega),List.append_assoc,List.append_assoc]; rfl
  unfold zbI
  refine zaC (decide_eq_true (by show (p:Int)<(ts.length:Int); omega)) (zbs (zaJ (zcj ht) ?_))
  by_cases h0:(p:Int)=0
  ·refine zaC (zgt h0) ?_
   by_cases he:0<l.Every
   ·refine zaC (decide_eq_true he) (zbl ?_ (zbl (by omega) ?_))
    ·show I64 (k+1); exact ⟨by omega,by omega⟩
    by_cases ht2:Int.tmod (k+1) l.Every=0
    ·exact zaC (zgt ht2) (zbl (show I64 (k+1) from ⟨by omega,by omega⟩) (go _ _ (if_pos h0).symm ((if_pos h0).trans ((if_pos he).trans (if_pos ht2))).symm))
    ·exact zaw (zgD ht2) (go _ _ (if_pos h0).symm ((if_pos h0).trans ((if_pos he).trans (if_neg ht2))).symm)
   ·exact zaw (decide_eq_false he) (go _ _ (if_pos h0).symm ((if_pos h0).trans (if_neg he)).symm)
  ·exact zaw (zgD h0) (go _ _ (if_neg h0).symm (if_neg h0).symm)
theorem znQ (l:Gapi_Layout) (hm:zlk l=true) (dn:(List Gapi_Row)→(List Int)→(List Int)→(List Int)→Int→Option (Int×Gpage_parter)) :
  ∀ (vs:List Gapi_Verse) (k:Nat) (out:List Gapi_Row) (bl F L:List Int) (cost:Int),(∀ v∈vs,OkV v)→k+vs.length≤512→out.length≤1024*k→bl.length=out.length→0≤cost∧cost≤2000000000000*1024*k→F.length≤k→L.length=F.length→Stp F.length vs →
  zev dn (zbV l) (zlC k vs) out bl F L cost=dn (out++zcJ l k vs) (bl++(zcJ l k vs).map (·.Stanza)) (flS k (F,L) vs).1 (flS k (F,L) vs).2 (cost+zgp l vs)
 | [],k,out,bl,F,L,cost,_,_,_,_,_,_,_,_=>by
  show dn out bl F L cost=dn (out++[]) (bl++[]) F L (cost+0)
  rw [List.append_nil,List.append_nil,Int.add_zero]
 | v::vs,k,out,bl,F,L,cost,hv,hk,ho,hb,hc,hF,hL,hst=>by
  obtain ⟨s1,s2⟩:=hst
  have hok:OkV v:=hv v (List.mem_cons_self ..)
  have h1:=zok hm hok
  have h2:=zoJ hm hok
  obtain ⟨w1,w2,w3⟩:=zqm hm hok.i0
  have hsz:v.Text.size≤100000:=by have:=hok.sz; omega
  rw [List.length_cons] at hk
  have ih:=fun out bl F L cost h3 h4 h5 h6 h7 h8=>znQ l hm dn vs (k+1) out bl F L cost (fun w hw=>hv w (List.mem_cons_of_mem _ hw)) (by omega) h3 h4 h5 h6 h7 h8
  show zbV l (((k:Nat):Int),v) (zev dn (zbV l) (zlC (k+1) vs)) out bl F L cost=_
  generalize zev dn (zbV l) (zlC (k+1) vs)=ag at ih ⊢
  have e1:((k+1:Nat):Int)=(k:Int)+1:=by omega
  rw [e1] at ih
  have rest:∀ (F' L':List Int),F'.length≤k+1→L'.length=F'.length→0≤v.Stanza→v.Stanza.toNat<L'.length→Stp F'.length vs→(F',L'.set v.Stanza.toNat (k:Int))=(if v.Stanza=(F.length:Int) then (F++[(k:Int)],L++[(k:Int)]) else (F,L.set v.Stanza.toNat (k:Int))) →
    (zah (zbm L' v.Stanza) fun (q1:Int)=>zah (ze4 v.Text v.Indent l) fun (r2:((List ByteArray)×Int))=>grd (I64 (cost+r2.2))<|zaE (fun _ _ _=>none) (zbI l ((k:Int),v) ag cost F' L' r2) zbN out bl 0) =
    dn (out++zcJ l k (v::vs)) (bl++(zcJ l k (v::vs)).map (·.Stanza)) (flS k (F,L) (v::vs)).1 (flS k (F,L) (v::vs)).2 (cost+zgp l (v::vs)):=by
   intro F' L' q1 q2 q3 q4 q5 q6
   refine zaJ (zdk (n:=v.Stanza.toNat) (by omega) (List.getElem?_eq_getElem q4)) (zaJ (zvb v.Text hsz v.Indent l w1 w2 w3) (zbl ?_ ?_))
   ·show I64 (cost+zqd l v)
    exact ⟨by omega,by omega⟩
   ·have hin:=zsC l k ⟨by omega,by omega⟩ v ag cost F' L' (zmo l v) (by omega) (zqd l v) (zmo l v).length 0 zbN out bl (by omega) (zbM (by omega)) (by omega) hb
    refine hin.trans ?_
    rw [List.drop_zero]
    refine (ih _ _ F' (L'.set v.Stanza.toNat (k:Int)) _ (by rw [List.length_append,ziy]; omega) (by rw [List.length_append,List.length_append,List.length_map,hb]) (by push_cast; omega) q1 (by rw [List.length_set]; exact q2) q5).trans ?_
    have e2:flS k (F,L) (v::vs)=flS ((k:Int)+1) (F',L'.set v.Stanza.toNat (k:Int)) vs:=by rw [q6]; rfl
    have e3:zcJ l k (v::vs)=zgv l k v 0 (zmo l v)++zcJ l ((k:Int)+1) vs:=rfl
    have e4:zgp l (v::vs)=zqd l v+zgp l vs:=rfl
    rw [e2,e3,e4,List.append_assoc,List.append_assoc,List.map_append,Int.add_assoc]; rfl
  unfold zbV
  refine zbs ?_
  rcases s1 with s1 | ⟨s1,s3⟩
  ·refine zaC (zgt s1) (zbl (by omega) (zbl (by omega) (rest _ _ (by simp; omega) (by simp; omega) (by omega) (by simp; omega) ?_ ?_)))
   ·rw [List.length_append,List.length_singleton]; rw [s1] at s2; push_cast; exact s2
   ·have e:v.Stanza.toNat=L.length:=by omega
    rw [if_pos s1,e,ziu]
  ·have hne:v.Stanza≠(F.length:Int):=by omega
   refine zaw (zgD hne) (rest F L (by omega) hL (by omega) (by omega) ?_ ?_)
   ·rw [s3] at s2; rw [show (F.length:Int) - 1+1=F.length by omega] at s2; exact s2
   ·rw [if_neg hne]
theorem zuj (l:Gapi_Layout) (hm:zlk l=true) (p:Gpoem_Poem) (H:Int) (hv:∀ v∈p.told_lines,OkV v) (hl:p.told_lines.length≤512) (hst:Stp 0 p.told_lines) :
  zdE (⟨([]:List Gapi_Row),([]:List Int),([]:List Int),([]:List Int),H⟩:Gpage_parter) p l=some (zgp l p.told_lines,(⟨zcJ l 0 p.told_lines,(zcJ l 0 p.told_lines).map (·.Stanza),(flS 0 (([]:List Int),([]:List Int)) p.told_lines).1,(flS 0 (([]:List Int),([]:List Int)) p.told_lines).2,H⟩:Gpage_parter)):=by
 unfold zdE
 refine zbs (zaJ (show zeg p=some () from rfl) (zaJ (zqX p (by omega)) (zbs ?_)))
 refine (znQ l hm _ p.told_lines 0 [] [] [] [] 0 hv (by omega) (Nat.zero_le _) rfl ⟨Int.le_refl _,by omega⟩ (Nat.zero_le _) rfl hst).trans ?_
 rw [List.nil_append,List.nil_append,Int.zero_add]; rfl
end Go.Proofs.YtbempdelckaccaaGreatDoor

namespace Go.Proofs.YtbempdelckaccaaGreatDoor
open Go.RowKit Go.Lib
set_option linter.unusedVariables false
set_option linter.unusedSimpArgs false
theorem zfm {α:Type} {l:List α} {x y:α} {i:Nat} (h:(l++[x])[i]?=some y):l[i]?=some y∨(i=l.length∧y=x):=by
 rcases Nat.lt_or_ge i l.length with hi | hi
 ·rw [List.getElem?_append_left hi] at h; exact .inl h
 ·rw [List.getElem?_append_right hi] at h
  rcases Nat.eq_zero_or_pos (i - l.length) with e | e
  ·rw [e] at h
   exact .inr ⟨by omega,(Option.some.inj h).symm⟩
  ·rw [List.getElem?_eq_none (by simp; omega)] at h; cases h
theorem zkN {α:Type} {l:List α} {x:α} {i:Nat} (h:l[i]?=some x):i<l.length:=(List.getElem?_eq_some_iff.1 h).1
structure FL (pre:List Gapi_Verse) (F L:List Int):Prop where
 len:L.length=F.length
 fst:∀ (s:Nat) (f:Int),F[s]?=some f→∃ j:Nat,f=j∧(∃ v:Gapi_Verse,pre[j]?=some v∧v.Stanza=(s:Int))∧∀ (i:Nat) (w:Gapi_Verse),pre[i]?=some w→w.Stanza=(s:Int)→j≤i
 lst:∀ (s:Nat) (f:Int),L[s]?=some f→∃ j:Nat,f=j∧(∃ v:Gapi_Verse,pre[j]?=some v∧v.Stanza=(s:Int))∧∀ (i:Nat) (w:Gapi_Verse),pre[i]?=some w→w.Stanza=(s:Int)→i≤j
 all:∀ (i:Nat) (w:Gapi_Verse),pre[i]?=some w→0≤w.Stanza∧w.Stanza<F.length
theorem FL.new {pre:List Gapi_Verse} {F L:List Int} (h:FL pre F L) {v:Gapi_Verse} (hv:v.Stanza=F.length):FL (pre++[v]) (F++[(pre.length:Int)]) (L++[(pre.length:Int)]):=by
 have hlast:(pre++[v])[pre.length]?=some v:=by simp
 have hle:∀ {i:Nat} {w:Gapi_Verse},pre[i]?=some w→(pre++[v])[i]?=some w:=fun h=>by rw [List.getElem?_append_left (zkN h)]; exact h
 refine ⟨by simp [h.len],fun s f hs => ?_,fun s f hs => ?_,fun i w hw => ?_⟩
 ·rcases zfm hs with hs | ⟨rfl,rfl⟩
  ·obtain ⟨j,e,⟨u,hu,hus⟩,hm⟩:=h.fst s f hs
   refine ⟨j,e,⟨u,hle hu,hus⟩,fun i w hw hws => ?_⟩
   rcases zfm hw with hw | ⟨rfl,rfl⟩
   ·exact hm i w hw hws
   ·have:=zkN hu; omega
  ·refine ⟨pre.length,rfl,⟨v,hlast,hv⟩,fun i w hw hws => ?_⟩
   rcases zfm hw with hw | ⟨rfl,rfl⟩
   ·have:=(h.all i w hw).2; omega
   ·exact Nat.le_refl _
 ·rcases zfm hs with hs | ⟨e0,rfl⟩
  ·obtain ⟨j,e,⟨u,hu,hus⟩,hm⟩:=h.lst s f hs
   refine ⟨j,e,⟨u,hle hu,hus⟩,fun i w hw hws => ?_⟩
   rcases zfm hw with hw | ⟨rfl,rfl⟩
   ·exact hm i w hw hws
   ·have:=zkN hs; have:=h.len; omega
  ·refine ⟨pre.length,rfl,⟨v,hlast,by have:=h.len; omega⟩,fun i w hw hws => ?_⟩
   rcases zfm hw with hw | ⟨rfl,rfl⟩
   ·have:=zkN hw; omega
   ·exact Nat.le_refl _
 ·rw [List.length_append,List.length_singleton]; push_cast
  rcases zfm hw with hw | ⟨rfl,rfl⟩
  ·have:=h.all i w hw; omega
  ·omega
theorem FL.old {pre:List Gapi_Verse} {F L:List Int} (h:FL pre F L) {v:Gapi_Verse} (h0:0<F.length) (hv:v.Stanza=(F.length:Int) - 1):FL (pre++[v]) F (L.set v.Stanza.toNat (pre.length:Int)):=by
 have hlast:(pre++[v])[pre.length]?=some v:=by simp
 have hle:∀ {i:Nat} {w:Gapi_Verse},pre[i]?=some w→(pre++[v])[i]?=some w:=fun h=>by rw [List.getElem?_append_left (zkN h)]; exact h
 refine ⟨by simp [h.len],fun s f hs => ?_,fun s f hs => ?_,fun i w hw => ?_⟩
 ·obtain ⟨j,e,⟨u,hu,hus⟩,hm⟩:=h.fst s f hs
  refine ⟨j,e,⟨u,hle hu,hus⟩,fun i w hw hws => ?_⟩
  rcases zfm hw with hw | ⟨rfl,rfl⟩
  ·exact hm i w hw hws
  ·have:=zkN hu; omega
 ·by_cases e:v.Stanza.toNat=s
  ·subst e
   rw [List.getElem?_set_self (by have:=h.len; omega)] at hs
   obtain rfl:=Option.some.inj hs
   refine ⟨pre.length,rfl,⟨v,hlast,by omega⟩,fun i w hw hws => ?_⟩
   rcases zfm hw with hw | ⟨rfl,rfl⟩
   ·have:=zkN hw; omega
   ·exact Nat.le_refl _
  ·rw [List.getElem?_set_ne e] at hs
   obtain ⟨j,e,⟨u,hu,hus⟩,hm⟩:=h.lst s f hs
   refine ⟨j,e,⟨u,hle hu,hus⟩,fun i w hw hws => ?_⟩
   rcases zfm hw with hw | ⟨rfl,rfl⟩
   ·exact hm i w hw hws
   ·omega
 ·rcases zfm hw with hw | ⟨rfl,rfl⟩
  ·exact h.all i w hw
  ·omega
theorem FL.fold:∀ (vs pre:List Gapi_Verse) (F L:List Int),FL pre F L→Stp F.length vs→FL (pre++vs) (flS (pre.length:Int) (F,L) vs).1 (flS (pre.length:Int) (F,L) vs).2
 | [],pre,F,L,h,_=>by rw [List.append_nil]; exact h
 | v::vs,pre,F,L,h,hs=>by
  obtain ⟨s1,s2⟩:=hs
  have e:pre++v::vs=(pre++[v])++vs:=by simp
  have e1:(((pre++[v]).length:Nat):Int)=(pre.length:Int)+1:=by simp
  have e2:flS (pre.length:Int) (F,L) (v::vs)=flS ((pre.length:Int)+1) (if v.Stanza=(F.length:Int) then (F++[(pre.length:Int)],L++[(pre.length:Int)]) else (F,L.set v.Stanza.toNat (pre.length:Int))) vs:=rfl
  rw [e,e2,← e1]
  rcases s1 with s1 | ⟨s1,s3⟩
  ·rw [if_pos s1]
   exact FL.fold vs (pre++[v]) _ _ (h.new s1) (by rw [List.length_append,List.length_singleton]; rw [s1] at s2; push_cast; exact s2)
  ·rw [if_neg (by omega)]
   refine FL.fold vs (pre++[v]) _ _ (h.old (by omega) s3) ?_
   rw [s3,show (F.length:Int) - 1+1=F.length by omega] at s2
   exact s2
theorem FL.nil:FL [] [] []:=⟨rfl,fun s f h=>by simp at h,fun s f h=>by simp at h,fun i w h=>by simp at h⟩
theorem znA {l:Gapi_Layout} {k:Int} {v:Gapi_Verse}:∀ {ts:List ByteArray} {p:Int} {r:Gapi_Row},r∈zgv l k v p ts→r.Line=k∧r.Stanza=v.Stanza
 | [],_,r,h=>by cases h
 | t::ts,p,r,h=>by
  rcases List.mem_cons.1 h with rfl | h
  ·exact ⟨rfl,rfl⟩
  ·exact znA h
theorem zg0 {l:Gapi_Layout}:∀ {vs:List Gapi_Verse} {k:Int} {r:Gapi_Row},r∈zcJ l k vs→∃ (j:Nat) (v:Gapi_Verse),vs[j]?=some v∧r.Line=k+j∧r.Stanza=v.Stanza
 | [],_,r,h=>by cases h
 | v::vs,k,r,h=>by
  rcases List.mem_append.1 h with h | h
  ·obtain ⟨h1,h2⟩:=znA h
   exact ⟨0,v,rfl,by omega,h2⟩
  ·obtain ⟨j,w,h1,h2,h3⟩:=zg0 h
   exact ⟨j+1,w,h1,by omega,h3⟩
theorem zs6 {l:Gapi_Layout} (hm:zlk l=true) {v:Gapi_Verse} (h:OkV v):zmo l v≠[]:=by
 obtain ⟨h1,h2,h3⟩:=zqm hm h.i0
 have hc:=zsR (s:=v.Text) (by have:=h.sz; omega) h2 h3
 intro e
 have e':zgK v.Text 0 (zkW v.Text (zre v.Indent l) (zq3 l))=[]:=e
 rw [e'] at hc
 have:=h.ne
 rw [← hc] at this
 exact absurd this (by decide)
theorem zmD {l:Gapi_Layout} (hm:zlk l=true):∀ {vs:List Gapi_Verse} {k:Int} {j:Nat} {v:Gapi_Verse},(∀ w∈vs,OkV w)→vs[j]?=some v→∃ r∈zcJ l k vs,r.Line=k+j∧r.Stanza=v.Stanza
 | [],_,_,_,_,h=>by simp at h
 | w::vs,k,0,v,hv,h=>by
  obtain rfl:=Option.some.inj h
  have hne:=zs6 hm (hv w (List.mem_cons_self ..))
  cases ht:zmo l w with
  | nil=>exact absurd ht hne
  | cons t ts=>exact ⟨zte l k w 0 t,by show _∈zgv l k w 0 (zmo l w)++_; rw [ht]; exact List.mem_append_left _ (List.mem_cons_self ..),by show k=_; omega,rfl⟩
 | w::vs,k,j+1,v,hv,h=>by
  obtain ⟨r,h1,h2,h3⟩:=zmD hm (k:=k+1) (fun u hu=>hv u (List.mem_cons_of_mem _ hu)) h
  exact ⟨r,List.mem_append_right _ h1,by omega,h3⟩
def RCh:Int→List Gapi_Row→Prop
 | _,[]=>True
 | s,r::rs=>(r.Stanza=s∨r.Stanza=s+1)∧RCh r.Stanza rs
theorem zpc {l:Gapi_Layout} {k:Int} {v:Gapi_Verse} {rest:List Gapi_Row} (hr:RCh v.Stanza rest):∀ (ts:List ByteArray) (p:Int),RCh v.Stanza (zgv l k v p ts++rest)
 | [],_=>hr
 | t::ts,p=>⟨.inl rfl,zpc hr ts (p+1)⟩
theorem zqO {l:Gapi_Layout} (hm:zlk l=true):∀ (vs:List Gapi_Verse) (c k:Int),(∀ w∈vs,OkV w)→Stp c vs→RCh (c - 1) (zcJ l k vs)
 | [],_,_,_,_=>trivial
 | v::vs,c,k,hv,⟨s1,s2⟩=>by
  have ih:=zqO hm vs (v.Stanza+1) (k+1) (fun w hw=>hv w (List.mem_cons_of_mem _ hw)) s2
  rw [show v.Stanza+1 - 1=v.Stanza by omega] at ih
  show RCh (c - 1) (zgv l k v 0 (zmo l v)++zcJ l (k+1) vs)
  have hne:=zs6 hm (hv v (List.mem_cons_self ..))
  cases ht:zmo l v with
  | nil=>exact absurd ht hne
  | cons t ts=>exact ⟨by show v.Stanza=_∨v.Stanza=_; omega,zpc ih ts (0+1)⟩
theorem RCh.step:∀ {rs:List Gapi_Row} {s:Int} {i:Nat} {a b:Gapi_Row},RCh s rs→rs[i]?=some a→rs[i+1]?=some b→b.Stanza=a.Stanza∨b.Stanza=a.Stanza+1
 | [],_,_,_,_,_,h,_=>by simp at h
 | r::rs,s,0,a,b,⟨h1,h2⟩,ha,hb=>by
  obtain rfl:=Option.some.inj ha
  cases rs with
  | nil=>simp at hb
  | cons q qs=>obtain rfl:=Option.some.inj hb; exact h2.1
 | r::rs,s,i+1,a,b,⟨h1,h2⟩,ha,hb=>h2.step ha hb
structure RowsOk (rows:List Gapi_Row) (F L:List Int):Prop where
 n:rows.length≤1000000
 ch:∀ (i:Nat) (a b:Gapi_Row),rows[i]?=some a→rows[i+1]?=some b→b.Stanza=a.Stanza∨b.Stanza=a.Stanza+1
 rg:∀ r∈rows,0≤r.Stanza∧r.Stanza≤1000000
 fst:∀ r∈rows,∃ f,F[r.Stanza.toNat]?=some f∧(r.Line=f↔∀ x∈rows,x.Stanza=r.Stanza→r.Line≤x.Line)
 lst:∀ r∈rows,∃ f,L[r.Stanza.toNat]?=some f∧(r.Line=f↔∀ x∈rows,x.Stanza=r.Stanza→x.Line≤r.Line)
theorem zpb {l:Gapi_Layout} (hm:zlk l=true) (vs:List Gapi_Verse) (hv:∀ w∈vs,OkV w) (hl:vs.length≤512) (hs:Stp 0 vs):RowsOk (zcJ l 0 vs) (flS 0 (([]:List Int),([]:List Int)) vs).1 (flS 0 (([]:List Int),([]:List Int)) vs).2:=by
 have hf:=FL.fold vs [] [] [] FL.nil hs
 rw [List.nil_append,show ((([]:List Gapi_Verse).length:Nat):Int)=0 from rfl] at hf
 have hlen:=zkt hm vs 0 hv
 have hch:=zqO hm vs 0 0 hv hs
 have hFl:∀ (pre ws:List Gapi_Verse) (F L:List Int) (k:Int),F.length≤pre.length→(flS k (F,L) ws).1.length≤pre.length+ws.length:=by
  intro pre ws
  induction ws generalizing pre with
  | nil=>intro F L k h; exact h
  | cons w ws ih =>
   intro F L k h
   have e2:flS k (F,L) (w::ws)=flS (k+1) (if w.Stanza=(F.length:Int) then (F++[k],L++[k]) else (F,L.set w.Stanza.toNat k)) ws:=rfl
   rw [e2]
   split
   ·have:=ih (pre++[w]) (F++[k]) (L++[k]) (k+1) (by simp; omega)
    simp at this ⊢; omega
   ·have:=ih (pre++[w]) F (L.set w.Stanza.toNat k) (k+1) (by simp; omega)
    simp at this ⊢; omega
 have hF2:=hFl [] vs [] [] 0 (Nat.le_refl _)
 refine ⟨by omega,fun i a b ha hb=>hch.step ha hb,fun r hr => ?_,fun r hr => ?_,fun r hr => ?_⟩
 ·obtain ⟨j,v,h1,h2,h3⟩:=zg0 hr
  have:=hf.all j v h1
  simp at hF2
  omega
 ·obtain ⟨j,v,h1,h2,h3⟩:=zg0 hr
  have ha:=hf.all j v h1
  have hg:(flS 0 (([]:List Int),([]:List Int)) vs).1[r.Stanza.toNat]?=some _:=List.getElem?_eq_getElem (by omega)
  refine ⟨_,hg,?_⟩
  obtain ⟨j2,e,⟨u,hu,hus⟩,hmin⟩:=hf.fst _ _ hg
  rw [e]
  constructor
  ·intro he x hx hxs
   obtain ⟨j3,v3,g1,g2,g3⟩:=zg0 hx
   have:=hmin j3 v3 g1 (by omega)
   omega
  ·intro hall
   obtain ⟨x,hx,x1,x2⟩:=zmD hm (l:=l) (k:=0) hv hu
   have h4:=hall x hx (by omega)
   have h5:=hmin j v h1 (by omega)
   omega
 ·obtain ⟨j,v,h1,h2,h3⟩:=zg0 hr
  have ha:=hf.all j v h1
  have hg:(flS 0 (([]:List Int),([]:List Int)) vs).2[r.Stanza.toNat]?=some _:=List.getElem?_eq_getElem (by have:=hf.len; omega)
  refine ⟨_,hg,?_⟩
  obtain ⟨j2,e,⟨u,hu,hus⟩,hmax⟩:=hf.lst _ _ hg
  rw [e]
  constructor
  ·intro he x hx hxs
   obtain ⟨j3,v3,g1,g2,g3⟩:=zg0 hx
   have:=hmax j3 v3 g1 (by omega)
   omega
  ·intro hall
   obtain ⟨x,hx,x1,x2⟩:=zmD hm (l:=l) (k:=0) hv hu
   have h4:=hall x hx (by omega)
   have h5:=hmax j v h1 (by omega)
   omega
theorem zhG {α:Type} (l:List α) (f t:Nat):zjV l (f:Int) (t:Int)=(l.drop f).take (t - f):=by
 unfold zjV
 rw [Int.toNat_natCast,Int.toNat_natCast]
def stz (rows:List Gapi_Row) (i:Nat):Int:=match rows[i]? with | some r=>r.Stanza | none=>0
def zd1 (rows:List Gapi_Row) (f t:Nat):Int:=((t:Int) - f)+stz rows (t - 1) - stz rows f
theorem zgf {rows:List Gapi_Row} {i:Nat} {r:Gapi_Row} (h:rows[i]?=some r):stz rows i=r.Stanza:=by unfold stz; rw [h]
section
variable {rows:List Gapi_Row} {F L:List Int} (hR:RowsOk rows F L)
include hR
theorem zms (i:Nat):0≤stz rows i∧stz rows i≤1000000:=by
 unfold stz
 split
 ·rename_i r h
  exact hR.rg r (List.mem_of_getElem? h)
 ·omega
theorem zo4 {i:Nat} (h:i+1<rows.length):stz rows (i+1)=stz rows i∨stz rows (i+1)=stz rows i+1:=by
 have h1:rows[i]?=some rows[i]:=List.getElem?_eq_getElem (by omega)
 have h2:rows[i+1]?=some rows[i+1]:=List.getElem?_eq_getElem h
 rw [zgf h1,zgf h2]
 exact hR.ch i _ _ h1 h2
theorem zmt:∀ (d i:Nat),i+d<rows.length→stz rows i≤stz rows (i+d)
 | 0,i,_=>Int.le_refl _
 | d+1,i,h=>by
  have h1:=zmt d i (by omega)
  have h2:=zo4 hR (i:=i+d) (by omega)
  rw [show i+(d+1)=i+d+1 by omega]; omega
theorem zj7 {f t:Nat} (h1:f<t) (h2:t≤rows.length):(t:Int) - f≤zd1 rows f t∧zd1 rows f t≤3000000:=by
 have:=zmt hR (t - 1 - f) f (by omega)
 rw [show f+(t - 1 - f)=t - 1 by omega] at this
 have a:=zms hR f
 have b:=zms hR (t - 1)
 have c:=hR.n
 unfold zd1; omega
theorem ztl (H:Int) (f t:Nat) (h1:f<t) (h2:t≤rows.length):zdg (⟨rows,rows.map (·.Stanza),F,L,H⟩:Gpage_parter) (f:Int) (t:Int)=some (zd1 rows f t):=by
 have hn:=hR.n
 have a:=zms hR f
 have b:=zms hR (t - 1)
 have g:∀ i:Nat,i<rows.length→(rows.map (·.Stanza))[i]?=some (stz rows i):=fun i hi=>by
  rw [List.getElem?_map,List.getElem?_eq_getElem hi,zgf (List.getElem?_eq_getElem hi)]; rfl
 unfold zdg
 refine zbl ⟨by omega,by omega⟩ (zbl ⟨by omega,by omega⟩ (zaJ (zdk (n:=t - 1) (by omega) (g (t - 1) (by omega))) (zbl ⟨by omega,by omega⟩ (zaJ (zcj (g f (by omega))) (zbl ⟨by omega,by omega⟩ ?_)))))
 rfl
theorem zsq (f t:Nat) (h2:t≤rows.length) (j1:Int→Option Int):∀ (d i m:Nat) (n:Int),0<i→f+i+d=t→d<m→0≤n∧n+d≤5000000→zaE (fun _ _=>none) (zc2 (zjV rows (f:Int) (t:Int)) j1) m n (i:Int)=j1 (n+(stz rows (t - 1) - stz rows (f+i - 1))):=by
 have hn:=hR.n
 intro d
 induction d with
 | zero =>
  intro i m n hi hd hm hr
  obtain ⟨m,rfl⟩:∃ q,m=q+1:=⟨m - 1,by omega⟩
  rw [zb5]
  generalize zaE (fun _ _=>none) (zc2 (zjV rows (f:Int) (t:Int)) j1) m=ag
  have hlen:(zjV rows (f:Int) (t:Int)).length=t - f:=by rw [zhG rows f t]; simp; omega
  unfold zc2
  refine zaw (decide_eq_false (by rw [hlen]; omega)) ?_
  rw [show f+i - 1=t - 1 by omega,Int.sub_self,Int.add_zero]
 | succ d ih =>
  intro i m n hi hd hm hr
  obtain ⟨m,rfl⟩:∃ q,m=q+1:=⟨m - 1,by omega⟩
  rw [zb5]
  have ih':=fun n h=>ih (i+1) m n (by omega) (by omega) (by omega) h
  rw [show ((i+1:Nat):Int)=(i:Int)+1 by omega,show f+(i+1) - 1=f+i by omega] at ih'
  generalize zaE (fun _ _=>none) (zc2 (zjV rows (f:Int) (t:Int)) j1) m=ag at ih' ⊢
  have hlen:(zjV rows (f:Int) (t:Int)).length=t - f:=by rw [zhG rows f t]; simp; omega
  have g:∀ j:Nat,j<t - f→(zjV rows (f:Int) (t:Int))[j]?=rows[f+j]?:=fun j hj=>by rw [zhG rows f t,List.getElem?_take,if_pos hj,List.getElem?_drop]
  have ha:rows[f+i]?=some rows[f+i]:=List.getElem?_eq_getElem (by omega)
  have hb:rows[f+(i - 1)]?=some rows[f+(i - 1)]:=List.getElem?_eq_getElem (by omega)
  have hst:=zo4 hR (i:=f+(i - 1)) (by omega)
  rw [show f+(i - 1)+1=f+i by omega] at hst
  have sa:=zgf ha
  have sb:=zgf hb
  rw [show f+i - 1=f+(i - 1) by omega]
  unfold zc2
  refine zaC (decide_eq_true (by rw [hlen]; omega)) (zbs (zaJ (zcj ((g i (by omega)).trans ha)) (zbl ⟨by omega,by omega⟩ (zaJ (zdk (n:=i - 1) (by omega) ((g (i - 1) (by omega)).trans hb)) ?_))))
  by_cases he:rows[f+i].Stanza=rows[f+(i - 1)].Stanza
  ·refine zaw (zvI he) (zbl ⟨by omega,by omega⟩ ?_)
   rw [ih' n ⟨by omega,by omega⟩]
   exact congrArg j1 (by omega)
  ·refine zaC (zth he) (zbl ⟨by omega,by omega⟩ (zbl ⟨by omega,by omega⟩ ?_))
   rw [ih' (n+1) ⟨by omega,by omega⟩]
   exact congrArg j1 (by omega)
theorem zt4 (f t:Nat) (h1:f<t) (h2:t≤rows.length):zfP (zjV rows (f:Int) (t:Int))=some (zd1 rows f t):=by
 have hn:=hR.n
 unfold zfP
 have hlen:(zjV rows (f:Int) (t:Int)).length=t - f:=by rw [zhG rows f t]; simp; omega
 refine zbs ?_
 have:=zsq hR f t h2 (fun n1=>some n1) (t - f - 1) 1 zbN ((t - f:Nat):Int) (by omega) (by omega) (zbM (by omega)) ⟨by omega,by omega⟩
 rw [hlen]
 refine this.trans ?_
 rw [show f+1 - 1=f by omega]
 unfold zd1
 exact congrArg some (by omega)
end
def zoH (rows:List Gapi_Row) (k:Nat):Int :=
 match rows[k - 1]?,rows[k]? with
 | some a,some b=>if a.Stanza≠b.Stanza then 0 else if a.Line=b.Line then 100 else if (rows.all fun r=>!(r.Stanza==a.Stanza&&decide (r.Line<a.Line)))=true∨(rows.all fun r=>!(r.Stanza==a.Stanza&&decide (b.Line<r.Line)))=true then 50 else 10
 | _,_=>0
theorem zm8 (rows:List Gapi_Row) (k:Nat):0≤zoH rows k∧zoH rows k≤100:=by
 unfold zoH
 split
 ·split
  ·omega
  ·split
   ·omega
   ·split <;> omega
 ·omega
theorem zt7 (rows:List Gapi_Row) (a b:Gapi_Row) (hn:rows.length≤1000000) (j1:Bool→Bool→Option Int):∀ (d i m:Nat) (p q:Bool),i+d=rows.length→d<m→zaE (fun _ _ _=>none) (zdu rows a b j1) m p q (i:Int) =
  j1 (p&&(rows.drop i).all fun r=>!(r.Stanza==a.Stanza&&decide (r.Line<a.Line))) (q&&(rows.drop i).all fun r=>!(r.Stanza==a.Stanza&&decide (b.Line<r.Line))):=by
 intro d
 induction d with
 | zero =>
  intro i m p q hi hm
  obtain ⟨m,rfl⟩:∃ q,m=q+1:=⟨m - 1,by omega⟩
  rw [zb5]
  generalize zaE (fun _ _ _=>none) (zdu rows a b j1) m=ag
  unfold zdu
  refine zaw (decide_eq_false (by omega)) ?_
  rw [List.drop_of_length_le (by omega)]; simp
 | succ d ih =>
  intro i m p q hi hm
  obtain ⟨m,rfl⟩:∃ q,m=q+1:=⟨m - 1,by omega⟩
  rw [zb5]
  have ih':=fun p q=>ih (i+1) m p q (by omega) (by omega)
  rw [show ((i+1:Nat):Int)=(i:Int)+1 by omega] at ih'
  generalize zaE (fun _ _ _=>none) (zdu rows a b j1) m=ag at ih' ⊢
  have hr:rows[i]?=some rows[i]:=List.getElem?_eq_getElem (by omega)
  have hd:rows.drop i=rows[i]::rows.drop (i+1):=List.drop_eq_getElem_cons (by omega)
  rw [hd]
  generalize rows[i]=r at hr
  have last:∀ p':Bool,p'=(p&&!(r.Stanza==a.Stanza&&decide (r.Line<a.Line)))→(zah (zbm rows (i:Int)) fun (q4:Gapi_Row)=>zay ((q4.Stanza:Int)==a.Stanza) (zay (decide ((b.Line:Int)<q4.Line)) (grd (I64 ((i:Int)+1))<|ag p' false ((i:Int)+1)) (grd (I64 ((i:Int)+1))<|ag p' q ((i:Int)+1))) (grd (I64 ((i:Int)+1))<|ag p' q ((i:Int)+1))) =
    j1 (p&&(r::rows.drop (i+1)).all fun r=>!(r.Stanza==a.Stanza&&decide (r.Line<a.Line))) (q&&(r::rows.drop (i+1)).all fun r=>!(r.Stanza==a.Stanza&&decide (b.Line<r.Line))):=by
   intro p' hp
   refine zaJ (zcj hr) ?_
   rw [List.all_cons,List.all_cons,← Bool.and_assoc,← Bool.and_assoc,← hp]
   cases h1:(r.Stanza==a.Stanza) with
   | false=>refine zaw rfl (zbl ⟨by omega,by omega⟩ ?_); rw [ih']; simp
   | true =>
    refine zaC rfl ?_
    by_cases h2:b.Line<r.Line
    ·refine zaC (decide_eq_true h2) (zbl ⟨by omega,by omega⟩ ?_); rw [ih']; simp [h2]
    ·refine zaw (decide_eq_false h2) (zbl ⟨by omega,by omega⟩ ?_); rw [ih']; simp [h2]
  unfold zdu
  refine zaC (decide_eq_true (by omega)) (zbs (zbs (zaJ (zcj hr) ?_)))
  cases h1:(r.Stanza==a.Stanza) with
  | false=>exact zaw rfl (last p (by rw [h1]; simp))
  | true =>
   refine zaC rfl ?_
   by_cases h2:r.Line<a.Line
   ·exact zaC (decide_eq_true h2) (last false (by rw [h1]; simp [h2]))
   ·exact zaw (decide_eq_false h2) (last p (by rw [h1]; simp [h2]))
theorem zvy (rows:List Gapi_Row) (hn:rows.length≤1000000) (k:Nat) (h0:0<k) (hk:k<rows.length):zgh rows (k:Int)=some (zoH rows k):=by
 have ha:rows[k - 1]?=some rows[k - 1]:=List.getElem?_eq_getElem (by omega)
 have hb:rows[k]?=some rows[k]:=List.getElem?_eq_getElem hk
 unfold zgh zoH
 rw [ha,hb]
 generalize rows[k - 1]=a at ha
 generalize rows[k]=b at hb
 simp only
 refine zbl ⟨by omega,by omega⟩ (zaJ (zdk (n:=k - 1) (by omega) ha) (zaJ (zcj hb) ?_))
 by_cases h1:a.Stanza=b.Stanza
 ·refine zaw (zvI h1) ?_
  rw [if_neg (by simp [h1])]
  by_cases h2:a.Line=b.Line
  ·rw [if_pos h2]; exact zaC (zgt h2) rfl
  ·rw [if_neg h2]
   refine zaw (zgD h2) (zbs ?_)
   refine (zt7 rows a b hn _ rows.length 0 zbN true true (by omega) (zbM (by omega))).trans ?_
   rw [List.drop_zero,Bool.true_and,Bool.true_and]
   cases h3:(rows.all fun r=>!(r.Stanza==a.Stanza&&decide (r.Line<a.Line))) with
   | true=>rw [if_pos (.inl rfl)]; exact zaC rfl rfl
   | false =>
    refine zaw rfl ?_
    cases h4:(rows.all fun r=>!(r.Stanza==a.Stanza&&decide (b.Line<r.Line))) with
    | true=>rw [if_pos (.inr rfl)]; exact zaC rfl rfl
    | false=>rw [if_neg (by simp)]; exact zaw rfl rfl
 ·rw [if_pos h1]
  exact zaC (zth h1) rfl
theorem zxQ {rows:List Gapi_Row} {F L:List Int} (hR:RowsOk rows F L) (H:Int) (k:Nat) (h0:0<k) (hk:k<rows.length):zd6 (⟨rows,rows.map (·.Stanza),F,L,H⟩:Gpage_parter) (k:Int)=some (zoH rows k):=by
 have hn:=hR.n
 have ha:rows[k - 1]?=some rows[k - 1]:=List.getElem?_eq_getElem (by omega)
 have hb:rows[k]?=some rows[k]:=List.getElem?_eq_getElem hk
 unfold zd6 zoH
 rw [ha,hb]
 have ma:=List.mem_of_getElem? ha
 have mb:=List.mem_of_getElem? hb
 generalize rows[k - 1]=a at ha ma
 generalize rows[k]=b at hb mb
 simp only
 refine zbl ⟨by omega,by omega⟩ (zaJ (zdk (n:=k - 1) (by omega) ha) (zaJ (zcj hb) ?_))
 have ra:=hR.rg a ma
 have rb:=hR.rg b mb
 by_cases h1:a.Stanza=b.Stanza
 ·refine zaw (zvI h1) ?_
  rw [if_neg (by simp [h1])]
  by_cases h2:a.Line=b.Line
  ·rw [if_pos h2]; exact zaC (zgt h2) rfl
  ·rw [if_neg h2]
   refine zaw (zgD h2) ?_
   obtain ⟨f,f1,f2⟩:=hR.fst a ma
   obtain ⟨g,g1,g2⟩:=hR.lst b mb
   have p1:(a.Line=f)↔(rows.all fun r=>!(r.Stanza==a.Stanza&&decide (r.Line<a.Line)))=true:=by
    rw [f2,List.all_eq_true]
    constructor
    ·intro h x hx
     by_cases e:x.Stanza=a.Stanza
     ·have:=h x hx e
      simp [e]; omega
     ·simp [e]
    ·intro h x hx e
     have:=h x hx
     simp [e] at this; omega
   have p2:(b.Line=g)↔(rows.all fun r=>!(r.Stanza==a.Stanza&&decide (b.Line<r.Line)))=true:=by
    rw [g2,List.all_eq_true]
    constructor
    ·intro h x hx
     by_cases e:x.Stanza=a.Stanza
     ·have:=h x hx (by omega)
      simp [e]; omega
     ·simp [e]
    ·intro h x hx e
     have:=h x hx
     simp [show x.Stanza=a.Stanza by omega] at this; omega
   refine zaJ (zdk (n:=a.Stanza.toNat) (by omega) f1) ?_
   by_cases h3:a.Line=f
   ·rw [if_pos (.inl (p1.1 h3))]; exact zaC (zgt h3) rfl
   ·refine zaw (zgD h3) (zaJ (zdk (n:=b.Stanza.toNat) (by omega) g1) ?_)
    by_cases h4:b.Line=g
    ·rw [if_pos (.inr (p2.1 h4))]; exact zaC (zgt h4) rfl
    ·rw [if_neg (fun h=>h.elim (fun h=>h3 (p1.2 h)) (fun h=>h4 (p2.2 h)))]; exact zaw (zgD h4) rfl
 ·rw [if_pos h1]
  exact zaC (zth h1) rfl
end Go.Proofs.YtbempdelckaccaaGreatDoor

namespace Go.Proofs.YtbempdelckaccaaGreatDoor
open Go.RowKit Go.Lib
set_option linter.unusedVariables false
set_option linter.unusedSimpArgs false
def Rp (rows:List Gapi_Row) (H:Int) (f t:Nat):Bool:=decide (zd1 rows f t≤H)
def Kp (rows:List Gapi_Row) (H:Int) (f t:Nat):Int:=if f<t∧t<rows.length∧zd1 rows f t≤H then (H - zd1 rows f t)*(H - zd1 rows f t)+zoH rows t else 0
abbrev Tp (rows:List Gapi_Row) (H:Int) (k:Nat):Nat→Bst:=Bf (Rp rows H) (Kp rows H) rows.length k
abbrev Tt (rows:List Gapi_Row) (H:Int):Nat→Bst:=BB (Rp rows H) (Kp rows H) rows.length
abbrev zhE (rows:List Gapi_Row) (H:Int):List Nat:=znZ (Tt rows H) rows.length rows.length 0
theorem zmf {rows:List Gapi_Row} {H:Int} (hH:4≤H∧H≤200):∀ f,f<rows.length→Rp rows H f (f+1)=true:=by
 intro f hf
 unfold Rp zd1
 rw [show f+1 - 1=f by omega]
 exact decide_eq_true (by omega)
theorem zq9 {rows:List Gapi_Row} {F L:List Int} (hR:RowsOk rows F L) {f t:Nat} (d:Nat) (h1:f<t) (h2:t+d≤rows.length):zd1 rows f t≤zd1 rows f (t+d):=by
 have:=zmt hR d (t - 1) (by omega)
 rw [show t - 1+d=t+d - 1 by omega] at this
 unfold zd1; omega
section
variable {rows:List Gapi_Row} {F L:List Int} {H:Int} (hR:RowsOk rows F L) (hH:4≤H∧H≤200)
include hR hH
theorem zqw {f t:Nat} (h1:f<t) (h2:t≤rows.length) (h3:zd1 rows f t≤H):0≤(H - zd1 rows f t)*(H - zd1 rows f t)∧(H - zd1 rows f t)*(H - zd1 rows f t)≤40000:=by
 have:=zj7 hR h1 h2
 have a:0≤H - zd1 rows f t:=by omega
 have b:H - zd1 rows f t≤200:=by omega
 exact ⟨Int.mul_nonneg a a,Int.le_trans (Int.mul_le_mul b b a (by decide)) (by decide)⟩
theorem zjN:∀ f t,0≤Kp rows H f t∧Kp rows H f t≤2000000000000:=by
 intro f t
 unfold Kp
 split
 ·rename_i h
  have h1:=zqw hR hH h.1 (by omega) h.2.2
  have h2:=zm8 rows t
  omega
 ·omega
theorem zsu (k f:Nat) (hf:f+(k+1)=rows.length) (j2:List Bst→Option ((List Int)×Int)) :
  ∀ (d t m:Nat) (x:Bst),f<t→t+d=rows.length+1→d<m→okB (k+1) x→zaE (fun _ _=>none) (zbT (⟨rows,rows.map (·.Stanza),F,L,H⟩:Gpage_parter) (f:Int) j2) m ((zff (Tp rows H k) rows.length).set f x) (t:Int) =
   j2 ((zff (Tp rows H k) rows.length).set f (zeA (Rp rows H) (Kp rows H) rows.length (Tp rows H k) f d t x)):=by
 have hn:=hR.n
 have hK:=zjN hR hH
 have hok:∀ t,okB k (Tp rows H k t):=zjX (R:=Rp rows H) (K:=Kp rows H) (n:=rows.length) hK k
 intro d
 induction d with
 | zero =>
  intro t m x hft htd hm hx
  obtain ⟨m,rfl⟩:∃ q,m=q+1:=⟨m - 1,by omega⟩
  rw [zb5]
  generalize zaE (fun _ _=>none) (zbT (⟨rows,rows.map (·.Stanza),F,L,H⟩:Gpage_parter) (f:Int) j2) m=ag
  unfold zbT
  exact zaw (decide_eq_false (by show ¬ ((t:Int)≤(rows.length:Int)); omega)) rfl
 | succ d ih =>
  intro t m x hft htd hm hx
  obtain ⟨m,rfl⟩:∃ q,m=q+1:=⟨m - 1,by omega⟩
  have ih':=fun y hy=>ih (t+1) m y (by omega) (by omega) (by omega) hy
  rw [zb5]
  generalize zaE (fun _ _=>none) (zbT (⟨rows,rows.map (·.Stanza),F,L,H⟩:Gpage_parter) (f:Int) j2) m=ag at ih' ⊢
  rw [show ((t+1:Nat):Int)=(t:Int)+1 by omega] at ih'
  have htl:=zgw (Tp rows H k) rows.length
  have hgt:∀ y:Bst,zbm ((zff (Tp rows H k) rows.length).set f y) (t:Int)=some (Tp rows H k t):=fun y=>zcj (by rw [List.getElem?_set_ne (by omega)]; exact zeF _ _ _ (by omega))
  have hgf:∀ y:Bst,zbm ((zff (Tp rows H k) rows.length).set f y) (f:Int)=some y:=fun y=>zcj (by rw [List.getElem?_set_self (by omega)])
  have hnext:∀ y,okB (k+1) y→(grd (I64 ((t:Int)+1))<|ag ((zff (Tp rows H k) rows.length).set f y) ((t:Int)+1))=j2 ((zff (Tp rows H k) rows.length).set f (zeA (Rp rows H) (Kp rows H) rows.length (Tp rows H k) f d (t+1) y)):=fun y hy=>zbl ⟨by omega,by omega⟩ (ih' y hy)
  unfold zbT
  refine zaC (decide_eq_true (by show (t:Int)≤(rows.length:Int); omega)) (zaJ (ztl hR H f t hft (by omega)) ?_)
  unfold zeA
  by_cases hRt:zd1 rows f t≤H
  ·have hRb:Rp rows H f t=true:=decide_eq_true hRt
   refine zaC (decide_eq_true hRt) (zbs (zvM (fun j4=>∀ y:Bst,okB (k+1) y→y.to_=(t:Int)→j4 y.cost y.rows=j2 ((zff (Tp rows H k) rows.length).set f (zeA (Rp rows H) (Kp rows H) rows.length (Tp rows H k) f d (t+1) (zoj x (some y))))) ?_ ?_))
   ·intro y hy hto
    have ey:(⟨y.cost,y.rows,(t:Int)⟩:Gpage_best)=y:=by rw [← hto]
    have hput:(grd (I64 ((t:Int)+1))<|ag (((zff (Tp rows H k) rows.length).set f x).set (f:Int).toNat (⟨y.cost,y.rows,(t:Int)⟩:Gpage_best)) ((t:Int)+1))=j2 ((zff (Tp rows H k) rows.length).set f (zeA (Rp rows H) (Kp rows H) rows.length (Tp rows H k) f d (t+1) y)):=by
     rw [ey,Int.toNat_natCast,List.set_set]; exact hnext y hy
    have hkeep:=hnext x hx
    refine zaJ (hgf x) ?_
    rw [zgJ]
    by_cases h1:x.rows<0
    ·rw [if_pos (.inl h1)]; exact zaC (decide_eq_true h1) (zaJ (hgf x) hput)
    refine zaw (decide_eq_false h1) ?_
    by_cases h2:y.cost<x.cost
    ·rw [if_pos (.inr (.inl h2))]; exact zaC (decide_eq_true h2) (zaJ (hgf x) hput)
    refine zaw (decide_eq_false h2) ?_
    by_cases h3:y.cost=x.cost
    ·refine zaC (zgt h3) ?_
     by_cases h4:y.rows≤x.rows
     ·rw [if_pos (.inr (.inr ⟨h3,h4⟩))]; exact zaC (decide_eq_true h4) (zaJ (hgf x) hput)
     ·rw [if_neg (by omega)]; exact zaw (decide_eq_false h4) hkeep
    ·rw [if_neg (by omega)]; exact zaw (zgD h3) hkeep
   intro j4 held
   by_cases ht:t<rows.length
   ·obtain ⟨o1,o2,o3,o4⟩:=hok t
    have hk2:=hK f t
    have hsq:=zqw hR hH hft (by omega) hRt
    have hcs:=zm8 rows t
    have hhr:=zj7 hR hft (t:=t) (by omega)
    have hkp:Kp rows H f t=(H - zd1 rows f t)*(H - zd1 rows f t)+zoH rows t:=if_pos ⟨hft,ht,hRt⟩
    have hfe:0≤(Tp rows H k t).rows:=zlh hK (zmf hH) k t (by omega) (by omega)
    have hc:zfv (Rp rows H) (Kp rows H) rows.length (Tp rows H k) f t=some ⟨Kp rows H f t+(Tp rows H k t).cost,(Tp rows H k t).rows+1,(t:Int)⟩:=by unfold zfv; rw [if_pos hRb,if_pos ht,if_neg (by omega)]
    have hyok:=(zhb hK hok hc).1
    rw [hc]
    refine zaC (decide_eq_true (by show (t:Int)<(rows.length:Int); omega)) (zaJ (ztl hR H f t hft (by omega)) (zbl ?_ (zbl ?_ (zaJ (zxQ hR H t (by omega) ht) (zbl ?_ (zaJ (hgt x) (zbl ?_ (zbl ⟨by omega,by omega⟩ ?_))))))))
    ·show I64 (H - zd1 rows f t); exact ⟨by omega,by omega⟩
    ·show I64 ((H - zd1 rows f t)*(H - zd1 rows f t)); exact ⟨by omega,by omega⟩
    ·show I64 ((H - zd1 rows f t)*(H - zd1 rows f t)+zoH rows t); exact ⟨by omega,by omega⟩
    ·show I64 ((H - zd1 rows f t)*(H - zd1 rows f t)+zoH rows t+(Tp rows H k t).cost); rw [← hkp]; exact ⟨by omega,by omega⟩
    ·have:=held _ hyok rfl
     refine Eq.trans ?_ this
     show j4 ((H - zd1 rows f t)*(H - zd1 rows f t)+zoH rows t+(Tp rows H k t).cost) ((Tp rows H k t).rows+1)=j4 (Kp rows H f t+(Tp rows H k t).cost) ((Tp rows H k t).rows+1)
     rw [hkp]
   ·have hc:zfv (Rp rows H) (Kp rows H) rows.length (Tp rows H k) f t=some ⟨0,1,(t:Int)⟩:=by unfold zfv; rw [if_pos hRb,if_neg ht]
    have hyok:=(zhb hK hok hc).1
    rw [hc]
    refine zaw (decide_eq_false (by show ¬ ((t:Int)<(rows.length:Int)); omega)) ?_
    exact held _ hyok rfl
  ·refine zaw (decide_eq_false hRt) ?_
   have hc:zfv (Rp rows H) (Kp rows H) rows.length (Tp rows H k) f t=none:=by unfold zfv; rw [if_neg (by unfold Rp; rw [decide_eq_false hRt]; decide)]
   rw [hc,zjh d (t+1) (zoj x none) (fun t' h1 h2=>by
    have:=zq9 hR (t' - t) hft (by omega)
    rw [show t+(t' - t)=t' by omega] at this
    unfold zfv Rp
    rw [if_neg (by rw [decide_eq_false (by omega)]; decide)])]
   rfl
theorem zqZ (j1:List Bst→Option ((List Int)×Int)):∀ (d k m:Nat),k+d=rows.length→d<m→zaE (fun _ _=>none) (zbU (⟨rows,rows.map (·.Stanza),F,L,H⟩:Gpage_parter) j1) m (zff (Tp rows H k) rows.length) ((rows.length:Int) - 1 - (k:Int))=j1 (zff (Tt rows H) rows.length):=by
 have hle:=hR.n
 intro d
 induction d with
 | zero =>
  intro k m hk hm
  obtain ⟨m,rfl⟩:∃ q,m=q+1:=⟨m - 1,by omega⟩
  rw [zb5]
  generalize zaE (fun _ _=>none) (zbU (⟨rows,rows.map (·.Stanza),F,L,H⟩:Gpage_parter) j1) m=ag
  unfold zbU
  refine zaw (decide_eq_false (by omega)) ?_
  rw [show k=rows.length by omega]; rfl
 | succ d ih =>
  intro k m hk hm
  obtain ⟨m,rfl⟩:∃ q,m=q+1:=⟨m - 1,by omega⟩
  have ih':=ih (k+1) m (by omega) (by omega)
  rw [zb5]
  generalize zaE (fun _ _=>none) (zbU (⟨rows,rows.map (·.Stanza),F,L,H⟩:Gpage_parter) j1) m=ag at ih' ⊢
  obtain ⟨f,hf⟩:∃ f:Nat,f+(k+1)=rows.length:=⟨d,by omega⟩
  rw [show (rows.length:Int) - 1 - (k:Int)=(f:Int) by omega]
  rw [show (rows.length:Int) - 1 - ((k+1:Nat):Int)=(f:Int) - 1 by omega] at ih'
  unfold zbU
  have hg:zbm (zff (Tp rows H k) rows.length) (f:Int)=some b0:=by
   have e0:Tp rows H k f=b0:=zrS k f (by omega)
   rw [zcj (zeF _ _ f (by omega)),e0]
  refine zaC (decide_eq_true (by omega)) (zbs (zaJ hg (zbl ⟨by omega,by omega⟩ ?_)))
  have hin:=zsu hR hH k f hf (fun (all5:List Gpage_best)=>grd (I64 ((f:Int) - 1))<|ag all5 ((f:Int) - 1)) (rows.length - f) (f+1) zbN bm (by omega) (by omega) (zbM (by omega)) (zq2 _)
  rw [show ((f+1:Nat):Int)=(f:Int)+1 by omega] at hin
  have et:(zff (Tp rows H k) rows.length).set f (zeA (Rp rows H) (Kp rows H) rows.length (Tp rows H k) f (rows.length - f) (f+1) bm)=zff (Tp rows H (k+1)) rows.length:=by
   have e1:Tp rows H (k+1) f=zeA (Rp rows H) (Kp rows H) rows.length (Tp rows H k) f (rows.length - f) (f+1) bm:=by
    show Bf (Rp rows H) (Kp rows H) rows.length (k+1) f=_
    rw [zfu,if_pos hf]
   rw [← e1]
   exact zmq (by omega) fun j hj=>by
    show Bf (Rp rows H) (Kp rows H) rows.length (k+1) j=_
    rw [zfu,if_neg (by omega)]
  rw [et] at hin
  refine hin.trans (zbl ⟨by omega,by omega⟩ ih')
theorem zq0 (j5:List Int→Option ((List Int)×Int)):∀ (m f N:Nat) (out:List Int),rows.length≤f+m→m<N→out.length≤f→f≤rows.length→zaE (fun _ _=>none) (zbH (⟨rows,rows.map (·.Stanza),F,L,H⟩:Gpage_parter) (zff (Tt rows H) rows.length) j5) N out (f:Int)=j5 (out++(znZ (Tt rows H) rows.length m f).map (fun t=>((t:Nat):Int))):=by
 have hle:=hR.n
 intro m
 induction m with
 | zero =>
  intro f N out hm hN ho hf
  obtain ⟨N,rfl⟩:∃ q,N=q+1:=⟨N - 1,by omega⟩
  rw [zb5]
  generalize zaE (fun _ _=>none) (zbH (⟨rows,rows.map (·.Stanza),F,L,H⟩:Gpage_parter) (zff (Tt rows H) rows.length) j5) N=ag
  unfold zbH
  refine zaw (decide_eq_false (by show ¬ ((f:Int)<(rows.length:Int)); omega)) ?_
  show j5 out=j5 (out++[])
  rw [List.append_nil]
 | succ m ih =>
  intro f N out hm hN ho hf
  obtain ⟨N,rfl⟩:∃ q,N=q+1:=⟨N - 1,by omega⟩
  rw [zb5]
  have ih':=fun t out=>ih t N out
  generalize zaE (fun _ _=>none) (zbH (⟨rows,rows.map (·.Stanza),F,L,H⟩:Gpage_parter) (zff (Tt rows H) rows.length) j5) N=ag at ih' ⊢
  unfold zbH znZ
  by_cases h:f<rows.length
  ·obtain ⟨t,h1,h2,h3,h4⟩:=zoX (zjN hR hH) (zmf hH) h
   have hg:zbm (zff (Tt rows H) rows.length) (f:Int)=some (Tt rows H f):=zcj (zeF _ _ f (by omega))
   rw [if_pos h,h1,Int.toNat_natCast]
   refine zaC (decide_eq_true (by show (f:Int)<(rows.length:Int); omega)) (zaJ hg (zbl (by omega) (zaJ hg ?_)))
   rw [h1]
   rw [ih' t (out++[(t:Int)]) (by omega) (by omega) (by rw [List.length_append]; simp; omega) h3,List.append_assoc]; rfl
  ·rw [if_neg h]
   refine zaw (decide_eq_false (by show ¬ ((f:Int)<(rows.length:Int)); omega)) ?_
   show j5 out=j5 (out++[])
   rw [List.append_nil]
theorem zug:zdD (⟨rows,rows.map (·.Stanza),F,L,H⟩:Gpage_parter)=some ((zhE rows H).map (fun t=>((t:Nat):Int)),(Tt rows H 0).cost):=by
 have hle:=hR.n
 unfold zdD
 refine zbs (zbl ⟨by show _≤(rows.length:Int)+1; omega,by show (rows.length:Int)+1≤_; omega⟩ (zbl ⟨by show _≤(rows.length:Int)+1; omega,by show (rows.length:Int)+1≤_; omega⟩ (zbl ⟨by show _≤(rows.length:Int) - 1; omega,by show (rows.length:Int) - 1≤_; omega⟩ ?_)))
 have e0:List.replicate ((rows.length:Int)+1:Int).toNat (⟨0,0,0⟩:Gpage_best)=zff (Tp rows H 0) rows.length:=by
  show List.replicate ((rows.length:Int)+1:Int).toNat b0=_
  rw [show ((rows.length:Int)+1:Int).toNat=rows.length+1 by omega,zqr]
 show zaE (fun _ _=>none) _ zbN (List.replicate ((rows.length:Int)+1:Int).toNat (⟨0,0,0⟩:Gpage_best)) ((rows.length:Int) - 1)=_
 rw [e0]
 have ho:=zqZ hR hH (fun (all1:List Gpage_best)=>zbk (fun (j5:(List Int)→Option ((List Int)×Int))=>zaE (fun _ _=>none) (zbH (⟨rows,rows.map (·.Stanza),F,L,H⟩:Gpage_parter) all1 j5) zbN ([]:List Int) 0) (fun (out1:List Int)=>zah (zbm all1 0) fun (q10:Gpage_best)=>some (out1,q10.cost))) rows.length 0 zbN (by omega) (zbM (by omega))
 rw [show (rows.length:Int) - 1 - ((0:Nat):Int)=(rows.length:Int) - 1 by omega] at ho
 refine ho.trans (zbs ?_)
 have he:=zq0 hR hH (fun (out1:List Int)=>zah (zbm (zff (Tt rows H) rows.length) 0) fun (q10:Gpage_best)=>some (out1,q10.cost)) rows.length 0 zbN [] (by omega) (zbM (by omega)) (Nat.zero_le _) (Nat.zero_le _)
 rw [show ((0:Nat):Int)=0 from rfl,List.nil_append] at he
 refine he.trans (zaJ (zdk (n:=0) rfl (zeF _ _ 0 (Nat.zero_le _))) rfl)
end
end Go.Proofs.YtbempdelckaccaaGreatDoor

namespace Go.Proofs.YtbempdelckaccaaGreatDoor
open Go.RowKit Go.Lib
set_option linter.unusedVariables false
set_option linter.unusedSimpArgs false
def zdW (r2:(Int×Gpage_parter)) (from3:Int) (j3:Int→(List Gapi_Row)→Option ((Option Gpage_Book)×Int)) (q1:Int) (ag2:(List Gapi_Row)→Int→Option ((Option Gpage_Book)×Int)) (page4:List Gapi_Row) (k3:Int):Option ((Option Gpage_Book)×Int) :=
zay (decide ((k3:Int)<q1)) (
zbk (fun (j4:(List Gapi_Row)→Option ((Option Gpage_Book)×Int)) =>
zay (decide ((from3:Int)<k3)) (
zah (zbm r2.2.rows k3) fun (q2:Gapi_Row) =>
grd (I64 (k3 - 1)) <|
zah (zbm r2.2.rows (k3 - 1)) fun (q3:Gapi_Row) =>
zay ((q2.Stanza:Int) != q3.Stanza) (
grd (page4.length+1≤2147483648) <|
j4 (page4++[(⟨(-1),0,0,0,0,ByteArray.empty⟩:Gapi_Row)])
) (
j4 page4
)
) (
j4 page4
)
) (fun (page5:List Gapi_Row) =>
zah (zbm r2.2.rows k3) fun (q4:Gapi_Row) =>
grd (page5.length+1≤2147483648) <|
grd (I64 (k3+1)) <|
ag2 (page5++[q4]) (k3+1)
)
) (
j3 q1 page4
)
def zdX (j1:(List (List Gapi_Row))→Int→Option ((Option Gpage_Book)×Int)) (r2:(Int×Gpage_parter)) (r3:((List Int)×Int)) (ag1:(List (List Gapi_Row))→Int→Int→Option ((Option Gpage_Book)×Int)) (b9:List (List Gapi_Row)) (from3:Int) (x4:Int):Option ((Option Gpage_Book)×Int) :=
zay (decide ((x4:Int)<(r3.1.length:Int))) (
zbk (fun (j2:(List (List Gapi_Row))→Int→Option ((Option Gpage_Book)×Int)) =>
zbk (fun (j3:Int→(List Gapi_Row)→Option ((Option Gpage_Book)×Int)) =>
zah (zbm r3.1 x4) fun (q1:Int) =>
zaE (fun _ _=>none) (zdW r2 from3 j3 q1) zbN ([]:List Gapi_Row) from3
) (fun (to1:Int) (page1:List Gapi_Row) =>
grd (b9.length+1≤2147483648) <|
j2 (b9++[page1]) to1
)
) (fun (b10:List (List Gapi_Row)) (from4:Int) =>
grd (I64 (x4+1)) <|
ag1 b10 from4 (x4+1)
)
) (
j1 b9 (r2.1+r3.2)
)
def zf7 (x1:Gpoem_Poem) (l1:Gapi_Layout):Option ((Option Gpage_Book)×Int) :=
zah (zf6 l1) fun (r1:Bool) =>
zay (!r1) (
some (none,2)
) (
zbk (fun (j1:(List (List Gapi_Row))→Int→Option ((Option Gpage_Book)×Int)) =>
zah (zdE (⟨([]:List Gapi_Row),([]:List Int),([]:List Int),([]:List Int),l1.Height⟩:Gpage_parter) x1 l1) fun (r2:(Int×Gpage_parter)) =>
zah (zdD r2.2) fun (r3:((List Int)×Int)) =>
grd (I64 (r2.1+r3.2)) <|
zaE (fun _ _ _=>none) (zdX j1 r2 r3) zbN ([]:List (List Gapi_Row)) 0 0
) (fun (b3:List (List Gapi_Row)) (b4:Int) =>
some ((some (⟨l1.Width,l1.Height,l1.Turn,l1.Every,b3,b4⟩:Gpage_Book)),0)
)
)
theorem zou {bx1:Nat} {x1:Gpoem_Poem} {x1_h0 x1_h1:Hd} {l1:Gapi_Layout} {r:((Option Gpage_Book)×Int)} (h:zf7 x1 l1=some r):FnR Tryz.prog 28 [zP bx1,.agg (zr0 l1).toArray] [cells bx1 [.string x1.told_title,x1_h0.v,x1_h1.v,.string x1.source] 106,zv6 x1_h0.v x1.told_lines,zv7 x1_h1.v x1.told_stanzas] [] (fun v0:Value=>.tuple #[v0,zI r.2]) (fun v0=>[zmP zb6 zb4 81 v0 r.1]):=by
 unfold zf7 at h
 refine FnR.intro Tryz.func28 rfl Tryz.ntmps28 (by simp) ?_
 intro w0 K hrd
 refine zyG ?_
 refine zea rfl dc rfl (fun b1 => ?_)
 refine zyR 2 rfl (zyN (zaI (zaF (zyG (zyR 1 rfl (zaU rfl (zc6 Tryz.underlying58) (zyR 1 rfl (zyN (zaS rfl ?_)))))))))
 refine zyG (zbd (k:=0) (cs:=(zr0 l1)) zja rfl dc rfl rfl rfl rfl ?_)
 obtain ⟨r1,hq1,h⟩:=zbi h
 refine zbD (v:=.bool r1) (vs:=[.agg (zr0 l1).toArray]) rfl dc rfl rfl rfl zvT (zkD (l1:=l1) hq1) (zee rfl dc rfl zcN (zyR 1 rfl (zyN ?_)))
 refine zyB rfl h (fun h => ?_) (fun h => ?_)
 ·
  refine zyG (zyR 2 rfl (zyN (zaG (zat (zao (zd8 zb6 zb4 81 ?_))))))
  cases h
  exact zaK (rs:=[.tmp 4,.tmp 5]) (.pointer none) (.inl rfl) Tryz.results28 (.cons (.tmp rfl) (.cons (.tmp rfl) .nil)) rfl (zad [1] kr rfl)
 refine zar (zag (zaH ?_))
 obtain ⟨j1,hj1,h⟩:=zbG h
 refine zaX (β:=(List (List Gapi_Row))×Int×Nat×Hd) 5 rfl (fun b=>j1 b.1 b.2.1=some r) (fun b=>[]) (fun b=>[(7,zP b.2.2.1)]) (fun b=>[cells b.2.2.1 [zI l1.Width,zI l1.Height,zI l1.Turn,zI l1.Every,b.2.2.2.v,zI b.2.1] 81,zgc zaP zaY 43 1 b.2.2.2.v b.1]) (fun cut => ?_) ?_
 ·
  refine zyG (zab zii rfl dc rfl (show _=1 from rfl) (zau (k:=0) zbp rfl dc rfl rfl rfl ?_))
  refine zba (v:=.agg #[.slice none 0 0,.slice none 0 0,.slice none 0 0,.slice none 0 0,zI l1.Height]) (ps:=[(4,.tmp 23)]) rfl dc rfl (fun _=>by kernel_rfl) ?_
  refine zea rfl dc rfl (fun b5 => ?_)
  refine zyR 1 rfl (zyN (zaI ?_))
  obtain ⟨r2,hq2,h⟩:=zbi h
  refine zgs 4 ?_
  refine let vals1:(Hd×Hd×Hd×Hd)→List (Nat×Nat×Value):=fun b=>[(0,26,.agg (zr0 l1).toArray),(1,27,zP b5),(2,28,zP bx1),(3,29,.agg (zr0 l1).toArray),(4,30,zI r2.1)]; let LL1:(Nat→Prop)→(Hd×Hd×Hd×Hd)→List Asn:=fun D b=>[cells b1 (zr0 l1) 23,eD D (cells b5 [.slice none 0 0,.slice none 0 0,.slice none 0 0,.slice none 0 0,zI l1.Height] 131) [(4,cells b5 [b.1.v,b.2.1.v,b.2.2.1.v,b.2.2.2.v,zI r2.2.heights] 131)],eD D emp [(4,zv1 b.1.v r2.2.rows)],eD D emp [(4,zv0 b.2.1.v r2.2.blanks)],eD D emp [(4,zv0 b.2.2.1.v r2.2.firsts)],eD D emp [(4,zv0 b.2.2.2.v r2.2.lasts)]]; ?_
  have zhq:zyQ [4] LL1:=fun i h D b=>zae rfl (zae (zjY rfl h) (zae (zjY rfl h) (zae (zjY rfl h) (zae (zjY rfl h) (zae (zjY rfl h) rfl)))))
  refine zd3 (β:=Hd×Hd×Hd×Hd) 5 (Hd.nil,Hd.nil,Hd.nil,Hd.nil) vals1 LL1 mixed kr kr dc (fun _=>rfl) (zae rfl (zae zb7 (zae zb7 (zae zb7 (zae zb7 (zae zb7 rfl)))))) (zi5 zhq rfl (fun _=>rfl) (fun _=>rfl) ?_ (zmg zhq (fun _=>rfl) (fun _=>rfl) 2 1 (fun _=>rfl) rfl (zi5 zhq rfl (fun _=>rfl) (fun _=>rfl) ?_ (zaB ?_ DrawG.nil)))) ?_
  · exact fun D ⟨hd2,hd3,hd4,hd5⟩ n d c u i=>⟨_,(ztz rfl),zbd (k:=0) (cs:=(zr0 l1)) zja rfl dc (zbe (by rfl) rfl) rfl rfl rfl (zaf 0 u i rfl)⟩
  · exact fun D ⟨hd2,hd3,hd4,hd5⟩ n d c u i=>⟨_,(zae rfl (zae (zak (fun hD=>n (c 4 _ rfl hD 3 dc)) zaq) (zae (zak (fun hD=>n (c 4 _ rfl hD 3 dc)) zaq) (zae (zak (fun hD=>n (c 4 _ rfl hD 3 dc)) zaq) (zae (zak (fun hD=>n (c 4 _ rfl hD 3 dc)) zaq) (zae (zak (fun hD=>n (c 4 _ rfl hD 3 dc)) zaq) rfl)))))),zbd (k:=0) (cs:=(zr0 l1)) zja rfl dc (zbe (by rfl) rfl) rfl rfl rfl (zaf 3 u i rfl)⟩
  ·
   intro D b hn hd hcl
   obtain ⟨zb0,zb1,zb2,zb3⟩:=b
   refine zaL (zae rfl (zae (zak hn zaq) (zae (zak hn zaq) (zae (zak hn zaq) (zae (zak hn zaq) (zae (zak hn zaq) rfl)))))) (zgW (enc:=zbf) (e:=33) (size:=6) ?_)
   refine zgW (enc:=(zqb (.i64))) (e:=3) (size:=1) ?_
   refine zgW (enc:=(zqb (.i64))) (e:=3) (size:=1) ?_
   refine zgW (enc:=(zqb (.i64))) (e:=3) (size:=1) ?_
   refine zft (vs:=[zP b5,zP bx1,.agg (zr0 l1).toArray]) hrd rfl dc rfl (evL.cons (zaa (m:=1) rfl rfl (hd 1 dc)) (evL.cons (zaa (m:=2) rfl rfl (hd 2 dc)) (evL.cons (zaa (m:=3) rfl rfl (hd 3 dc)) evL.nil))) rfl zxm (zhZ (bp1:=b5) (p1:=(⟨([]:List Gapi_Row),([]:List Int),([]:List Int),([]:List Int),l1.Height⟩:Gpage_parter)) (p1_h0:=Hd.nil) (p1_h1:=Hd.nil) (p1_h2:=Hd.nil) (p1_h3:=Hd.nil) (bx1:=bx1) (x1:=x1) (x1_h0:=x1_h0) (x1_h1:=x1_h1) (l1:=l1) hq2) (zad [1,6,7,8,9] kr rfl) (.ro 0 rfl (.ro 1 rfl (.ro 2 rfl .nil))) ?_
   rintro ⟨hd2,hd3,hd4,hd5⟩
   refine zep (L':=[cells b1 (zr0 l1) 23,cells b5 [hd2.v,hd3.v,hd4.v,hd5.v,zI r2.2.heights] 131,emp,emp,emp,emp,zv1 hd2.v r2.2.rows,zv0 hd3.v r2.2.blanks,zv0 hd4.v r2.2.firsts,zv0 hd5.v r2.2.lasts]) (zad [0,10,2,3,4,5,11,12,13,14] kr rfl) (zcU 5 rfl rfl ?_)
   refine zcU 4 rfl rfl ?_
   refine zcU 3 rfl rfl ?_
   refine zcU 2 rfl rfl ?_
   exact zaW (b:=(zb0,zb1,zb2,zb3)) (hd2,hd3,hd4,hd5) 4 (by rfl) (by rfl) rfl (znk rfl) (zae rfl (zae (zaM (Or.inr rfl) rfl) (zae (zaM (Or.inr rfl) rfl) (zae (zaM (Or.inr rfl) rfl) (zae (zaM (Or.inr rfl) rfl) (zae (zaM (Or.inr rfl) rfl) rfl))))))
  intro D b hall
  obtain ⟨hd2,hd3,hd4,hd5⟩:=b
  refine zaL (zae rfl (zae (zaM (hall 4 dc) rfl) (zae (zaM (hall 4 dc) rfl) (zae (zaM (hall 4 dc) rfl) (zae (zaM (hall 4 dc) rfl) (zae (zaM (hall 4 dc) rfl) rfl)))))) ?_
  refine zba (v:=.agg #[zI l1.Width,zI l1.Height,zI l1.Turn,zI l1.Every,.slice none 0 0,zI r2.1]) (ps:=[(0,.tmp 26),(2,.tmp 30)]) rfl dc rfl (fun _=>by kernel_rfl) ?_
  refine zea rfl dc rfl (fun b6 => ?_)
  refine zyR 1 rfl (zyH (zyR 1 rfl ?_))
  obtain ⟨r3,hq3,h⟩:=zbi h
  refine zft (vs:=[zP b5]) hrd rfl dc rfl rfl rfl zxl (zhY (bp1:=b5) (p1:=r2.2) (p1_h0:=hd2) (p1_h1:=hd3) (p1_h2:=hd4) (p1_h3:=hd5) hq3) Splits.nil (.own (zad [1] (by kernel_rfl) rfl) (fun _ _ h=>sepL.one1.1 h) (.own (zad [2] (by kernel_rfl) rfl) (fun _ _ h=>sepL.one1.1 h) (.own (zad [3] (by kernel_rfl) rfl) (fun _ _ h=>sepL.one1.1 h) (.own (zad [4] (by kernel_rfl) rfl) (fun _ _ h=>sepL.one1.1 h) (.own (zad [5] (by kernel_rfl) rfl) (fun _ _ h=>sepL.one1.1 h) .nil))))) ?_
  rintro v1
  refine zby (k:=7) rfl (fun hd6 he1 => ?_)
  subst he1
  refine zyR 1 rfl (zaN rfl dc rfl rfl (zaN rfl dc rfl rfl (zyR 2 rfl (zyH (zyR 1 rfl (zaD rfl dc rfl (zab zoA rfl dc rfl (show _=5 from rfl) (zau (k:=6) zbp rfl dc rfl rfl rfl (zyR 1 rfl ?_)))))))))
  obtain ⟨hg1,h⟩:=zbr h
  refine zaU rfl (zaR (r:=r2.1+r3.2) (IntWalk.i64_in _ hg1)) (zaD rfl dc rfl (zab zoA rfl dc rfl (show _=5 from rfl) ?_))
  refine zbb (k:=6) (l':=[zI l1.Width,zI l1.Height,zI l1.Turn,zI l1.Every,.slice none 0 0,zI (r2.1+r3.2)]) zcs rfl rfl rfl rfl rfl (fun _ _=>rfl) rfl ?_
  refine zyH (zyR 1 rfl (zyN (cut (zyG (zyR 1 rfl (zbg (k:=7) rfl dc rfl rfl Tryz.underlying49 (zyR 1 rfl (zaO ?_))))))))
  refine zaH (zaF (zrQ (enc:=zaP) (nest:=zaY) (e:=43) (size:=1) ?_))
  refine zbj (β:=Nat×(List (List Gapi_Row))×Int×Int×Hd) (fun b=>zaE (fun _ _ _=>none) (zdX j1 r2 r3) b.1 b.2.1 b.2.2.1 b.2.2.2.1=some r) (fun b=>[]) (fun b=>[(6,zP b5),(7,zP b6),(10,zI b.2.2.1),(46,hd6.v),(47,zI (r3.1.length:Int)),(48,zI b.2.2.2.1)]) (fun b=>[cells b5 [hd2.v,hd3.v,hd4.v,hd5.v,zI r2.2.heights] 131,zv1 hd2.v r2.2.rows,zv0 hd3.v r2.2.blanks,zv0 hd4.v r2.2.firsts,zv0 hd5.v r2.2.lasts,cells b6 [zI l1.Width,zI l1.Height,zI l1.Turn,zI l1.Every,b.2.2.2.2.v,zI (r2.1+r3.2)] 81,zgc zaP zaY 43 1 b.2.2.2.2.v b.2.1,zv0 hd6.v r3.1]) (fun b=>b.1) (zbN,([]:List (List Gapi_Row)),0,0,Hd.nil) h rfl (za0 rfl) (zad [1,2,3,4,5,6,8,7] kr rfl) ?_
  rintro ⟨n1,b9,from3,x4,hd9⟩ h
  cases n1 with
  | zero=>exact zdp h
  | succ n1 =>
   obtain ⟨ag1,hag1⟩:∃ ag,ag=zaE (fun _ _ _=>none) (zdX j1 r2 r3) n1:=⟨_,rfl⟩
   have h:zdX j1 r2 r3 ag1 b9 from3 x4=some r:=by rw [hag1]; exact h
   unfold zdX at h
   refine zyG (zaU rfl zbc (zyN (zaI ?_)))
   refine zyB rfl h (fun h => ?_) (fun h => ?_)
   ·
    refine zar (zaH ?_)
    obtain ⟨j2,hj2,h⟩:=zbG h
    refine zaX (β:=(List (List Gapi_Row))×Int×Hd) 0 rfl (fun b=>j2 b.1 b.2.1=some r) (fun b=>[]) (fun b=>[(6,zP b5),(7,zP b6),(10,zI b.2.1),(46,hd6.v),(47,zI (r3.1.length:Int)),(48,zI x4)]) (fun b=>[cells b5 [hd2.v,hd3.v,hd4.v,hd5.v,zI r2.2.heights] 131,zv1 hd2.v r2.2.rows,zv0 hd3.v r2.2.blanks,zv0 hd4.v r2.2.firsts,zv0 hd5.v r2.2.lasts,cells b6 [zI l1.Width,zI l1.Height,zI l1.Turn,zI l1.Every,b.2.2.v,zI (r2.1+r3.2)] 81,zgc zaP zaY 43 1 b.2.2.v b.1,zv0 hd6.v r3.1]) (fun cut => ?_) ?_
    ·
     refine cut (zaF ?_)
     obtain ⟨j3,hj3,h⟩:=zbG h
     refine zaX (β:=Int×(List Gapi_Row)×Hd) 2 rfl (fun b=>j3 b.1 b.2.1=some r) (fun b=>[]) (fun b=>[(6,zP b5),(7,zP b6),(12,zI b.1),(13,b.2.2.v),(46,hd6.v),(47,zI (r3.1.length:Int)),(48,zI x4)]) (fun b=>[cells b5 [hd2.v,hd3.v,hd4.v,hd5.v,zI r2.2.heights] 131,zv1 hd2.v r2.2.rows,zv0 hd3.v r2.2.blanks,zv0 hd4.v r2.2.firsts,zv0 hd5.v r2.2.lasts,cells b6 [zI l1.Width,zI l1.Height,zI l1.Turn,zI l1.Every,hd9.v,zI (r2.1+r3.2)] 81,zgc zaP zaY 43 1 hd9.v b9,zv1 b.2.2.v b.2.1,zv0 hd6.v r3.1]) (fun cut => ?_) ?_
     ·
      refine zyG ?_
      obtain ⟨q1,hq4,h⟩:=zbi h
      refine zaj (k:=7) hq4 Tryz.underlying49 zcs rfl dc rfl rfl rfl rfl (zaA (i:=(x4:Int).toNat) (j:=0) (k:=7) (q:=q1) zbp zaQ rfl dc rfl rfl (zaz hq4) rfl dc rfl (zyR 1 rfl (zyH (zyR 1 rfl (zyN (cut (zyG (zyR 1 rfl ?_))))))))
      refine zyR 1 rfl (zyN (zaF (zcR (enc:=zbf) (e:=33) (size:=6) ?_)))
      refine zbj (β:=Nat×(List Gapi_Row)×Int×Hd) (fun b=>zaE (fun _ _=>none) (zdW r2 from3 j3 q1) b.1 b.2.1 b.2.2.1=some r) (fun b=>[]) (fun b=>[(6,zP b5),(7,zP b6),(10,zI from3),(12,zI q1),(13,b.2.2.2.v),(14,zI b.2.2.1),(46,hd6.v),(47,zI (r3.1.length:Int)),(48,zI x4)]) (fun b=>[cells b5 [hd2.v,hd3.v,hd4.v,hd5.v,zI r2.2.heights] 131,zv1 hd2.v r2.2.rows,zv0 hd3.v r2.2.blanks,zv0 hd4.v r2.2.firsts,zv0 hd5.v r2.2.lasts,cells b6 [zI l1.Width,zI l1.Height,zI l1.Turn,zI l1.Every,hd9.v,zI (r2.1+r3.2)] 81,zgc zaP zaY 43 1 hd9.v b9,zv1 b.2.2.2.v b.2.1,zv0 hd6.v r3.1]) (fun b=>b.1) (zbN,([]:List Gapi_Row),from3,Hd.nil) h rfl (za0 rfl) (zad [0,1,2,3,4,5,6,8,7] kr rfl) ?_
      rintro ⟨n2,page4,k3,hd14⟩ h
      cases n2 with
      | zero=>exact zdp h
      | succ n2 =>
       obtain ⟨ag2,hag2⟩:∃ ag,ag=zaE (fun _ _=>none) (zdW r2 from3 j3 q1) n2:=⟨_,rfl⟩
       have h:zdW r2 from3 j3 q1 ag2 page4 k3=some r:=by rw [hag2]; exact h
       unfold zdW at h
       refine zaI (zyG (zyR 2 rfl (zaU rfl zbc (zyN ?_))))
       refine zyB rfl h (fun h => ?_) (fun h => ?_)
       ·
        refine zar (zaH (zaI (zaF ?_)))
        obtain ⟨j4,hj4,h⟩:=zbG h
        refine zaX (β:=(List Gapi_Row)×Hd) 0 rfl (fun b=>j4 b.1=some r) (fun b=>[]) (fun b=>[(6,zP b5),(7,zP b6),(10,zI from3),(12,zI q1),(13,b.2.v),(14,zI k3),(46,hd6.v),(47,zI (r3.1.length:Int)),(48,zI x4)]) (fun b=>[cells b5 [hd2.v,hd3.v,hd4.v,hd5.v,zI r2.2.heights] 131,zv1 hd2.v r2.2.rows,zv0 hd3.v r2.2.blanks,zv0 hd4.v r2.2.firsts,zv0 hd5.v r2.2.lasts,cells b6 [zI l1.Width,zI l1.Height,zI l1.Turn,zI l1.Every,hd9.v,zI (r2.1+r3.2)] 81,zgc zaP zaY 43 1 hd9.v b9,zv1 b.2.v b.1,zv0 hd6.v r3.1]) (fun cut => ?_) ?_
        ·
         refine cut (zaI ?_)
         refine zcW (b:=decide ((from3:Int)<k3)) (fun hb4 => ?_) (fun hb4 => ?_)
         ·
          have h:=zf0 hb4 h
          obtain ⟨q2,hq5,h⟩:=zbi h
          obtain ⟨hg2,h⟩:=zbr h
          obtain ⟨q3,hq6,h⟩:=zbi h
          refine zbn 21 [(0,58,zI k3),(1,59,zI from3),(2,60,.bool true),(3,61,.bool true),(4,62,zP b5),(5,63,zP b5),(6,64,zP b5),(7,65,hd2.v),(8,66,zI k3),(9,67,.pointer (some ⟨zbY hd2.v,(k3:Int).toNat*6,none⟩)),(10,68,.pointer (some ⟨zbY hd2.v,((k3:Int).toNat)*6+1,none⟩)),(11,69,zI q2.Stanza),(12,70,zP b5),(13,71,zP b5),(14,72,zP b5),(15,73,hd2.v),(16,74,zI k3),(17,75,zI (k3 - 1)),(18,76,.pointer (some ⟨zbY hd2.v,(k3 - 1:Int).toNat*6,none⟩)),(19,77,.pointer (some ⟨zbY hd2.v,((k3 - 1:Int).toNat)*6+1,none⟩)),(20,78,zI q3.Stanza)] mixed kr kr dc (by rfl) kr kr (zyP 2 0 rfl (zac ?_ (zyP 2 3 rfl (zac ?_ (zac ?_ (zac ?_ (zyP 1 8 rfl (zac ?_ (zac ?_ (zac ?_ (zyP 1 12 rfl (zac ?_ (zac ?_ (zac ?_ (zyP 1 16 rfl (zac ?_ (zac ?_ (zac ?_ (zac ?_ DrawPre.nil))))))))))))))))))) ?_
          · exact fun D n d c u i=>zbz rfl dc (zaa (m:=0) u rfl (d 0 dc)) (zaa (m:=1) u rfl (d 1 dc)) zct (zcq (show Value.bool (decide ((from3:Int)<k3))=Value.bool true from congrArg Value.bool hb4) (zaf 2 u i rfl))
          · exact fun D n d c u i=>zaD (zdU rfl (zaa (m:=3) u rfl (d 3 dc))) dc (zaa (m:=4) u rfl (d 4 dc)) (zaf 5 u i rfl)
          · exact fun D n d c u i=>zab zgy (zdU rfl (zaa (m:=3) u rfl (d 3 dc))) dc (zaa (m:=5) u rfl (d 5 dc)) (show _=0 from rfl) (zaf 6 u i rfl)
          · exact fun D n d c u i=>zau (k:=0) zmz (zdU rfl (zaa (m:=3) u rfl (d 3 dc))) dc (zaa (m:=6) u rfl (d 6 dc)) rfl rfl (zaf 7 u i rfl)
          · exact fun D n d c u i=>zaj (k:=1) hq5 Tryz.underlying43 zeb (zdU rfl (zaa (m:=3) u rfl (d 3 dc))) dc (zaa (m:=7) u rfl (d 7 dc)) (zaa (m:=8) u rfl (d 8 dc)) rfl rfl (zaf 9 u i rfl)
          · exact fun D n d c u i=>zab zd0 (zdU rfl (zaa (m:=3) u rfl (d 3 dc))) dc (zaa (m:=9) u rfl (d 9 dc)) (show _=((k3:Int).toNat)*6+1 from rfl) (zaf 10 u i rfl)
          · exact fun D n d c u i=>zaA (i:=(k3:Int).toNat) (j:=1) (k:=1) (q:=q2) zbp za8 (zdU rfl (zaa (m:=3) u rfl (d 3 dc))) dc (zaa (m:=10) u rfl (d 10 dc)) rfl (zaz hq5) rfl dc rfl (zaf 11 u i rfl)
          · exact fun D n d c u i=>zaD (zdU rfl (zaa (m:=3) u rfl (d 3 dc))) dc (zaa (m:=12) u rfl (d 12 dc)) (zaf 13 u i rfl)
          · exact fun D n d c u i=>zab zgy (zdU rfl (zaa (m:=3) u rfl (d 3 dc))) dc (zaa (m:=13) u rfl (d 13 dc)) (show _=0 from rfl) (zaf 14 u i rfl)
          · exact fun D n d c u i=>zau (k:=0) zmz (zdU rfl (zaa (m:=3) u rfl (d 3 dc))) dc (zaa (m:=14) u rfl (d 14 dc)) rfl rfl (zaf 15 u i rfl)
          · exact fun D n d c u i=>zbz (zdU rfl (zaa (m:=3) u rfl (d 3 dc))) dc (zaa (m:=16) u rfl (d 16 dc)) rfl (zbt (r:=k3 - 1) (IntWalk.i64_in _ hg2)) (zaf 17 u i rfl)
          · exact fun D n d c u i=>zaj (k:=1) hq6 Tryz.underlying43 zeb (zdU rfl (zaa (m:=3) u rfl (d 3 dc))) dc (zaa (m:=15) u rfl (d 15 dc)) (zaa (m:=17) u rfl (d 17 dc)) rfl rfl (zaf 18 u i rfl)
          · exact fun D n d c u i=>zab zd0 (zdU rfl (zaa (m:=3) u rfl (d 3 dc))) dc (zaa (m:=18) u rfl (d 18 dc)) (show _=((k3 - 1:Int).toNat)*6+1 from rfl) (zaf 19 u i rfl)
          · exact fun D n d c u i=>zaA (i:=(k3 - 1:Int).toNat) (j:=1) (k:=1) (q:=q3) zbp za8 (zdU rfl (zaa (m:=3) u rfl (d 3 dc))) dc (zaa (m:=19) u rfl (d 19 dc)) rfl (zaz hq6) rfl dc rfl (zaf 20 u i rfl)
          refine zaU rfl zbS (zyR 1 rfl (zyN ?_))
          refine zyB rfl h (fun h => ?_) (fun h => ?_)
          ·
           refine zav (zyR 1 rfl ?_)
           refine zba (v:=.agg #[zI (-1),zI 0,zI 0,zI 0,zI 0,.string ByteArray.empty]) (ps:=[(0,.const (zI (-1)))]) rfl dc rfl (fun _=>by kernel_rfl) ?_
           refine zaV (cs:=[zI (-1),zI 0,zI 0,zI 0,zI 0,.string ByteArray.empty]) (te:=33) (ps:=[(0,.tmp 82)]) rfl dc rfl (fun _=>by kernel_rfl) (fun b11 => ?_)
           obtain ⟨hg3,h⟩:=zbr h
           refine za4 (k:=7) (k2:=9) (ys:=[(⟨(-1),0,0,0,0,ByteArray.empty⟩:Gapi_Row)]) Tryz.underlying43 zoD za8 zdm rfl dc rfl rfl rfl rfl rfl rfl hg3 (fun v2 => ?_)
           refine zby (k:=7) rfl (fun hd16 he2 => ?_)
           subst he2
           refine zyR 1 rfl (zaO ?_)
           exact zal (page4++[(⟨(-1),0,0,0,0,ByteArray.empty⟩:Gapi_Row)],hd16) h rfl (za0 rfl) (zad [0,1,2,3,4,5,6,7,8] kr rfl)
          refine zar ?_
          exact zal (page4,hd14) h rfl (za0 rfl) (zad [0,1,2,3,4,5,6,7,8] kr rfl)
         have h:=zf1 hb4 h
         refine zbn 21 [(0,58,zI k3),(1,59,zI from3),(2,60,.bool false),(3,61,.bool false),(4,62,undef),(5,63,undef),(6,64,undef),(7,65,undef),(8,66,undef),(9,67,undef),(10,68,undef),(11,69,undef),(12,70,undef),(13,71,undef),(14,72,undef),(15,73,undef),(16,74,undef),(17,75,undef),(18,76,undef),(19,77,undef),(20,78,undef)] mixed kr kr dc (by rfl) kr kr (zyP 2 0 rfl (zac ?_ (zyP 18 3 rfl DrawPre.nil))) ?_
         · exact fun D n d c u i=>zbz rfl dc (zaa (m:=0) u rfl (d 0 dc)) (zaa (m:=1) u rfl (d 1 dc)) zct (zcq (show Value.bool (decide ((from3:Int)<k3))=Value.bool false from congrArg Value.bool hb4) (zaf 2 u i rfl))
         refine zyR 2 rfl (zyN (zaS rfl (zar ?_)))
         exact zal (page4,hd14) h rfl (za0 rfl) (zad [0,1,2,3,4,5,6,7,8] kr rfl)
        rintro ⟨page5,hd15⟩ h
        rw [hj4] at h
        refine zav (zyR 2 rfl (zaD rfl dc rfl (zab zgy rfl dc rfl (show _=0 from rfl) (zau (k:=0) zmz rfl dc rfl rfl rfl (zyR 1 rfl ?_)))))
        obtain ⟨q4,hq7,h⟩:=zbi h
        refine zaj (k:=1) hq7 Tryz.underlying43 zeb rfl dc rfl rfl rfl rfl (zcQ (i:=(k3:Int).toNat) (j:=0) (k:=1) (q:=q4) (cs:=(zr3 q4)) zia za8 rfl dc rfl rfl (zaz hq7) rfl rfl rfl ?_)
        refine zaV (cs:=(zr3 q4)) (te:=33) (ps:=[(0,.tmp 92)]) rfl dc rfl (fun _=>by kernel_rfl) (fun b12 => ?_)
        obtain ⟨hg4,h⟩:=zbr h
        refine za4 (k:=7) (k2:=9) (ys:=[q4]) Tryz.underlying43 zoD za8 zdm rfl dc rfl rfl rfl rfl rfl rfl hg4 (fun v3 => ?_)
        refine zby (k:=7) rfl (fun hd17 he3 => ?_)
        subst he3
        refine zyR 1 rfl (zaO (zag (zaH (zav (zyR 1 rfl ?_)))))
        obtain ⟨hg5,h⟩:=zbr h
        refine zaU rfl (zaR (r:=k3+1) (IntWalk.i64_in _ hg5)) (zyR 1 rfl (zaO ?_))
        subst hag2
        exact za1 (n2,page5++[q4],k3+1,hd17) h (Nat.lt_succ_self _) rfl (za0 rfl) (zad [0,1,2,3,4,5,6,7,8] kr rfl)
       refine za3 (zan (zan (zax ?_)))
       exact zal (q1,page4,hd14) h rfl (za0 rfl) (zad [0,1,2,3,4,5,6,7,8] kr rfl)
     rintro ⟨to1,page1,hd11⟩ h
     rw [hj3] at h
     refine zav (zyR 2 rfl (zaD rfl dc rfl (zab zji rfl dc rfl (show _=4 from rfl) (zau (k:=5) zqI rfl dc rfl rfl rfl (zyR 1 rfl ?_)))))
     refine zaV (cs:=[hd11.v]) (te:=43) (ps:=[(0,.tmp 100)]) rfl dc rfl (fun _=>by kernel_rfl) (fun b13 => ?_)
     refine zmd (k:=6) rfl zsv (fun zs1 hz1 => ?_)
     obtain ⟨hg6,h⟩:=zbr h
     refine za4 (k:=6) (k2:=9) (ys:=[(page1,hd11)]) Tryz.underlying79 zxP zew ziY rfl dc rfl rfl rfl rfl rfl rfl (by rw [zwN hz1]; exact hg6) (fun v4 => ?_)
     refine zby (k:=6) rfl (fun hd18 he4 => ?_)
     subst he4
     refine zi4 (k:=10) rfl (zad [7] kr rfl) rfl (ztg (nest:=zaY) (zs:=zs1) (z:=(page1,hd11))) ?_
     refine zi4 (k:=6) rfl (zad [10] kr rfl) rfl (zrC (enc:=zaP) (nest:=zaY) (zx1 hz1)) ?_
     refine zep (L':=[cells b5 [hd2.v,hd3.v,hd4.v,hd5.v,zI r2.2.heights] 131,zv1 hd2.v r2.2.rows,zv0 hd3.v r2.2.blanks,zv0 hd4.v r2.2.firsts,zv0 hd5.v r2.2.lasts,cells b6 [zI l1.Width,zI l1.Height,zI l1.Turn,zI l1.Every,hd9.v,zI (r2.1+r3.2)] 81,zgc zaP zaY 43 1 hd18.v (b9++[page1]),emp,zv0 hd6.v r3.1,cells b13 [hd11.v] 43]) (zad [0,1,2,3,4,5,6,7,8,9] kr rfl) (zyR 1 rfl (zaD rfl dc rfl (zab zji rfl dc rfl (show _=4 from rfl) ?_)))
     refine zbb (k:=5) (l':=[zI l1.Width,zI l1.Height,zI l1.Turn,zI l1.Every,hd18.v,zI (r2.1+r3.2)]) zwQ rfl rfl rfl rfl rfl (fun _ _=>rfl) rfl ?_
     refine zyR 1 rfl (zaO (zag ?_))
     exact zal (b9++[page1],to1,hd18) h rfl (za0 rfl) (zad [0,1,2,3,4,5,6,8] kr rfl)
    rintro ⟨b10,from4,hd10⟩ h
    rw [hj2] at h
    refine zav ?_
    obtain ⟨hg7,h⟩:=zbr h
    refine zaU rfl (zaR (r:=x4+1) (IntWalk.i64_in _ hg7)) (zyR 1 rfl (zaO ?_))
    subst hag1
    exact za1 (n1,b10,from4,x4+1,hd10) h (Nat.lt_succ_self _) rfl (za0 rfl) (zad [0,1,2,3,4,5,6,7] kr rfl)
   refine za3 (zan (zan (zax ?_)))
   exact zal (b9,r2.1+r3.2,b6,hd9) h rfl (za0 rfl) (zad [5,6] kr rfl)
 rintro ⟨b3,b4,b2,hd1⟩ h
 rw [hj1] at h
 refine zyG (zyR 3 rfl (zyN (zaG ?_)))
 refine zoM (As:=[cells b2 [zI l1.Width,zI l1.Height,zI l1.Turn,zI l1.Every,hd1.v,zI b4] 81,zgc zaP zaY 43 1 hd1.v b3]) (zad [0,1] kr rfl) (zjz (enc:=zb6) (nest:=zb4) (t:=81) (x:=(⟨l1.Width,l1.Height,l1.Turn,l1.Every,b3,b4⟩:Gpage_Book)) (b:=b2) (hd:=hd1)) (fun _ _ => ?_)
 cases h
 exact zaK (rs:=[.tmp 4,.tmp 5]) (zP b2) (.inl rfl) Tryz.results28 (.cons (.tmp rfl) (.cons (.tmp rfl) .nil)) rfl (zad [2] kr rfl)
def zeK (b1:Gpage_Book):Option Int :=
some (b1.pages.length:Int)
theorem ziG {bb1:Nat} {b1:Gpage_Book} {b1_h0:Hd} {r:Int} (h:zeK b1=some r):FnR Tryz.prog 16 [zP bb1] [cells bb1 [zI b1.layout_Width,zI b1.layout_Height,zI b1.layout_Turn,zI b1.layout_Every,b1_h0.v,zI b1.cost] 81,zgc zaP zaY 43 1 b1_h0.v b1.pages] [] (fun _:Unit=>(zI r)) (fun _=>[]):=by
 unfold zeK at h
 refine FnR.intro Tryz.func16 rfl Tryz.ntmps16 (by simp) ?_
 intro w0 K hrd
 refine zyG (zyR 1 rfl (zyN (zaI (zyG (zyR 1 rfl (zaU rfl (zc6 Tryz.underlying25) (zyN (zaS rfl (zar ?_)))))))))
 refine zaH (zyG (zyR 1 rfl (zaD rfl dc rfl (zab zji rfl dc rfl (show _=4 from rfl) (zbw (i:=0) hrd rfl zqI rfl dc rfl rfl ?_)))))
 obtain ⟨zs1,hz1,hV1,hrd⟩:=hrd.openN (i:=1) rfl zew zgn
 replace hrd:Rd _ _ [cells bb1 [zI b1.layout_Width,zI b1.layout_Height,zI b1.layout_Turn,zI b1.layout_Every,b1_h0.v,zI b1.cost] 81,zgc zaP zaY 43 1 b1_h0.v b1.pages,zfh zaP 1 b1_h0.v 0 zs1,zlx zcP zs1]:=hrd
 refine zla hz1 hV1 rfl dc rfl Tryz.underlying79 (zyR 1 rfl (zyN (zaG ?_)))
 cases h
 exact zaK (rs:=[.tmp 2]) () (.inl rfl) Tryz.results16 (.cons (.tmp rfl) .nil) rfl Splits.nil
def zeW (b1:Gpage_Book):Option Int :=
some b1.cost
theorem zje {bb1:Nat} {b1:Gpage_Book} {b1_h0:Hd} {r:Int} (h:zeW b1=some r):FnR Tryz.prog 18 [zP bb1] [cells bb1 [zI b1.layout_Width,zI b1.layout_Height,zI b1.layout_Turn,zI b1.layout_Every,b1_h0.v,zI b1.cost] 81,zgc zaP zaY 43 1 b1_h0.v b1.pages] [] (fun _:Unit=>(zI r)) (fun _=>[]):=by
 unfold zeW at h
 refine FnR.intro Tryz.func18 rfl Tryz.ntmps18 (by simp) ?_
 intro w0 K hrd
 refine zyG (zyR 1 rfl (zyN (zaI (zyG (zyR 1 rfl (zaU rfl (zc6 Tryz.underlying25) (zyN (zaS rfl (zar ?_)))))))))
 refine zaH (zyG (zyR 1 rfl (zaD rfl dc rfl (zab zoA rfl dc rfl (show _=5 from rfl) (zbw (i:=0) hrd rfl zbp rfl dc rfl rfl (zyR 1 rfl (zyN (zaG ?_))))))))
 cases h
 exact zaK (rs:=[.tmp 2]) () (.inl rfl) Tryz.results18 (.cons (.tmp rfl) .nil) rfl Splits.nil
end Go.Proofs.YtbempdelckaccaaGreatDoor

namespace Go.Proofs.YtbempdelckaccaaGreatDoor
open Go.RowKit Go.Lib
set_option linter.unusedVariables false
set_option linter.unusedSimpArgs false
def zem (text1:ByteArray):Option ((List Gapi_Verse)×Bool) :=
zah (zfQ text1) fun (r1:(Gref17_Poem×(List Gapi_Verse)×Gapi_Spot)) =>
some (r1.2.1,(r1.2.2.Err:Int)==0)
theorem zkI {text1:ByteArray} {r:((List Gapi_Verse)×Bool)} (h:zem text1=some r):Fn Tryz.prog 30 [.string text1] [] (fun v0:Value=>.tuple #[v0,.bool r.2]) (fun v0=>[zv6 v0 r.1]):=by
 unfold zem at h
 refine Fn.intro Tryz.func30 rfl Tryz.ntmps30 (by simp) ?_
 intro w0 K
 refine zyG (zyR 2 rfl (zyH (zyR 1 rfl ?_)))
 obtain ⟨r1,hq1,h⟩:=zbi h
 refine zes (vs:=[.string text1]) rfl dc rfl rfl rfl zxk (zmN hq1) Splits.nil ?_
 rintro ⟨hd1,v1⟩
 refine zby (k:=1) rfl (fun hd2 he1 => ?_)
 subst he1
 refine zyR 1 rfl (zaN rfl dc rfl rfl (zaN rfl dc rfl rfl (zaN rfl dc rfl rfl ?_)))
 refine zbE zqg rfl dc (fun b1 => ?_)
 refine zbE zr9 rfl dc (fun b2 => ?_)
 refine za6 (k:=2) (vs:=[.string r1.1.Title,hd1.v]) (l':=[.string r1.1.Title,hd1.v]) znp rfl rfl rfl rfl rfl (show _≤_ by simp) rfl rfl (zyR 1 rfl (za6 (k:=3) (vs:=(zr6 r1.2.2)) (l':=(zr6 r1.2.2)) zkm rfl rfl rfl rfl rfl (show _≤_ by simp) rfl rfl ?_))
 refine zyN (zaI ?_)
 refine zbn 5 [(0,13,hd2.v),(1,14,zP b2),(2,15,zI r1.2.2.Err),(3,16,.bool ((r1.2.2.Err:Int)==0)),(4,2,hd2.v)] mixed kr kr dc (by rfl) kr kr (zyP 1 0 rfl (zac ?_ (zac ?_ (zac ?_ (zyP 1 4 rfl DrawPre.nil))))) ?_
 · exact fun D n d c u i=>zab zri rfl dc (zbe (by rfl) rfl) (show _=0 from rfl) (zaf 1 u i rfl)
 · exact fun D n d c u i=>zau (k:=3) zvo rfl dc (zaa (m:=1) u rfl (d 1 dc)) rfl rfl (zaf 2 u i rfl)
 · exact fun D n d c u i=>zbz rfl dc (zaa (m:=2) u rfl (d 2 dc)) rfl zaT (zaf 3 u i rfl)
 refine zyR 1 rfl (zyN (zaG ?_))
 cases h
 exact zaK (rs:=[.tmp 2,.tmp 3]) hd2.v (.inl rfl) Tryz.results30 (.cons (.tmp rfl) (.cons (.tmp rfl) .nil)) rfl (zad [1] kr rfl)
def zdz (r1:((List Gapi_Verse)×Bool)) (j1:Option ((Option Gpage_Book)×(List Gapi_Verse)×Bool×Bool)) (ag1:Int→Option ((Option Gpage_Book)×(List Gapi_Verse)×Bool×Bool)) (i3:Int):Option ((Option Gpage_Book)×(List Gapi_Verse)×Bool×Bool) :=
zay (decide ((i3:Int)<(r1.1.length:Int))) (
zah (zbm r1.1 i3) fun (q1:Gapi_Verse) =>
zay (decide ((200:Int)<(q1.Text.size:Int))) (
some (none,([]:List Gapi_Verse),false,true)
) (
grd (I64 (i3+1)) <|
ag1 (i3+1)
)
) (
j1
)
def zdY (text1:ByteArray) (l1:Gapi_Layout):Option ((Option Gpage_Book)×(List Gapi_Verse)×Bool×Bool) :=
zah (zem text1) fun (r1:((List Gapi_Verse)×Bool)) =>
zay (!r1.2) (
some (none,([]:List Gapi_Verse),false,true)
) (
zay (decide ((60:Int)<(r1.1.length:Int))) (
some (none,([]:List Gapi_Verse),false,true)
) (
zbk (fun (j1:Option ((Option Gpage_Book)×(List Gapi_Verse)×Bool×Bool)) =>
zaE (fun _=>none) (zdz r1 j1) zbN 0
) (
zah (ze1 text1) fun (r2:((Option Gpoem_Poem)×Gapi_Spot)) =>
zay (r2.1.isNone) (
some (none,([]:List Gapi_Verse),true,false)
) (
zay ((r2.2.Err:Int) != 0) (
some (none,([]:List Gapi_Verse),true,false)
) (
zah (r2.1) fun (p1:Gpoem_Poem) =>
zah (zf7 p1 l1) fun (r3:((Option Gpage_Book)×Int)) =>
zah (zfz l1) fun (r4:Bool) =>
zay (!r4) (
zay (r3.1.isNone) (
some (none,([]:List Gapi_Verse),false,(r3.2:Int)==2)
) (
some (none,([]:List Gapi_Verse),false,false)
)
) (
zay (!r3.1.isNone) (
some (r3.1,r1.1,true,(r3.2:Int)==0)
) (
some (r3.1,r1.1,true,false)
)
)
)
)
)
)
)
theorem znR {text1:ByteArray} {l1:Gapi_Layout} {r:((Option Gpage_Book)×(List Gapi_Verse)×Bool×Bool)} (h:zdY text1 l1=some r):Fn Tryz.prog 9 [.string text1,.agg (zr0 l1).toArray] [] (fun b:Value×Value=>.tuple #[b.1,b.2,.bool r.2.2.1,.bool r.2.2.2]) (fun b=>[zmP zb6 zb4 81 b.1 r.1,zv6 b.2 r.2.1]):=by
 unfold zdY at h
 refine Fn.intro Tryz.func9 rfl Tryz.ntmps9 (by simp) ?_
 intro w0 K
 refine zyG ?_
 refine zea rfl dc rfl (fun b1 => ?_)
 refine zyR 4 rfl (zyH (zyR 1 rfl ?_))
 obtain ⟨r1,hq1,h⟩:=zbi h
 refine zes (vs:=[.string text1]) rfl dc rfl rfl rfl zxC (zkI hq1) Splits.nil ?_
 rintro v1
 refine zby (k:=1) rfl (fun hd1 he1 => ?_)
 subst he1
 refine zyR 1 rfl (zaN rfl dc rfl rfl (zaN rfl dc rfl rfl (zyR 2 rfl (zyN (zaI (zyG (zyR 1 rfl (zee rfl dc rfl zcN (zyR 1 rfl ?_)))))))))
 refine zyS (s:=20) rfl h (fun h => ?_) (fun h => ?_)
 ·
  refine zyR 4 rfl (zyN (za5 rfl (zyG (zyR 4 rfl (zaO ?_)))))
  refine zaH (zaG (zao (zd8 zb6 zb4 81 ?_)))
  refine zdq (enc:=zbF) (e:=76) (size:=6) ?_
  cases h
  exact zaK (rs:=[.tmp 4,.tmp 5,.tmp 6,.tmp 7]) ((.pointer none),(.slice none 0 0)) (.inl rfl) Tryz.results9 (.cons (.tmp rfl) (.cons (.tmp rfl) (.cons (.tmp rfl) (.cons (.tmp rfl) .nil)))) rfl (zad [2,3] kr rfl)
 refine zyR 1 rfl (zbg (k:=1) rfl dc rfl rfl Tryz.underlying26 (zaU rfl zct (zyR 1 rfl (zyN ?_))))
 refine zyB rfl h (fun h => ?_) (fun h => ?_)
 ·
  refine zyG (zyR 4 rfl (zyN (zaG (zao (zd8 zb6 zb4 81 ?_)))))
  refine zdq (enc:=zbF) (e:=76) (size:=6) ?_
  cases h
  exact zaK (rs:=[.tmp 4,.tmp 5,.tmp 6,.tmp 7]) ((.pointer none),(.slice none 0 0)) (.inl rfl) Tryz.results9 (.cons (.tmp rfl) (.cons (.tmp rfl) (.cons (.tmp rfl) (.cons (.tmp rfl) .nil)))) rfl (zad [2,3] kr rfl)
 refine zar (zaH ?_)
 obtain ⟨j1,hj1,h⟩:=zbG h
 refine zaX (β:=Unit) 0 rfl (fun b=>j1=some r) (fun b=>[]) (fun b=>[(0,.string text1),(3,zP b1),(5,hd1.v)]) (fun b=>[cells b1 (zr0 l1) 23,zv6 hd1.v r1.1]) (fun cut => ?_) ?_
 ·
  refine cut (zyG (zyR 1 rfl (zyN (zaF ?_))))
  refine zbj (β:=Nat×Int) (fun b=>zaE (fun _=>none) (zdz r1 j1) b.1 b.2=some r) (fun b=>[]) (fun b=>[(0,.string text1),(3,zP b1),(5,hd1.v),(8,zI b.2)]) (fun b=>[cells b1 (zr0 l1) 23,zv6 hd1.v r1.1]) (fun b=>b.1) (zbN,0) h rfl (za0 rfl) (zad [0,1] kr rfl) ?_
  rintro ⟨n1,i3⟩ h
  cases n1 with
  | zero=>exact zdp h
  | succ n1 =>
   obtain ⟨ag1,hag1⟩:∃ ag,ag=zaE (fun _=>none) (zdz r1 j1) n1:=⟨_,rfl⟩
   have h:zdz r1 j1 ag1 i3=some r:=by rw [hag1]; exact h
   unfold zdz at h
   refine zaI (zyG (zyR 2 rfl (zbg (k:=1) rfl dc rfl rfl Tryz.underlying26 (zaU rfl zbc (zyN ?_)))))
   refine zyB rfl h (fun h => ?_) (fun h => ?_)
   ·
    refine zar (zaH (zaI (zaF (zyG (zyR 2 rfl ?_)))))
    obtain ⟨q1,hq2,h⟩:=zbi h
    refine zaj (k:=1) hq2 Tryz.underlying26 zlq rfl dc rfl rfl rfl rfl (zab zoB rfl dc rfl (show _=((i3:Int).toNat)*6 from rfl) (zaA (i:=(i3:Int).toNat) (j:=0) (k:=1) (q:=q1) zp7 zdR rfl dc rfl rfl (zaz hq2) rfl dc rfl (zcg rfl dc rfl Tryz.underlying9 (zaU rfl zct (zyN ?_)))))
    refine zyB rfl h (fun h => ?_) (fun h => ?_)
    ·
     refine zyG (zyR 4 rfl (zyN (zaG (zat (zao (zao (zat (zao ?_))))))))
     refine zd8 zb6 zb4 81 ?_
     refine zdq (enc:=zbF) (e:=76) (size:=6) ?_
     cases h
     exact zaK (rs:=[.tmp 4,.tmp 5,.tmp 6,.tmp 7]) ((.pointer none),(.slice none 0 0)) (.inl rfl) Tryz.results9 (.cons (.tmp rfl) (.cons (.tmp rfl) (.cons (.tmp rfl) (.cons (.tmp rfl) .nil)))) rfl (zad [2,3] kr rfl)
    refine zar (zag (zaH (zav (zyR 1 rfl ?_))))
    obtain ⟨hg1,h⟩:=zbr h
    refine zaU rfl (zaR (r:=i3+1) (IntWalk.i64_in _ hg1)) (zyR 1 rfl (zaO ?_))
    subst hag1
    exact za1 (n1,i3+1) h (Nat.lt_succ_self _) rfl (za0 rfl) (zad [0,1] kr rfl)
   refine za3 (zan (zan (zax ?_)))
   exact zal () h rfl (za0 rfl) (zad [0,1] kr rfl)
 rintro _ h
 rw [hj1] at h
 refine zyG (zyR 1 rfl ?_)
 obtain ⟨r2,hq3,h⟩:=zbi h
 refine zes (vs:=[.string text1]) rfl dc rfl rfl rfl zxF (znI hq3) Splits.nil ?_
 rintro v2
 refine zep (L':=[cells b1 (zr0 l1) 23,zv6 hd1.v r1.1,zmP zdc zdb 106 v2 r2.1]) (zad [0,1,2] kr rfl) (zyR 1 rfl (zaN rfl dc rfl rfl (zaN rfl dc rfl rfl ?_)))
 refine zbE zr9 rfl dc (fun b2 => ?_)
 refine zyR 1 rfl (za6 (k:=3) (vs:=(zr6 r2.2)) (l':=(zr6 r2.2)) zkm rfl rfl rfl rfl rfl (show _≤_ by simp) rfl rfl ?_)
 refine zyN (zaI (zyG (zyR 1 rfl ?_)))
 refine zk7 (k:=2) rfl (fun hv1 => ?_)
 refine zaU rfl (zmc Tryz.underlying58 hv1) (zyR 1 rfl ?_)
 refine zyS (s:=45) rfl h (fun h => ?_) (fun h => ?_)
 ·
  refine zyR 4 rfl (zyN (za5 rfl (zyG (zyR 4 rfl (zaO ?_)))))
  refine zaH (zaG (zao (zd8 zb6 zb4 81 ?_)))
  refine zdq (enc:=zbF) (e:=76) (size:=6) ?_
  cases h
  exact zaK (rs:=[.tmp 4,.tmp 5,.tmp 6,.tmp 7]) ((.pointer none),(.slice none 0 0)) (.inl rfl) Tryz.results9 (.cons (.tmp rfl) (.cons (.tmp rfl) (.cons (.tmp rfl) (.cons (.tmp rfl) .nil)))) rfl (zad [4,5] kr rfl)
 refine zab zri rfl dc rfl (show _=0 from rfl) (zau (k:=3) zvo rfl dc rfl rfl rfl (zaU rfl zbS (zyR 1 rfl (zyN ?_))))
 refine zyB rfl h (fun h => ?_) (fun h => ?_)
 ·
  refine zyG (zyR 4 rfl (zyN (zaG (zao (zd8 zb6 zb4 81 ?_)))))
  refine zdq (enc:=zbF) (e:=76) (size:=6) ?_
  cases h
  exact zaK (rs:=[.tmp 4,.tmp 5,.tmp 6,.tmp 7]) ((.pointer none),(.slice none 0 0)) (.inl rfl) Tryz.results9 (.cons (.tmp rfl) (.cons (.tmp rfl) (.cons (.tmp rfl) (.cons (.tmp rfl) .nil)))) rfl (zad [4,5] kr rfl)
 refine zar (zaH (zyG (zyR 1 rfl (zbd (k:=0) (cs:=(zr0 l1)) zja rfl dc rfl rfl rfl rfl ?_))))
 obtain ⟨p1,hq4,h⟩:=zbi h
 refine zoQ (As:=[zmP zdc zdb 106 v2 r2.1]) (zad [2] kr rfl) (zhJ hq4) ?_
 rintro ⟨b3,hd2,hd3⟩ hv2
 have hkp:=h
 subst hv2
 have h:=hkp
 obtain ⟨r3,hq5,h⟩:=zbi h
 refine zft (vs:=[zP b3,.agg (zr0 l1).toArray]) (Rd.nil:Rd _ _ []) rfl dc rfl rfl rfl zxE (zou (bx1:=b3) (x1:=p1) (x1_h0:=hd2) (x1_h1:=hd3) (l1:=l1) hq5) Splits.nil (.own (zad [4] (by kernel_rfl) rfl) (fun _ _ h=>sepL.one1.1 h) (.own (zad [5] (by kernel_rfl) rfl) (fun _ _ h=>sepL.one1.1 h) (.own (zad [6] (by kernel_rfl) rfl) (fun _ _ h=>sepL.one1.1 h) .nil))) ?_
 rintro v3
 refine zep (L':=[cells b1 (zr0 l1) 23,zv6 hd1.v r1.1,emp,cells b2 (zr6 r2.2) 60,cells b3 [.string p1.told_title,hd2.v,hd3.v,.string p1.source] 106,zv6 hd2.v p1.told_lines,zv7 hd3.v p1.told_stanzas,zmP zb6 zb4 81 v3 r3.1]) (zad [0,1,2,3,4,5,6,7] kr rfl) (zyR 1 rfl (zaN rfl dc rfl rfl (zaN rfl dc rfl rfl (zyR 2 rfl (zyH (zbd (k:=0) (cs:=(zr0 l1)) zja rfl dc rfl rfl rfl rfl ?_))))))
 obtain ⟨r4,hq6,h⟩:=zbi h
 refine zbD (v:=.bool r4) (vs:=[.agg (zr0 l1).toArray]) rfl dc rfl rfl rfl zxB (znG (l1:=l1) hq6) (zyR 1 rfl (zyN (zaI (zyG (zyR 1 rfl (zee rfl dc rfl zcN (zyN ?_)))))))
 refine zyB rfl h (fun h => ?_) (fun h => ?_)
 ·
  refine zyG (zyR 1 rfl ?_)
  refine zk7 (k:=7) rfl (fun hv3 => ?_)
  refine zaU rfl (zmc Tryz.underlying25 hv3) (zyR 1 rfl ?_)
  refine zyS (s:=62) rfl h (fun h => ?_) (fun h => ?_)
  ·
   refine zyR 1 rfl (zaU rfl zaT (zyR 5 rfl (zyN (zaG (zao (zd8 zb6 zb4 81 ?_))))))
   refine zdq (enc:=zbF) (e:=76) (size:=6) ?_
   cases h
   exact zaK (rs:=[.tmp 4,.tmp 5,.tmp 6,.tmp 7]) ((.pointer none),(.slice none 0 0)) (.inl rfl) Tryz.results9 (.cons (.tmp rfl) (.cons (.tmp rfl) (.cons (.tmp rfl) (.cons (.tmp rfl) .nil)))) rfl (zad [8,9] kr rfl)
  refine zyR 7 rfl (zyN (zaG (zao (zd8 zb6 zb4 81 ?_))))
  refine zdq (enc:=zbF) (e:=76) (size:=6) ?_
  cases h
  exact zaK (rs:=[.tmp 4,.tmp 5,.tmp 6,.tmp 7]) ((.pointer none),(.slice none 0 0)) (.inl rfl) Tryz.results9 (.cons (.tmp rfl) (.cons (.tmp rfl) (.cons (.tmp rfl) (.cons (.tmp rfl) .nil)))) rfl (zad [8,9] kr rfl)
 refine zar (zaH (zyG (zyR 3 rfl ?_)))
 refine zk7 (k:=7) rfl (fun hv4 => ?_)
 refine zaU rfl (zp4 Tryz.underlying25 hv4) (zyR 1 rfl ?_)
 refine zyS (s:=70) rfl h (fun h => ?_) (fun h => ?_)
 ·
  refine zyR 1 rfl (zaU rfl zaT (zyR 5 rfl (zyN (zaG ?_))))
  cases h
  exact zaK (rs:=[.tmp 4,.tmp 5,.tmp 6,.tmp 7]) (v3,hd1.v) (.inl rfl) Tryz.results9 (.cons (.tmp rfl) (.cons (.tmp rfl) (.cons (.tmp rfl) (.cons (.tmp rfl) .nil)))) rfl (zad [7,1] kr rfl)
 refine zyR 7 rfl (zyN (zaG ?_))
 cases h
 exact zaK (rs:=[.tmp 4,.tmp 5,.tmp 6,.tmp 7]) (v3,hd1.v) (.inl rfl) Tryz.results9 (.cons (.tmp rfl) (.cons (.tmp rfl) (.cons (.tmp rfl) (.cons (.tmp rfl) .nil)))) rfl (zad [7,1] kr rfl)
end Go.Proofs.YtbempdelckaccaaGreatDoor

namespace Go.Proofs.YtbempdelckaccaaGreatDoor
open Go.RowKit Go.Lib
set_option linter.unusedVariables false
set_option linter.unusedSimpArgs false
theorem ztb {z:List Row} {k:Nat} (ih:∀ vs:List Gapi_Verse,vs.map zpj=(zfR (k+1) z).map zp9→Stp ((k+1:Nat):Int) vs):∀ (r:Row) (j:Nat) (vs:List Gapi_Verse),vs.map zpj=((zgS j r).map (fun p=>(k,p))++zfR (k+1) z).map zp9→Stp ((k+1:Nat):Int) vs
 | [],j,vs,h=>ih vs h
 | x::r,j,[],h=>trivial
 | x::r,j,v::vs,h=>by
  obtain ⟨h1,h2⟩:=List.cons.inj (show zpj v::vs.map zpj=zp9 (k,j,x)::((zgS (j+1) r).map (fun p=>(k,p))++zfR (k+1) z).map zp9 from h)
  have hs:v.Stanza=(k:Int):=congrArg (fun q=>q.2.2.1) h1
  refine ⟨.inr ⟨by omega,by omega⟩,?_⟩
  rw [hs,show (k:Int)+1=((k+1:Nat):Int) by omega]
  exact ztb ih r (j+1) vs h2
theorem zo5:∀ (z:List Row) (k:Nat) (vs:List Gapi_Verse),(∀ r∈z,r≠[])→vs.map zpj=(zfR k z).map zp9→Stp (k:Int) vs
 | [],k,vs,_,h=>by
  have:vs=[]:=by simpa [zfR] using h
  rw [this]; trivial
 | []::z,k,vs,hne,h=>absurd rfl (hne [] (List.mem_cons_self ..))
 | (x::r)::z,k,[],hne,h=>trivial
 | (x::r)::z,k,v::vs,hne,h=>by
  obtain ⟨h1,h2⟩:=List.cons.inj (show zpj v::vs.map zpj=zp9 (k,0,x)::((zgS 1 r).map (fun p=>(k,p))++zfR (k+1) z).map zp9 from h)
  have hs:v.Stanza=(k:Int):=congrArg (fun q=>q.2.2.1) h1
  refine ⟨.inl hs,?_⟩
  rw [hs,show (k:Int)+1=((k+1:Nat):Int) by omega]
  exact ztb (fun vs h=>zo5 z (k+1) vs (fun r hr=>hne r (List.mem_cons_of_mem _ hr)) h) r 1 vs h2
theorem zrH (n:Nat):zi1 (List.replicate n 32)=true:=by
 unfold zi1
 rw [List.all_eq_true]
 intro b hb
 rw [(List.mem_replicate.1 hb).2]; rfl
theorem OkP.okV {p:Gpoem_Poem} {t:List UInt8} {z:List Row} (h:OkP p t z):∀ v∈p.told_lines,OkV v:=by
 intro v hv
 obtain ⟨i,hi⟩:=List.getElem?_of_mem hv
 have hk:(p.told_lines.map zpj)[i]?=some (zpj v):=by rw [List.getElem?_map,hi]; rfl
 rw [show p.told_lines.map zpj=(zfR 0 z).map zp9 from h.vok,List.getElem?_map] at hk
 obtain ⟨q,hq,he⟩:=Option.map_eq_some_iff.1 hk
 obtain ⟨r,hr,hx⟩:=zkG z 0 q (List.mem_of_getElem? hq)
 have hg:=h.ln r hr _ hx
 have e1:v.Text=mkB (q.2.2.drop (ind q.2.2)):=(congrArg (fun q=>q.1) he).symm
 have e2:v.Indent=(ind q.2.2:Int):=(congrArg (fun q=>q.2.1) he).symm
 have hle:=zpk q.2.2
 have hl:=hg.le
 refine ⟨?_,?_,?_⟩
 ·rw [e1,zbq,List.length_drop]; omega
 ·rw [e1,zbq]
  cases hd:q.2.2.drop (ind q.2.2) with
  | nil =>
   have:=zkK q.2.2
   rw [hd,List.append_nil] at this
   have hb:=hg.bl
   rw [← this,zrH] at hb
   cases hb
  | cons b l=>simp
 ·rw [e2]; omega
theorem OkP.stp {p:Gpoem_Poem} {t:List UInt8} {z:List Row} (h:OkP p t z):Stp 0 p.told_lines:=zo5 z 0 p.told_lines h.ne h.vok
def blankR:Gapi_Row:=⟨-1,0,0,0,0,ByteArray.empty⟩
def pgL:Option Int→List Gapi_Row→List Gapi_Row
 | _,[]=>[]
 | none,r::rs=>r::pgL (some r.Stanza) rs
 | some s,r::rs=>if r.Stanza=s then r::pgL (some r.Stanza) rs else blankR::r::pgL (some r.Stanza) rs
theorem zfX (s:Int) (r:Gapi_Row) (rs:List Gapi_Row):pgL (some s) (r::rs)=if r.Stanza=s then r::pgL (some r.Stanza) rs else blankR::r::pgL (some r.Stanza) rs:=rfl
def zgl (rows:List Gapi_Row):Nat→List Nat→List (List Gapi_Row)
 | _,[]=>[]
 | f,t::ts=>pgL none ((rows.drop f).take (t - f))::zgl rows t ts
def zgI (l:Gapi_Layout) (vs:List Gapi_Verse):Gpage_Book:=⟨l.Width,l.Height,l.Turn,l.Every,zgl (zcJ l 0 vs) 0 (zhE (zcJ l 0 vs) l.Height),zgp l vs+(Tt (zcJ l 0 vs) l.Height 0).cost⟩
theorem zlW (rows:List Gapi_Row):∀ (ts:List Nat) (f:Nat),(zgl rows f ts).length=ts.length
 | [],_=>rfl
 | t::ts,f=>by show (zgl rows t ts).length+1=_; rw [zlW rows ts]; rfl
theorem zos:∀ (l:List Gapi_Row) (o:Option Int),(pgL o l).length≤2*l.length
 | [],o=>by cases o <;> exact Nat.le_refl _
 | r::rs,none=>by have:=zos rs (some r.Stanza); show (pgL (some r.Stanza) rs).length+1≤_; rw [List.length_cons]; omega
 | r::rs,some s=>by
  have:=zos rs (some r.Stanza)
  unfold pgL
  split <;> simp only [List.length_cons] <;> omega
theorem zvm {rows:List Gapi_Row} (hn:rows.length≤1000000) (c H:Int) (Bl F L:List Int) (f:Nat) (j3:Int→(List Gapi_Row)→Option ((Option Gpage_Book)×Int)) (t:Nat) (ht:t≤rows.length) :
  ∀ (d k m:Nat) (pg:List Gapi_Row),f≤k→k+d=t→d<m→pg.length≤2*(k - f)→zaE (fun _ _=>none) (zdW (c,(⟨rows,Bl,F,L,H⟩:Gpage_parter)) (f:Int) j3 (t:Int)) m pg (k:Int)=j3 (t:Int) (pg++pgL (if f<k then some (stz rows (k - 1)) else none) ((rows.drop k).take (t - k))):=by
 intro d
 induction d with
 | zero =>
  intro k m pg hf hk hm hp
  obtain ⟨m,rfl⟩:∃ q,m=q+1:=⟨m - 1,by omega⟩
  rw [zb5]
  generalize zaE (fun _ _=>none) (zdW (c,(⟨rows,Bl,F,L,H⟩:Gpage_parter)) (f:Int) j3 (t:Int)) m=ag
  unfold zdW
  refine zaw (decide_eq_false (by omega)) ?_
  have e:(rows.drop k).take (t - k)=[]:=by rw [show t - k=0 by omega,List.take_zero]
  have e2:∀ o,pgL o []=[]:=fun o=>by cases o <;> rfl
  rw [e,e2,List.append_nil]
 | succ d ih =>
  intro k m pg hf hk hm hp
  obtain ⟨m,rfl⟩:∃ q,m=q+1:=⟨m - 1,by omega⟩
  rw [zb5]
  have ih':=fun pg h=>ih (k+1) m pg (by omega) (by omega) (by omega) h
  generalize zaE (fun _ _=>none) (zdW (c,(⟨rows,Bl,F,L,H⟩:Gpage_parter)) (f:Int) j3 (t:Int)) m=ag at ih' ⊢
  have hr:rows[k]?=some rows[k]:=List.getElem?_eq_getElem (by omega)
  have hst:=zgf hr
  have hd:(rows.drop k).take (t - k)=rows[k]::(rows.drop (k+1)).take (t - (k+1)):=by
   rw [List.drop_eq_getElem_cons (show k<rows.length by omega),show t - k=t - (k+1)+1 by omega,List.take_succ_cons]
  rw [hd]
  rw [if_pos (show f<k+1 by omega),show k+1 - 1=k by omega,hst,show ((k+1:Nat):Int)=(k:Int)+1 by omega] at ih'
  have fin:∀ pg':List Gapi_Row,pg'.length+1≤2*(k+1 - f)→(zah (zbm rows (k:Int)) fun (q4:Gapi_Row)=>grd (pg'.length+1≤2147483648)<|grd (I64 ((k:Int)+1))<|ag (pg'++[q4]) ((k:Int)+1))=j3 (t:Int) (pg'++rows[k]::pgL (some rows[k].Stanza) ((rows.drop (k+1)).take (t - (k+1)))):=by
   intro pg' hp'
   refine zaJ (zcj hr) (zbl (by omega) (zbl ⟨by omega,by omega⟩ ?_))
   rw [ih' _ (by rw [List.length_append,List.length_singleton]; omega),List.append_assoc]; rfl
  unfold zdW
  refine zaC (decide_eq_true (by omega)) (zbs ?_)
  by_cases h0:f<k
  ·have hr0:rows[k - 1]?=some rows[k - 1]:=List.getElem?_eq_getElem (by omega)
   have hst0:=zgf hr0
   rw [if_pos h0,hst0]
   refine zaC (decide_eq_true (by omega)) (zaJ (zcj hr) (zbl ⟨by omega,by omega⟩ (zaJ (zdk (n:=k - 1) (by omega) hr0) ?_)))
   by_cases he:rows[k].Stanza=rows[k - 1].Stanza
   ·refine zaw (zvI he) ((fin pg (by omega)).trans ?_)
    rw [zfX,if_pos he]
   ·refine zaC (zth he) (zbl (by omega) ((fin _ (by rw [List.length_append,List.length_singleton]; omega)).trans ?_))
    rw [zfX,if_neg he,List.append_assoc]; rfl
  ·rw [if_neg h0]
   refine zaw (decide_eq_false (by omega)) ((fin pg (by omega)).trans ?_)
   rfl
theorem zqB {rows:List Gapi_Row} (hn:rows.length≤1000000) (c c2 H:Int) (Bl F L:List Int) (R:Nat→Nat→Bool) (j1:(List (List Gapi_Row))→Int→Option ((Option Gpage_Book)×Int)) (E:List Nat) :
  ∀ (ts pre:List Nat) (f m:Nat) (out:List (List Gapi_Row)),E=pre++ts→zoU R rows.length f ts→ts.length<m→out.length≤f→out.length=pre.length →
  zaE (fun _ _ _=>none) (zdX j1 (c,(⟨rows,Bl,F,L,H⟩:Gpage_parter)) (E.map (fun t=>((t:Nat):Int)),c2)) m out (f:Int) (pre.length:Int)=j1 (out++zgl rows f ts) (c+c2)
 | [],pre,f,m,out,hE,hr,hm,ho,hp=>by
  obtain ⟨m,rfl⟩:∃ q,m=q+1:=⟨m - 1,by simp at hm; omega⟩
  rw [zb5]
  generalize zaE (fun _ _ _=>none) (zdX j1 (c,(⟨rows,Bl,F,L,H⟩:Gpage_parter)) (E.map (fun t=>((t:Nat):Int)),c2)) m=ag
  unfold zdX
  refine zaw (decide_eq_false (by rw [List.length_map,hE]; simp)) ?_
  show j1 out (c+c2)=j1 (out++[]) (c+c2)
  rw [List.append_nil]
 | t::ts,pre,f,m,out,hE,hr,hm,ho,hp=>by
  obtain ⟨m,rfl⟩:∃ q,m=q+1:=⟨m - 1,by simp at hm; omega⟩
  obtain ⟨r1,r2,_,r3⟩:=hr
  have ih:=zqB hn c c2 H Bl F L R j1 E ts (pre++[t]) t m (out++[pgL none ((rows.drop f).take (t - f))]) (by rw [hE]; simp) r3 (by simp at hm; omega) (by simp; omega) (by simp; omega)
  have hpl:pre.length<E.length:=by rw [hE]; simp
  rw [zb5]
  generalize zaE (fun _ _ _=>none) (zdX j1 (c,(⟨rows,Bl,F,L,H⟩:Gpage_parter)) (E.map (fun t=>((t:Nat):Int)),c2)) m=ag at ih ⊢
  have hg:(E.map (fun t=>((t:Nat):Int)))[pre.length]?=some (t:Int):=by rw [List.getElem?_map,hE]; simp
  rw [show (((pre++[t]).length:Nat):Int)=(pre.length:Int)+1 by simp] at ih
  unfold zdX
  refine zaC (zow hg) (zbs (zbs (zaJ (zcj hg) ?_)))
  have hin:=zvm hn c H Bl F L f (fun (to1:Int) (page1:List Gapi_Row)=>grd (out.length+1≤2147483648)<|grd (I64 ((pre.length:Int)+1))<|ag (out++[page1]) to1 ((pre.length:Int)+1)) t r2 (t - f) f zbN [] (Nat.le_refl _) (by omega) (zbM (by omega)) (Nat.zero_le _)
  refine hin.trans ?_
  rw [if_neg (Nat.lt_irrefl f),List.nil_append]
  refine zbl (by omega) (zbl ⟨by omega,by omega⟩ ?_)
  rw [ih,List.append_assoc]; rfl
theorem ztv {rows:List Gapi_Row} {F L:List Int} {H:Int} (hR:RowsOk rows F L) (hH:4≤H∧H≤200) (f:Nat):0≤(Tt rows H f).cost∧(Tt rows H f).cost≤2000000000000*1000000:=by
 have hok:=zjX (R:=Rp rows H) (K:=Kp rows H) (n:=rows.length) (zjN hR hH) rows.length f
 obtain ⟨a,b,_⟩:=hok
 have hn:=hR.n
 refine ⟨a,?_⟩
 show (Bf (Rp rows H) (Kp rows H) rows.length rows.length f).cost≤_
 omega
theorem zti {l:Gapi_Layout} (h:zlk l=true):4≤l.Height∧l.Height≤200:=by
 unfold zlk at h
 simp only [Bool.and_eq_true,decide_eq_true_eq] at h
 omega
theorem zx0 (l:Gapi_Layout) (p:Gpoem_Poem) (hv:∀ v∈p.told_lines,OkV v) (hl:p.told_lines.length≤512) (hst:Stp 0 p.told_lines):zf7 p l=if zlk l=true then some (some (zgI l p.told_lines),0) else some (none,2):=by
 unfold zf7
 refine zaJ (zw2 l) ?_
 cases hm:zlk l with
 | false=>exact zaC rfl rfl
 | true =>
  rw [if_pos rfl]
  have hR:=zpb hm p.told_lines hv hl hst
  have hH:=zti hm
  have hn:=hR.n
  have c1:=zk1 hm p.told_lines hv
  have c2:=ztv hR hH 0
  refine zaw rfl (zbs (zaJ (zuj l hm p l.Height hv hl hst) (zaJ (zug hR hH) (zbl ?_ ?_))))
  ·show I64 (zgp l p.told_lines+(Tt (zcJ l 0 p.told_lines) l.Height 0).cost)
   exact ⟨by omega,by omega⟩
  ·have hr:=zjp (R:=Rp (zcJ l 0 p.told_lines) l.Height) (K:=Kp (zcJ l 0 p.told_lines) l.Height) (n:=(zcJ l 0 p.told_lines).length) (zjN hR hH) (zmf hH) (zcJ l 0 p.told_lines).length 0 (Nat.zero_le _) (by omega)
   have hlen:(zhE (zcJ l 0 p.told_lines) l.Height).length≤(zcJ l 0 p.told_lines).length:=by
    have key:∀ (ts:List Nat) (f:Nat),zoU (Rp (zcJ l 0 p.told_lines) l.Height) (zcJ l 0 p.told_lines).length f ts→f+ts.length≤(zcJ l 0 p.told_lines).length:=by
     intro ts
     induction ts with
     | nil=>intro f h; have:f=_:=h; simp; omega
     | cons t ts ih=>intro f h; obtain ⟨a,b,_,d⟩:=h; have:=ih t d; rw [List.length_cons]; omega
    have h9:=key _ _ hr
    have h8:(zhE (zcJ l 0 p.told_lines) l.Height).length≤(zcJ l 0 p.told_lines).length:=by rw [Nat.zero_add] at h9; exact h9
    exact h8
   exact zqB hn (zgp l p.told_lines) (Tt (zcJ l 0 p.told_lines) l.Height 0).cost l.Height _ _ _ _ (fun (b3:List (List Gapi_Row)) (b4:Int)=>some ((some (⟨l.Width,l.Height,l.Turn,l.Every,b3,b4⟩:Gpage_Book)),0)) (zhE (zcJ l 0 p.told_lines) l.Height) (zhE (zcJ l 0 p.told_lines) l.Height) [] 0 zbN [] rfl hr (zbM (n:=(zhE (zcJ l 0 p.told_lines) l.Height).length) (by omega)) (Nat.le_refl _) rfl
theorem zt5 {U:List UInt8} {e:Gapi_Spot} (h:rd U=.error e):e.Err=3:=by
 have key:∀ (xs:List (Nat×List UInt8)) (st:RS),zhe st xs=.error e→e.Err=3:=by
  intro xs
  induction xs with
  | nil=>intro st h; cases h
  | cons x xs ih =>
   intro st h
   unfold zhe at h
   cases hs:zgi st x with
   | ok s1=>rw [hs] at h; exact ih s1 h
   | error e' =>
    rw [hs] at h
    have:e'=e:=by cases h; rfl
    subst this
    unfold zgi at hs
    split at hs
    ·cases hs
    split at hs
    ·cases hs; rfl
    split at hs
    ·cases hs
    split at hs
    ·cases hs; rfl
    ·cases hs
 unfold rd at h
 split at h
 ·cases h; rfl
 ·exact key _ _ h
structure PgOk (vs:List Gapi_Verse):Prop where
 ok:∀ v∈vs,OkV v
 len:vs.length≤60
 stp:Stp 0 vs
 sz:∀ v∈vs,v.Text.size≤200
theorem zsh (vs:List Gapi_Verse) (b:Bool) (hl:vs.length≤60) (j:Option ((Option Gpage_Book)×(List Gapi_Verse)×Bool×Bool)):∀ (d i m:Nat),i+d=vs.length→d<m→zaE (fun _=>none) (zdz (vs,b) j) m (i:Int)=if (vs.drop i).all (fun v=>decide (v.Text.size≤200))=true then j else some (none,([]:List Gapi_Verse),false,true):=by
 intro d
 induction d with
 | zero =>
  intro i m hi hm
  obtain ⟨m,rfl⟩:∃ q,m=q+1:=⟨m - 1,by omega⟩
  rw [zb5]
  generalize zaE (fun _=>none) (zdz (vs,b) j) m=ag
  unfold zdz
  refine zaw (decide_eq_false (by show ¬ (i:Int)<(vs.length:Int); omega)) ?_
  rw [List.drop_of_length_le (by omega)]; rfl
 | succ d ih =>
  intro i m hi hm
  obtain ⟨m,rfl⟩:∃ q,m=q+1:=⟨m - 1,by omega⟩
  rw [zb5]
  have ih':=ih (i+1) m (by omega) (by omega)
  rw [show ((i+1:Nat):Int)=(i:Int)+1 by omega] at ih'
  generalize zaE (fun _=>none) (zdz (vs,b) j) m=ag at ih' ⊢
  have hv:vs[i]?=some vs[i]:=List.getElem?_eq_getElem (by omega)
  unfold zdz
  refine zaC (decide_eq_true (by show (i:Int)<(vs.length:Int); omega)) (zaJ (zcj hv) ?_)
  rw [List.drop_eq_getElem_cons (show i<vs.length by omega),List.all_cons]
  by_cases h:vs[i].Text.size≤200
  ·refine zaw (decide_eq_false (by omega)) (zbl ⟨by omega,by omega⟩ ?_)
   rw [decide_eq_true h,Bool.true_and]; exact ih'
  ·rw [decide_eq_false h,Bool.false_and,if_neg (by decide)]
   exact zaC (decide_eq_true (by omega)) rfl
theorem zqD (T:List UInt8) (l:Gapi_Layout):zdY (mkB T) l=some (none,([]:List Gapi_Verse),false,true) ∨
  ∃ p t z,OkP p t z∧zlk l=true∧PgOk p.told_lines∧ze1 (mkB T)=some (some p,(⟨0,0⟩:Gapi_Spot))∧zdY (mkB T) l=some (some (zgI l p.told_lines),p.told_lines,true,true):=by
 have hr:=zqP T
 have hp:=zvx T
 cases hrd:rd T with
 | error e =>
  rw [hrd] at hr
  refine .inl ?_
  unfold zdY zem
  have he:=zt5 hrd
  exact zaJ (zaJ hr rfl) (zaC (by show (!((e.Err:Int)==0))=true; rw [he]; rfl) rfl)
 | ok st =>
  rw [hrd] at hr hp
  have hp:ze1 (mkB T)=some (some (⟨mkB st.t,st.vs,zi9 0 st.stz,mkB T⟩:Gpoem_Poem),(⟨0,0⟩:Gapi_Spot)):=hp
  have hok:=(zwW hrd).1.ok (mkB T)
  generalize hP:(⟨mkB st.t,st.vs,zi9 0 st.stz,mkB T⟩:Gpoem_Poem)=p at hp hok
  have hvs:p.told_lines=st.vs:=by rw [← hP]
  have hV:zem (mkB T)=some (p.told_lines,true):=by unfold zem; rw [hvs]; exact zaJ hr rfl
  have hov:=hok.okV
  have hst:=hok.stp
  have hSet:=fun h=>zx0 l p hov h hst
  by_cases h60:p.told_lines.length≤60
  ·have hloop:=zsh p.told_lines true h60
   cases hall:p.told_lines.all (fun v=>decide (v.Text.size≤200)) with
   | false =>
    refine .inl ?_
    unfold zdY
    refine zaJ hV (zaw rfl (zaw (decide_eq_false (by show ¬ (60:Int)<(p.told_lines.length:Int); omega)) (zbs ?_)))
    refine (hloop _ p.told_lines.length 0 zbN (by omega) (zbM (by omega))).trans ?_
    rw [List.drop_zero,hall]; rfl
   | true =>
    have run:∀ x,(zah (zf7 p l) fun (r3:((Option Gpage_Book)×Int))=>zah (zfz l) fun (r4:Bool)=>zay (!r4) (zay (r3.1.isNone) (some (none,([]:List Gapi_Verse),false,(r3.2:Int)==2)) (some (none,([]:List Gapi_Verse),false,false))) (zay (!r3.1.isNone) (some (r3.1,p.told_lines,true,(r3.2:Int)==0)) (some (r3.1,p.told_lines,true,false))))=x→zdY (mkB T) l=x:=by
     intro x hx
     unfold zdY
     refine zaJ hV (zaw rfl (zaw (decide_eq_false (by show ¬ (60:Int)<(p.told_lines.length:Int); omega)) (zbs ?_)))
     refine (hloop _ p.told_lines.length 0 zbN (by omega) (zbM (by omega))).trans ?_
     rw [List.drop_zero,hall,if_pos rfl]
     exact zaJ hp (zaw rfl (zaw rfl (zaJ rfl hx)))
    have hS:=hSet (by omega)
    cases hm:zlk l with
    | false =>
     rw [hm,if_neg (by decide)] at hS
     exact .inl (run _ (zaJ hS (zaJ (ztf l) (by rw [hm]; exact zaC rfl (zaC rfl rfl)))))
    | true =>
     rw [hm,if_pos rfl] at hS
     refine .inr ⟨p,st.t,st.stz,hok,rfl,⟨hov,h60,hst,fun v hv => ?_⟩,hp,run _ (zaJ hS (zaJ (ztf l) (by rw [hm]; exact zaw rfl (zaC rfl rfl))))⟩
     have:=List.all_eq_true.1 hall v hv
     exact of_decide_eq_true this
  ·refine .inl ?_
   unfold zdY
   exact zaJ hV (zaw rfl (zaC (decide_eq_true (by show (60:Int)<(p.told_lines.length:Int); omega)) rfl))
end Go.Proofs.YtbempdelckaccaaGreatDoor
