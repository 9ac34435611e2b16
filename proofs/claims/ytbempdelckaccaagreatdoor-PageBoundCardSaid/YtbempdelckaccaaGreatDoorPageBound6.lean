/-
  Texts laid together: LgA, PgB, PgC, PgD, LgB, LgD, PgE, PgG, PgH, LgG, LgK, LgN, PgI, PgJ, LgI, LgO, PqJ, PqK, PgM, LgF, LgM, PlPageBack. Nothing is assumed.
-/
import Derived.Test.YtbempdelckaccaaGreatDoorPageBound3
import Derived.Test.YtbempdelckaccaaGreatDoorPageBound5
import Derived.Test.YtbempdelckaccaaGreatDoorPageBound2
import Derived.Test.YtbempdelckaccaaGreatDoorPageBound4
set_option maxRecDepth 100000
set_option maxHeartbeats 4000000

namespace Go.Proofs.YtbempdelckaccaaGreatDoor
open Go.RowKit Go.Lib
set_option linter.unusedVariables false
set_option linter.unusedSimpArgs false
def zdd (p1:Gpage_parter) (from1:Int) (to1:Int):Option Int :=
grd (I64 (to1 - from1)) <|
grd (I64 (to1 - 1)) <|
zak (zbF p1.blanks (to1 - 1)) fun (q1:Int) =>
grd (I64 ((to1 - from1)+q1)) <|
zak (zbF p1.blanks from1) fun (q2:Int) =>
grd (I64 (((to1 - from1)+q1) - q2)) <|
some (((to1 - from1)+q1) - q2)
theorem zgq {bp1:Nat} {p1:Gpage_parter} {p1_h0 p1_h1 p1_h2 p1_h3:Hd} {from1:Int} {to1:Int} {r:Int} (h:zdd p1 from1 to1=some r):FnR Tryz.prog 93 [zP bp1,zI from1,zI to1] [cells bp1 [p1_h0.v,p1_h1.v,p1_h2.v,p1_h3.v,zI p1.heights] 131,zv2 p1_h0.v p1.rows,zv0 p1_h1.v p1.blanks,zv0 p1_h2.v p1.firsts,zv0 p1_h3.v p1.lasts] [] (fun _:Unit=>(zI r)) (fun _=>[]):=by
 unfold zdd at h
 refine FnR.intro Tryz.func93 rfl Tryz.ntmps93 (by simp) ?_
 intro w0 K hrd
 refine zyG (zyR 1 rfl (zyN (zaK ?_)))
 obtain ⟨hg1,h⟩:=zbl h
 obtain ⟨hg2,h⟩:=zbl h
 obtain ⟨q1,hq1,h⟩:=zbj h
 obtain ⟨hg3,h⟩:=zbl h
 obtain ⟨q2,hq2,h⟩:=zbj h
 obtain ⟨hg4,h⟩:=zbl h
 refine zbG 19 [(0,7,zI to1),(1,8,zI from1),(2,9,zI (to1 - from1)),(3,10,zP bp1),(4,11,zP bp1),(5,12,.pointer (some ⟨bp1,1,none⟩)),(6,13,p1_h1.v),(7,14,zI to1),(8,15,zI (to1 - 1)),(9,16,.pointer (some ⟨zco p1_h1.v,(0+(to1 - 1:Int).toNat)*1,none⟩)),(10,17,zI q1),(11,18,zI ((to1 - from1)+q1)),(12,19,zP bp1),(13,20,zP bp1),(14,21,.pointer (some ⟨bp1,1,none⟩)),(15,22,p1_h1.v),(16,23,zI from1),(17,24,.pointer (some ⟨zco p1_h1.v,(0+(from1:Int).toNat)*1,none⟩)),(18,25,zI q2)] mixed kr kr dc (by rfl) kr kr (zyP 2 0 rfl (zae ?_ (zyP 1 3 rfl (zae ?_ (zae ?_ (zae ?_ (zyP 1 7 rfl (zae ?_ (zae ?_ (zae ?_ (zae ?_ (zyP 1 12 rfl (zae ?_ (zae ?_ (zae ?_ (zyP 1 16 rfl (zae ?_ (zae ?_ DrawPre.nil)))))))))))))))))) ?_
 · exact fun D n d c u i=>zbR rfl dc (zaa (m:=0) u rfl (d 0 dc)) (zaa (m:=1) u rfl (d 1 dc)) (zbi (r:=to1 - from1) (IntWalk.i64_in _ hg1)) (zaf 2 u i rfl)
 · exact fun D n d c u i=>zaA rfl dc (zaa (m:=3) u rfl (d 3 dc)) (zaf 4 u i rfl)
 · exact fun D n d c u i=>zab zkq rfl dc (zaa (m:=4) u rfl (d 4 dc)) (show _=1 from rfl) (zaf 5 u i rfl)
 · exact fun D n d c u i=>zbr (i:=0) hrd rfl zhi rfl dc (zaa (m:=5) u rfl (d 5 dc)) rfl (zaf 6 u i rfl)
 · exact fun D n d c u i=>zbR rfl dc (zaa (m:=7) u rfl (d 7 dc)) rfl (zbi (r:=to1 - 1) (IntWalk.i64_in _ hg2)) (zaf 8 u i rfl)
 · exact fun D n d c u i=>zbe (hrd.vw (i:=2) rfl) hq1 Tryz.underlying49 zdb rfl dc (zaa (m:=6) u rfl (d 6 dc)) (zaa (m:=8) u rfl (d 8 dc)) rfl (zaf 9 u i rfl)
 · exact fun D n d c u i=>zcB (n:=0+(to1 - 1:Int).toNat) (j:=0) (i:=2) (q:=q1) hrd rfl zbp za6 rfl dc (zaa (m:=9) u rfl (d 9 dc)) (Vw.get (hrd.vw (i:=2) rfl) hq1) rfl dc rfl (zaf 10 u i rfl)
 · exact fun D n d c u i=>zbR rfl dc (zaa (m:=2) u rfl (d 2 dc)) (zaa (m:=10) u rfl (d 10 dc)) (zaP (r:=(to1 - from1)+q1) (IntWalk.i64_in _ hg3)) (zaf 11 u i rfl)
 · exact fun D n d c u i=>zaA rfl dc (zaa (m:=12) u rfl (d 12 dc)) (zaf 13 u i rfl)
 · exact fun D n d c u i=>zab zkq rfl dc (zaa (m:=13) u rfl (d 13 dc)) (show _=1 from rfl) (zaf 14 u i rfl)
 · exact fun D n d c u i=>zbr (i:=0) hrd rfl zhi rfl dc (zaa (m:=14) u rfl (d 14 dc)) rfl (zaf 15 u i rfl)
 · exact fun D n d c u i=>zbe (hrd.vw (i:=2) rfl) hq2 Tryz.underlying49 zdb rfl dc (zaa (m:=15) u rfl (d 15 dc)) (zaa (m:=16) u rfl (d 16 dc)) rfl (zaf 17 u i rfl)
 · exact fun D n d c u i=>zcB (n:=0+(from1:Int).toNat) (j:=0) (i:=2) (q:=q2) hrd rfl zbp za6 rfl dc (zaa (m:=17) u rfl (d 17 dc)) (Vw.get (hrd.vw (i:=2) rfl) hq2) rfl dc rfl (zaf 18 u i rfl)
 refine zaU rfl (zbi (r:=((to1 - from1)+q1) - q2) (IntWalk.i64_in _ hg4)) (zyR 1 rfl (zyN (zaH ?_)))
 cases h
 exact zaN (rs:=[.tmp 6]) () (.inl rfl) Tryz.results93 (.cons (.tmp rfl) .nil) rfl Splits.nil
def zd1 (p1:Gpage_parter) (k1:Int):Option Int :=
grd (I64 (k1 - 1)) <|
zak (zbF p1.rows (k1 - 1)) fun (q1:Gapi_Row) =>
zak (zbF p1.rows k1) fun (q2:Gapi_Row) =>
zax ((q1.Stanza:Int) != q2.Stanza) (
some 0
) (
zax ((q1.Line:Int)==q2.Line) (
some 100
) (
zak (zbF p1.firsts q1.Stanza) fun (q3:Int) =>
zax ((q1.Line:Int)==q3) (
some 50
) (
zak (zbF p1.lasts q2.Stanza) fun (q4:Int) =>
zax ((q2.Line:Int)==q4) (
some 50
) (
some 10
)
)
)
)
theorem ziM {bp1:Nat} {p1:Gpage_parter} {p1_h0 p1_h1 p1_h2 p1_h3:Hd} {k1:Int} {r:Int} (h:zd1 p1 k1=some r):FnR Tryz.prog 94 [zP bp1,zI k1] [cells bp1 [p1_h0.v,p1_h1.v,p1_h2.v,p1_h3.v,zI p1.heights] 131,zv2 p1_h0.v p1.rows,zv0 p1_h1.v p1.blanks,zv0 p1_h2.v p1.firsts,zv0 p1_h3.v p1.lasts] [] (fun _:Unit=>(zI r)) (fun _=>[]):=by
 unfold zd1 at h
 refine FnR.intro Tryz.func94 rfl Tryz.ntmps94 (by simp) ?_
 intro w0 K hrd
 refine zyG (zyR 1 rfl (zyN (zaK ?_)))
 obtain ⟨hg1,h⟩:=zbl h
 obtain ⟨q1,hq1,h⟩:=zbj h
 obtain ⟨q2,hq2,h⟩:=zbj h
 refine zgx 2 ?_
 refine let vals1:(Nat×Nat)→List (Nat×Nat×Value):=fun b=>[(0,7,zP bp1),(1,8,zP bp1),(2,9,zP bp1),(3,10,p1_h0.v),(4,11,zI k1),(5,12,zI (k1 - 1)),(6,13,.pointer (some ⟨zco p1_h0.v,(0+(k1 - 1:Int).toNat)*6,none⟩)),(7,14,.agg (zr3 q1).toArray),(8,15,zP bp1),(9,16,zP bp1),(10,17,zP bp1),(11,18,p1_h0.v),(12,19,zI k1),(13,20,.pointer (some ⟨zco p1_h0.v,(0+(k1:Int).toNat)*6,none⟩)),(14,21,.agg (zr3 q2).toArray),(15,5,zP b.1),(16,6,zP b.2)]; let LL1:(Nat→Prop)→(Nat×Nat)→List Asn:=fun D b=>[eD D emp [(17,cells b.1 (zr3 q1) 33),(15,cells b.1 [zI 0,zI 0,zI 0,zI 0,zI 0,.string ByteArray.empty] 33)],eD D emp [(16,cells b.2 [zI 0,zI 0,zI 0,zI 0,zI 0,.string ByteArray.empty] 33)]]; ?_
 have zhq:zyQ [15,16,17] LL1:=fun i h D b=>zac (zlx rfl h) (zac (zlx rfl h) rfl)
 refine zdY (β:=Nat×Nat) 18 ((0:Nat),(0:Nat)) vals1 LL1 mixed kr kr dc (fun _=>rfl) (zac zbY (zac zbY rfl)) (znJ zhq (fun _=>rfl) (fun _=>rfl) 1 0 (fun _=>rfl) rfl (zyq zhq rfl (fun _=>rfl) (fun _=>rfl) ?_ (zyq zhq rfl (fun _=>rfl) (fun _=>rfl) ?_ (zyq zhq rfl (fun _=>rfl) (fun _=>rfl) ?_ (znJ zhq (fun _=>rfl) (fun _=>rfl) 1 4 (fun _=>rfl) rfl (zyq zhq rfl (fun _=>rfl) (fun _=>rfl) ?_ (zyq zhq rfl (fun _=>rfl) (fun _=>rfl) ?_ (zjl zhq rfl (fun _=>rfl) (fun _=>rfl) ?_ (znJ zhq (fun _=>rfl) (fun _=>rfl) 1 8 (fun _=>rfl) rfl (zyq zhq rfl (fun _=>rfl) (fun _=>rfl) ?_ (zyq zhq rfl (fun _=>rfl) (fun _=>rfl) ?_ (zyq zhq rfl (fun _=>rfl) (fun _=>rfl) ?_ (znJ zhq (fun _=>rfl) (fun _=>rfl) 1 12 (fun _=>rfl) rfl (zyq zhq rfl (fun _=>rfl) (fun _=>rfl) ?_ (zjl zhq rfl (fun _=>rfl) (fun _=>rfl) ?_ (zas ?_ (zas ?_ (zas ?_ DrawG.nil)))))))))))))))))) ?_
 · exact fun D ⟨b1,b2⟩ n d c u i=>zaA rfl dc (zaa (m:=0) u rfl (d 0 dc)) (zaf 1 u i rfl)
 · exact fun D ⟨b1,b2⟩ n d c u i=>zab zgB rfl dc (zaa (m:=1) u rfl (d 1 dc)) (show _=0 from rfl) (zaf 2 u i rfl)
 · exact fun D ⟨b1,b2⟩ n d c u i=>zbr (i:=0) hrd rfl znX rfl dc (zaa (m:=2) u rfl (d 2 dc)) rfl (zaf 3 u i rfl)
 · exact fun D ⟨b1,b2⟩ n d c u i=>zbR rfl dc (zaa (m:=4) u rfl (d 4 dc)) rfl (zbi (r:=k1 - 1) (IntWalk.i64_in _ hg1)) (zaf 5 u i rfl)
 · exact fun D ⟨b1,b2⟩ n d c u i=>zbe (hrd.vw (i:=1) rfl) hq1 Tryz.underlying43 ziw rfl dc (zaa (m:=3) u rfl (d 3 dc)) (zaa (m:=5) u rfl (d 5 dc)) rfl (zaf 6 u i rfl)
 · exact fun D ⟨b1,b2⟩ n d c u i=>⟨_,(zac (zaj (fun hD=>n (c 17 _ rfl hD 7 dc)) rfl) rfl),zeK (m:=0+(k1 - 1:Int).toNat) (j:=0) (i:=1) (q:=q1) (cs:=(zr3 q1)) hrd rfl znZ zb9 rfl dc (zaa (m:=6) u rfl (d 6 dc)) (Vw.get (hrd.vw (i:=1) rfl) hq1) rfl rfl rfl (zaf 7 u i rfl)⟩
 · exact fun D ⟨b1,b2⟩ n d c u i=>zaA rfl dc (zaa (m:=8) u rfl (d 8 dc)) (zaf 9 u i rfl)
 · exact fun D ⟨b1,b2⟩ n d c u i=>zab zgB rfl dc (zaa (m:=9) u rfl (d 9 dc)) (show _=0 from rfl) (zaf 10 u i rfl)
 · exact fun D ⟨b1,b2⟩ n d c u i=>zbr (i:=0) hrd rfl znX rfl dc (zaa (m:=10) u rfl (d 10 dc)) rfl (zaf 11 u i rfl)
 · exact fun D ⟨b1,b2⟩ n d c u i=>zbe (hrd.vw (i:=1) rfl) hq2 Tryz.underlying43 ziw rfl dc (zaa (m:=11) u rfl (d 11 dc)) (zaa (m:=12) u rfl (d 12 dc)) rfl (zaf 13 u i rfl)
 · exact fun D ⟨b1,b2⟩ n d c u i=>⟨_,(zcS rfl),zeK (m:=0+(k1:Int).toNat) (j:=0) (i:=1) (q:=q2) (cs:=(zr3 q2)) hrd rfl znZ zb9 rfl dc (zaa (m:=13) u rfl (d 13 dc)) (Vw.get (hrd.vw (i:=1) rfl) hq2) rfl rfl rfl (zaf 14 u i rfl)⟩
 ·
  intro D b hn hd hcl
  obtain ⟨zb0,b2⟩:=b
  refine zaG (zac (zaj (fun hD=>hn (hcl 17 _ rfl hD 15 dc)) (zaj hn zap)) rfl) ?_
  refine zbk zqe rfl dc (fun b1 => ?_)
  refine zc2 0 rfl rfl ?_
  exact zaM (b:=(zb0,b2)) (b1,b2) 15 (by rfl) (by rfl) rfl (zvt (zcF (zar (fun hD=>absurd hD hn) (zar (fun _=>rfl) rfl)))) (zac (zaj (fun h=>h.elim (fun hD=>hn (hcl 17 _ rfl hD 15 dc)) (fun h=>absurd h dc)) (zaI (Or.inr rfl) rfl)) (zac (zao (by rfl)) rfl))
 ·
  intro D b hn hd hcl
  obtain ⟨b1,zb1⟩:=b
  refine zaG (zac (zaj (fun hD=>hn (hcl 17 _ rfl hD 16 dc)) rfl) (zac (zaj hn zap) rfl)) ?_
  refine zbk zqe rfl dc (fun b2 => ?_)
  refine zc2 1 rfl rfl ?_
  exact zaM (b:=(b1,zb1)) (b1,b2) 16 (by rfl) (by rfl) rfl (znH (zcF (zar (fun hD=>absurd hD hn) rfl))) (zac ((zao (by rfl)).trans (zaj (fun hD=>hn (hcl 17 _ rfl hD 16 dc)) rfl)) (zac (zaI (Or.inr rfl) rfl) rfl))
 ·
  intro D b hn hd hcl
  obtain ⟨b1,b2⟩:=b
  refine zaG (zac (zaj hn (zaI (hd 15 dc) rfl)) (zac (zaI (hd 16 dc) rfl) rfl)) (zaZ (k:=0) (vs:=(zr3 q1)) (l':=(zr3 q1)) ziw rfl (zaa (m:=15) rfl rfl (hd 15 dc)) (zaa (m:=7) rfl rfl (hd 7 dc)) rfl rfl (show _≤_ by simp) rfl rfl ?_)
  exact zjh (b:=(b1,b2)) (b1,b2) (by rfl) (znK (zcF rfl)) (zac (zaI (Or.inr rfl) rfl) (zac ((zao (by rfl)).trans (zaI (hd 16 dc) rfl)) rfl))
 intro D b hall
 obtain ⟨b1,b2⟩:=b
 refine zaG (zac (zaI (hall 17 dc) rfl) (zac (zaI (hall 16 dc) rfl) rfl)) (zaZ (k:=1) (vs:=(zr3 q2)) (l':=(zr3 q2)) ziw rfl rfl rfl rfl rfl (show _≤_ by simp) rfl rfl (zyN (zaK (zaD (zyG (zab zg1 rfl dc rfl (show _=1 from rfl) (zaq (k:=0) zbp rfl dc rfl rfl rfl (zab zg1 rfl dc rfl (show _=1 from rfl) (zaq (k:=1) zbp rfl dc rfl rfl rfl (zaU rfl zck (zyR 1 rfl ?_)))))))))))
 refine zyN ?_
 refine zyB rfl h (fun h => ?_) (fun h => ?_)
 ·
  refine zyG (zyR 1 rfl (zyN (zaH (zaE (zav ?_)))))
  cases h
  exact zaN (rs:=[.tmp 4]) () (.inl rfl) Tryz.results94 (.cons (.tmp rfl) .nil) rfl Splits.nil
 refine zyG (zab zin rfl dc rfl (show _=0 from rfl) (zaq (k:=0) zbp rfl dc rfl rfl rfl (zab zin rfl dc rfl (show _=0 from rfl) (zaq (k:=1) zbp rfl dc rfl rfl rfl (zaU rfl zaV (zyR 1 rfl (zyN ?_)))))))
 refine zyB rfl h (fun h => ?_) (fun h => ?_)
 ·
  refine zyG (zyR 1 rfl (zyN (zaH (zaE (zav ?_)))))
  cases h
  exact zaN (rs:=[.tmp 4]) () (.inl rfl) Tryz.results94 (.cons (.tmp rfl) .nil) rfl Splits.nil
 refine zaK ?_
 obtain ⟨q3,hq3,h⟩:=zbj h
 refine zeL (b:=(q1.Line:Int)==q3) (fun hb3 => ?_) (fun hb3 => ?_)
 ·
  have h:=zhm hb3 h
  refine zbG 22 [(0,35,zP b1),(1,36,zI q1.Line),(2,37,zP bp1),(3,38,zP bp1),(4,39,.pointer (some ⟨bp1,2,none⟩)),(5,40,p1_h2.v),(6,41,.pointer (some ⟨b1,1,none⟩)),(7,42,zI q1.Stanza),(8,43,.pointer (some ⟨zco p1_h2.v,(0+(q1.Stanza:Int).toNat)*1,none⟩)),(9,44,zI q3),(10,45,.bool true),(11,46,.bool true),(12,47,undef),(13,48,undef),(14,49,undef),(15,50,undef),(16,51,undef),(17,52,undef),(18,53,undef),(19,54,undef),(20,55,undef),(21,56,undef)] mixed kr kr dc (by rfl) kr kr (zae ?_ (zae ?_ (zyP 1 2 rfl (zae ?_ (zae ?_ (zae ?_ (zae ?_ (zae ?_ (zae ?_ (zae ?_ (zae ?_ (zyP 11 11 rfl DrawPre.nil)))))))))))) ?_
  · exact fun D n d c u i=>zab zin rfl dc (zba (by rfl) rfl) (show _=0 from rfl) (zaf 0 u i rfl)
  · exact fun D n d c u i=>zaq (k:=0) zbp rfl dc (zaa (m:=0) u rfl (d 0 dc)) rfl rfl (zaf 1 u i rfl)
  · exact fun D n d c u i=>zaA rfl dc (zaa (m:=2) u rfl (d 2 dc)) (zaf 3 u i rfl)
  · exact fun D n d c u i=>zab zi1 rfl dc (zaa (m:=3) u rfl (d 3 dc)) (show _=2 from rfl) (zaf 4 u i rfl)
  · exact fun D n d c u i=>zbr (i:=0) hrd rfl zhi rfl dc (zaa (m:=4) u rfl (d 4 dc)) rfl (zaf 5 u i rfl)
  · exact fun D n d c u i=>zab zg1 rfl dc (zba (by rfl) rfl) (show _=1 from rfl) (zaf 6 u i rfl)
  · exact fun D n d c u i=>zaq (k:=0) zbp rfl dc (zaa (m:=6) u rfl (d 6 dc)) rfl rfl (zaf 7 u i rfl)
  · exact fun D n d c u i=>zbe (hrd.vw (i:=3) rfl) hq3 Tryz.underlying49 zdb rfl dc (zaa (m:=5) u rfl (d 5 dc)) (zaa (m:=7) u rfl (d 7 dc)) rfl (zaf 8 u i rfl)
  · exact fun D n d c u i=>zcB (n:=0+(q1.Stanza:Int).toNat) (j:=0) (i:=3) (q:=q3) hrd rfl zbp za6 rfl dc (zaa (m:=8) u rfl (d 8 dc)) (Vw.get (hrd.vw (i:=3) rfl) hq3) rfl dc rfl (zaf 9 u i rfl)
  · exact fun D n d c u i=>zbR rfl dc (zaa (m:=1) u rfl (d 1 dc)) (zaa (m:=9) u rfl (d 9 dc)) zaV (zeb (show Value.bool ((q1.Line:Int)==q3)=Value.bool true from congrArg Value.bool hb3) (zaf 10 u i rfl))
  refine zyR 3 rfl (zyN (za9 rfl (zyG (zyR 1 rfl (zyN (zaH (zaE (zav ?_))))))))
  cases h
  exact zaN (rs:=[.tmp 4]) () (.inl rfl) Tryz.results94 (.cons (.tmp rfl) .nil) rfl Splits.nil
 have h:=zhn hb3 h
 obtain ⟨q4,hq4,h⟩:=zbj h
 refine zbG 22 [(0,35,zP b1),(1,36,zI q1.Line),(2,37,zP bp1),(3,38,zP bp1),(4,39,.pointer (some ⟨bp1,2,none⟩)),(5,40,p1_h2.v),(6,41,.pointer (some ⟨b1,1,none⟩)),(7,42,zI q1.Stanza),(8,43,.pointer (some ⟨zco p1_h2.v,(0+(q1.Stanza:Int).toNat)*1,none⟩)),(9,44,zI q3),(10,45,.bool false),(11,46,.bool false),(12,47,zP b2),(13,48,zI q2.Line),(14,49,zP bp1),(15,50,zP bp1),(16,51,.pointer (some ⟨bp1,3,none⟩)),(17,52,p1_h3.v),(18,53,.pointer (some ⟨b2,1,none⟩)),(19,54,zI q2.Stanza),(20,55,.pointer (some ⟨zco p1_h3.v,(0+(q2.Stanza:Int).toNat)*1,none⟩)),(21,56,zI q4)] mixed kr kr dc (by rfl) kr kr (zae ?_ (zae ?_ (zyP 1 2 rfl (zae ?_ (zae ?_ (zae ?_ (zae ?_ (zae ?_ (zae ?_ (zae ?_ (zae ?_ (zyP 1 11 rfl (zae ?_ (zae ?_ (zyP 1 14 rfl (zae ?_ (zae ?_ (zae ?_ (zae ?_ (zae ?_ (zae ?_ (zae ?_ DrawPre.nil)))))))))))))))))))))) ?_
 · exact fun D n d c u i=>zab zin rfl dc (zba (by rfl) rfl) (show _=0 from rfl) (zaf 0 u i rfl)
 · exact fun D n d c u i=>zaq (k:=0) zbp rfl dc (zaa (m:=0) u rfl (d 0 dc)) rfl rfl (zaf 1 u i rfl)
 · exact fun D n d c u i=>zaA rfl dc (zaa (m:=2) u rfl (d 2 dc)) (zaf 3 u i rfl)
 · exact fun D n d c u i=>zab zi1 rfl dc (zaa (m:=3) u rfl (d 3 dc)) (show _=2 from rfl) (zaf 4 u i rfl)
 · exact fun D n d c u i=>zbr (i:=0) hrd rfl zhi rfl dc (zaa (m:=4) u rfl (d 4 dc)) rfl (zaf 5 u i rfl)
 · exact fun D n d c u i=>zab zg1 rfl dc (zba (by rfl) rfl) (show _=1 from rfl) (zaf 6 u i rfl)
 · exact fun D n d c u i=>zaq (k:=0) zbp rfl dc (zaa (m:=6) u rfl (d 6 dc)) rfl rfl (zaf 7 u i rfl)
 · exact fun D n d c u i=>zbe (hrd.vw (i:=3) rfl) hq3 Tryz.underlying49 zdb rfl dc (zaa (m:=5) u rfl (d 5 dc)) (zaa (m:=7) u rfl (d 7 dc)) rfl (zaf 8 u i rfl)
 · exact fun D n d c u i=>zcB (n:=0+(q1.Stanza:Int).toNat) (j:=0) (i:=3) (q:=q3) hrd rfl zbp za6 rfl dc (zaa (m:=8) u rfl (d 8 dc)) (Vw.get (hrd.vw (i:=3) rfl) hq3) rfl dc rfl (zaf 9 u i rfl)
 · exact fun D n d c u i=>zbR rfl dc (zaa (m:=1) u rfl (d 1 dc)) (zaa (m:=9) u rfl (d 9 dc)) zaV (zeb (show Value.bool ((q1.Line:Int)==q3)=Value.bool false from congrArg Value.bool hb3) (zaf 10 u i rfl))
 · exact fun D n d c u i=>zab zin (zft rfl (zaa (m:=11) u rfl (d 11 dc))) dc (zba (by rfl) rfl) (show _=0 from rfl) (zaf 12 u i rfl)
 · exact fun D n d c u i=>zaq (k:=1) zbp (zft rfl (zaa (m:=11) u rfl (d 11 dc))) dc (zaa (m:=12) u rfl (d 12 dc)) rfl rfl (zaf 13 u i rfl)
 · exact fun D n d c u i=>zaA (zft rfl (zaa (m:=11) u rfl (d 11 dc))) dc (zaa (m:=14) u rfl (d 14 dc)) (zaf 15 u i rfl)
 · exact fun D n d c u i=>zab zkp (zft rfl (zaa (m:=11) u rfl (d 11 dc))) dc (zaa (m:=15) u rfl (d 15 dc)) (show _=3 from rfl) (zaf 16 u i rfl)
 · exact fun D n d c u i=>zbr (i:=0) hrd rfl zhi (zft rfl (zaa (m:=11) u rfl (d 11 dc))) dc (zaa (m:=16) u rfl (d 16 dc)) rfl (zaf 17 u i rfl)
 · exact fun D n d c u i=>zab zg1 (zft rfl (zaa (m:=11) u rfl (d 11 dc))) dc (zba (by rfl) rfl) (show _=1 from rfl) (zaf 18 u i rfl)
 · exact fun D n d c u i=>zaq (k:=1) zbp (zft rfl (zaa (m:=11) u rfl (d 11 dc))) dc (zaa (m:=18) u rfl (d 18 dc)) rfl rfl (zaf 19 u i rfl)
 · exact fun D n d c u i=>zbe (hrd.vw (i:=4) rfl) hq4 Tryz.underlying49 zdb (zft rfl (zaa (m:=11) u rfl (d 11 dc))) dc (zaa (m:=17) u rfl (d 17 dc)) (zaa (m:=19) u rfl (d 19 dc)) rfl (zaf 20 u i rfl)
 · exact fun D n d c u i=>zcB (n:=0+(q2.Stanza:Int).toNat) (j:=0) (i:=4) (q:=q4) hrd rfl zbp za6 (zft rfl (zaa (m:=11) u rfl (d 11 dc))) dc (zaa (m:=20) u rfl (d 20 dc)) (Vw.get (hrd.vw (i:=4) rfl) hq4) rfl dc rfl (zaf 21 u i rfl)
 refine zaU rfl zaV (zyR 2 rfl (zyN ?_))
 refine zyB rfl h (fun h => ?_) (fun h => ?_)
 ·
  refine zyG (zyR 1 rfl (zyN (zaH (zaE (zav ?_)))))
  cases h
  exact zaN (rs:=[.tmp 4]) () (.inl rfl) Tryz.results94 (.cons (.tmp rfl) .nil) rfl Splits.nil
 refine zat (zag (zaL (zyG (zyR 1 rfl (zyN (zaH ?_))))))
 cases h
 exact zaN (rs:=[.tmp 4]) () (.inl rfl) Tryz.results94 (.cons (.tmp rfl) .nil) rfl Splits.nil
def zbK (p1:Gpage_parter) (from3:Int) (j2:(List Gpage_best)→Option ((List Int)×Int)) (ag2:(List Gpage_best)→Int→Option ((List Int)×Int)) (all8:List Gpage_best) (to3:Int):Option ((List Int)×Int) :=
zax (decide ((to3:Int)≤(p1.rows.length:Int))) (
zak (zdd p1 from3 to3) fun (r1:Int) =>
zax (decide ((r1:Int)≤p1.heights)) (
zbd (fun (j3:(List Gpage_best)→Option ((List Int)×Int)) =>
zbd (fun (j4:Int→Int→Option ((List Int)×Int)) =>
zax (decide ((to3:Int)<(p1.rows.length:Int))) (
zak (zdd p1 from3 to3) fun (r2:Int) =>
grd (I64 (p1.heights - r2)) <|
grd (I64 ((p1.heights - r2)*(p1.heights - r2))) <|
zak (zd1 p1 to3) fun (r3:Int) =>
grd (I64 (((p1.heights - r2)*(p1.heights - r2))+r3)) <|
zak (zbF all8 to3) fun (q2:Gpage_best) =>
grd (I64 ((((p1.heights - r2)*(p1.heights - r2))+r3)+q2.cost)) <|
grd (I64 (q2.rows+1)) <|
j4 ((((p1.heights - r2)*(p1.heights - r2))+r3)+q2.cost) (q2.rows+1)
) (
j4 0 1
)
) (fun (b2:Int) (b3:Int) =>
zak (zbF all8 from3) fun (q3:Gpage_best) =>
zax (decide ((q3.rows:Int)<0)) (
zak (zbF all8 from3) fun (q4:Gpage_best) =>
j3 (all8.set (from3:Int).toNat (⟨b2,b3,to3⟩:Gpage_best))
) (
zax (decide ((b2:Int)<q3.cost)) (
zak (zbF all8 from3) fun (q5:Gpage_best) =>
j3 (all8.set (from3:Int).toNat (⟨b2,b3,to3⟩:Gpage_best))
) (
zax ((b2:Int)==q3.cost) (
zax (decide ((b3:Int)≤q3.rows)) (
zak (zbF all8 from3) fun (q6:Gpage_best) =>
j3 (all8.set (from3:Int).toNat (⟨b2,b3,to3⟩:Gpage_best))
) (
j3 all8
)
) (
j3 all8
)
)
)
)
) (fun (all9:List Gpage_best) =>
grd (I64 (to3+1)) <|
ag2 all9 (to3+1)
)
) (
j2 all8
)
) (
j2 all8
)
def zbL (p1:Gpage_parter) (j1:(List Gpage_best)→Option ((List Int)×Int)) (ag1:(List Gpage_best)→Int→Option ((List Int)×Int)) (all4:List Gpage_best) (from3:Int):Option ((List Int)×Int) :=
zax (decide ((0:Int)≤from3)) (
zbd (fun (j2:(List Gpage_best)→Option ((List Int)×Int)) =>
zak (zbF all4 from3) fun (q1:Gpage_best) =>
grd (I64 (from3+1)) <|
zaF (fun _ _=>none) (zbK p1 from3 j2) zbV (all4.set (from3:Int).toNat (⟨q1.cost,(-1),q1.to_⟩:Gpage_best)) (from3+1)
) (fun (all5:List Gpage_best) =>
grd (I64 (from3 - 1)) <|
ag1 all5 (from3 - 1)
)
) (
j1 all4
)
def zbx (p1:Gpage_parter) (all1:List Gpage_best) (j5:(List Int)→Option ((List Int)×Int)) (ag3:(List Int)→Int→Option ((List Int)×Int)) (out4:List Int) (from6:Int):Option ((List Int)×Int) :=
zax (decide ((from6:Int)<(p1.rows.length:Int))) (
zak (zbF all1 from6) fun (q7:Gpage_best) =>
grd (out4.length+1≤2147483648) <|
zak (zbF all1 from6) fun (q8:Gpage_best) =>
ag3 (out4++[q7.to_]) q8.to_
) (
j5 out4
)
def zdx (p1:Gpage_parter):Option ((List Int)×Int) :=
zbd (fun (j1:(List Gpage_best)→Option ((List Int)×Int)) =>
grd (I64 ((p1.rows.length:Int)+1)) <|
grd (0≤((p1.rows.length:Int)+1)∧((p1.rows.length:Int)+1)≤2147483648) <|
grd (I64 ((p1.rows.length:Int) - 1)) <|
zaF (fun _ _=>none) (zbL p1 j1) zbV (List.replicate ((p1.rows.length:Int)+1:Int).toNat (⟨0,0,0⟩:Gpage_best):List Gpage_best) ((p1.rows.length:Int) - 1)
) (fun (all1:List Gpage_best) =>
zbd (fun (j5:(List Int)→Option ((List Int)×Int)) =>
zaF (fun _ _=>none) (zbx p1 all1 j5) zbV ([]:List Int) 0
) (fun (out1:List Int) =>
zak (zbF all1 0) fun (q9:Gpage_best) =>
some (out1,q9.cost)
)
)
theorem zhZ {bp1:Nat} {p1:Gpage_parter} {p1_h0 p1_h1 p1_h2 p1_h3:Hd} {r:((List Int)×Int)} (h:zdx p1=some r):FnR Tryz.prog 66 [zP bp1] [cells bp1 [p1_h0.v,p1_h1.v,p1_h2.v,p1_h3.v,zI p1.heights] 131,zv2 p1_h0.v p1.rows,zv0 p1_h1.v p1.blanks,zv0 p1_h2.v p1.firsts,zv0 p1_h3.v p1.lasts] [] (fun v0:Value=>.tuple #[v0,zI r.2]) (fun v0=>[zv0 v0 r.1]):=by
 unfold zdx at h
 refine FnR.intro Tryz.func66 rfl Tryz.ntmps66 (by simp) ?_
 intro w0 K hrd
 obtain ⟨j1,hj1,h⟩:=zbC h
 refine zaX (β:=(List Gpage_best)×Value) 3 rfl (fun b=>j1 b.1=some r) (fun b=>[]) (fun b=>[(4,zI (p1.rows.length:Int)),(5,b.2)]) (fun b=>[zv8 b.2 b.1]) (fun cut => ?_) ?_
 ·
  refine zyG (zyR 2 rfl (zyH (zyR 1 rfl (zaA rfl dc rfl (zab zgB rfl dc rfl (show _=0 from rfl) (zbr (i:=0) hrd rfl znX rfl dc rfl rfl (zet (hrd.vw (i:=1) rfl) rfl dc rfl Tryz.underlying43 (zyR 1 rfl ?_))))))))
  refine zyH (zyR 1 rfl ?_)
  obtain ⟨hg1,h⟩:=zbl h
  refine zaU rfl (zaP (r:=(p1.rows.length:Int)+1) (IntWalk.i64_in _ hg1)) ?_
  obtain ⟨hg2,h⟩:=zbl h
  refine zgh (z:=(⟨0,0,0⟩:Gpage_best)) Tryz.underlying174 zt4 zlT zaY rfl dc rfl hg2 (fun v2 => ?_)
  refine zyR 1 rfl (zyN (cut (zyG (zyR 1 rfl ?_))))
  obtain ⟨hg3,h⟩:=zbl h
  refine zaU rfl (zbi (r:=(p1.rows.length:Int) - 1) (IntWalk.i64_in _ hg3)) (zyR 1 rfl (zyN (zaD ?_)))
  refine zbn (β:=Nat×(List Gpage_best)×Int) (fun b=>zaF (fun _ _=>none) (zbL p1 j1) b.1 b.2.1 b.2.2=some r) (fun b=>[]) (fun b=>[(0,zP bp1),(4,zI (p1.rows.length:Int)),(5,v2),(6,zI b.2.2)]) (fun b=>[zv8 v2 b.2.1]) (fun b=>b.1) (zbV,(List.replicate ((p1.rows.length:Int)+1:Int).toNat (⟨0,0,0⟩:Gpage_best):List Gpage_best),(p1.rows.length:Int) - 1) h rfl (za1 rfl) (zad [0] kr rfl) ?_
  rintro ⟨n1,all4,from3⟩ h
  cases n1 with
  | zero=>exact zdD h
  | succ n1 =>
   obtain ⟨ag1,hag1⟩:∃ ag,ag=zaF (fun _ _=>none) (zbL p1 j1) n1:=⟨_,rfl⟩
   have h:zbL p1 j1 ag1 all4 from3=some r:=by rw [hag1]; exact h
   unfold zbL at h
   refine zaK (zyG (zyR 1 rfl (zaU rfl ze3 (zyN ?_))))
   refine zyB rfl h (fun h => ?_) (fun h => ?_)
   ·
    refine zat (zaL ?_)
    obtain ⟨j2,hj2,h⟩:=zbC h
    refine zaX (β:=(List Gpage_best)) 0 rfl (fun b=>j2 b=some r) (fun b=>[]) (fun b=>[(0,zP bp1),(4,zI (p1.rows.length:Int)),(5,v2),(6,zI from3)]) (fun b=>[zv8 v2 b]) (fun cut => ?_) ?_
    ·
     refine cut (zaD (zyG (zyR 2 rfl ?_)))
     obtain ⟨q1,hq1,h⟩:=zbj h
     refine zan (k:=0) hq1 Tryz.underlying174 zdi rfl dc rfl rfl rfl rfl (zab zfm rfl dc rfl (show _=((from3:Int).toNat)*3+1 from rfl) ?_)
     refine zcc (i:=(from3:Int).toNat) (j:=1) (k:=0) (q:=q1) (q':=(⟨q1.cost,(-1),q1.to_⟩:Gpage_best)) zdb zaY rfl rfl rfl rfl (zaC hq1) rfl dc rfl (fun _ _=>rfl) ?_
     refine zyH (zyR 1 rfl ?_)
     obtain ⟨hg4,h⟩:=zbl h
     refine zaU rfl (zaP (r:=from3+1) (IntWalk.i64_in _ hg4)) (zyR 1 rfl (zyN (zaD ?_)))
     refine zbn (β:=Nat×(List Gpage_best)×Int) (fun b=>zaF (fun _ _=>none) (zbK p1 from3 j2) b.1 b.2.1 b.2.2=some r) (fun b=>[]) (fun b=>[(0,zP bp1),(4,zI (p1.rows.length:Int)),(5,v2),(6,zI from3),(7,zI b.2.2)]) (fun b=>[zv8 v2 b.2.1]) (fun b=>b.1) (zbV,all4.set (from3:Int).toNat (⟨q1.cost,(-1),q1.to_⟩:Gpage_best),from3+1) h rfl (za1 rfl) (zad [0] kr rfl) ?_
     rintro ⟨n2,all8,to3⟩ h
     cases n2 with
     | zero=>exact zdD h
     | succ n2 =>
      obtain ⟨ag2,hag2⟩:∃ ag,ag=zaF (fun _ _=>none) (zbK p1 from3 j2) n2:=⟨_,rfl⟩
      have h:zbK p1 from3 j2 ag2 all8 to3=some r:=by rw [hag2]; exact h
      unfold zbK at h
      refine zaK (zaK ?_)
      refine zeL (b:=decide ((to3:Int)≤(p1.rows.length:Int))) (fun hb2 => ?_) (fun hb2 => ?_)
      ·
       have h:=zhm hb2 h
       obtain ⟨r1,hq2,h⟩:=zbj h
       refine zbG 12 [(0,33,zI to3),(1,34,zI (p1.rows.length:Int)),(2,35,.bool true),(3,36,.bool true),(4,37,zP bp1),(5,38,zI from3),(6,39,zI to3),(7,40,zI r1),(8,41,zP bp1),(9,42,zP bp1),(10,43,.pointer (some ⟨bp1,4,none⟩)),(11,44,zI p1.heights)] mixed kr kr dc (by rfl) kr kr (zyP 2 0 rfl (zae ?_ (zyP 4 3 rfl (zae ?_ (zyP 1 8 rfl (zae ?_ (zae ?_ (zae ?_ DrawPre.nil)))))))) ?_
       · exact fun D n d c u i=>zbR rfl dc (zaa (m:=0) u rfl (d 0 dc)) (zaa (m:=1) u rfl (d 1 dc)) zdF (zeb (show Value.bool (decide ((to3:Int)≤(p1.rows.length:Int)))=Value.bool true from congrArg Value.bool hb2) (zaf 2 u i rfl))
       · exact fun D n d c u i=>zcL (v:=zI r1) (vs:=[zP bp1,zI from3,zI to3]) hrd (zft rfl (zaa (m:=3) u rfl (d 3 dc))) dc rfl (evL.cons (zaa (m:=4) u rfl (d 4 dc)) (evL.cons (zaa (m:=5) u rfl (d 5 dc)) (evL.cons (zaa (m:=6) u rfl (d 6 dc)) evL.nil))) rfl zwD (zgq (bp1:=bp1) (p1:=p1) (p1_h0:=p1_h0) (p1_h1:=p1_h1) (p1_h2:=p1_h2) (p1_h3:=p1_h3) hq2) (.ro 0 rfl (.ro 1 rfl (.ro 2 rfl (.ro 3 rfl (.ro 4 rfl .nil))))) (zaf 7 u i rfl)
       · exact fun D n d c u i=>zaA (zft rfl (zaa (m:=3) u rfl (d 3 dc))) dc (zaa (m:=8) u rfl (d 8 dc)) (zaf 9 u i rfl)
       · exact fun D n d c u i=>zab zp1 (zft rfl (zaa (m:=3) u rfl (d 3 dc))) dc (zaa (m:=9) u rfl (d 9 dc)) (show _=4 from rfl) (zaf 10 u i rfl)
       · exact fun D n d c u i=>zbr (i:=0) hrd rfl zbp (zft rfl (zaa (m:=3) u rfl (d 3 dc))) dc (zaa (m:=10) u rfl (d 10 dc)) rfl (zaf 11 u i rfl)
       refine zaU rfl zdF (zyR 1 rfl (zyN ?_))
       refine zyB rfl h (fun h => ?_) (fun h => ?_)
       ·
        refine zat (zaL ?_)
        obtain ⟨j3,hj3,h⟩:=zbC h
        refine zaX (β:=(List Gpage_best)) 0 rfl (fun b=>j3 b=some r) (fun b=>[]) (fun b=>[(0,zP bp1),(4,zI (p1.rows.length:Int)),(5,v2),(6,zI from3),(7,zI to3),(37,zP bp1),(38,zI from3),(39,zI to3),(40,zI r1),(41,zP bp1),(42,zP bp1),(43,.pointer (some ⟨bp1,4,none⟩)),(44,zI p1.heights),(45,.bool (decide ((r1:Int)≤p1.heights)))]) (fun b=>[zv8 v2 b]) (fun cut => ?_) ?_
        ·
         refine cut (zaD ?_)
         obtain ⟨j4,hj4,h⟩:=zbC h
         refine zaX (β:=Int×Int×Nat) 1 rfl (fun b=>j4 b.1 b.2.1=some r) (fun b=>[]) (fun b=>[(0,zP bp1),(4,zI (p1.rows.length:Int)),(5,v2),(6,zI from3),(7,zI to3),(8,zP b.2.2),(37,zP bp1),(38,zI from3),(39,zI to3),(40,zI r1),(41,zP bp1),(42,zP bp1),(43,.pointer (some ⟨bp1,4,none⟩)),(44,zI p1.heights),(45,.bool (decide ((r1:Int)≤p1.heights)))]) (fun b=>[zv8 v2 all8,cells b.2.2 [zI b.1,zI b.2.1,zI to3] 176]) (fun cut => ?_) ?_
         ·
          refine zyG (zyR 1 rfl ?_)
          refine za5 (v:=.agg #[zI 0,zI 1,zI to3]) (ps:=[(1,.const (zI 1)),(2,.tmp 49)]) rfl dc rfl (fun _=>by kernel_rfl) ?_
          refine zbk zlT rfl dc (fun b4 => ?_)
          refine zaZ (k:=1) (vs:=[zI 0,zI 1,zI to3]) (l':=[zI 0,zI 1,zI to3]) zdi rfl rfl rfl rfl rfl (show _≤_ by simp) rfl rfl ?_
          refine zyN (cut (zyG (zyR 2 rfl (zaU rfl zbf (zyN ?_)))))
          refine zyB rfl h (fun h => ?_) (fun h => ?_)
          ·
           refine zaK ?_
           obtain ⟨r2,hq3,h⟩:=zbj h
           obtain ⟨hg5,h⟩:=zbl h
           refine zbG 8 [(0,54,zP bp1),(1,55,zP bp1),(2,56,.pointer (some ⟨bp1,4,none⟩)),(3,57,zI p1.heights),(4,58,zP bp1),(5,59,zI from3),(6,60,zI to3),(7,61,zI r2)] mixed kr kr dc (by rfl) kr kr (zyP 1 0 rfl (zae ?_ (zae ?_ (zae ?_ (zyP 3 4 rfl (zae ?_ DrawPre.nil)))))) ?_
           · exact fun D n d c u i=>zaA rfl dc (zaa (m:=0) u rfl (d 0 dc)) (zaf 1 u i rfl)
           · exact fun D n d c u i=>zab zp1 rfl dc (zaa (m:=1) u rfl (d 1 dc)) (show _=4 from rfl) (zaf 2 u i rfl)
           · exact fun D n d c u i=>zbr (i:=0) hrd rfl zbp rfl dc (zaa (m:=2) u rfl (d 2 dc)) rfl (zaf 3 u i rfl)
           · exact fun D n d c u i=>zcL (v:=zI r2) (vs:=[zP bp1,zI from3,zI to3]) hrd rfl dc rfl (evL.cons (zaa (m:=4) u rfl (d 4 dc)) (evL.cons (zaa (m:=5) u rfl (d 5 dc)) (evL.cons (zaa (m:=6) u rfl (d 6 dc)) evL.nil))) rfl zwD (zgq (bp1:=bp1) (p1:=p1) (p1_h0:=p1_h0) (p1_h1:=p1_h1) (p1_h2:=p1_h2) (p1_h3:=p1_h3) hq3) (.ro 0 rfl (.ro 1 rfl (.ro 2 rfl (.ro 3 rfl (.ro 4 rfl .nil))))) (zaf 7 u i rfl)
           refine zaU rfl (zbi (r:=p1.heights - r2) (IntWalk.i64_in _ hg5)) (zyR 1 rfl (zyN ?_))
           obtain ⟨hg6,h⟩:=zbl h
           obtain ⟨r3,hq4,h⟩:=zbj h
           obtain ⟨hg7,h⟩:=zbl h
           obtain ⟨q2,hq5,h⟩:=zbj h
           obtain ⟨hg8,h⟩:=zbl h
           obtain ⟨hg9,h⟩:=zbl h
           refine zbG 20 [(0,63,zI (p1.heights - r2)),(1,64,zI (p1.heights - r2)),(2,65,zI ((p1.heights - r2)*(p1.heights - r2))),(3,66,zP bp1),(4,67,zI to3),(5,68,zI r3),(6,69,zI (((p1.heights - r2)*(p1.heights - r2))+r3)),(7,70,v2),(8,71,zI to3),(9,72,.pointer (some ⟨zco v2,(to3:Int).toNat*3,none⟩)),(10,73,.pointer (some ⟨zco v2,((to3:Int).toNat)*3,none⟩)),(11,74,zI q2.cost),(12,75,zI ((((p1.heights - r2)*(p1.heights - r2))+r3)+q2.cost)),(13,76,v2),(14,77,zI to3),(15,78,.pointer (some ⟨zco v2,(to3:Int).toNat*3,none⟩)),(16,79,.pointer (some ⟨zco v2,((to3:Int).toNat)*3+1,none⟩)),(17,80,zI q2.rows),(18,81,zI (q2.rows+1)),(19,82,zI to3)] mixed kr kr dc (by rfl) kr kr (zyP 2 0 rfl (zae ?_ (zyP 2 3 rfl (zae ?_ (zae ?_ (zyP 2 7 rfl (zae ?_ (zae ?_ (zae ?_ (zae ?_ (zyP 2 13 rfl (zae ?_ (zae ?_ (zae ?_ (zae ?_ (zyP 1 19 rfl DrawPre.nil)))))))))))))))) ?_
           · exact fun D n d c u i=>zbR rfl dc (zaa (m:=0) u rfl (d 0 dc)) (zaa (m:=1) u rfl (d 1 dc)) (zpo (r:=(p1.heights - r2)*(p1.heights - r2)) (IntWalk.i64_in _ hg6)) (zaf 2 u i rfl)
           · exact fun D n d c u i=>zcL (v:=zI r3) (vs:=[zP bp1,zI to3]) hrd rfl dc rfl (evL.cons (zaa (m:=3) u rfl (d 3 dc)) (evL.cons (zaa (m:=4) u rfl (d 4 dc)) evL.nil)) rfl zxK (ziM (bp1:=bp1) (p1:=p1) (p1_h0:=p1_h0) (p1_h1:=p1_h1) (p1_h2:=p1_h2) (p1_h3:=p1_h3) hq4) (.ro 0 rfl (.ro 1 rfl (.ro 2 rfl (.ro 3 rfl (.ro 4 rfl .nil))))) (zaf 5 u i rfl)
           · exact fun D n d c u i=>zbR rfl dc (zaa (m:=2) u rfl (d 2 dc)) (zaa (m:=5) u rfl (d 5 dc)) (zaP (r:=((p1.heights - r2)*(p1.heights - r2))+r3) (IntWalk.i64_in _ hg7)) (zaf 6 u i rfl)
           · exact fun D n d c u i=>zan (k:=0) hq5 Tryz.underlying174 zdi rfl dc (zaa (m:=7) u rfl (d 7 dc)) (zaa (m:=8) u rfl (d 8 dc)) rfl rfl (zaf 9 u i rfl)
           · exact fun D n d c u i=>zab zeV rfl dc (zaa (m:=9) u rfl (d 9 dc)) (show _=((to3:Int).toNat)*3 from rfl) (zaf 10 u i rfl)
           · exact fun D n d c u i=>zaB (i:=(to3:Int).toNat) (j:=0) (k:=0) (q:=q2) zbp zaY rfl dc (zaa (m:=10) u rfl (d 10 dc)) rfl (zaC hq5) rfl dc rfl (zaf 11 u i rfl)
           · exact fun D n d c u i=>zbR rfl dc (zaa (m:=6) u rfl (d 6 dc)) (zaa (m:=11) u rfl (d 11 dc)) (zaP (r:=(((p1.heights - r2)*(p1.heights - r2))+r3)+q2.cost) (IntWalk.i64_in _ hg8)) (zaf 12 u i rfl)
           · exact fun D n d c u i=>zan (k:=0) hq5 Tryz.underlying174 zdi rfl dc (zaa (m:=13) u rfl (d 13 dc)) (zaa (m:=14) u rfl (d 14 dc)) rfl rfl (zaf 15 u i rfl)
           · exact fun D n d c u i=>zab zfm rfl dc (zaa (m:=15) u rfl (d 15 dc)) (show _=((to3:Int).toNat)*3+1 from rfl) (zaf 16 u i rfl)
           · exact fun D n d c u i=>zaB (i:=(to3:Int).toNat) (j:=1) (k:=0) (q:=q2) zbp zaY rfl dc (zaa (m:=16) u rfl (d 16 dc)) rfl (zaC hq5) rfl dc rfl (zaf 17 u i rfl)
           · exact fun D n d c u i=>zbR rfl dc (zaa (m:=17) u rfl (d 17 dc)) rfl (zaP (r:=q2.rows+1) (IntWalk.i64_in _ hg9)) (zaf 18 u i rfl)
           refine za5 (v:=.agg #[zI ((((p1.heights - r2)*(p1.heights - r2))+r3)+q2.cost),zI (q2.rows+1),zI to3]) (ps:=[(0,.tmp 75),(1,.tmp 81),(2,.tmp 82)]) rfl dc rfl (fun _=>by kernel_rfl) ?_
           refine zaZ (k:=1) (vs:=[zI ((((p1.heights - r2)*(p1.heights - r2))+r3)+q2.cost),zI (q2.rows+1),zI to3]) (l':=[zI ((((p1.heights - r2)*(p1.heights - r2))+r3)+q2.cost),zI (q2.rows+1),zI to3]) zdi rfl rfl rfl rfl rfl (show _≤_ by simp) rfl rfl (zaO ?_)
           exact zam ((((p1.heights - r2)*(p1.heights - r2))+r3)+q2.cost,q2.rows+1,b4) h rfl (za1 rfl) (zad [0,1] kr rfl)
          refine zat ?_
          exact zam (0,1,b4) h rfl (za1 rfl) (zad [0,1] kr rfl)
         rintro ⟨b2,b3,b1⟩ h
         rw [hj4] at h
         refine zyG (zyR 2 rfl ?_)
         obtain ⟨q3,hq6,h⟩:=zbj h
         refine zan (k:=0) hq6 Tryz.underlying174 zdi rfl dc rfl rfl rfl rfl (zey (i:=(from3:Int).toNat) (j:=0) (k:=0) (q:=q3) (cs:=(zr7 q3)) zjU zaY rfl dc rfl rfl (zaC hq6) rfl rfl rfl ?_)
         refine zbk zlT rfl dc (fun b5 => ?_)
         refine zaZ (k:=2) (vs:=(zr7 q3)) (l':=(zr7 q3)) zdi rfl rfl rfl rfl rfl (show _≤_ by simp) rfl rfl ?_
         refine zyH (zab zfm rfl dc rfl (show _=1 from rfl) (zaq (k:=2) zbp rfl dc rfl rfl rfl (zaU rfl zbf (zyR 1 rfl ?_))))
         refine zyS (s:=91) rfl h (fun h => ?_) (fun h => ?_)
         ·
          refine zyR 14 rfl ?_
          refine zyR 6 rfl (zyN (za9 rfl (zaw (zyR 2 rfl (za8 (k:=1) (cs:=[zI b2,zI b3,zI to3]) zjU rfl dc rfl rfl rfl rfl ?_)))))
          obtain ⟨q4,hq7,h⟩:=zbj h
          refine zan (k:=0) hq7 Tryz.underlying174 zdi rfl dc rfl rfl rfl rfl ?_
          refine zfc (i:=(from3:Int).toNat) (j:=0) (k:=0) (q:=q4) (q':=(⟨b2,b3,to3⟩:Gpage_best)) (vs:=[zI b2,zI b3,zI to3]) zdi zaY rfl rfl rfl rfl (zaC hq7) rfl dc rfl rfl (fun m=>[q4,(⟨b2,q4.rows,q4.to_⟩:Gpage_best),(⟨b2,b3,q4.to_⟩:Gpage_best),(⟨b2,b3,to3⟩:Gpage_best)].getD m q4) rfl rfl (by intro m hm; rcases m with _ | _ | _ | m <;> first | rfl | (exfalso; omega)) ?_
          refine zaO (zag ?_)
          exact zam (all8.set (from3:Int).toNat (⟨b2,b3,to3⟩:Gpage_best)) h rfl (za1 rfl) (zad [0] kr rfl)
         refine zab zeV rfl dc rfl (show _=0 from rfl) (zaq (k:=1) zbp rfl dc rfl rfl rfl (zab zeV rfl dc rfl (show _=0 from rfl) (zaq (k:=2) zbp rfl dc rfl rfl rfl (zaU rfl zbf (zyR 2 rfl ?_)))))
         refine zyS (s:=98) rfl h (fun h => ?_) (fun h => ?_)
         ·
          refine zyR 13 rfl (zaO ?_)
          refine zaL (za9 rfl (zaw (zyR 2 rfl (za8 (k:=1) (cs:=[zI b2,zI b3,zI to3]) zjU rfl dc rfl rfl rfl rfl ?_))))
          obtain ⟨q5,hq8,h⟩:=zbj h
          refine zan (k:=0) hq8 Tryz.underlying174 zdi rfl dc rfl rfl rfl rfl ?_
          refine zfc (i:=(from3:Int).toNat) (j:=0) (k:=0) (q:=q5) (q':=(⟨b2,b3,to3⟩:Gpage_best)) (vs:=[zI b2,zI b3,zI to3]) zdi zaY rfl rfl rfl rfl (zaC hq8) rfl dc rfl rfl (fun m=>[q5,(⟨b2,q5.rows,q5.to_⟩:Gpage_best),(⟨b2,b3,q5.to_⟩:Gpage_best),(⟨b2,b3,to3⟩:Gpage_best)].getD m q5) rfl rfl (by intro m hm; rcases m with _ | _ | _ | m <;> first | rfl | (exfalso; omega)) ?_
          refine zaO (zag ?_)
          exact zam (all8.set (from3:Int).toNat (⟨b2,b3,to3⟩:Gpage_best)) h rfl (za1 rfl) (zad [0] kr rfl)
         refine zab zeV rfl dc rfl (show _=0 from rfl) (zaq (k:=1) zbp rfl dc rfl rfl rfl (zab zeV rfl dc rfl (show _=0 from rfl) (zaq (k:=2) zbp rfl dc rfl rfl rfl (zaU rfl zaV (zyR 1 rfl ?_)))))
         refine zyS (s:=104) rfl h (fun h => ?_) (fun h => ?_)
         ·
          refine zab zfm rfl dc rfl (show _=1 from rfl) (zaq (k:=1) zbp rfl dc rfl rfl rfl (zab zfm rfl dc rfl (show _=1 from rfl) (zaq (k:=2) zbp rfl dc rfl rfl rfl (zaU rfl zdF (zyR 2 rfl (zyN ?_))))))
          refine zyB rfl h (fun h => ?_) (fun h => ?_)
          ·
           refine zaw (zyR 2 rfl (za8 (k:=1) (cs:=[zI b2,zI b3,zI to3]) zjU rfl dc rfl rfl rfl rfl ?_))
           obtain ⟨q6,hq9,h⟩:=zbj h
           refine zan (k:=0) hq9 Tryz.underlying174 zdi rfl dc rfl rfl rfl rfl ?_
           refine zfc (i:=(from3:Int).toNat) (j:=0) (k:=0) (q:=q6) (q':=(⟨b2,b3,to3⟩:Gpage_best)) (vs:=[zI b2,zI b3,zI to3]) zdi zaY rfl rfl rfl rfl (zaC hq9) rfl dc rfl rfl (fun m=>[q6,(⟨b2,q6.rows,q6.to_⟩:Gpage_best),(⟨b2,b3,q6.to_⟩:Gpage_best),(⟨b2,b3,to3⟩:Gpage_best)].getD m q6) rfl rfl (by intro m hm; rcases m with _ | _ | _ | m <;> first | rfl | (exfalso; omega)) ?_
           refine zaO (zag ?_)
           exact zam (all8.set (from3:Int).toNat (⟨b2,b3,to3⟩:Gpage_best)) h rfl (za1 rfl) (zad [0] kr rfl)
          refine zat (zag ?_)
          exact zam all8 h rfl (za1 rfl) (zad [0] kr rfl)
         refine zyR 7 rfl (zyN (zaQ rfl (zat (zag ?_))))
         exact zam all8 h rfl (za1 rfl) (zad [0] kr rfl)
        rintro all9 h
        rw [hj3] at h
        refine zaw (zyR 1 rfl ?_)
        obtain ⟨hg10,h⟩:=zbl h
        refine zaU rfl (zaP (r:=to3+1) (IntWalk.i64_in _ hg10)) (zyR 1 rfl (zaO ?_))
        subst hag2
        exact za3 (n2,all9,to3+1) h (Nat.lt_succ_self _) rfl (za1 rfl) (zad [0] kr rfl)
       refine za2 (zal (zal (zau (zag ?_))))
       exact zam all8 h rfl (za1 rfl) (zad [0] kr rfl)
      have h:=zhn hb2 h
      refine zbG 12 [(0,33,zI to3),(1,34,zI (p1.rows.length:Int)),(2,35,.bool false),(3,36,.bool false),(4,37,undef),(5,38,undef),(6,39,undef),(7,40,undef),(8,41,undef),(9,42,undef),(10,43,undef),(11,44,undef)] mixed kr kr dc (by rfl) kr kr (zyP 2 0 rfl (zae ?_ (zyP 9 3 rfl DrawPre.nil))) ?_
      · exact fun D n d c u i=>zbR rfl dc (zaa (m:=0) u rfl (d 0 dc)) (zaa (m:=1) u rfl (d 1 dc)) zdF (zeb (show Value.bool (decide ((to3:Int)≤(p1.rows.length:Int)))=Value.bool false from congrArg Value.bool hb2) (zaf 2 u i rfl))
      refine zyR 2 rfl (zyN (zaQ rfl (za2 (zal (zal (zau (zag ?_)))))))
      exact zam all8 h rfl (za1 rfl) (zad [0] kr rfl)
    rintro all5 h
    rw [hj2] at h
    refine zaw (zyR 1 rfl ?_)
    obtain ⟨hg11,h⟩:=zbl h
    refine zaU rfl (zbi (r:=from3 - 1) (IntWalk.i64_in _ hg11)) (zyR 1 rfl (zaO ?_))
    subst hag1
    exact za3 (n1,all5,from3 - 1) h (Nat.lt_succ_self _) rfl (za1 rfl) (zad [0] kr rfl)
   refine za2 (zal (zal (zau ?_)))
   exact zam (all4,v2) h rfl (za1 rfl) (zad [0] kr rfl)
 rintro ⟨all1,v1⟩ h
 rw [hj1] at h
 obtain ⟨j5,hj5,h⟩:=zbC h
 refine zaX (β:=(List Int)×Hd) 1 rfl (fun b=>j5 b.1=some r) (fun b=>[]) (fun b=>[(5,v1),(11,b.2.v)]) (fun b=>[zv8 v1 all1,zv0 b.2.v b.1]) (fun cut => ?_) ?_
 ·
  refine zyG (zyR 1 rfl (zyN (cut (zyG (zyR 1 rfl (zyN (zaD (zda (enc:=(znI (.i64))) (e:=3) (size:=1) ?_))))))))
  refine zbn (β:=Nat×(List Int)×Int×Hd) (fun b=>zaF (fun _ _=>none) (zbx p1 all1 j5) b.1 b.2.1 b.2.2.1=some r) (fun b=>[]) (fun b=>[(4,zI (p1.rows.length:Int)),(5,v1),(11,b.2.2.2.v),(12,zI b.2.2.1)]) (fun b=>[zv8 v1 all1,zv0 b.2.2.2.v b.2.1]) (fun b=>b.1) (zbV,([]:List Int),0,Hd.nil) h rfl (za1 rfl) (zad [0,1] kr rfl) ?_
  rintro ⟨n3,out4,from6,hd4⟩ h
  cases n3 with
  | zero=>exact zdD h
  | succ n3 =>
   obtain ⟨ag3,hag3⟩:∃ ag,ag=zaF (fun _ _=>none) (zbx p1 all1 j5) n3:=⟨_,rfl⟩
   have h:zbx p1 all1 j5 ag3 out4 from6=some r:=by rw [hag3]; exact h
   unfold zbx at h
   refine zaK (zyG (zyR 2 rfl (zaU rfl zbf (zyN ?_))))
   refine zyB rfl h (fun h => ?_) (fun h => ?_)
   ·
    refine zat (zaL (zaK (zaD (zaw (zyR 3 rfl ?_)))))
    obtain ⟨q7,hq10,h⟩:=zbj h
    refine zan (k:=0) hq10 Tryz.underlying174 zdi rfl dc rfl rfl rfl rfl (zab zkm rfl dc rfl (show _=((from6:Int).toNat)*3+2 from rfl) (zaB (i:=(from6:Int).toNat) (j:=2) (k:=0) (q:=q7) zbp zaY rfl dc rfl rfl (zaC hq10) rfl dc rfl ?_))
    refine zaT (cs:=[zI q7.to_]) (te:=3) (ps:=[(0,.tmp 129)]) rfl dc rfl (fun _=>by kernel_rfl) (fun b6 => ?_)
    obtain ⟨hg12,h⟩:=zbl h
    refine za4 (k:=1) (k2:=2) (ys:=[q7.to_]) Tryz.underlying49 zsz za6 zg8 rfl dc rfl rfl rfl rfl rfl rfl hg12 (fun v3 => ?_)
    refine zbJ (k:=1) rfl (fun hd5 he1 => ?_)
    subst he1
    refine zyR 1 rfl (zaO (zag (zaL (zaw (zyR 2 rfl ?_)))))
    obtain ⟨q8,hq11,h⟩:=zbj h
    refine zan (k:=0) hq11 Tryz.underlying174 zdi rfl dc rfl rfl rfl rfl (zab zkm rfl dc rfl (show _=((from6:Int).toNat)*3+2 from rfl) (zaB (i:=(from6:Int).toNat) (j:=2) (k:=0) (q:=q8) zbp zaY rfl dc rfl rfl (zaC hq11) rfl dc rfl (zyR 1 rfl (zaO ?_))))
    subst hag3
    exact za3 (n3,out4++[q7.to_],q8.to_,hd5) h (Nat.lt_succ_self _) rfl (za1 rfl) (zad [0,1] kr rfl)
   refine za2 (zal (zal (zau ?_)))
   exact zam (out4,hd4) h rfl (za1 rfl) (zad [0,1] kr rfl)
 rintro ⟨out1,hd1⟩ h
 rw [hj5] at h
 refine zaK ?_
 obtain ⟨q9,hq12,h⟩:=zbj h
 refine zbG 6 [(0,132,hd1.v),(1,133,v1),(2,134,.pointer (some ⟨zco v1,(0:Int).toNat*3,none⟩)),(3,135,.pointer (some ⟨zco v1,((0:Int).toNat)*3,none⟩)),(4,136,zI q9.cost),(5,2,hd1.v)] mixed kr kr dc (by rfl) kr kr (zyP 2 0 rfl (zae ?_ (zae ?_ (zae ?_ (zyP 1 5 rfl DrawPre.nil))))) ?_
 · exact fun D n d c u i=>zan (k:=0) hq12 Tryz.underlying174 zdi rfl dc (zaa (m:=1) u rfl (d 1 dc)) rfl rfl rfl (zaf 2 u i rfl)
 · exact fun D n d c u i=>zab zeV rfl dc (zaa (m:=2) u rfl (d 2 dc)) (show _=((0:Int).toNat)*3 from rfl) (zaf 3 u i rfl)
 · exact fun D n d c u i=>zaB (i:=(0:Int).toNat) (j:=0) (k:=0) (q:=q9) zbp zaY rfl dc (zaa (m:=3) u rfl (d 3 dc)) rfl (zaC hq12) rfl dc rfl (zaf 4 u i rfl)
 refine zyR 1 rfl (zyN (zaH ?_))
 cases h
 exact zaN (rs:=[.tmp 2,.tmp 3]) hd1.v (.inl rfl) Tryz.results66 (.cons (.tmp rfl) (.cons (.tmp rfl) .nil)) rfl (zad [1] kr rfl)
def zby (l1:Gapi_Layout) (x2:Int×Gapi_Verse) (ag1:(List Gapi_Row)→(List Int)→(List Int)→(List Int)→Int→Option (Int×Gpage_parter)) (cost4:Int) (l18:List Int) (l19:List Int) (r2:((List ByteArray)×Int)) (ag2:(List Gapi_Row)→(List Int)→Int→Option (Int×Gpage_parter)) (l24:List Gapi_Row) (l25:List Int) (x5:Int):Option (Int×Gpage_parter) :=
zax (decide ((x5:Int)<(r2.1.length:Int))) (
zbd (fun (j3:Int→Int→ByteArray→Option (Int×Gpage_parter)) =>
zak (zbF r2.1 x5) fun (q2:ByteArray) =>
zax ((x5:Int)==0) (
zax (decide ((0:Int)<l1.Every)) (
grd (I64 (x2.1+1)) <|
grd (l1.Every≠0) <|
zax (((Int.tmod (x2.1+1) l1.Every):Int)==0) (
grd (I64 (x2.1+1)) <|
j3 x2.2.Indent (x2.1+1) q2
) (
j3 x2.2.Indent 0 q2
)
) (
j3 x2.2.Indent 0 q2
)
) (
j3 l1.Turn 0 q2
)
) (fun (r3:Int) (r4:Int) (r5:ByteArray) =>
grd (l24.length+1≤2147483648) <|
grd (l25.length+1≤2147483648) <|
grd (I64 (x5+1)) <|
ag2 (l24++[(⟨x2.1,x2.2.Stanza,x5,r3,r4,r5⟩:Gapi_Row)]) (l25++[x2.2.Stanza]) (x5+1)
)
) (
ag1 l24 l25 l18 (l19.set (x2.2.Stanza:Int).toNat x2.1) (cost4+r2.2)
)
def zbM (l1:Gapi_Layout) (x2:Int×Gapi_Verse) (ag1:(List Gapi_Row)→(List Int)→(List Int)→(List Int)→Int→Option (Int×Gpage_parter)) (l14:List Gapi_Row) (l15:List Int) (l16:List Int) (l17:List Int) (cost4:Int):Option (Int×Gpage_parter) :=
zbd (fun (j2:(List Int)→(List Int)→Option (Int×Gpage_parter)) =>
zax ((x2.2.Stanza:Int)==(l16.length:Int)) (
grd (l16.length+1≤2147483648) <|
grd (l17.length+1≤2147483648) <|
j2 (l16++[x2.1]) (l17++[x2.1])
) (
j2 l16 l17
)
) (fun (l18:List Int) (l19:List Int) =>
zak (zbF l19 x2.2.Stanza) fun (q1:Int) =>
zak (ze2 x2.2.Text x2.2.Indent l1) fun (r2:((List ByteArray)×Int)) =>
grd (I64 (cost4+r2.2)) <|
zaF (fun _ _ _=>none) (zby l1 x2 ag1 cost4 l18 l19 r2) zbV l14 l15 0
)
def zdy (p1:Gpage_parter) (x1:Gpoem_Poem) (l1:Gapi_Layout):Option (Int×Gpage_parter) :=
zbd (fun (j1:(List Gapi_Row)→(List Int)→(List Int)→(List Int)→Int→Option (Int×Gpage_parter)) =>
zak (zef x1) fun (r1:Unit) =>
zak (zdc x1) fun (its1:(List (Int×Gapi_Verse))) =>
zbd (fun (dn1:(List Gapi_Row)→(List Int)→(List Int)→(List Int)→Int→Option (Int×Gpage_parter)) =>
zcD dn1 (zbM l1) its1 p1.rows p1.blanks p1.firsts p1.lasts 0
) (fun (l14:List Gapi_Row) (l15:List Int) (l16:List Int) (l17:List Int) (cost4:Int) =>
j1 l14 l15 l16 l17 cost4
)
) (fun (l2:List Gapi_Row) (l3:List Int) (l4:List Int) (l5:List Int) (cost1:Int) =>
some (cost1,(⟨l2,l3,l4,l5,p1.heights⟩:Gpage_parter))
)
theorem zh0 {bp1:Nat} {p1:Gpage_parter} {p1_h0 p1_h1 p1_h2 p1_h3:Hd} {bx1:Nat} {x1:Gpoem_Poem} {x1_h0 x1_h1:Hd} {l1:Gapi_Layout} {r:(Int×Gpage_parter)} (h:zdy p1 x1 l1=some r):FnR Tryz.prog 65 [zP bp1,zP bx1,.agg (zr0 l1).toArray] [cells bx1 [.string x1.told_title,x1_h0.v,x1_h1.v,.string x1.source] 106,zv6 x1_h0.v x1.told_lines,zv7 x1_h1.v x1.told_stanzas] [cells bp1 [p1_h0.v,p1_h1.v,p1_h2.v,p1_h3.v,zI p1.heights] 131,zv2 p1_h0.v p1.rows,zv0 p1_h1.v p1.blanks,zv0 p1_h2.v p1.firsts,zv0 p1_h3.v p1.lasts] (fun b:Hd×Hd×Hd×Hd=>zI r.1) (fun b=>[cells bp1 [b.1.v,b.2.1.v,b.2.2.1.v,b.2.2.2.v,zI r.2.heights] 131,zv2 b.1.v r.2.rows,zv0 b.2.1.v r.2.blanks,zv0 b.2.2.1.v r.2.firsts,zv0 b.2.2.2.v r.2.lasts]):=by
 unfold zdy at h
 refine FnR.intro Tryz.func65 rfl Tryz.ntmps65 (by simp) ?_
 intro w0 K hrd
 refine zjk ?_
 obtain ⟨j1,hj1,h⟩:=zbC h
 refine zaX (β:=(List Gapi_Row)×(List Int)×(List Int)×(List Int)×Int×Hd×Hd×Hd×Hd×Nat×(List Nat)) 2 rfl (fun b=>j1 b.1 b.2.1 b.2.2.1 b.2.2.2.1 b.2.2.2.2.1=some r) (fun b=>zgL b.2.2.2.2.2.2.2.2.2.2) (fun b=>[(7,zP b.2.2.2.2.2.2.2.2.2.1)]) (fun b=>[cells bp1 [b.2.2.2.2.2.1.v,b.2.2.2.2.2.2.1.v,b.2.2.2.2.2.2.2.1.v,b.2.2.2.2.2.2.2.2.1.v,zI p1.heights] 131,zv2 b.2.2.2.2.2.1.v b.1,zv0 b.2.2.2.2.2.2.1.v b.2.1,zv0 b.2.2.2.2.2.2.2.1.v b.2.2.1,zv0 b.2.2.2.2.2.2.2.2.1.v b.2.2.2.1,cells b.2.2.2.2.2.2.2.2.2.1 [zI b.2.2.2.2.1] 3,zj6 ((b.2.2.2.2.2.2.2.2.2.2:List Nat).map zoi)]) (fun cut => ?_) ?_
 ·
  refine zyG ?_
  refine zdW rfl dc rfl (fun b2 => ?_)
  refine zdW rfl dc rfl (fun b3 => ?_)
  refine zyR 1 rfl (zyH ?_)
  refine zbk zui rfl dc (fun b4 => ?_)
  refine zaS (k:=8) (l':=[zI 0]) zdb rfl rfl rfl rfl rfl (fun _ _=>rfl) rfl ?_
  refine zyN (cut (zyG (zyR 1 rfl ?_)))
  obtain ⟨r1,hq1,h⟩:=zbj h
  refine zhf (vs:=[zP bx1]) hrd rfl dc rfl rfl rfl zxL (zjr (bp1:=bx1) (p1:=x1) (p1_h0:=x1_h0) (p1_h1:=x1_h1) hq1) Splits.nil (.ro 0 rfl (.ro 1 rfl (.ro 2 rfl .nil))) ?_
  rintro b5
  refine zdu (L':=[cells bp1 [p1_h0.v,p1_h1.v,p1_h2.v,p1_h3.v,zI p1.heights] 131,zv2 p1_h0.v p1.rows,zv0 p1_h1.v p1.blanks,zv0 p1_h2.v p1.firsts,zv0 p1_h3.v p1.lasts,zj6 ((([]:List Nat):List Nat).map zoi),cells b2 [zP bp1] 129,cells b3 (zr0 l1) 23,cells b4 [zI 0] 3,cells b5 [zP bx1] 58]) (zad [0,1,2,3,4,5,6,7,8,9] kr rfl) (zyN (zaD ?_))
  obtain ⟨its1,hq2,h⟩:=zbj h
  obtain ⟨dn1,hdn1,h⟩:=zbC h
  refine zoO (α:=Int×Gapi_Verse) (β:=(List Gapi_Row)×(List Int)×(List Int)×(List Int)×Int×Hd×Hd×Hd×Hd) (γ:=Unit) (δ:=Nat) (ps:=[17,18]) hrd Ro.nil rfl zwN (zhY hq2) (fun pre b=>∀ post,its1=pre++post→zcD dn1 (zbM l1) post b.1 b.2.1 b.2.2.1 b.2.2.2.1 b.2.2.2.2.1=some r) (fun pre b=>[cells bp1 [b.2.2.2.2.2.1.v,b.2.2.2.2.2.2.1.v,b.2.2.2.2.2.2.2.1.v,b.2.2.2.2.2.2.2.2.v,zI p1.heights] 131,zv2 b.2.2.2.2.2.1.v b.1,zv0 b.2.2.2.2.2.2.1.v b.2.1,zv0 b.2.2.2.2.2.2.2.1.v b.2.2.1,zv0 b.2.2.2.2.2.2.2.2.v b.2.2.2.1,cells b2 [zP bp1] 129,cells b3 (zr0 l1) 23,cells b4 [zI b.2.2.2.2.1] 3]) (fun c pre g=>False) (fun c pre g=>[]) (fun pre x b j=>[(3,zP b2),(5,zP b3),(6,zI 0),(7,zP b4),(16,.func (.func 115) #[] #[zP b5]),(8,zI x.1),(9,zP j)]) (fun pre x b j=>[cells bp1 [b.2.2.2.2.2.1.v,b.2.2.2.2.2.2.1.v,b.2.2.2.2.2.2.2.1.v,b.2.2.2.2.2.2.2.2.v,zI p1.heights] 131,zv2 b.2.2.2.2.2.1.v b.1,zv0 b.2.2.2.2.2.2.1.v b.2.1,zv0 b.2.2.2.2.2.2.2.1.v b.2.2.1,zv0 b.2.2.2.2.2.2.2.2.v b.2.2.2.1,cells b2 [zP bp1] 129,cells b3 (zr0 l1) 23,cells b4 [zI b.2.2.2.2.1] 3,cells j (zr4 x.2) 76]) (p1.rows,p1.blanks,p1.firsts,p1.lasts,0,p1_h0,p1_h1,p1_h2,p1_h3) (fun post e=>by rw [List.nil_append] at e; subst e; exact h) (zad [0,1,2,3,4,6,7,8] kr rfl) (.own (As:=[cells b5 [zP bx1] 58]) (zad [9] (by kernel_rfl) rfl) (fun _ _ h=>sepL.one1.1 h) (.ro 0 rfl (.ro 1 rfl (.ro 2 rfl .nil)))) (fun _=>rfl) dc ?_ ?_ ?_ ?_
  ·
   rintro lp rc pre x2 post ⟨l14,l15,l16,l17,cost4,hd13,hd14,hd15,hd16⟩ w1 K1 hxs1 hext hro hinv
   have hrd:=hrd.ext hext
   refine zyG (zyR 1 rfl (zyN (zaw ?_)))
   refine zbk zuh rfl dc (fun b6 => ?_)
   refine zaZ (k:=8) (vs:=(zr4 x2.2)) (l':=(zr4 x2.2)) zlE rfl rfl rfl rfl rfl (show _≤_ by simp) rfl rfl ?_
   refine zaO ?_
   exact fun a w ha hw=>⟨b6,(za1 rfl) _ _ _ ha,hw.weaken (zad [0,1,2,3,4,5,6,7,8] kr rfl)⟩
  ·
   rintro lp rc pre x2 post1 ⟨l14,l15,l16,l17,cost4,hd13,hd14,hd15,hd16⟩ jb1 w1 K1 hxs1 hext hro hinv
   have hrd:=hrd.ext hext
   have h:=hinv (x2::post1) hxs1
   obtain ⟨ag1,hag1⟩:∃ ag,ag=zcD dn1 (zbM l1) post1:=⟨_,rfl⟩
   have h:zbM l1 x2 ag1 l14 l15 l16 l17 cost4=some r:=by rw [hag1]; exact h
   unfold zbM at h
   refine zaD ?_
   obtain ⟨j2,hj2,h⟩:=zbC h
   refine zaX (β:=(List Int)×(List Int)×Hd×Hd) 0 rfl (fun b=>j2 b.1 b.2.1=some r) (fun b=>[]) (fun b=>[(3,zP b2),(5,zP b3),(6,zI 0),(7,zP b4),(8,zI x2.1),(9,zP jb1),(16,.func (.func 115) #[] #[zP b5])]) (fun b=>[cells bp1 [hd13.v,hd14.v,b.2.2.1.v,b.2.2.2.v,zI p1.heights] 131,zv2 hd13.v l14,zv0 hd14.v l15,zv0 b.2.2.1.v b.1,zv0 b.2.2.2.v b.2.1,cells b2 [zP bp1] 129,cells b3 (zr0 l1) 23,cells b4 [zI cost4] 3,cells jb1 (zr4 x2.2) 76]) (fun cut => ?_) ?_
   ·
    refine cut (zaK ?_)
    refine zbG 7 [(0,19,.pointer (some ⟨jb1,2,none⟩)),(1,20,zI x2.2.Stanza),(2,21,zP bp1),(3,22,zP bp1),(4,23,.pointer (some ⟨bp1,2,none⟩)),(5,24,hd15.v),(6,25,zI (l16.length:Int))] mixed kr kr dc (by rfl) kr kr (zae ?_ (zae ?_ (zae ?_ (zae ?_ (zae ?_ (zae ?_ (zae ?_ DrawPre.nil))))))) ?_
    · exact fun D n d c u i=>zab zjx rfl dc (zba (by rfl) rfl) (show _=2 from rfl) (zaf 0 u i rfl)
    · exact fun D n d c u i=>zaq (k:=8) zbp rfl dc (zaa (m:=0) u rfl (d 0 dc)) rfl rfl (zaf 1 u i rfl)
    · exact fun D n d c u i=>zaq (k:=5) zh6 rfl dc (zba (by rfl) rfl) rfl rfl (zaf 2 u i rfl)
    · exact fun D n d c u i=>zaA rfl dc (zaa (m:=2) u rfl (d 2 dc)) (zaf 3 u i rfl)
    · exact fun D n d c u i=>zab zi1 rfl dc (zaa (m:=3) u rfl (d 3 dc)) (show _=2 from rfl) (zaf 4 u i rfl)
    · exact fun D n d c u i=>zaq (k:=0) zhi rfl dc (zaa (m:=4) u rfl (d 4 dc)) rfl rfl (zaf 5 u i rfl)
    · exact fun D n d c u i=>zbv (k:=3) rfl dc (zaa (m:=5) u rfl (d 5 dc)) rfl Tryz.underlying49 (zaf 6 u i rfl)
    refine zaU rfl zaV (zyN ?_)
    refine zyB rfl h (fun h => ?_) (fun h => ?_)
    ·
     obtain ⟨hg1,h⟩:=zbl h
     obtain ⟨hg2,h⟩:=zbl h
     refine zgx 2 ?_
     refine let vals1:(Nat×Hd×Nat×Hd)→List (Nat×Nat×Value):=fun b=>[(0,27,zP bp1),(1,28,zP bp1),(2,29,zP bp1),(3,30,zP bp1),(4,31,.pointer (some ⟨bp1,2,none⟩)),(5,32,hd15.v),(6,33,zI x2.1),(7,34,.slice (some ⟨b.1,0,none⟩) 1 1),(8,35,b.2.1.v),(9,36,zP bp1),(10,37,zP bp1),(11,38,.pointer (some ⟨bp1,3,none⟩)),(12,39,hd16.v),(13,40,zI x2.1),(14,41,.slice (some ⟨b.2.2.1,0,none⟩) 1 1),(15,42,b.2.2.2.v),(16,43,zP bp1),(17,44,.pointer (some ⟨bp1,2,none⟩))]; let LL1:(Nat→Prop)→(Nat×Hd×Nat×Hd)→List Asn:=fun D b=>[eD D (cells bp1 [hd13.v,hd14.v,hd15.v,hd16.v,zI p1.heights] 131) [(18,cells bp1 [hd13.v,hd14.v,b.2.1.v,hd16.v,zI p1.heights] 131)],zv2 hd13.v l14,zv0 hd14.v l15,eD D (zv0 hd15.v l16) [(8,zv0 b.2.1.v (l16++[x2.1]))],eD D (zv0 hd16.v l17) [(15,zv0 b.2.2.2.v (l17++[x2.1]))],cells b2 [zP bp1] 129,cells b3 (zr0 l1) 23,cells b4 [zI cost4] 3,cells jb1 (zr4 x2.2) 76,eD D emp [(7,cells b.1 [zI x2.1] 3)],eD D emp [(14,cells b.2.2.1 [zI x2.1] 3)]]; ?_
     have zhq:zyQ [7,8,14,15,18] LL1:=fun i h D b=>zac (zlx rfl h) (zac rfl (zac rfl (zac (zlx rfl h) (zac (zlx rfl h) (zac rfl (zac rfl (zac rfl (zac rfl (zac (zlx rfl h) (zac (zlx rfl h) rfl))))))))))
     refine zdY (β:=Nat×Hd×Nat×Hd) 19 ((0:Nat),Hd.nil,(0:Nat),Hd.nil) vals1 LL1 mixed kr kr dc (fun _=>rfl) (zac zbY (zcS (zac zbY (zac zbY (zfN (zac zbY (zac zbY rfl))))))) (zjl zhq rfl (fun _=>rfl) (fun _=>rfl) ?_ (zjl zhq rfl (fun _=>rfl) (fun _=>rfl) ?_ (zjl zhq rfl (fun _=>rfl) (fun _=>rfl) ?_ (zyq zhq rfl (fun _=>rfl) (fun _=>rfl) ?_ (zyq zhq rfl (fun _=>rfl) (fun _=>rfl) ?_ (zjl zhq rfl (fun _=>rfl) (fun _=>rfl) ?_ (znJ zhq (fun _=>rfl) (fun _=>rfl) 1 6 (fun _=>rfl) rfl (zas ?_ (zas ?_ (zjl zhq rfl (fun _=>rfl) (fun _=>rfl) ?_ (zyq zhq rfl (fun _=>rfl) (fun _=>rfl) ?_ (zyq zhq rfl (fun _=>rfl) (fun _=>rfl) ?_ (zjl zhq rfl (fun _=>rfl) (fun _=>rfl) ?_ (znJ zhq (fun _=>rfl) (fun _=>rfl) 1 13 (fun _=>rfl) rfl (zas ?_ (zas ?_ (zyq zhq rfl (fun _=>rfl) (fun _=>rfl) ?_ (zyq zhq rfl (fun _=>rfl) (fun _=>rfl) ?_ (zas ?_ DrawG.nil))))))))))))))))))) ?_
     · exact fun D ⟨b7,hd19,b8,hd20⟩ n d c u i=>⟨_,(zac (zaj (fun hD=>n (c 18 _ rfl hD 0 dc)) zap) (zmy rfl)),zaq (k:=5) zh6 rfl dc (zba (by rfl) rfl) rfl rfl (zaf 0 u i rfl)⟩
     · exact fun D ⟨b7,hd19,b8,hd20⟩ n d c u i=>⟨_,(zlz rfl),zaq (k:=5) zh6 rfl dc (zba (by rfl) rfl) rfl rfl (zaf 1 u i rfl)⟩
     · exact fun D ⟨b7,hd19,b8,hd20⟩ n d c u i=>⟨_,(zac (zaj (fun hD=>n (c 18 _ rfl hD 2 dc)) zap) (zcS (zac (zaj (fun hD=>n (c 3 _ rfl (c 4 _ rfl (c 5 _ rfl (c 8 _ rfl hD 5 dc) 4 dc) 3 dc) 2 dc)) zap) (zac (zaj (fun hD=>n (c 3 _ rfl (c 4 _ rfl (c 5 _ rfl (c 8 _ rfl (c 15 _ rfl hD 8 dc) 5 dc) 4 dc) 3 dc) 2 dc)) zap) (zuc rfl))))),zaq (k:=5) zh6 rfl dc (zba (by rfl) rfl) rfl rfl (zaf 2 u i rfl)⟩
     · exact fun D ⟨b7,hd19,b8,hd20⟩ n d c u i=>zaA rfl dc (zaa (m:=2) u rfl (d 2 dc)) (zaf 3 u i rfl)
     · exact fun D ⟨b7,hd19,b8,hd20⟩ n d c u i=>zab zi1 rfl dc (zaa (m:=3) u rfl (d 3 dc)) (show _=2 from rfl) (zaf 4 u i rfl)
     · exact fun D ⟨b7,hd19,b8,hd20⟩ n d c u i=>⟨_,(zac (zaj (fun hD=>n (c 18 _ rfl hD 5 dc)) zap) (zcS (zac (zaj (fun hD=>n (c 8 _ rfl hD 5 dc)) zap) (zac (zaj (fun hD=>n (c 8 _ rfl (c 15 _ rfl hD 8 dc) 5 dc)) zap) (zuc rfl))))),zaq (k:=0) zhi rfl dc (zaa (m:=4) u rfl (d 4 dc)) rfl rfl (zaf 5 u i rfl)⟩
     ·
      intro D b hn hd hcl
      obtain ⟨zb0,hd19,b8,hd20⟩:=b
      refine zaG (zac (zaj (fun hD=>hn (hcl 18 _ rfl hD 7 dc)) zap) (zcS (zac (zaj (fun hD=>hn (hcl 8 _ rfl hD 7 dc)) zap) (zac (zaj (fun hD=>hn (hcl 8 _ rfl (hcl 15 _ rfl hD 8 dc) 7 dc)) zap) (zfN (zac (zaj hn zap) rfl)))))) ?_
      refine zaT (cs:=[zI x2.1]) (te:=3) (ps:=[(0,.tmp 33)]) rfl dc (evP.cons (zaa (m:=6) rfl rfl (hd 6 dc)) evP.nil) (fun _=>by kernel_rfl) (fun b7 => ?_)
      refine zc2 9 rfl rfl ?_
      exact zaM (b:=(zb0,hd19,b8,hd20)) (b7,hd19,b8,hd20) 7 (by rfl) (by rfl) rfl (zj3 (zar (fun hD=>absurd hD hn) (zj4 rfl))) (zac ((zao (by rfl)).trans (zaj (fun hD=>hn (hcl 18 _ rfl hD 7 dc)) zap)) (zcS (zac ((zao (by rfl)).trans (zaj (fun hD=>hn (hcl 8 _ rfl hD 7 dc)) zap)) (zac ((zao (by rfl)).trans (zaj (fun hD=>hn (hcl 8 _ rfl (hcl 15 _ rfl hD 8 dc) 7 dc)) zap)) (zfN (zac (zaI (Or.inr rfl) rfl) (zac (zao (by rfl)) rfl)))))))
     ·
      intro D b hn hd hcl
      obtain ⟨b7,zb1,b8,hd20⟩:=b
      refine zaG (zac (zaj (fun hD=>hn (hcl 18 _ rfl hD 8 dc)) zap) (zcS (zac (zaj hn zap) (zac (zaj (fun hD=>hn (hcl 15 _ rfl hD 8 dc)) zap) (zfN (zac (zaI (hd 7 dc) rfl) rfl)))))) ?_
      refine za4 (k:=3) (k2:=9) (ys:=[x2.1]) Tryz.underlying49 zsz za6 zg8 rfl dc (zaa (m:=5) rfl rfl (hd 5 dc)) (zaa (m:=7) rfl rfl (hd 7 dc)) rfl rfl rfl rfl hg1 (fun v1 => ?_)
      refine zbJ (k:=3) rfl (fun hd19 he1 => ?_)
      subst he1
      exact zaM (b:=(b7,zb1,b8,hd20)) (b7,hd19,b8,hd20) 8 (by rfl) (by rfl) rfl (zjm (zar (fun hD=>absurd hD hn) (zyD rfl))) (zac ((zao (by rfl)).trans (zaj (fun hD=>hn (hcl 18 _ rfl hD 8 dc)) zap)) (zcS (zac (zaI (Or.inr rfl) rfl) (zac ((zao (by rfl)).trans (zaj (fun hD=>hn (hcl 15 _ rfl hD 8 dc)) zap)) (zfN (zac ((zao (by rfl)).trans (zaI (hd 7 dc) rfl)) (zac (zao (by rfl)) rfl)))))))
     · exact fun D ⟨b7,hd19,b8,hd20⟩ n d c u i=>⟨_,(zac (zaj (fun hD=>n (c 10 _ rfl (c 11 _ rfl (c 12 _ rfl (c 18 _ rfl hD 12 dc) 11 dc) 10 dc) 9 dc)) zap) (zcC (zac (zaj (fun hD=>n (c 10 _ rfl (c 11 _ rfl (c 12 _ rfl (c 15 _ rfl hD 12 dc) 11 dc) 10 dc) 9 dc)) zap) (zuc rfl)))),zaq (k:=5) zh6 rfl dc (zba (by rfl) rfl) rfl rfl (zaf 9 u i rfl)⟩
     · exact fun D ⟨b7,hd19,b8,hd20⟩ n d c u i=>zaA rfl dc (zaa (m:=9) u rfl (d 9 dc)) (zaf 10 u i rfl)
     · exact fun D ⟨b7,hd19,b8,hd20⟩ n d c u i=>zab zkp rfl dc (zaa (m:=10) u rfl (d 10 dc)) (show _=3 from rfl) (zaf 11 u i rfl)
     · exact fun D ⟨b7,hd19,b8,hd20⟩ n d c u i=>⟨_,(zac (zaj (fun hD=>n (c 18 _ rfl hD 12 dc)) zap) (zcC (zac (zaj (fun hD=>n (c 15 _ rfl hD 12 dc)) zap) (zuc rfl)))),zaq (k:=0) zhi rfl dc (zaa (m:=11) u rfl (d 11 dc)) rfl rfl (zaf 12 u i rfl)⟩
     ·
      intro D b hn hd hcl
      obtain ⟨b7,hd19,zb2,hd20⟩:=b
      refine zaG (zac (zaj (fun hD=>hn (hcl 15 _ rfl (hcl 18 _ rfl hD 15 dc) 14 dc)) zap) (zcC (zac (zaj (fun hD=>hn (hcl 15 _ rfl hD 14 dc)) zap) (zoS (zac (zaj hn zap) rfl))))) ?_
      refine zaT (cs:=[zI x2.1]) (te:=3) (ps:=[(0,.tmp 40)]) rfl dc (evP.cons (zaa (m:=13) rfl rfl (hd 13 dc)) evP.nil) (fun _=>by kernel_rfl) (fun b8 => ?_)
      refine zc2 10 rfl rfl ?_
      exact zaM (b:=(b7,hd19,zb2,hd20)) (b7,hd19,b8,hd20) 14 (by rfl) (by rfl) rfl (zvC (zcF (zar (fun hD=>absurd hD hn) (zvt rfl)))) (zac ((zao (by rfl)).trans (zaj (fun hD=>hn (hcl 15 _ rfl (hcl 18 _ rfl hD 15 dc) 14 dc)) zap)) (zcS (zac (zao (by rfl)) (zac ((zao (by rfl)).trans (zaj (fun hD=>hn (hcl 15 _ rfl hD 14 dc)) zap)) (zfN (zac (zao (by rfl)) (zac (zaI (Or.inr rfl) rfl) rfl)))))))
     ·
      intro D b hn hd hcl
      obtain ⟨b7,hd19,b8,zb3⟩:=b
      refine zaG (zac (zaj (fun hD=>hn (hcl 18 _ rfl hD 15 dc)) zap) (zcS (zac (zaI (hd 8 dc) rfl) (zac (zaj hn zap) (zfN (zac (zaI (hcl 8 _ rfl (hd 8 dc) 7 dc) rfl) (zac (zaI (hd 14 dc) rfl) rfl))))))) ?_
      refine za4 (k:=4) (k2:=10) (ys:=[x2.1]) Tryz.underlying49 zsz za6 zg8 rfl dc (zaa (m:=12) rfl rfl (hd 12 dc)) (zaa (m:=14) rfl rfl (hd 14 dc)) rfl rfl rfl rfl hg2 (fun v2 => ?_)
      refine zbJ (k:=4) rfl (fun hd20 he2 => ?_)
      subst he2
      exact zaM (b:=(b7,hd19,b8,zb3)) (b7,hd19,b8,hd20) 15 (by rfl) (by rfl) rfl (zvt (zcF (zar (fun hD=>absurd hD hn) (zvC rfl)))) (zac ((zao (by rfl)).trans (zaj (fun hD=>hn (hcl 18 _ rfl hD 15 dc)) zap)) (zcS (zac ((zao (by rfl)).trans (zaI (hd 8 dc) rfl)) (zac (zaI (Or.inr rfl) rfl) (zfN (zac ((zao (by rfl)).trans (zaI (hcl 8 _ rfl (hd 8 dc) 7 dc) rfl)) (zac ((zao (by rfl)).trans (zaI (hd 14 dc) rfl)) rfl)))))))
     · exact fun D ⟨b7,hd19,b8,hd20⟩ n d c u i=>zaA rfl dc (zaa (m:=0) u rfl (d 0 dc)) (zaf 16 u i rfl)
     · exact fun D ⟨b7,hd19,b8,hd20⟩ n d c u i=>zab zi1 rfl dc (zaa (m:=16) u rfl (d 16 dc)) (show _=2 from rfl) (zaf 17 u i rfl)
     ·
      intro D b hn hd hcl
      obtain ⟨b7,hd19,b8,hd20⟩:=b
      refine zaG (zac (zaj hn zap) (zcS (zac (zaI (hd 8 dc) rfl) (zac (zaI (hd 15 dc) rfl) (zfN (zac (zaI (hd 7 dc) rfl) (zac (zaI (hcl 15 _ rfl (hd 15 dc) 14 dc) rfl) rfl))))))) ?_
      refine zaS (k:=0) (l':=[hd13.v,hd14.v,hd19.v,hd16.v,zI p1.heights]) zq3 rfl (zaa (m:=17) rfl rfl (hd 17 dc)) (zaa (m:=8) rfl rfl (hd 8 dc)) rfl rfl (fun _ _=>rfl) rfl ?_
      exact zjh (b:=(b7,hd19,b8,hd20)) (b7,hd19,b8,hd20) (by rfl) (zue (zcF rfl)) (zac (zaI (Or.inr rfl) rfl) (zcS (zac ((zao (by rfl)).trans (zaI (hd 8 dc) rfl)) (zac ((zao (by rfl)).trans (zaI (hd 15 dc) rfl)) (zfN (zac ((zao (by rfl)).trans (zaI (hd 7 dc) rfl)) (zac ((zao (by rfl)).trans (zaI (hcl 15 _ rfl (hd 15 dc) 14 dc) rfl)) rfl)))))))
     intro D b hall
     obtain ⟨b7,hd19,b8,hd20⟩:=b
     refine zaG (zac (zaI (hall 18 dc) rfl) (zcS (zac (zaI (hall 8 dc) rfl) (zac (zaI (hall 15 dc) rfl) (zfN (zac (zaI (hall 7 dc) rfl) (zac (zaI (hall 14 dc) rfl) rfl))))))) (zaA rfl dc rfl (zab zkp rfl dc rfl (show _=3 from rfl) ?_))
     refine zaS (k:=0) (l':=[hd13.v,hd14.v,hd19.v,hd20.v,zI p1.heights]) zq3 rfl rfl rfl rfl rfl (fun _ _=>rfl) rfl ?_
     refine zaO ?_
     exact zam (l16++[x2.1],l17++[x2.1],hd19,hd20) h rfl (za1 rfl) (zad [0,1,2,3,4,5,6,7,8] kr rfl)
    refine zat ?_
    exact zam (l16,l17,hd15,hd16) h rfl (za1 rfl) (zad [0,1,2,3,4,5,6,7,8] kr rfl)
   rintro ⟨l18,l19,hd17,hd18⟩ h
   rw [hj2] at h
   refine zaK ?_
   obtain ⟨q1,hq3,h⟩:=zbj h
   refine zbG 7 [(0,47,zP bp1),(1,48,zP bp1),(2,49,.pointer (some ⟨bp1,3,none⟩)),(3,50,hd18.v),(4,51,.pointer (some ⟨jb1,2,none⟩)),(5,52,zI x2.2.Stanza),(6,53,zI x2.1)] mixed kr kr dc (by rfl) kr kr (zae ?_ (zae ?_ (zae ?_ (zae ?_ (zae ?_ (zae ?_ (zyP 1 6 rfl DrawPre.nil))))))) ?_
   · exact fun D n d c u i=>zaq (k:=5) zh6 rfl dc (zba (by rfl) rfl) rfl rfl (zaf 0 u i rfl)
   · exact fun D n d c u i=>zaA rfl dc (zaa (m:=0) u rfl (d 0 dc)) (zaf 1 u i rfl)
   · exact fun D n d c u i=>zab zkp rfl dc (zaa (m:=1) u rfl (d 1 dc)) (show _=3 from rfl) (zaf 2 u i rfl)
   · exact fun D n d c u i=>zaq (k:=0) zhi rfl dc (zaa (m:=2) u rfl (d 2 dc)) rfl rfl (zaf 3 u i rfl)
   · exact fun D n d c u i=>zab zjx rfl dc (zba (by rfl) rfl) (show _=2 from rfl) (zaf 4 u i rfl)
   · exact fun D n d c u i=>zaq (k:=8) zbp rfl dc (zaa (m:=4) u rfl (d 4 dc)) rfl rfl (zaf 5 u i rfl)
   refine zan (k:=4) hq3 Tryz.underlying49 zdb rfl dc rfl rfl rfl rfl ?_
   refine zcc (i:=(x2.2.Stanza:Int).toNat) (j:=0) (k:=4) (q:=q1) (q':=x2.1) zdb za6 rfl rfl rfl rfl (zaC hq3) rfl dc rfl (fun _ _=>rfl) ?_
   refine zyH (zab zpg rfl dc rfl (show _=0 from rfl) (zaq (k:=8) zoQ rfl dc rfl rfl rfl (zab znk rfl dc rfl (show _=1 from rfl) (zaq (k:=8) zbp rfl dc rfl rfl rfl (za8 (k:=6) (cs:=(zr0 l1)) ziB rfl dc rfl rfl rfl rfl ?_)))))
   obtain ⟨r2,hq4,h⟩:=zbj h
   refine zdG (vs:=[.string x2.2.Text,zI x2.2.Indent,.agg (zr0 l1).toArray]) rfl dc rfl rfl rfl zwF (zjV (l1:=l1) hq4) Splits.nil ?_
   rintro v3
   refine zbJ (k:=9) rfl (fun hd21 he3 => ?_)
   subst he3
   refine zyR 1 rfl (zaR rfl dc rfl rfl (zaR rfl dc rfl rfl (zyR 2 rfl (zyH (zaq (k:=7) zbp rfl dc rfl rfl rfl (zyR 1 rfl ?_))))))
   obtain ⟨hg3,h⟩:=zbl h
   refine zaU rfl (zaP (r:=cost4+r2.2) (IntWalk.i64_in _ hg3)) ?_
   refine zaS (k:=7) (l':=[zI (cost4+r2.2)]) zdb rfl rfl rfl rfl rfl (fun _ _=>rfl) rfl ?_
   refine zyH (zyR 1 rfl (zbv (k:=9) rfl dc rfl rfl Tryz.underlying70 (zyR 1 rfl (zyN (zaD ?_)))))
   refine zbn (β:=Nat×(List Gapi_Row)×(List Int)×Int×Hd×Hd) (fun b=>zaF (fun _ _ _=>none) (zby l1 x2 ag1 cost4 l18 l19 r2) b.1 b.2.1 b.2.2.1 b.2.2.2.1=some r) (fun b=>[]) (fun b=>[(3,zP b2),(5,zP b3),(6,zI 0),(7,zP b4),(8,zI x2.1),(9,zP jb1),(16,.func (.func 115) #[] #[zP b5]),(67,hd21.v),(68,zI (r2.1.length:Int)),(69,zI b.2.2.2.1)]) (fun b=>[cells bp1 [b.2.2.2.2.1.v,b.2.2.2.2.2.v,hd17.v,hd18.v,zI p1.heights] 131,zv2 b.2.2.2.2.1.v b.2.1,zv0 b.2.2.2.2.2.v b.2.2.1,zv0 hd17.v l18,zv0 hd18.v (l19.set (x2.2.Stanza:Int).toNat x2.1),cells b2 [zP bp1] 129,cells b3 (zr0 l1) 23,cells b4 [zI (cost4+r2.2)] 3,cells jb1 (zr4 x2.2) 76,zv5 hd21.v r2.1]) (fun b=>b.1) (zbV,l14,l15,0,hd13,hd14) h rfl (za1 rfl) (zad [0,1,2,3,4,5,6,7,8,9] kr rfl) ?_
   rintro ⟨n1,l24,l25,x5,hd26,hd27⟩ h
   cases n1 with
   | zero=>exact zdD h
   | succ n1 =>
    obtain ⟨ag2,hag2⟩:∃ ag,ag=zaF (fun _ _ _=>none) (zby l1 x2 ag1 cost4 l18 l19 r2) n1:=⟨_,rfl⟩
    have h:zby l1 x2 ag1 cost4 l18 l19 r2 ag2 l24 l25 x5=some r:=by rw [hag2]; exact h
    unfold zby at h
    refine zyG (zaU rfl zbf (zyN (zaK ?_)))
    refine zyB rfl h (fun h => ?_) (fun h => ?_)
    ·
     refine zat (zaL (zaK (zaD ?_)))
     obtain ⟨j3,hj3,h⟩:=zbC h
     refine zaX (β:=Int×Int×ByteArray×Nat) 2 rfl (fun b=>j3 b.1 b.2.1 b.2.2.1=some r) (fun b=>[]) (fun b=>[(3,zP b2),(5,zP b3),(6,zI 0),(7,zP b4),(8,zI x2.1),(9,zP jb1),(14,zP b.2.2.2),(16,.func (.func 115) #[] #[zP b5]),(67,hd21.v),(68,zI (r2.1.length:Int)),(69,zI x5)]) (fun b=>[cells bp1 [hd26.v,hd27.v,hd17.v,hd18.v,zI p1.heights] 131,zv2 hd26.v l24,zv0 hd27.v l25,zv0 hd17.v l18,zv0 hd18.v (l19.set (x2.2.Stanza:Int).toNat x2.1),cells b2 [zP bp1] 129,cells b3 (zr0 l1) 23,cells b4 [zI (cost4+r2.2)] 3,cells jb1 (zr4 x2.2) 76,cells b.2.2.2 [zI x2.1,zI x2.2.Stanza,zI x5,zI b.1,zI b.2.1,.string b.2.2.1] 33,zv5 hd21.v r2.1]) (fun cut => ?_) ?_
     ·
      refine zyG (zyR 1 rfl ?_)
      obtain ⟨q2,hq5,h⟩:=zbj h
      refine zan (k:=9) hq5 Tryz.underlying70 zvv rfl dc rfl rfl rfl rfl (zaB (i:=(x5:Int).toNat) (j:=0) (k:=9) (q:=q2) zoQ zg7 rfl dc rfl rfl (zaC hq5) rfl dc rfl (zyR 2 rfl (zyH (zyR 1 rfl (zab zjx rfl dc rfl (show _=2 from rfl) (zaq (k:=8) zbp rfl dc rfl rfl rfl (zyR 1 rfl (zab zg3 rfl dc rfl (show _=2 from rfl) (zaq (k:=6) zbp rfl dc rfl rfl rfl ?_)))))))))
      refine zyR 1 rfl ?_
      refine za5 (v:=.agg #[zI x2.1,zI x2.2.Stanza,zI x5,zI l1.Turn,zI 0,.string q2]) (ps:=[(0,.tmp 74),(1,.tmp 76),(2,.tmp 77),(3,.tmp 79),(5,.tmp 80)]) rfl dc rfl (fun _=>by kernel_rfl) ?_
      refine zbk zqe rfl dc (fun b10 => ?_)
      refine zaZ (k:=10) (vs:=[zI x2.1,zI x2.2.Stanza,zI x5,zI l1.Turn,zI 0,.string q2]) (l':=[zI x2.1,zI x2.2.Stanza,zI x5,zI l1.Turn,zI 0,.string q2]) ziw rfl rfl rfl rfl rfl (show _≤_ by simp) rfl rfl ?_
      refine zyN (cut (zyG (zyR 1 rfl (zaU rfl zaV (zyN ?_)))))
      refine zyB rfl h (fun h => ?_) (fun h => ?_)
      ·
       refine zyG (zab znk rfl dc rfl (show _=1 from rfl) (zaq (k:=8) zbp rfl dc rfl rfl rfl (zab zjy rfl dc rfl (show _=3 from rfl) ?_)))
       refine zaS (k:=10) (l':=[zI x2.1,zI x2.2.Stanza,zI x5,zI x2.2.Indent,zI 0,.string q2]) zdb rfl rfl rfl rfl rfl (fun _ _=>rfl) rfl ?_
       refine zyH (zab zg2 rfl dc rfl (show _=3 from rfl) (zaq (k:=6) zbp rfl dc rfl rfl rfl (zaU rfl zcl (zyR 1 rfl ?_))))
       refine zyS (s:=90) rfl h (fun h => ?_) (fun h => ?_)
       ·
        refine zyR 1 rfl ?_
        obtain ⟨hg4,h⟩:=zbl h
        refine zaU rfl (zaP (r:=x2.1+1) (IntWalk.i64_in _ hg4)) (zab zg2 rfl dc rfl (show _=3 from rfl) (zaq (k:=6) zbp rfl dc rfl rfl rfl ?_))
        obtain ⟨hg5,h⟩:=zbl h
        refine zaU rfl (zny hg5 rfl) (zaU rfl zaV (zyR 1 rfl (zyN ?_)))
        refine zyB rfl h (fun h => ?_) (fun h => ?_)
        ·
         refine zaw (zyR 1 rfl ?_)
         obtain ⟨hg6,h⟩:=zbl h
         refine zaU rfl (zaP (r:=x2.1+1) (IntWalk.i64_in _ hg6)) (zab znm rfl dc rfl (show _=4 from rfl) ?_)
         refine zaS (k:=10) (l':=[zI x2.1,zI x2.2.Stanza,zI x5,zI x2.2.Indent,zI (x2.1+1),.string q2]) zdb rfl rfl rfl rfl rfl (fun _ _=>rfl) rfl ?_
         refine zaO ?_
         exact zam (x2.2.Indent,x2.1+1,q2,b10) h rfl (za1 rfl) (zad [0,1,2,3,4,5,6,7,8,10,9] kr rfl)
        refine zat ?_
        exact zam (x2.2.Indent,0,q2,b10) h rfl (za1 rfl) (zad [0,1,2,3,4,5,6,7,8,10,9] kr rfl)
       refine zyR 7 rfl (zyN (zaQ rfl (zat ?_)))
       exact zam (x2.2.Indent,0,q2,b10) h rfl (za1 rfl) (zad [0,1,2,3,4,5,6,7,8,10,9] kr rfl)
      refine zat ?_
      exact zam (l1.Turn,0,q2,b10) h rfl (za1 rfl) (zad [0,1,2,3,4,5,6,7,8,10,9] kr rfl)
     rintro ⟨r3,r4,r5,b9⟩ h
     rw [hj3] at h
     obtain ⟨hg7,h⟩:=zbl h
     obtain ⟨hg8,h⟩:=zbl h
     refine zgx 2 ?_
     refine let vals2:(Nat×Hd×Nat×Hd)→List (Nat×Nat×Value):=fun b=>[(0,101,zP bp1),(1,102,zP bp1),(2,103,zP bp1),(3,104,zP bp1),(4,105,zP bp1),(5,106,hd26.v),(6,107,.agg #[zI x2.1,zI x2.2.Stanza,zI x5,zI r3,zI r4,.string r5]),(7,108,.slice (some ⟨b.1,0,none⟩) 1 1),(8,109,b.2.1.v),(9,110,zP bp1),(10,111,zP bp1),(11,112,.pointer (some ⟨bp1,1,none⟩)),(12,113,hd27.v),(13,114,.pointer (some ⟨jb1,2,none⟩)),(14,115,zI x2.2.Stanza),(15,116,.slice (some ⟨b.2.2.1,0,none⟩) 1 1),(16,117,b.2.2.2.v),(17,118,zP bp1),(18,119,zP bp1)]; let LL2:(Nat→Prop)→(Nat×Hd×Nat×Hd)→List Asn:=fun D b=>[eD D (cells bp1 [hd26.v,hd27.v,hd17.v,hd18.v,zI p1.heights] 131) [(19,cells bp1 [b.2.1.v,hd27.v,hd17.v,hd18.v,zI p1.heights] 131)],eD D (zv2 hd26.v l24) [(8,zv2 b.2.1.v (l24++[(⟨x2.1,x2.2.Stanza,x5,r3,r4,r5⟩:Gapi_Row)]))],eD D (zv0 hd27.v l25) [(16,zv0 b.2.2.2.v (l25++[x2.2.Stanza]))],zv0 hd17.v l18,zv0 hd18.v (l19.set (x2.2.Stanza:Int).toNat x2.1),cells b2 [zP bp1] 129,cells b3 (zr0 l1) 23,cells b4 [zI (cost4+r2.2)] 3,cells jb1 (zr4 x2.2) 76,cells b9 [zI x2.1,zI x2.2.Stanza,zI x5,zI r3,zI r4,.string r5] 33,zv5 hd21.v r2.1,eD D emp [(7,cells b.1 [zI x2.1,zI x2.2.Stanza,zI x5,zI r3,zI r4,.string r5] 33)],eD D emp [(15,cells b.2.2.1 [zI x2.2.Stanza] 3)]]; ?_
     refine zdY (β:=Nat×Hd×Nat×Hd) 20 ((0:Nat),Hd.nil,(0:Nat),Hd.nil) vals2 LL2 mixed kr kr dc (fun _=>rfl) (zac zbY (zac zbY (zac zbY (zit (zac zbY (zac zbY rfl)))))) (zas ?_ (zas ?_ (zas ?_ (zas ?_ (zas ?_ (zas ?_ (zas ?_ (zas ?_ (zas ?_ (zas ?_ (zas ?_ (zas ?_ (zas ?_ (zas ?_ (zas ?_ (zas ?_ (zas ?_ (zas ?_ (zas ?_ (zas ?_ DrawG.nil)))))))))))))))))))) ?_
     ·
      intro D b hn hd hcl
      obtain ⟨b11,hd28,b12,hd29⟩:=b
      refine zaG (zac (zaj (fun hD=>hn (hcl 19 _ rfl hD 0 dc)) zap) (zud rfl)) ?_
      refine zaq (k:=5) zh6 rfl dc (zba (by rfl) rfl) rfl rfl ?_
      exact zaM (b:=(b11,hd28,b12,hd29)) (b11,hd28,b12,hd29) 0 (by rfl) (by rfl) rfl (zj3 (zcF rfl)) (zac ((zao (by rfl)).trans (zaj (fun hD=>hn (hcl 19 _ rfl hD 0 dc)) zap)) (zac (zao (by rfl)) (zac (zao (by rfl)) (zit (zac (zao (by rfl)) (zac (zao (by rfl)) rfl))))))
     ·
      intro D b hn hd hcl
      obtain ⟨b11,hd28,b12,hd29⟩:=b
      refine zaG (zac rfl (zud rfl)) (zaq (k:=5) zh6 rfl dc (zba (by rfl) rfl) rfl rfl ?_)
      exact zaM (b:=(b11,hd28,b12,hd29)) (b11,hd28,b12,hd29) 1 (by rfl) (by rfl) rfl (zj3 (zcF rfl)) (zac (zao (by rfl)) (zac (zao (by rfl)) (zac (zao (by rfl)) (zit (zac (zao (by rfl)) (zac (zao (by rfl)) rfl))))))
     ·
      intro D b hn hd hcl
      obtain ⟨b11,hd28,b12,hd29⟩:=b
      refine zaG (zac (zaj (fun hD=>hn (hcl 19 _ rfl hD 2 dc)) zap) (zac (zaj (fun hD=>hn (hcl 3 _ rfl (hcl 4 _ rfl (hcl 5 _ rfl (hcl 8 _ rfl hD 5 dc) 4 dc) 3 dc) 2 dc)) zap) (zac (zaj (fun hD=>hn (hcl 3 _ rfl (hcl 4 _ rfl (hcl 5 _ rfl (hcl 8 _ rfl (hcl 16 _ rfl hD 8 dc) 5 dc) 4 dc) 3 dc) 2 dc)) zap) (zmy rfl)))) ?_
      refine zaq (k:=5) zh6 rfl dc (zba (by rfl) rfl) rfl rfl ?_
      exact zaM (b:=(b11,hd28,b12,hd29)) (b11,hd28,b12,hd29) 2 (by rfl) (by rfl) rfl (zj3 (zcF rfl)) (zac ((zao (by rfl)).trans (zaj (fun hD=>hn (hcl 19 _ rfl hD 2 dc)) zap)) (zac ((zao (by rfl)).trans (zaj (fun hD=>hn (hcl 3 _ rfl (hcl 4 _ rfl (hcl 5 _ rfl (hcl 8 _ rfl hD 5 dc) 4 dc) 3 dc) 2 dc)) zap)) (zac ((zao (by rfl)).trans (zaj (fun hD=>hn (hcl 3 _ rfl (hcl 4 _ rfl (hcl 5 _ rfl (hcl 8 _ rfl (hcl 16 _ rfl hD 8 dc) 5 dc) 4 dc) 3 dc) 2 dc)) zap)) (zit (zac (zao (by rfl)) (zac (zao (by rfl)) rfl))))))
     ·
      intro D b hn hd hcl
      obtain ⟨b11,hd28,b12,hd29⟩:=b
      refine zaG (zac (zaj (fun hD=>hn (hcl 19 _ rfl hD 3 dc)) zap) (zac (zaj (fun hD=>hn (hcl 4 _ rfl (hcl 5 _ rfl (hcl 8 _ rfl hD 5 dc) 4 dc) 3 dc)) zap) (zac (zaj (fun hD=>hn (hcl 4 _ rfl (hcl 5 _ rfl (hcl 8 _ rfl (hcl 16 _ rfl hD 8 dc) 5 dc) 4 dc) 3 dc)) zap) (zmy rfl)))) ?_
      refine zaA rfl dc (zaa (m:=2) rfl rfl (hd 2 dc)) ?_
      exact zaM (b:=(b11,hd28,b12,hd29)) (b11,hd28,b12,hd29) 3 (by rfl) (by rfl) rfl (zj3 (zcF rfl)) (zac ((zao (by rfl)).trans (zaj (fun hD=>hn (hcl 19 _ rfl hD 3 dc)) zap)) (zac ((zao (by rfl)).trans (zaj (fun hD=>hn (hcl 4 _ rfl (hcl 5 _ rfl (hcl 8 _ rfl hD 5 dc) 4 dc) 3 dc)) zap)) (zac ((zao (by rfl)).trans (zaj (fun hD=>hn (hcl 4 _ rfl (hcl 5 _ rfl (hcl 8 _ rfl (hcl 16 _ rfl hD 8 dc) 5 dc) 4 dc) 3 dc)) zap)) (zit (zac (zao (by rfl)) (zac (zao (by rfl)) rfl))))))
     ·
      intro D b hn hd hcl
      obtain ⟨b11,hd28,b12,hd29⟩:=b
      refine zaG (zac (zaj (fun hD=>hn (hcl 19 _ rfl hD 4 dc)) zap) (zac (zaj (fun hD=>hn (hcl 5 _ rfl (hcl 8 _ rfl hD 5 dc) 4 dc)) zap) (zac (zaj (fun hD=>hn (hcl 5 _ rfl (hcl 8 _ rfl (hcl 16 _ rfl hD 8 dc) 5 dc) 4 dc)) zap) (zmy rfl)))) ?_
      refine zab zgB rfl dc (zaa (m:=3) rfl rfl (hd 3 dc)) (show _=0 from rfl) ?_
      exact zaM (b:=(b11,hd28,b12,hd29)) (b11,hd28,b12,hd29) 4 (by rfl) (by rfl) rfl (zj3 (zcF rfl)) (zac ((zao (by rfl)).trans (zaj (fun hD=>hn (hcl 19 _ rfl hD 4 dc)) zap)) (zac ((zao (by rfl)).trans (zaj (fun hD=>hn (hcl 5 _ rfl (hcl 8 _ rfl hD 5 dc) 4 dc)) zap)) (zac ((zao (by rfl)).trans (zaj (fun hD=>hn (hcl 5 _ rfl (hcl 8 _ rfl (hcl 16 _ rfl hD 8 dc) 5 dc) 4 dc)) zap)) (zit (zac (zao (by rfl)) (zac (zao (by rfl)) rfl))))))
     ·
      intro D b hn hd hcl
      obtain ⟨b11,hd28,b12,hd29⟩:=b
      refine zaG (zac (zaj (fun hD=>hn (hcl 19 _ rfl hD 5 dc)) zap) (zac (zaj (fun hD=>hn (hcl 8 _ rfl hD 5 dc)) zap) (zac (zaj (fun hD=>hn (hcl 8 _ rfl (hcl 16 _ rfl hD 8 dc) 5 dc)) zap) (zmy rfl)))) ?_
      refine zaq (k:=0) znX rfl dc (zaa (m:=4) rfl rfl (hd 4 dc)) rfl rfl ?_
      exact zaM (b:=(b11,hd28,b12,hd29)) (b11,hd28,b12,hd29) 5 (by rfl) (by rfl) rfl (zj3 (zcF rfl)) (zac ((zao (by rfl)).trans (zaj (fun hD=>hn (hcl 19 _ rfl hD 5 dc)) zap)) (zac ((zao (by rfl)).trans (zaj (fun hD=>hn (hcl 8 _ rfl hD 5 dc)) zap)) (zac ((zao (by rfl)).trans (zaj (fun hD=>hn (hcl 8 _ rfl (hcl 16 _ rfl hD 8 dc) 5 dc)) zap)) (zit (zac (zao (by rfl)) (zac (zao (by rfl)) rfl))))))
     ·
      intro D b hn hd hcl
      obtain ⟨b11,hd28,b12,hd29⟩:=b
      refine zaG (zac (zaj (fun hD=>hn (hcl 19 _ rfl hD 6 dc)) zap) (zac (zaj (fun hD=>hn (hcl 7 _ rfl (hcl 8 _ rfl hD 7 dc) 6 dc)) zap) (zac (zaj (fun hD=>hn (hcl 7 _ rfl (hcl 8 _ rfl (hcl 16 _ rfl hD 8 dc) 7 dc) 6 dc)) zap) (zit (zac (zaj (fun hD=>hn (hcl 7 _ rfl hD 6 dc)) zap) rfl))))) ?_
      refine za8 (k:=9) (cs:=[zI x2.1,zI x2.2.Stanza,zI x5,zI r3,zI r4,.string r5]) znZ rfl dc (zba (by rfl) rfl) rfl rfl rfl ?_
      exact zaM (b:=(b11,hd28,b12,hd29)) (b11,hd28,b12,hd29) 6 (by rfl) (by rfl) rfl (zj3 (zcF rfl)) (zac ((zao (by rfl)).trans (zaj (fun hD=>hn (hcl 19 _ rfl hD 6 dc)) zap)) (zac ((zao (by rfl)).trans (zaj (fun hD=>hn (hcl 7 _ rfl (hcl 8 _ rfl hD 7 dc) 6 dc)) zap)) (zac ((zao (by rfl)).trans (zaj (fun hD=>hn (hcl 7 _ rfl (hcl 8 _ rfl (hcl 16 _ rfl hD 8 dc) 7 dc) 6 dc)) zap)) (zit (zac ((zao (by rfl)).trans (zaj (fun hD=>hn (hcl 7 _ rfl hD 6 dc)) zap)) (zac (zao (by rfl)) rfl))))))
     ·
      intro D b hn hd hcl
      obtain ⟨zb0,hd28,b12,hd29⟩:=b
      refine zaG (zac (zaj (fun hD=>hn (hcl 19 _ rfl hD 7 dc)) zap) (zac (zaj (fun hD=>hn (hcl 8 _ rfl hD 7 dc)) zap) (zac (zaj (fun hD=>hn (hcl 8 _ rfl (hcl 16 _ rfl hD 8 dc) 7 dc)) zap) (zit (zac (zaj hn zap) rfl))))) ?_
      refine zaT (cs:=[zI x2.1,zI x2.2.Stanza,zI x5,zI r3,zI r4,.string r5]) (te:=33) (ps:=[(0,.tmp 107)]) rfl dc (evP.cons (zaa (m:=6) rfl rfl (hd 6 dc)) evP.nil) (fun _=>by kernel_rfl) (fun b11 => ?_)
      refine zc2 11 rfl rfl ?_
      exact zaM (b:=(zb0,hd28,b12,hd29)) (b11,hd28,b12,hd29) 7 (by rfl) (by rfl) rfl (zj3 (zar (fun hD=>absurd hD hn) (zvD rfl))) (zac ((zao (by rfl)).trans (zaj (fun hD=>hn (hcl 19 _ rfl hD 7 dc)) zap)) (zac ((zao (by rfl)).trans (zaj (fun hD=>hn (hcl 8 _ rfl hD 7 dc)) zap)) (zac ((zao (by rfl)).trans (zaj (fun hD=>hn (hcl 8 _ rfl (hcl 16 _ rfl hD 8 dc) 7 dc)) zap)) (zit (zac (zaI (Or.inr rfl) rfl) (zac (zao (by rfl)) rfl))))))
     ·
      intro D b hn hd hcl
      obtain ⟨b11,zb1,b12,hd29⟩:=b
      refine zaG (zac (zaj (fun hD=>hn (hcl 19 _ rfl hD 8 dc)) zap) (zac (zaj hn zap) (zac (zaj (fun hD=>hn (hcl 16 _ rfl hD 8 dc)) zap) (zit (zac (zaI (hd 7 dc) rfl) rfl))))) ?_
      refine za4 (k:=1) (k2:=11) (ys:=[(⟨x2.1,x2.2.Stanza,x5,r3,r4,r5⟩:Gapi_Row)]) Tryz.underlying43 zti zb9 zeX rfl dc (zaa (m:=5) rfl rfl (hd 5 dc)) (zaa (m:=7) rfl rfl (hd 7 dc)) rfl rfl rfl rfl hg7 (fun v4 => ?_)
      refine zbJ (k:=1) rfl (fun hd28 he4 => ?_)
      subst he4
      exact zaM (b:=(b11,zb1,b12,hd29)) (b11,hd28,b12,hd29) 8 (by rfl) (by rfl) rfl (zjm (zar (fun hD=>absurd hD hn) (zj4 rfl))) (zac ((zao (by rfl)).trans (zaj (fun hD=>hn (hcl 19 _ rfl hD 8 dc)) zap)) (zac (zaI (Or.inr rfl) rfl) (zac ((zao (by rfl)).trans (zaj (fun hD=>hn (hcl 16 _ rfl hD 8 dc)) zap)) (zit (zac ((zao (by rfl)).trans (zaI (hd 7 dc) rfl)) (zac (zao (by rfl)) rfl))))))
     ·
      intro D b hn hd hcl
      obtain ⟨b11,hd28,b12,hd29⟩:=b
      refine zaG (zac (zaj (fun hD=>hn (hcl 10 _ rfl (hcl 11 _ rfl (hcl 12 _ rfl (hcl 19 _ rfl hD 12 dc) 11 dc) 10 dc) 9 dc)) zap) (zac rfl (zac (zaj (fun hD=>hn (hcl 10 _ rfl (hcl 11 _ rfl (hcl 12 _ rfl (hcl 16 _ rfl hD 12 dc) 11 dc) 10 dc) 9 dc)) zap) (zmy rfl)))) ?_
      refine zaq (k:=5) zh6 rfl dc (zba (by rfl) rfl) rfl rfl ?_
      exact zaM (b:=(b11,hd28,b12,hd29)) (b11,hd28,b12,hd29) 9 (by rfl) (by rfl) rfl (zj3 (zcF rfl)) (zac ((zao (by rfl)).trans (zaj (fun hD=>hn (hcl 10 _ rfl (hcl 11 _ rfl (hcl 12 _ rfl (hcl 19 _ rfl hD 12 dc) 11 dc) 10 dc) 9 dc)) zap)) (zac (zao (by rfl)) (zac ((zao (by rfl)).trans (zaj (fun hD=>hn (hcl 10 _ rfl (hcl 11 _ rfl (hcl 12 _ rfl (hcl 16 _ rfl hD 12 dc) 11 dc) 10 dc) 9 dc)) zap)) (zit (zac (zao (by rfl)) (zac (zao (by rfl)) rfl))))))
     ·
      intro D b hn hd hcl
      obtain ⟨b11,hd28,b12,hd29⟩:=b
      refine zaG (zac (zaj (fun hD=>hn (hcl 11 _ rfl (hcl 12 _ rfl (hcl 19 _ rfl hD 12 dc) 11 dc) 10 dc)) zap) (zac rfl (zac (zaj (fun hD=>hn (hcl 11 _ rfl (hcl 12 _ rfl (hcl 16 _ rfl hD 12 dc) 11 dc) 10 dc)) zap) (zmy rfl)))) ?_
      refine zaA rfl dc (zaa (m:=9) rfl rfl (hd 9 dc)) ?_
      exact zaM (b:=(b11,hd28,b12,hd29)) (b11,hd28,b12,hd29) 10 (by rfl) (by rfl) rfl (zj3 (zcF rfl)) (zac ((zao (by rfl)).trans (zaj (fun hD=>hn (hcl 11 _ rfl (hcl 12 _ rfl (hcl 19 _ rfl hD 12 dc) 11 dc) 10 dc)) zap)) (zac (zao (by rfl)) (zac ((zao (by rfl)).trans (zaj (fun hD=>hn (hcl 11 _ rfl (hcl 12 _ rfl (hcl 16 _ rfl hD 12 dc) 11 dc) 10 dc)) zap)) (zit (zac (zao (by rfl)) (zac (zao (by rfl)) rfl))))))
     ·
      intro D b hn hd hcl
      obtain ⟨b11,hd28,b12,hd29⟩:=b
      refine zaG (zac (zaj (fun hD=>hn (hcl 12 _ rfl (hcl 19 _ rfl hD 12 dc) 11 dc)) zap) (zac rfl (zac (zaj (fun hD=>hn (hcl 12 _ rfl (hcl 16 _ rfl hD 12 dc) 11 dc)) zap) (zmy rfl)))) ?_
      refine zab zkq rfl dc (zaa (m:=10) rfl rfl (hd 10 dc)) (show _=1 from rfl) ?_
      exact zaM (b:=(b11,hd28,b12,hd29)) (b11,hd28,b12,hd29) 11 (by rfl) (by rfl) rfl (zj3 (zcF rfl)) (zac ((zao (by rfl)).trans (zaj (fun hD=>hn (hcl 12 _ rfl (hcl 19 _ rfl hD 12 dc) 11 dc)) zap)) (zac (zao (by rfl)) (zac ((zao (by rfl)).trans (zaj (fun hD=>hn (hcl 12 _ rfl (hcl 16 _ rfl hD 12 dc) 11 dc)) zap)) (zit (zac (zao (by rfl)) (zac (zao (by rfl)) rfl))))))
     ·
      intro D b hn hd hcl
      obtain ⟨b11,hd28,b12,hd29⟩:=b
      refine zaG (zac (zaj (fun hD=>hn (hcl 19 _ rfl hD 12 dc)) zap) (zac rfl (zac (zaj (fun hD=>hn (hcl 16 _ rfl hD 12 dc)) zap) (zmy rfl)))) ?_
      refine zaq (k:=0) zhi rfl dc (zaa (m:=11) rfl rfl (hd 11 dc)) rfl rfl ?_
      exact zaM (b:=(b11,hd28,b12,hd29)) (b11,hd28,b12,hd29) 12 (by rfl) (by rfl) rfl (zj3 (zcF rfl)) (zac ((zao (by rfl)).trans (zaj (fun hD=>hn (hcl 19 _ rfl hD 12 dc)) zap)) (zac (zao (by rfl)) (zac ((zao (by rfl)).trans (zaj (fun hD=>hn (hcl 16 _ rfl hD 12 dc)) zap)) (zit (zac (zao (by rfl)) (zac (zao (by rfl)) rfl))))))
     ·
      intro D b hn hd hcl
      obtain ⟨b11,hd28,b12,hd29⟩:=b
      refine zaG (zac (zaj (fun hD=>hn (hcl 14 _ rfl (hcl 15 _ rfl (hcl 16 _ rfl (hcl 19 _ rfl hD 16 dc) 15 dc) 14 dc) 13 dc)) zap) (zac rfl (zac (zaj (fun hD=>hn (hcl 14 _ rfl (hcl 15 _ rfl (hcl 16 _ rfl hD 15 dc) 14 dc) 13 dc)) zap) (zxi (zac (zaj (fun hD=>hn (hcl 14 _ rfl (hcl 15 _ rfl hD 14 dc) 13 dc)) zap) rfl))))) ?_
      refine zab zjx rfl dc (zba (by rfl) rfl) (show _=2 from rfl) ?_
      exact zaM (b:=(b11,hd28,b12,hd29)) (b11,hd28,b12,hd29) 13 (by rfl) (by rfl) rfl (zj3 (zcF rfl)) (zac ((zao (by rfl)).trans (zaj (fun hD=>hn (hcl 14 _ rfl (hcl 15 _ rfl (hcl 16 _ rfl (hcl 19 _ rfl hD 16 dc) 15 dc) 14 dc) 13 dc)) zap)) (zac (zao (by rfl)) (zac ((zao (by rfl)).trans (zaj (fun hD=>hn (hcl 14 _ rfl (hcl 15 _ rfl (hcl 16 _ rfl hD 15 dc) 14 dc) 13 dc)) zap)) (zit (zac (zao (by rfl)) (zac ((zao (by rfl)).trans (zaj (fun hD=>hn (hcl 14 _ rfl (hcl 15 _ rfl hD 14 dc) 13 dc)) zap)) rfl))))))
     ·
      intro D b hn hd hcl
      obtain ⟨b11,hd28,b12,hd29⟩:=b
      refine zaG (zac (zaj (fun hD=>hn (hcl 15 _ rfl (hcl 16 _ rfl (hcl 19 _ rfl hD 16 dc) 15 dc) 14 dc)) zap) (zac rfl (zac (zaj (fun hD=>hn (hcl 15 _ rfl (hcl 16 _ rfl hD 15 dc) 14 dc)) zap) (zxi (zac (zaj (fun hD=>hn (hcl 15 _ rfl hD 14 dc)) zap) rfl))))) ?_
      refine zaq (k:=8) zbp rfl dc (zaa (m:=13) rfl rfl (hd 13 dc)) rfl rfl ?_
      exact zaM (b:=(b11,hd28,b12,hd29)) (b11,hd28,b12,hd29) 14 (by rfl) (by rfl) rfl (zj3 (zcF rfl)) (zac ((zao (by rfl)).trans (zaj (fun hD=>hn (hcl 15 _ rfl (hcl 16 _ rfl (hcl 19 _ rfl hD 16 dc) 15 dc) 14 dc)) zap)) (zac (zao (by rfl)) (zac ((zao (by rfl)).trans (zaj (fun hD=>hn (hcl 15 _ rfl (hcl 16 _ rfl hD 15 dc) 14 dc)) zap)) (zit (zac (zao (by rfl)) (zac ((zao (by rfl)).trans (zaj (fun hD=>hn (hcl 15 _ rfl hD 14 dc)) zap)) rfl))))))
     ·
      intro D b hn hd hcl
      obtain ⟨b11,hd28,zb2,hd29⟩:=b
      refine zaG (zac (zaj (fun hD=>hn (hcl 16 _ rfl (hcl 19 _ rfl hD 16 dc) 15 dc)) zap) (zac rfl (zac (zaj (fun hD=>hn (hcl 16 _ rfl hD 15 dc)) zap) (zxi (zac (zaj hn zap) rfl))))) ?_
      refine zaT (cs:=[zI x2.2.Stanza]) (te:=3) (ps:=[(0,.tmp 115)]) rfl dc (evP.cons (zaa (m:=14) rfl rfl (hd 14 dc)) evP.nil) (fun _=>by kernel_rfl) (fun b12 => ?_)
      refine zc2 12 rfl rfl ?_
      exact zaM (b:=(b11,hd28,zb2,hd29)) (b11,hd28,b12,hd29) 15 (by rfl) (by rfl) rfl (zvt (zcF (zar (fun hD=>absurd hD hn) (zvt rfl)))) (zac ((zao (by rfl)).trans (zaj (fun hD=>hn (hcl 16 _ rfl (hcl 19 _ rfl hD 16 dc) 15 dc)) zap)) (zac (zao (by rfl)) (zac ((zao (by rfl)).trans (zaj (fun hD=>hn (hcl 16 _ rfl hD 15 dc)) zap)) (zit (zac (zao (by rfl)) (zac (zaI (Or.inr rfl) rfl) rfl))))))
     ·
      intro D b hn hd hcl
      obtain ⟨b11,hd28,b12,zb3⟩:=b
      refine zaG (zac (zaj (fun hD=>hn (hcl 19 _ rfl hD 16 dc)) zap) (zac (zaI (hd 8 dc) rfl) (zac (zaj hn zap) (zit (zac (zaI (hcl 8 _ rfl (hd 8 dc) 7 dc) rfl) (zac (zaI (hd 15 dc) rfl) rfl)))))) ?_
      refine za4 (k:=2) (k2:=12) (ys:=[x2.2.Stanza]) Tryz.underlying49 zsz za6 zg8 rfl dc (zaa (m:=12) rfl rfl (hd 12 dc)) (zaa (m:=15) rfl rfl (hd 15 dc)) rfl rfl rfl rfl hg8 (fun v5 => ?_)
      refine zbJ (k:=2) rfl (fun hd29 he5 => ?_)
      subst he5
      exact zaM (b:=(b11,hd28,b12,zb3)) (b11,hd28,b12,hd29) 16 (by rfl) (by rfl) rfl (znH (zcF (zar (fun hD=>absurd hD hn) (zvC rfl)))) (zac ((zao (by rfl)).trans (zaj (fun hD=>hn (hcl 19 _ rfl hD 16 dc)) zap)) (zac ((zao (by rfl)).trans (zaI (hd 8 dc) rfl)) (zac (zaI (Or.inr rfl) rfl) (zit (zac ((zao (by rfl)).trans (zaI (hcl 8 _ rfl (hd 8 dc) 7 dc) rfl)) (zac ((zao (by rfl)).trans (zaI (hd 15 dc) rfl)) rfl))))))
     ·
      intro D b hn hd hcl
      obtain ⟨b11,hd28,b12,hd29⟩:=b
      refine zaG (zac (zaj (fun hD=>hn (hcl 18 _ rfl (hcl 19 _ rfl hD 18 dc) 17 dc)) zap) (zac (zaI (hd 8 dc) rfl) (zac (zaI (hd 16 dc) rfl) (zit (zac (zaI (hd 7 dc) rfl) (zac (zaI (hcl 16 _ rfl (hd 16 dc) 15 dc) rfl) rfl)))))) ?_
      refine zaA rfl dc (zaa (m:=0) rfl rfl (hd 0 dc)) ?_
      exact zaM (b:=(b11,hd28,b12,hd29)) (b11,hd28,b12,hd29) 17 (by rfl) (by rfl) rfl (zj3 (zcF rfl)) (zac ((zao (by rfl)).trans (zaj (fun hD=>hn (hcl 18 _ rfl (hcl 19 _ rfl hD 18 dc) 17 dc)) zap)) (zac ((zao (by rfl)).trans (zaI (hd 8 dc) rfl)) (zac ((zao (by rfl)).trans (zaI (hd 16 dc) rfl)) (zit (zac ((zao (by rfl)).trans (zaI (hd 7 dc) rfl)) (zac ((zao (by rfl)).trans (zaI (hcl 16 _ rfl (hd 16 dc) 15 dc) rfl)) rfl))))))
     ·
      intro D b hn hd hcl
      obtain ⟨b11,hd28,b12,hd29⟩:=b
      refine zaG (zac (zaj (fun hD=>hn (hcl 19 _ rfl hD 18 dc)) zap) (zac (zaI (hd 8 dc) rfl) (zac (zaI (hd 16 dc) rfl) (zit (zac (zaI (hd 7 dc) rfl) (zac (zaI (hcl 16 _ rfl (hd 16 dc) 15 dc) rfl) rfl)))))) ?_
      refine zab zgB rfl dc (zaa (m:=17) rfl rfl (hd 17 dc)) (show _=0 from rfl) ?_
      exact zaM (b:=(b11,hd28,b12,hd29)) (b11,hd28,b12,hd29) 18 (by rfl) (by rfl) rfl (zj3 (zcF rfl)) (zac ((zao (by rfl)).trans (zaj (fun hD=>hn (hcl 19 _ rfl hD 18 dc)) zap)) (zac ((zao (by rfl)).trans (zaI (hd 8 dc) rfl)) (zac ((zao (by rfl)).trans (zaI (hd 16 dc) rfl)) (zit (zac ((zao (by rfl)).trans (zaI (hd 7 dc) rfl)) (zac ((zao (by rfl)).trans (zaI (hcl 16 _ rfl (hd 16 dc) 15 dc) rfl)) rfl))))))
     ·
      intro D b hn hd hcl
      obtain ⟨b11,hd28,b12,hd29⟩:=b
      refine zaG (zac (zaj hn zap) (zac (zaI (hd 8 dc) rfl) (zac (zaI (hd 16 dc) rfl) (zit (zac (zaI (hd 7 dc) rfl) (zac (zaI (hcl 16 _ rfl (hd 16 dc) 15 dc) rfl) rfl)))))) ?_
      refine zaS (k:=0) (l':=[hd28.v,hd27.v,hd17.v,hd18.v,zI p1.heights]) zvR rfl (zaa (m:=18) rfl rfl (hd 18 dc)) (zaa (m:=8) rfl rfl (hd 8 dc)) rfl rfl (fun _ _=>rfl) rfl ?_
      exact zjh (b:=(b11,hd28,b12,hd29)) (b11,hd28,b12,hd29) (by rfl) (zj3 (zcF rfl)) (zac (zaI (Or.inr rfl) rfl) (zac ((zao (by rfl)).trans (zaI (hd 8 dc) rfl)) (zac ((zao (by rfl)).trans (zaI (hd 16 dc) rfl)) (zit (zac ((zao (by rfl)).trans (zaI (hd 7 dc) rfl)) (zac ((zao (by rfl)).trans (zaI (hcl 16 _ rfl (hd 16 dc) 15 dc) rfl)) rfl))))))
     intro D b hall
     obtain ⟨b11,hd28,b12,hd29⟩:=b
     refine zaG (zac (zaI (hall 19 dc) rfl) (zac (zaI (hall 8 dc) rfl) (zac (zaI (hall 16 dc) rfl) (zit (zac (zaI (hall 7 dc) rfl) (zac (zaI (hall 15 dc) rfl) rfl)))))) (zaA rfl dc rfl (zab zkq rfl dc rfl (show _=1 from rfl) ?_))
     refine zaS (k:=0) (l':=[hd28.v,hd29.v,hd17.v,hd18.v,zI p1.heights]) zq3 rfl rfl rfl rfl rfl (fun _ _=>rfl) rfl ?_
     refine zaO (zag (zaL (zaw ?_)))
     obtain ⟨hg9,h⟩:=zbl h
     refine zaU rfl (zaP (r:=x5+1) (IntWalk.i64_in _ hg9)) (zyR 1 rfl (zaO ?_))
     subst hag2
     exact za3 (n1,l24++[(⟨x2.1,x2.2.Stanza,x5,r3,r4,r5⟩:Gapi_Row)],l25++[x2.2.Stanza],x5+1,hd28,hd29) h (Nat.lt_succ_self _) rfl (za1 rfl) (zad [0,1,2,3,4,5,6,7,8,10] kr rfl)
    refine za2 (zal (zal (zau (zag ?_))))
    exact zeY (l24,l25,l18,l19.set (x2.2.Stanza:Int).toNat x2.1,cost4+r2.2,hd26,hd27,hd17,hd18) (fun post2 e2=>by have e9:=zec hxs1 e2; subst e9; subst hag1; exact h) (zad [0,1,2,3,4,5,6,7] kr rfl)
  ·
   rintro dm1 ⟨l14,l15,l16,l17,cost4,hd13,hd14,hd15,hd16⟩ hinv
   have h:dn1 l14 l15 l16 l17 cost4=some r:=hinv [] (List.append_nil _).symm
   rw [hdn1] at h
   refine zgw (k:=18) (j:=5) rfl rfl dc ?_
   refine zag ?_
   exact zam (l14,l15,l16,l17,cost4,hd13,hd14,hd15,hd16,b4,dm1::([]:List Nat)) h rfl (za1 rfl) (zad [10,11,12,13,14,17,5] kr rfl)
  rintro dm1 c pre x2 post g hxs hX
  exact (show False from hX).elim
 rintro ⟨l2,l3,l4,l5,cost1,hd1,hd2,hd3,hd4,b1,ds1⟩ h
 rw [hj1] at h
 refine zyG (zaq (k:=5) zbp rfl dc rfl rfl rfl (zyR 1 rfl (zyN (zaH ?_))))
 cases h
 exact zfF (rs:=[.tmp 6]) ds1 (hd1,hd2,hd3,hd4) (.inl rfl) (zb4 (k:=6) rfl) Tryz.results65 (.cons (.tmp rfl) .nil) rfl (zad [0,1,2,3,4] kr rfl)
end Go.Proofs.YtbempdelckaccaaGreatDoor

namespace Go.Proofs.YtbempdelckaccaaGreatDoor
open Go.RowKit Go.Lib
set_option linter.unusedVariables false
set_option linter.unusedSimpArgs false
def zmE (l:Gapi_Layout) (v:Gapi_Verse):List ByteArray:=zgl v.Text 0 (zk9 v.Text (zpV v.Indent l) (zpM l))
def zqL (l:Gapi_Layout) (v:Gapi_Verse):Int:=(TT v.Text (zpV v.Indent l) (zpM l) 0).cost
def zw8 (l:Gapi_Layout) (k:Int):Int:=if 0<l.Every then (if Int.tmod (k+1) l.Every=0 then k+1 else 0) else 0
def zuD (l:Gapi_Layout) (k:Int) (v:Gapi_Verse) (p:Int) (t:ByteArray):Gapi_Row:=⟨k,v.Stanza,p,if p=0 then v.Indent else l.Turn,if p=0 then zw8 l k else 0,t⟩
def zfy (l:Gapi_Layout) (k:Int) (v:Gapi_Verse):Int→List ByteArray→List Gapi_Row
 | _,[]=>[]
 | p,t::ts=>zuD l k v p t::zfy l k v (p+1) ts
def zcO (l:Gapi_Layout):Int→List Gapi_Verse→List Gapi_Row
 | _,[]=>[]
 | k,v::vs=>zfy l k v 0 (zmE l v)++zcO l (k+1) vs
def zhH (l:Gapi_Layout):List Gapi_Verse→Int
 | []=>0
 | v::vs=>zqL l v+zhH l vs
theorem ziE (l:Gapi_Layout) (k:Int) (v:Gapi_Verse):∀ (ts:List ByteArray) (p:Int),(zfy l k v p ts).length=ts.length
 | [],_=>rfl
 | t::ts,p=>by show (zfy l k v (p+1) ts).length+1=_; rw [ziE l k v ts]; rfl
structure OkV (v:Gapi_Verse):Prop where
 sz:v.Text.size≤1024
 ne:0<v.Text.size
 i0:0≤v.Indent∧v.Indent≤1024
section
variable {l:Gapi_Layout} (hm:zh8 l=true)
include hm
theorem zoW {v:Gapi_Verse} (h:OkV v):(zmE l v).length≤1024:=by
 obtain ⟨h1,h2,h3⟩:=zqf hm h.i0
 have hs:v.Text.size≤100000:=by have:=h.sz; omega
 have hr:=zja hs h2 h3 (zah v.Text).length 0 (zph hs h2 h3) (Nat.zero_le _)
 have hl:0+(zk9 v.Text (zpV v.Indent l) (zpM l)).length≤max (zah v.Text).length 0:=zmY hr
 have hc:=zge v.Text
 have ht:∀ (ts:List Nat) (f:Nat),(zgl v.Text f ts).length=ts.length:=by
  intro ts
  induction ts with
  | nil=>intro f; rfl
  | cons t ts ih=>intro f; show (zgl v.Text t ts).length+1=_; rw [ih]; rfl
 unfold zmE
 rw [ht]
 have:=h.sz
 omega
theorem zpm {v:Gapi_Verse} (h:OkV v):0≤zqL l v∧zqL l v≤2000000000000*1024:=by
 obtain ⟨h1,h2,h3⟩:=zqf hm h.i0
 have hs:v.Text.size≤100000:=by have:=h.sz; omega
 have hok:=zlw (R:=Rs v.Text (zpV v.Indent l) (zpM l)) (K:=Ks v.Text (zpV v.Indent l) (zpM l)) (n:=(zah v.Text).length) (zfU hs h2 h3) (zah v.Text).length 0
 obtain ⟨a,b,_⟩:=hok
 have hc:=zge v.Text
 have hz:=h.sz
 refine ⟨a,?_⟩
 show (Bf (Rs v.Text (zpV v.Indent l) (zpM l)) (Ks v.Text (zpV v.Indent l) (zpM l)) (zah v.Text).length (zah v.Text).length 0).cost≤_
 omega
theorem zoC:∀ (vs:List Gapi_Verse),(∀ v∈vs,OkV v)→0≤zhH l vs∧zhH l vs≤2000000000000*1024*vs.length
 | [],_=>⟨Int.le_refl _,Int.le_refl _⟩
 | v::vs,h=>by
  have h1:=zpm hm (h v (List.mem_cons_self ..))
  have h2:=zoC vs fun w hw=>h w (List.mem_cons_of_mem _ hw)
  have e:zhH l (v::vs)=zqL l v+zhH l vs:=rfl
  rw [e,List.length_cons]; push_cast; omega
theorem zkG:∀ (vs:List Gapi_Verse) (k:Int),(∀ v∈vs,OkV v)→(zcO l k vs).length≤1024*vs.length
 | [],_,_=>Nat.le_refl _
 | v::vs,k,h=>by
  have h1:=zoW hm (h v (List.mem_cons_self ..))
  have h2:=zkG vs (k+1) fun w hw=>h w (List.mem_cons_of_mem _ hw)
  show (zfy l k v 0 (zmE l v)++zcO l (k+1) vs).length≤_
  rw [List.length_append,ziE,List.length_cons]; omega
end
theorem zsP (vs:List Gapi_Verse) (l:Gapi_Layout) (k:Nat) (v:Gapi_Verse) (hv:vs[k]?=some v) (hk:k≤1000000) (sum:Int) (j2:(List Gapi_Row)→Int→Option ((List Gapi_Row)×Int)) (ts:List ByteArray) (hts:ts.length≤1000000) (c:Int) :
  ∀ (d p m:Nat) (out:List Gapi_Row),p+d=ts.length→d<m→out.length+d≤2147483648→zaF (fun _ _=>none) (zcV vs l sum (k:Int) j2 (ts,c)) m out (p:Int)=j2 (out++zfy l k v p (ts.drop p)) (sum+c):=by
 intro d
 induction d with
 | zero =>
  intro p m out hp hm ho
  obtain ⟨m,rfl⟩:∃ q,m=q+1:=⟨m - 1,by omega⟩
  rw [zct]
  generalize zaF (fun _ _=>none) (zcV vs l sum (k:Int) j2 (ts,c)) m=ag
  unfold zcV
  refine zay (decide_eq_false (by show ¬ (p:Int)<(ts.length:Int); omega)) ?_
  rw [List.drop_of_length_le (by omega)]
  show j2 out (sum+c)=j2 (out++[]) (sum+c)
  rw [List.append_nil]
 | succ d ih =>
  intro p m out hp hm ho
  obtain ⟨m,rfl⟩:∃ q,m=q+1:=⟨m - 1,by omega⟩
  rw [zct]
  have ih':=fun out' (h:out'.length=out.length+1)=>ih (p+1) m out' (by omega) (by omega) (by omega)
  generalize zaF (fun _ _=>none) (zcV vs l sum (k:Int) j2 (ts,c)) m=ag at ih' ⊢
  have ht:ts[p]?=some ts[p]:=List.getElem?_eq_getElem (by omega)
  rw [show ((p+1:Nat):Int)=(p:Int)+1 by omega] at ih'
  have go:∀ (i n:Int),i=(zuD l k v p ts[p]).Indent→n=(zuD l k v p ts[p]).Number→(grd (out.length+1≤2147483648)<|grd (I64 ((p:Int)+1))<|ag (out++[(⟨(k:Int),v.Stanza,(p:Int),i,n,ts[p]⟩:Gapi_Row)]) ((p:Int)+1))=j2 (out++zfy l k v p (ts.drop p)) (sum+c):=by
   intro i n hi hn
   refine zbo (by omega) (zbo ⟨by omega,by omega⟩ ?_)
   subst hi; subst hn
   rw [ih' _ (by simp),List.drop_eq_getElem_cons (show p<ts.length by omega),List.append_assoc]; rfl
  unfold zcV
  refine zaz (decide_eq_true (by show (p:Int)<(ts.length:Int); omega)) (zbs (zaJ (zcE hv) (zaJ (zcE ht) ?_)))
  by_cases h0:(p:Int)=0
  ·refine zaz (zgG h0) (zaJ (zcE hv) ?_)
   by_cases he:0<l.Every
   ·refine zaz (decide_eq_true he) (zbo ⟨by omega,by omega⟩ (zbo (by omega) ?_))
    by_cases ht2:Int.tmod ((k:Int)+1) l.Every=0
    ·exact zaz (zgG ht2) (zbo ⟨by omega,by omega⟩ (go _ _ (if_pos h0).symm ((if_pos h0).trans ((if_pos he).trans (if_pos ht2))).symm))
    ·exact zay (zgN ht2) (go _ _ (if_pos h0).symm ((if_pos h0).trans ((if_pos he).trans (if_neg ht2))).symm)
   ·exact zay (decide_eq_false he) (go _ _ (if_pos h0).symm ((if_pos h0).trans (if_neg he)).symm)
  ·exact zay (zgN h0) (go _ _ (if_neg h0).symm (if_neg h0).symm)
theorem zn1 (l:Gapi_Layout) (hm:zh8 l=true) (vs:List Gapi_Verse) (hv:∀ v∈vs,OkV v) (hl:vs.length≤512) (j1:(List Gapi_Row)→Int→Option ((List Gapi_Row)×Int)) :
  ∀ (ws pre:List Gapi_Verse) (m:Nat) (out:List Gapi_Row) (sum:Int),vs=pre++ws→ws.length<m→out.length≤1024*pre.length→0≤sum∧sum≤2000000000000*1024*pre.length →
  zaF (fun _ _ _=>none) (zcW vs l j1) m out sum (pre.length:Int)=j1 (out++zcO l pre.length ws) (sum+zhH l ws)
 | [],pre,m,out,sum,h,hn,ho,hs=>by
  obtain ⟨m,rfl⟩:∃ q,m=q+1:=⟨m - 1,by simp at hn; omega⟩
  rw [List.append_nil] at h; subst h
  rw [zct]
  generalize zaF (fun _ _ _=>none) (zcW vs l j1) m=ag
  unfold zcW
  refine zay zxE ?_
  show j1 out sum=j1 (out++[]) (sum+0)
  rw [List.append_nil,Int.add_zero]
 | v::ws,pre,m,out,sum,h,hn,ho,hs=>by
  obtain ⟨m,rfl⟩:∃ q,m=q+1:=⟨m - 1,by simp at hn; omega⟩
  have hok:OkV v:=hv v (by rw [h]; simp)
  have hlen:pre.length+ws.length+1=vs.length:=by rw [h]; simp; omega
  have h1:=zoW hm hok
  have h2:=zpm hm hok
  obtain ⟨w1,w2,w3⟩:=zqf hm hok.i0
  have hsz:v.Text.size≤100000:=by have:=hok.sz; omega
  have ih:=zn1 l hm vs hv hl j1 ws (pre++[v]) m (out++zfy l pre.length v 0 (zmE l v)) (sum+zqL l v) (by rw [h]; simp) (by simp at hn; omega) (by rw [List.length_append,ziE,List.length_append,List.length_singleton]; omega) (by rw [List.length_append,List.length_singleton]; push_cast; omega)
  have hg:vs[pre.length]?=some v:=by rw [h]; simp
  rw [zct]
  rw [show (((pre++[v]).length:Nat):Int)=(pre.length:Int)+1 by simp] at ih
  generalize zaF (fun _ _ _=>none) (zcW vs l j1) m=ag at ih ⊢
  unfold zcW
  refine zaz (zpa hg) (zbs (zaJ (zcE hg) (zaJ (zuH v.Text hsz v.Indent l w1 w2 w3) (zbo ?_ ?_))))
  ·show I64 (sum+zqL l v)
   exact ⟨by omega,by omega⟩
  ·have hin:=zsP vs l pre.length v hg (by omega) sum (fun (out5:List Gapi_Row) (sum5:Int)=>grd (I64 ((pre.length:Int)+1))<|ag out5 sum5 ((pre.length:Int)+1)) (zmE l v) (by omega) (zqL l v) (zmE l v).length 0 zbV out (by omega) (zb8 (by omega)) (by omega)
   refine hin.trans (zbo ⟨by omega,by omega⟩ ?_)
   rw [List.drop_zero]
   refine ih.trans ?_
   show j1 ((out++zfy l pre.length v 0 (zmE l v))++zcO l ((pre.length:Int)+1) ws) ((sum+zqL l v)+zhH l ws)=j1 (out++(zfy l pre.length v 0 (zmE l v)++zcO l ((pre.length:Int)+1) ws)) (sum+(zqL l v+zhH l ws))
   rw [List.append_assoc,Int.add_assoc]
theorem zuI (l:Gapi_Layout) (hm:zh8 l=true) (vs:List Gapi_Verse) (hv:∀ v∈vs,OkV v) (hl:vs.length≤512):zfP vs l=some (zcO l 0 vs,zhH l vs):=by
 unfold zfP
 refine zbs ?_
 have:=zn1 l hm vs hv hl (fun (out1:List Gapi_Row) (sum1:Int)=>some (out1,sum1)) vs [] zbV [] 0 rfl (zb8 (by omega)) (Nat.zero_le _) ⟨Int.le_refl _,by simp⟩
 refine this.trans ?_
 rw [List.nil_append,Int.zero_add]; rfl
def Stp:Int→List Gapi_Verse→Prop
 | _,[]=>True
 | c,v::vs=>(v.Stanza=c∨(0<c∧v.Stanza=c - 1))∧Stp (v.Stanza+1) vs
def flS:Int→List Int×List Int→List Gapi_Verse→List Int×List Int
 | _,a,[]=>a
 | k,a,v::vs=>flS (k+1) (if v.Stanza=(a.1.length:Int) then (a.1++[k],a.2++[k]) else (a.1,a.2.set v.Stanza.toNat k)) vs
theorem zs7 (l:Gapi_Layout) (k:Int) (hk:0≤k∧k≤1000000) (v:Gapi_Verse) (ag1:(List Gapi_Row)→(List Int)→(List Int)→(List Int)→Int→Option (Int×Gpage_parter)) (cost:Int) (F L:List Int) (ts:List ByteArray) (hts:ts.length≤1000000) (c:Int) :
  ∀ (d p m:Nat) (out:List Gapi_Row) (bl:List Int),p+d=ts.length→d<m→out.length+d≤2147483648→bl.length=out.length→zaF (fun _ _ _=>none) (zby l (k,v) ag1 cost F L (ts,c)) m out bl (p:Int) =
   ag1 (out++zfy l k v p (ts.drop p)) (bl++(zfy l k v p (ts.drop p)).map (·.Stanza)) F (L.set v.Stanza.toNat k) (cost+c):=by
 intro d
 induction d with
 | zero =>
  intro p m out bl hp hm ho hb
  obtain ⟨m,rfl⟩:∃ q,m=q+1:=⟨m - 1,by omega⟩
  rw [zct]
  generalize zaF (fun _ _ _=>none) (zby l (k,v) ag1 cost F L (ts,c)) m=ag
  unfold zby
  refine zay (decide_eq_false (by show ¬ (p:Int)<(ts.length:Int); omega)) ?_
  rw [List.drop_of_length_le (by omega)]
  show ag1 out bl F (L.set v.Stanza.toNat k) (cost+c)=ag1 (out++[]) (bl++[]) F (L.set v.Stanza.toNat k) (cost+c)
  rw [List.append_nil,List.append_nil]
 | succ d ih =>
  intro p m out bl hp hm ho hb
  obtain ⟨m,rfl⟩:∃ q,m=q+1:=⟨m - 1,by omega⟩
  rw [zct]
  have ih':=fun out' bl' (h:out'.length=out.length+1) (h2:bl'.length=out'.length)=>ih (p+1) m out' bl' (by omega) (by omega) (by omega) h2
  generalize zaF (fun _ _ _=>none) (zby l (k,v) ag1 cost F L (ts,c)) m=ag at ih' ⊢
  have ht:ts[p]?=some ts[p]:=List.getElem?_eq_getElem (by omega)
  rw [show ((p+1:Nat):Int)=(p:Int)+1 by omega] at ih'
  have go:∀ (i n:Int),i=(zuD l k v p ts[p]).Indent→n=(zuD l k v p ts[p]).Number→(grd (out.length+1≤2147483648)<|grd (bl.length+1≤2147483648)<|grd (I64 ((p:Int)+1))<|ag (out++[(⟨k,v.Stanza,(p:Int),i,n,ts[p]⟩:Gapi_Row)]) (bl++[v.Stanza]) ((p:Int)+1)) =
    ag1 (out++zfy l k v p (ts.drop p)) (bl++(zfy l k v p (ts.drop p)).map (·.Stanza)) F (L.set v.Stanza.toNat k) (cost+c):=by
   intro i n hi hn
   refine zbo (by omega) (zbo (by omega) (zbo ⟨by omega,by omega⟩ ?_))
   subst hi; subst hn
   rw [ih' _ _ (by simp) (by simp; omega),List.drop_eq_getElem_cons (show p<ts.length by omega),List.append_assoc,List.append_assoc]; rfl
  unfold zby
  refine zaz (decide_eq_true (by show (p:Int)<(ts.length:Int); omega)) (zbs (zaJ (zcE ht) ?_))
  by_cases h0:(p:Int)=0
  ·refine zaz (zgG h0) ?_
   by_cases he:0<l.Every
   ·refine zaz (decide_eq_true he) (zbo ?_ (zbo (by omega) ?_))
    ·show I64 (k+1); exact ⟨by omega,by omega⟩
    by_cases ht2:Int.tmod (k+1) l.Every=0
    ·exact zaz (zgG ht2) (zbo (show I64 (k+1) from ⟨by omega,by omega⟩) (go _ _ (if_pos h0).symm ((if_pos h0).trans ((if_pos he).trans (if_pos ht2))).symm))
    ·exact zay (zgN ht2) (go _ _ (if_pos h0).symm ((if_pos h0).trans ((if_pos he).trans (if_neg ht2))).symm)
   ·exact zay (decide_eq_false he) (go _ _ (if_pos h0).symm ((if_pos h0).trans (if_neg he)).symm)
  ·exact zay (zgN h0) (go _ _ (if_neg h0).symm (if_neg h0).symm)
theorem zoj (l:Gapi_Layout) (hm:zh8 l=true) (dn:(List Gapi_Row)→(List Int)→(List Int)→(List Int)→Int→Option (Int×Gpage_parter)) :
  ∀ (vs:List Gapi_Verse) (k:Nat) (out:List Gapi_Row) (bl F L:List Int) (cost:Int),(∀ v∈vs,OkV v)→k+vs.length≤512→out.length≤1024*k→bl.length=out.length→0≤cost∧cost≤2000000000000*1024*k→F.length≤k→L.length=F.length→Stp F.length vs →
  zcD dn (zbM l) (zlO k vs) out bl F L cost=dn (out++zcO l k vs) (bl++(zcO l k vs).map (·.Stanza)) (flS k (F,L) vs).1 (flS k (F,L) vs).2 (cost+zhH l vs)
 | [],k,out,bl,F,L,cost,_,_,_,_,_,_,_,_=>by
  show dn out bl F L cost=dn (out++[]) (bl++[]) F L (cost+0)
  rw [List.append_nil,List.append_nil,Int.add_zero]
 | v::vs,k,out,bl,F,L,cost,hv,hk,ho,hb,hc,hF,hL,hst=>by
  obtain ⟨s1,s2⟩:=hst
  have hok:OkV v:=hv v (List.mem_cons_self ..)
  have h1:=zoW hm hok
  have h2:=zpm hm hok
  obtain ⟨w1,w2,w3⟩:=zqf hm hok.i0
  have hsz:v.Text.size≤100000:=by have:=hok.sz; omega
  rw [List.length_cons] at hk
  have ih:=fun out bl F L cost h3 h4 h5 h6 h7 h8=>zoj l hm dn vs (k+1) out bl F L cost (fun w hw=>hv w (List.mem_cons_of_mem _ hw)) (by omega) h3 h4 h5 h6 h7 h8
  show zbM l (((k:Nat):Int),v) (zcD dn (zbM l) (zlO (k+1) vs)) out bl F L cost=_
  generalize zcD dn (zbM l) (zlO (k+1) vs)=ag at ih ⊢
  have e1:((k+1:Nat):Int)=(k:Int)+1:=by omega
  rw [e1] at ih
  have rest:∀ (F' L':List Int),F'.length≤k+1→L'.length=F'.length→0≤v.Stanza→v.Stanza.toNat<L'.length→Stp F'.length vs→(F',L'.set v.Stanza.toNat (k:Int))=(if v.Stanza=(F.length:Int) then (F++[(k:Int)],L++[(k:Int)]) else (F,L.set v.Stanza.toNat (k:Int))) →
    (zak (zbF L' v.Stanza) fun (q1:Int)=>zak (ze2 v.Text v.Indent l) fun (r2:((List ByteArray)×Int))=>grd (I64 (cost+r2.2))<|zaF (fun _ _ _=>none) (zby l ((k:Int),v) ag cost F' L' r2) zbV out bl 0) =
    dn (out++zcO l k (v::vs)) (bl++(zcO l k (v::vs)).map (·.Stanza)) (flS k (F,L) (v::vs)).1 (flS k (F,L) (v::vs)).2 (cost+zhH l (v::vs)):=by
   intro F' L' q1 q2 q3 q4 q5 q6
   refine zaJ (zdE (n:=v.Stanza.toNat) (by omega) (List.getElem?_eq_getElem q4)) (zaJ (zvO v.Text hsz v.Indent l w1 w2 w3) (zbo ?_ ?_))
   ·show I64 (cost+zqL l v)
    exact ⟨by omega,by omega⟩
   ·have hin:=zs7 l k ⟨by omega,by omega⟩ v ag cost F' L' (zmE l v) (by omega) (zqL l v) (zmE l v).length 0 zbV out bl (by omega) (zb8 (by omega)) (by omega) hb
    refine hin.trans ?_
    rw [List.drop_zero]
    refine (ih _ _ F' (L'.set v.Stanza.toNat (k:Int)) _ (by rw [List.length_append,ziE]; omega) (by rw [List.length_append,List.length_append,List.length_map,hb]) (by push_cast; omega) q1 (by rw [List.length_set]; exact q2) q5).trans ?_
    have e2:flS k (F,L) (v::vs)=flS ((k:Int)+1) (F',L'.set v.Stanza.toNat (k:Int)) vs:=by rw [q6]; rfl
    have e3:zcO l k (v::vs)=zfy l k v 0 (zmE l v)++zcO l ((k:Int)+1) vs:=rfl
    have e4:zhH l (v::vs)=zqL l v+zhH l vs:=rfl
    rw [e2,e3,e4,List.append_assoc,List.append_assoc,List.map_append,Int.add_assoc]; rfl
  unfold zbM
  refine zbs ?_
  rcases s1 with s1 | ⟨s1,s3⟩
  ·refine zaz (zgG s1) (zbo (by omega) (zbo (by omega) (rest _ _ (by simp; omega) (by simp; omega) (by omega) (by simp; omega) ?_ ?_)))
   ·rw [List.length_append,List.length_singleton]; rw [s1] at s2; push_cast; exact s2
   ·have e:v.Stanza.toNat=L.length:=by omega
    rw [if_pos s1,e,ziz]
  ·have hne:v.Stanza≠(F.length:Int):=by omega
   refine zay (zgN hne) (rest F L (by omega) hL (by omega) (by omega) ?_ ?_)
   ·rw [s3] at s2; rw [show (F.length:Int) - 1+1=F.length by omega] at s2; exact s2
   ·rw [if_neg hne]
theorem zuS (l:Gapi_Layout) (hm:zh8 l=true) (p:Gpoem_Poem) (H:Int) (hv:∀ v∈p.told_lines,OkV v) (hl:p.told_lines.length≤512) (hst:Stp 0 p.told_lines) :
  zdy (⟨([]:List Gapi_Row),([]:List Int),([]:List Int),([]:List Int),H⟩:Gpage_parter) p l=some (zhH l p.told_lines,(⟨zcO l 0 p.told_lines,(zcO l 0 p.told_lines).map (·.Stanza),(flS 0 (([]:List Int),([]:List Int)) p.told_lines).1,(flS 0 (([]:List Int),([]:List Int)) p.told_lines).2,H⟩:Gpage_parter)):=by
 unfold zdy
 refine zbs (zaJ (show zef p=some () from rfl) (zaJ (zru p (by omega)) (zbs ?_)))
 refine (zoj l hm _ p.told_lines 0 [] [] [] [] 0 hv (by omega) (Nat.zero_le _) rfl ⟨Int.le_refl _,by omega⟩ (Nat.zero_le _) rfl hst).trans ?_
 rw [List.nil_append,List.nil_append,Int.zero_add]; rfl
end Go.Proofs.YtbempdelckaccaaGreatDoor

namespace Go.Proofs.YtbempdelckaccaaGreatDoor
open Go.RowKit Go.Lib
set_option linter.unusedVariables false
set_option linter.unusedSimpArgs false
theorem zfj {α:Type} {l:List α} {x y:α} {i:Nat} (h:(l++[x])[i]?=some y):l[i]?=some y∨(i=l.length∧y=x):=by
 rcases Nat.lt_or_ge i l.length with hi | hi
 ·rw [List.getElem?_append_left hi] at h; exact .inl h
 ·rw [List.getElem?_append_right hi] at h
  rcases Nat.eq_zero_or_pos (i - l.length) with e | e
  ·rw [e] at h
   exact .inr ⟨by omega,(Option.some.inj h).symm⟩
  ·rw [List.getElem?_eq_none (by simp; omega)] at h; cases h
theorem zkZ {α:Type} {l:List α} {x:α} {i:Nat} (h:l[i]?=some x):i<l.length:=(List.getElem?_eq_some_iff.1 h).1
structure FL (pre:List Gapi_Verse) (F L:List Int):Prop where
 len:L.length=F.length
 fst:∀ (s:Nat) (f:Int),F[s]?=some f→∃ j:Nat,f=j∧(∃ v:Gapi_Verse,pre[j]?=some v∧v.Stanza=(s:Int))∧∀ (i:Nat) (w:Gapi_Verse),pre[i]?=some w→w.Stanza=(s:Int)→j≤i
 lst:∀ (s:Nat) (f:Int),L[s]?=some f→∃ j:Nat,f=j∧(∃ v:Gapi_Verse,pre[j]?=some v∧v.Stanza=(s:Int))∧∀ (i:Nat) (w:Gapi_Verse),pre[i]?=some w→w.Stanza=(s:Int)→i≤j
 all:∀ (i:Nat) (w:Gapi_Verse),pre[i]?=some w→0≤w.Stanza∧w.Stanza<F.length
theorem FL.new {pre:List Gapi_Verse} {F L:List Int} (h:FL pre F L) {v:Gapi_Verse} (hv:v.Stanza=F.length):FL (pre++[v]) (F++[(pre.length:Int)]) (L++[(pre.length:Int)]):=by
 have hlast:(pre++[v])[pre.length]?=some v:=by simp
 have hle:∀ {i:Nat} {w:Gapi_Verse},pre[i]?=some w→(pre++[v])[i]?=some w:=fun h=>by rw [List.getElem?_append_left (zkZ h)]; exact h
 refine ⟨by simp [h.len],fun s f hs => ?_,fun s f hs => ?_,fun i w hw => ?_⟩
 ·rcases zfj hs with hs | ⟨rfl,rfl⟩
  ·obtain ⟨j,e,⟨u,hu,hus⟩,hm⟩:=h.fst s f hs
   refine ⟨j,e,⟨u,hle hu,hus⟩,fun i w hw hws => ?_⟩
   rcases zfj hw with hw | ⟨rfl,rfl⟩
   ·exact hm i w hw hws
   ·have:=zkZ hu; omega
  ·refine ⟨pre.length,rfl,⟨v,hlast,hv⟩,fun i w hw hws => ?_⟩
   rcases zfj hw with hw | ⟨rfl,rfl⟩
   ·have:=(h.all i w hw).2; omega
   ·exact Nat.le_refl _
 ·rcases zfj hs with hs | ⟨e0,rfl⟩
  ·obtain ⟨j,e,⟨u,hu,hus⟩,hm⟩:=h.lst s f hs
   refine ⟨j,e,⟨u,hle hu,hus⟩,fun i w hw hws => ?_⟩
   rcases zfj hw with hw | ⟨rfl,rfl⟩
   ·exact hm i w hw hws
   ·have:=zkZ hs; have:=h.len; omega
  ·refine ⟨pre.length,rfl,⟨v,hlast,by have:=h.len; omega⟩,fun i w hw hws => ?_⟩
   rcases zfj hw with hw | ⟨rfl,rfl⟩
   ·have:=zkZ hw; omega
   ·exact Nat.le_refl _
 ·rw [List.length_append,List.length_singleton]; push_cast
  rcases zfj hw with hw | ⟨rfl,rfl⟩
  ·have:=h.all i w hw; omega
  ·omega
theorem FL.old {pre:List Gapi_Verse} {F L:List Int} (h:FL pre F L) {v:Gapi_Verse} (h0:0<F.length) (hv:v.Stanza=(F.length:Int) - 1):FL (pre++[v]) F (L.set v.Stanza.toNat (pre.length:Int)):=by
 have hlast:(pre++[v])[pre.length]?=some v:=by simp
 have hle:∀ {i:Nat} {w:Gapi_Verse},pre[i]?=some w→(pre++[v])[i]?=some w:=fun h=>by rw [List.getElem?_append_left (zkZ h)]; exact h
 refine ⟨by simp [h.len],fun s f hs => ?_,fun s f hs => ?_,fun i w hw => ?_⟩
 ·obtain ⟨j,e,⟨u,hu,hus⟩,hm⟩:=h.fst s f hs
  refine ⟨j,e,⟨u,hle hu,hus⟩,fun i w hw hws => ?_⟩
  rcases zfj hw with hw | ⟨rfl,rfl⟩
  ·exact hm i w hw hws
  ·have:=zkZ hu; omega
 ·by_cases e:v.Stanza.toNat=s
  ·subst e
   rw [List.getElem?_set_self (by have:=h.len; omega)] at hs
   obtain rfl:=Option.some.inj hs
   refine ⟨pre.length,rfl,⟨v,hlast,by omega⟩,fun i w hw hws => ?_⟩
   rcases zfj hw with hw | ⟨rfl,rfl⟩
   ·have:=zkZ hw; omega
   ·exact Nat.le_refl _
  ·rw [List.getElem?_set_ne e] at hs
   obtain ⟨j,e,⟨u,hu,hus⟩,hm⟩:=h.lst s f hs
   refine ⟨j,e,⟨u,hle hu,hus⟩,fun i w hw hws => ?_⟩
   rcases zfj hw with hw | ⟨rfl,rfl⟩
   ·exact hm i w hw hws
   ·omega
 ·rcases zfj hw with hw | ⟨rfl,rfl⟩
  ·exact h.all i w hw
  ·omega
theorem FL.fold:∀ (vs pre:List Gapi_Verse) (F L:List Int),FL pre F L→Stp F.length vs→FL (pre++vs) (flS (pre.length:Int) (F,L) vs).1 (flS (pre.length:Int) (F,L) vs).2
 | [],pre,F,L,h,_=>by rw [List.append_nil]; exact h
 | v::vs,pre,F,L,h,hs=>by
  obtain ⟨s1,s2⟩:=hs
  have e:pre++v::vs=(pre++[v])++vs:=by simp
  have e1:(((pre++[v]).length:Nat):Int)=(pre.length:Int)+1:=by simp
  have e2:flS (pre.length:Int) (F,L) (v::vs)=flS ((pre.length:Int)+1) (if v.Stanza=(F.length:Int) then (F++[(pre.length:Int)],L++[(pre.length:Int)]) else (F,L.set v.Stanza.toNat (pre.length:Int))) vs:=rfl
  rw [e,e2,← e1]
  rcases s1 with s1 | ⟨s1,s3⟩
  ·rw [if_pos s1]
   exact FL.fold vs (pre++[v]) _ _ (h.new s1) (by rw [List.length_append,List.length_singleton]; rw [s1] at s2; push_cast; exact s2)
  ·rw [if_neg (by omega)]
   refine FL.fold vs (pre++[v]) _ _ (h.old (by omega) s3) ?_
   rw [s3,show (F.length:Int) - 1+1=F.length by omega] at s2
   exact s2
theorem FL.nil:FL [] [] []:=⟨rfl,fun s f h=>by simp at h,fun s f h=>by simp at h,fun i w h=>by simp at h⟩
theorem zn3 {l:Gapi_Layout} {k:Int} {v:Gapi_Verse}:∀ {ts:List ByteArray} {p:Int} {r:Gapi_Row},r∈zfy l k v p ts→r.Line=k∧r.Stanza=v.Stanza
 | [],_,r,h=>by cases h
 | t::ts,p,r,h=>by
  rcases List.mem_cons.1 h with rfl | h
  ·exact ⟨rfl,rfl⟩
  ·exact zn3 h
theorem zhN {l:Gapi_Layout}:∀ {vs:List Gapi_Verse} {k:Int} {r:Gapi_Row},r∈zcO l k vs→∃ (j:Nat) (v:Gapi_Verse),vs[j]?=some v∧r.Line=k+j∧r.Stanza=v.Stanza
 | [],_,r,h=>by cases h
 | v::vs,k,r,h=>by
  rcases List.mem_append.1 h with h | h
  ·obtain ⟨h1,h2⟩:=zn3 h
   exact ⟨0,v,rfl,by omega,h2⟩
  ·obtain ⟨j,w,h1,h2,h3⟩:=zhN h
   exact ⟨j+1,w,h1,by omega,h3⟩
theorem ztF {l:Gapi_Layout} (hm:zh8 l=true) {v:Gapi_Verse} (h:OkV v):zmE l v≠[]:=by
 obtain ⟨h1,h2,h3⟩:=zqf hm h.i0
 have hc:=ztn (s:=v.Text) (by have:=h.sz; omega) h2 h3
 intro e
 have e':zgl v.Text 0 (zk9 v.Text (zpV v.Indent l) (zpM l))=[]:=e
 rw [e'] at hc
 have:=h.ne
 rw [← hc] at this
 exact absurd this (by decide)
theorem zmV {l:Gapi_Layout} (hm:zh8 l=true):∀ {vs:List Gapi_Verse} {k:Int} {j:Nat} {v:Gapi_Verse},(∀ w∈vs,OkV w)→vs[j]?=some v→∃ r∈zcO l k vs,r.Line=k+j∧r.Stanza=v.Stanza
 | [],_,_,_,_,h=>by simp at h
 | w::vs,k,0,v,hv,h=>by
  obtain rfl:=Option.some.inj h
  have hne:=ztF hm (hv w (List.mem_cons_self ..))
  cases ht:zmE l w with
  | nil=>exact absurd ht hne
  | cons t ts=>exact ⟨zuD l k w 0 t,by show _∈zfy l k w 0 (zmE l w)++_; rw [ht]; exact List.mem_append_left _ (List.mem_cons_self ..),by show k=_; omega,rfl⟩
 | w::vs,k,j+1,v,hv,h=>by
  obtain ⟨r,h1,h2,h3⟩:=zmV hm (k:=k+1) (fun u hu=>hv u (List.mem_cons_of_mem _ hu)) h
  exact ⟨r,List.mem_append_right _ h1,by omega,h3⟩
def RCh:Int→List Gapi_Row→Prop
 | _,[]=>True
 | s,r::rs=>(r.Stanza=s∨r.Stanza=s+1)∧RCh r.Stanza rs
theorem zpI {l:Gapi_Layout} {k:Int} {v:Gapi_Verse} {rest:List Gapi_Row} (hr:RCh v.Stanza rest):∀ (ts:List ByteArray) (p:Int),RCh v.Stanza (zfy l k v p ts++rest)
 | [],_=>hr
 | t::ts,p=>⟨.inl rfl,zpI hr ts (p+1)⟩
theorem zrk {l:Gapi_Layout} (hm:zh8 l=true):∀ (vs:List Gapi_Verse) (c k:Int),(∀ w∈vs,OkV w)→Stp c vs→RCh (c - 1) (zcO l k vs)
 | [],_,_,_,_=>trivial
 | v::vs,c,k,hv,⟨s1,s2⟩=>by
  have ih:=zrk hm vs (v.Stanza+1) (k+1) (fun w hw=>hv w (List.mem_cons_of_mem _ hw)) s2
  rw [show v.Stanza+1 - 1=v.Stanza by omega] at ih
  show RCh (c - 1) (zfy l k v 0 (zmE l v)++zcO l (k+1) vs)
  have hne:=ztF hm (hv v (List.mem_cons_self ..))
  cases ht:zmE l v with
  | nil=>exact absurd ht hne
  | cons t ts=>exact ⟨by show v.Stanza=_∨v.Stanza=_; omega,zpI ih ts (0+1)⟩
theorem RCh.step:∀ {rs:List Gapi_Row} {s:Int} {i:Nat} {a b:Gapi_Row},RCh s rs→rs[i]?=some a→rs[i+1]?=some b→b.Stanza=a.Stanza∨b.Stanza=a.Stanza+1
 | [],_,_,_,_,_,h,_=>by simp at h
 | r::rs,s,0,a,b,⟨h1,h2⟩,ha,hb=>by
  obtain rfl:=Option.some.inj ha
  cases rs with
  | nil=>simp at hb
  | cons q qs=>obtain rfl:=Option.some.inj hb; exact h2.1
 | r::rs,s,i+1,a,b,⟨h1,h2⟩,ha,hb=>h2.step ha hb
structure RowsOk (rows:List Gapi_Row) (F L:List Int):Prop where
 n:rows.length≤1000000
 ch:∀ (i:Nat) (a b:Gapi_Row),rows[i]?=some a→rows[i+1]?=some b→b.Stanza=a.Stanza∨b.Stanza=a.Stanza+1
 rg:∀ r∈rows,0≤r.Stanza∧r.Stanza≤1000000
 fst:∀ r∈rows,∃ f,F[r.Stanza.toNat]?=some f∧(r.Line=f↔∀ x∈rows,x.Stanza=r.Stanza→r.Line≤x.Line)
 lst:∀ r∈rows,∃ f,L[r.Stanza.toNat]?=some f∧(r.Line=f↔∀ x∈rows,x.Stanza=r.Stanza→x.Line≤r.Line)
theorem zmU {l:Gapi_Layout} (hm:zh8 l=true) (vs:List Gapi_Verse) (hv:∀ w∈vs,OkV w) (hl:vs.length≤512) (hs:Stp 0 vs):RowsOk (zcO l 0 vs) (flS 0 (([]:List Int),([]:List Int)) vs).1 (flS 0 (([]:List Int),([]:List Int)) vs).2:=by
 have hf:=FL.fold vs [] [] [] FL.nil hs
 rw [List.nil_append,show ((([]:List Gapi_Verse).length:Nat):Int)=0 from rfl] at hf
 have hlen:=zkG hm vs 0 hv
 have hch:=zrk hm vs 0 0 hv hs
 have hFl:∀ (pre ws:List Gapi_Verse) (F L:List Int) (k:Int),F.length≤pre.length→(flS k (F,L) ws).1.length≤pre.length+ws.length:=by
  intro pre ws
  induction ws generalizing pre with
  | nil=>intro F L k h; exact h
  | cons w ws ih =>
   intro F L k h
   have e2:flS k (F,L) (w::ws)=flS (k+1) (if w.Stanza=(F.length:Int) then (F++[k],L++[k]) else (F,L.set w.Stanza.toNat k)) ws:=rfl
   rw [e2]
   split
   ·have:=ih (pre++[w]) (F++[k]) (L++[k]) (k+1) (by simp; omega)
    simp at this ⊢; omega
   ·have:=ih (pre++[w]) F (L.set w.Stanza.toNat k) (k+1) (by simp; omega)
    simp at this ⊢; omega
 have hF2:=hFl [] vs [] [] 0 (Nat.le_refl _)
 refine ⟨by omega,fun i a b ha hb=>hch.step ha hb,fun r hr => ?_,fun r hr => ?_,fun r hr => ?_⟩
 ·obtain ⟨j,v,h1,h2,h3⟩:=zhN hr
  have:=hf.all j v h1
  simp at hF2
  omega
 ·obtain ⟨j,v,h1,h2,h3⟩:=zhN hr
  have ha:=hf.all j v h1
  have hg:(flS 0 (([]:List Int),([]:List Int)) vs).1[r.Stanza.toNat]?=some _:=List.getElem?_eq_getElem (by omega)
  refine ⟨_,hg,?_⟩
  obtain ⟨j2,e,⟨u,hu,hus⟩,hmin⟩:=hf.fst _ _ hg
  rw [e]
  constructor
  ·intro he x hx hxs
   obtain ⟨j3,v3,g1,g2,g3⟩:=zhN hx
   have:=hmin j3 v3 g1 (by omega)
   omega
  ·intro hall
   obtain ⟨x,hx,x1,x2⟩:=zmV hm (l:=l) (k:=0) hv hu
   have h4:=hall x hx (by omega)
   have h5:=hmin j v h1 (by omega)
   omega
 ·obtain ⟨j,v,h1,h2,h3⟩:=zhN hr
  have ha:=hf.all j v h1
  have hg:(flS 0 (([]:List Int),([]:List Int)) vs).2[r.Stanza.toNat]?=some _:=List.getElem?_eq_getElem (by have:=hf.len; omega)
  refine ⟨_,hg,?_⟩
  obtain ⟨j2,e,⟨u,hu,hus⟩,hmax⟩:=hf.lst _ _ hg
  rw [e]
  constructor
  ·intro he x hx hxs
   obtain ⟨j3,v3,g1,g2,g3⟩:=zhN hx
   have:=hmax j3 v3 g1 (by omega)
   omega
  ·intro hall
   obtain ⟨x,hx,x1,x2⟩:=zmV hm (l:=l) (k:=0) hv hu
   have h4:=hall x hx (by omega)
   have h5:=hmax j v h1 (by omega)
   omega
theorem zhG {α:Type} (l:List α) (f t:Nat):zly l (f:Int) (t:Int)=(l.drop f).take (t - f):=by
 unfold zly
 rw [Int.toNat_natCast,Int.toNat_natCast]
def stz (rows:List Gapi_Row) (i:Nat):Int:=match rows[i]? with | some r=>r.Stanza | none=>0
def zdB (rows:List Gapi_Row) (f t:Nat):Int:=((t:Int) - f)+stz rows (t - 1) - stz rows f
theorem zie {rows:List Gapi_Row} {i:Nat} {r:Gapi_Row} (h:rows[i]?=some r):stz rows i=r.Stanza:=by unfold stz; rw [h]
section
variable {rows:List Gapi_Row} {F L:List Int} (hR:RowsOk rows F L)
include hR
theorem zmI (i:Nat):0≤stz rows i∧stz rows i≤1000000:=by
 unfold stz
 split
 ·rename_i r h
  exact hR.rg r (List.mem_of_getElem? h)
 ·omega
theorem zpB {i:Nat} (h:i+1<rows.length):stz rows (i+1)=stz rows i∨stz rows (i+1)=stz rows i+1:=by
 have h1:rows[i]?=some rows[i]:=List.getElem?_eq_getElem (by omega)
 have h2:rows[i+1]?=some rows[i+1]:=List.getElem?_eq_getElem h
 rw [zie h1,zie h2]
 exact hR.ch i _ _ h1 h2
theorem zmJ:∀ (d i:Nat),i+d<rows.length→stz rows i≤stz rows (i+d)
 | 0,i,_=>Int.le_refl _
 | d+1,i,h=>by
  have h1:=zmJ d i (by omega)
  have h2:=zpB hR (i:=i+d) (by omega)
  rw [show i+(d+1)=i+d+1 by omega]; omega
theorem zpT {f t:Nat} (h1:f<t) (h2:t≤rows.length):(t:Int) - f≤zdB rows f t∧zdB rows f t≤3000000:=by
 have:=zmJ hR (t - 1 - f) f (by omega)
 rw [show f+(t - 1 - f)=t - 1 by omega] at this
 have a:=zmI hR f
 have b:=zmI hR (t - 1)
 have c:=hR.n
 unfold zdB; omega
theorem ztZ (H:Int) (f t:Nat) (h1:f<t) (h2:t≤rows.length):zdd (⟨rows,rows.map (·.Stanza),F,L,H⟩:Gpage_parter) (f:Int) (t:Int)=some (zdB rows f t):=by
 have hn:=hR.n
 have a:=zmI hR f
 have b:=zmI hR (t - 1)
 have g:∀ i:Nat,i<rows.length→(rows.map (·.Stanza))[i]?=some (stz rows i):=fun i hi=>by
  rw [List.getElem?_map,List.getElem?_eq_getElem hi,zie (List.getElem?_eq_getElem hi)]; rfl
 unfold zdd
 refine zbo ⟨by omega,by omega⟩ (zbo ⟨by omega,by omega⟩ (zaJ (zdE (n:=t - 1) (by omega) (g (t - 1) (by omega))) (zbo ⟨by omega,by omega⟩ (zaJ (zcE (g f (by omega))) (zbo ⟨by omega,by omega⟩ ?_)))))
 rfl
theorem zsU (f t:Nat) (h2:t≤rows.length) (j1:Int→Option Int):∀ (d i m:Nat) (n:Int),0<i→f+i+d=t→d<m→0≤n∧n+d≤5000000→zaF (fun _ _=>none) (zcY (zly rows (f:Int) (t:Int)) j1) m n (i:Int)=j1 (n+(stz rows (t - 1) - stz rows (f+i - 1))):=by
 have hn:=hR.n
 intro d
 induction d with
 | zero =>
  intro i m n hi hd hm hr
  obtain ⟨m,rfl⟩:∃ q,m=q+1:=⟨m - 1,by omega⟩
  rw [zct]
  generalize zaF (fun _ _=>none) (zcY (zly rows (f:Int) (t:Int)) j1) m=ag
  have hlen:(zly rows (f:Int) (t:Int)).length=t - f:=by rw [zhG rows f t]; simp; omega
  unfold zcY
  refine zay (decide_eq_false (by rw [hlen]; omega)) ?_
  rw [show f+i - 1=t - 1 by omega,Int.sub_self,Int.add_zero]
 | succ d ih =>
  intro i m n hi hd hm hr
  obtain ⟨m,rfl⟩:∃ q,m=q+1:=⟨m - 1,by omega⟩
  rw [zct]
  have ih':=fun n h=>ih (i+1) m n (by omega) (by omega) (by omega) h
  rw [show ((i+1:Nat):Int)=(i:Int)+1 by omega,show f+(i+1) - 1=f+i by omega] at ih'
  generalize zaF (fun _ _=>none) (zcY (zly rows (f:Int) (t:Int)) j1) m=ag at ih' ⊢
  have hlen:(zly rows (f:Int) (t:Int)).length=t - f:=by rw [zhG rows f t]; simp; omega
  have g:∀ j:Nat,j<t - f→(zly rows (f:Int) (t:Int))[j]?=rows[f+j]?:=fun j hj=>by rw [zhG rows f t,List.getElem?_take,if_pos hj,List.getElem?_drop]
  have ha:rows[f+i]?=some rows[f+i]:=List.getElem?_eq_getElem (by omega)
  have hb:rows[f+(i - 1)]?=some rows[f+(i - 1)]:=List.getElem?_eq_getElem (by omega)
  have hst:=zpB hR (i:=f+(i - 1)) (by omega)
  rw [show f+(i - 1)+1=f+i by omega] at hst
  have sa:=zie ha
  have sb:=zie hb
  rw [show f+i - 1=f+(i - 1) by omega]
  unfold zcY
  refine zaz (decide_eq_true (by rw [hlen]; omega)) (zbs (zaJ (zcE ((g i (by omega)).trans ha)) (zbo ⟨by omega,by omega⟩ (zaJ (zdE (n:=i - 1) (by omega) ((g (i - 1) (by omega)).trans hb)) ?_))))
  by_cases he:rows[f+i].Stanza=rows[f+(i - 1)].Stanza
  ·refine zay (zxC he) (zbo ⟨by omega,by omega⟩ ?_)
   rw [ih' n ⟨by omega,by omega⟩]
   exact congrArg j1 (by omega)
  ·refine zaz (zvw he) (zbo ⟨by omega,by omega⟩ (zbo ⟨by omega,by omega⟩ ?_))
   rw [ih' (n+1) ⟨by omega,by omega⟩]
   exact congrArg j1 (by omega)
theorem zuE (f t:Nat) (h1:f<t) (h2:t≤rows.length):ze9 (zly rows (f:Int) (t:Int))=some (zdB rows f t):=by
 have hn:=hR.n
 unfold ze9
 have hlen:(zly rows (f:Int) (t:Int)).length=t - f:=by rw [zhG rows f t]; simp; omega
 refine zbs ?_
 have:=zsU hR f t h2 (fun n1=>some n1) (t - f - 1) 1 zbV ((t - f:Nat):Int) (by omega) (by omega) (zb8 (by omega)) ⟨by omega,by omega⟩
 rw [hlen]
 refine this.trans ?_
 rw [show f+1 - 1=f by omega]
 unfold zdB
 exact congrArg some (by omega)
end
def zsA (rows:List Gapi_Row) (k:Nat):Int :=
 match rows[k - 1]?,rows[k]? with
 | some a,some b=>if a.Stanza≠b.Stanza then 0 else if a.Line=b.Line then 100 else if (rows.all fun r=>!(r.Stanza==a.Stanza&&decide (r.Line<a.Line)))=true∨(rows.all fun r=>!(r.Stanza==a.Stanza&&decide (b.Line<r.Line)))=true then 50 else 10
 | _,_=>0
theorem zp3 (rows:List Gapi_Row) (k:Nat):0≤zsA rows k∧zsA rows k≤100:=by
 unfold zsA
 split
 ·split
  ·omega
  ·split
   ·omega
   ·split <;> omega
 ·omega
theorem zyn {rows:List Gapi_Row} {F L:List Int} (hR:RowsOk rows F L) (H:Int) (k:Nat) (h0:0<k) (hk:k<rows.length):zd1 (⟨rows,rows.map (·.Stanza),F,L,H⟩:Gpage_parter) (k:Int)=some (zsA rows k):=by
 have hn:=hR.n
 have ha:rows[k - 1]?=some rows[k - 1]:=List.getElem?_eq_getElem (by omega)
 have hb:rows[k]?=some rows[k]:=List.getElem?_eq_getElem hk
 unfold zd1 zsA
 rw [ha,hb]
 have ma:=List.mem_of_getElem? ha
 have mb:=List.mem_of_getElem? hb
 generalize rows[k - 1]=a at ha ma
 generalize rows[k]=b at hb mb
 simp only
 refine zbo ⟨by omega,by omega⟩ (zaJ (zdE (n:=k - 1) (by omega) ha) (zaJ (zcE hb) ?_))
 have ra:=hR.rg a ma
 have rb:=hR.rg b mb
 by_cases h1:a.Stanza=b.Stanza
 ·refine zay (zxC h1) ?_
  rw [if_neg (by simp [h1])]
  by_cases h2:a.Line=b.Line
  ·rw [if_pos h2]; exact zaz (zgG h2) rfl
  ·rw [if_neg h2]
   refine zay (zgN h2) ?_
   obtain ⟨f,f1,f2⟩:=hR.fst a ma
   obtain ⟨g,g1,g2⟩:=hR.lst b mb
   have p1:(a.Line=f)↔(rows.all fun r=>!(r.Stanza==a.Stanza&&decide (r.Line<a.Line)))=true:=by
    rw [f2,List.all_eq_true]
    constructor
    ·intro h x hx
     by_cases e:x.Stanza=a.Stanza
     ·have:=h x hx e
      simp [e]; omega
     ·simp [e]
    ·intro h x hx e
     have:=h x hx
     simp [e] at this; omega
   have p2:(b.Line=g)↔(rows.all fun r=>!(r.Stanza==a.Stanza&&decide (b.Line<r.Line)))=true:=by
    rw [g2,List.all_eq_true]
    constructor
    ·intro h x hx
     by_cases e:x.Stanza=a.Stanza
     ·have:=h x hx (by omega)
      simp [e]; omega
     ·simp [e]
    ·intro h x hx e
     have:=h x hx
     simp [show x.Stanza=a.Stanza by omega] at this; omega
   refine zaJ (zdE (n:=a.Stanza.toNat) (by omega) f1) ?_
   by_cases h3:a.Line=f
   ·rw [if_pos (.inl (p1.1 h3))]; exact zaz (zgG h3) rfl
   ·refine zay (zgN h3) (zaJ (zdE (n:=b.Stanza.toNat) (by omega) g1) ?_)
    by_cases h4:b.Line=g
    ·rw [if_pos (.inr (p2.1 h4))]; exact zaz (zgG h4) rfl
    ·rw [if_neg (fun h=>h.elim (fun h=>h3 (p1.2 h)) (fun h=>h4 (p2.2 h)))]; exact zay (zgN h4) rfl
 ·rw [if_pos h1]
  exact zaz (zvw h1) rfl
end Go.Proofs.YtbempdelckaccaaGreatDoor

namespace Go.Proofs.YtbempdelckaccaaGreatDoor
open Go.RowKit Go.Lib
set_option linter.unusedVariables false
set_option linter.unusedSimpArgs false
def Rp (rows:List Gapi_Row) (H:Int) (f t:Nat):Bool:=decide (zdB rows f t≤H)
def Kp (rows:List Gapi_Row) (H:Int) (f t:Nat):Int:=if f<t∧t<rows.length∧zdB rows f t≤H then (H - zdB rows f t)*(H - zdB rows f t)+zsA rows t else 0
abbrev Tp (rows:List Gapi_Row) (H:Int) (k:Nat):Nat→Bst:=Bf (Rp rows H) (Kp rows H) rows.length k
abbrev Tt (rows:List Gapi_Row) (H:Int):Nat→Bst:=BB (Rp rows H) (Kp rows H) rows.length
abbrev zjb (rows:List Gapi_Row) (H:Int):List Nat:=zlP (Tt rows H) rows.length rows.length 0
theorem zqc {rows:List Gapi_Row} {H:Int} (hH:4≤H∧H≤200):∀ f,f<rows.length→Rp rows H f (f+1)=true:=by
 intro f hf
 unfold Rp zdB
 rw [show f+1 - 1=f by omega]
 exact decide_eq_true (by omega)
theorem zrI {rows:List Gapi_Row} {F L:List Int} (hR:RowsOk rows F L) {f t:Nat} (d:Nat) (h1:f<t) (h2:t+d≤rows.length):zdB rows f t≤zdB rows f (t+d):=by
 have:=zmJ hR d (t - 1) (by omega)
 rw [show t - 1+d=t+d - 1 by omega] at this
 unfold zdB; omega
section
variable {rows:List Gapi_Row} {F L:List Int} {H:Int} (hR:RowsOk rows F L) (hH:4≤H∧H≤200)
include hR hH
theorem ztO {f t:Nat} (h1:f<t) (h2:t≤rows.length) (h3:zdB rows f t≤H):0≤(H - zdB rows f t)*(H - zdB rows f t)∧(H - zdB rows f t)*(H - zdB rows f t)≤40000:=by
 have:=zpT hR h1 h2
 have a:0≤H - zdB rows f t:=by omega
 have b:H - zdB rows f t≤200:=by omega
 exact ⟨Int.mul_nonneg a a,Int.le_trans (Int.mul_le_mul b b a (by decide)) (by decide)⟩
theorem zmx:∀ f t,0≤Kp rows H f t∧Kp rows H f t≤2000000000000:=by
 intro f t
 unfold Kp
 split
 ·rename_i h
  have h1:=ztO hR hH h.1 (by omega) h.2.2
  have h2:=zp3 rows t
  omega
 ·omega
theorem zsY (k f:Nat) (hf:f+(k+1)=rows.length) (j2:List Bst→Option ((List Int)×Int)) :
  ∀ (d t m:Nat) (x:Bst),f<t→t+d=rows.length+1→d<m→okB (k+1) x→zaF (fun _ _=>none) (zbK (⟨rows,rows.map (·.Stanza),F,L,H⟩:Gpage_parter) (f:Int) j2) m ((zff (Tp rows H k) rows.length).set f x) (t:Int) =
   j2 ((zff (Tp rows H k) rows.length).set f (zep (Rp rows H) (Kp rows H) rows.length (Tp rows H k) f d t x)):=by
 have hn:=hR.n
 have hK:=zmx hR hH
 have hok:∀ t,okB k (Tp rows H k t):=zlw (R:=Rp rows H) (K:=Kp rows H) (n:=rows.length) hK k
 intro d
 induction d with
 | zero =>
  intro t m x hft htd hm hx
  obtain ⟨m,rfl⟩:∃ q,m=q+1:=⟨m - 1,by omega⟩
  rw [zct]
  generalize zaF (fun _ _=>none) (zbK (⟨rows,rows.map (·.Stanza),F,L,H⟩:Gpage_parter) (f:Int) j2) m=ag
  unfold zbK
  exact zay (decide_eq_false (by show ¬ ((t:Int)≤(rows.length:Int)); omega)) rfl
 | succ d ih =>
  intro t m x hft htd hm hx
  obtain ⟨m,rfl⟩:∃ q,m=q+1:=⟨m - 1,by omega⟩
  have ih':=fun y hy=>ih (t+1) m y (by omega) (by omega) (by omega) hy
  rw [zct]
  generalize zaF (fun _ _=>none) (zbK (⟨rows,rows.map (·.Stanza),F,L,H⟩:Gpage_parter) (f:Int) j2) m=ag at ih' ⊢
  rw [show ((t+1:Nat):Int)=(t:Int)+1 by omega] at ih'
  have htl:=zgz (Tp rows H k) rows.length
  have hgt:∀ y:Bst,zbF ((zff (Tp rows H k) rows.length).set f y) (t:Int)=some (Tp rows H k t):=fun y=>zcE (by rw [List.getElem?_set_ne (by omega)]; exact zez _ _ _ (by omega))
  have hgf:∀ y:Bst,zbF ((zff (Tp rows H k) rows.length).set f y) (f:Int)=some y:=fun y=>zcE (by rw [List.getElem?_set_self (by omega)])
  have hnext:∀ y,okB (k+1) y→(grd (I64 ((t:Int)+1))<|ag ((zff (Tp rows H k) rows.length).set f y) ((t:Int)+1))=j2 ((zff (Tp rows H k) rows.length).set f (zep (Rp rows H) (Kp rows H) rows.length (Tp rows H k) f d (t+1) y)):=fun y hy=>zbo ⟨by omega,by omega⟩ (ih' y hy)
  unfold zbK
  refine zaz (decide_eq_true (by show (t:Int)≤(rows.length:Int); omega)) (zaJ (ztZ hR H f t hft (by omega)) ?_)
  unfold zep
  by_cases hRt:zdB rows f t≤H
  ·have hRb:Rp rows H f t=true:=decide_eq_true hRt
   refine zaz (decide_eq_true hRt) (zbs (zwy (fun j4=>∀ y:Bst,okB (k+1) y→y.to_=(t:Int)→j4 y.cost y.rows=j2 ((zff (Tp rows H k) rows.length).set f (zep (Rp rows H) (Kp rows H) rows.length (Tp rows H k) f d (t+1) (znM x (some y))))) ?_ ?_))
   ·intro y hy hto
    have ey:(⟨y.cost,y.rows,(t:Int)⟩:Gpage_best)=y:=by rw [← hto]
    have hput:(grd (I64 ((t:Int)+1))<|ag (((zff (Tp rows H k) rows.length).set f x).set (f:Int).toNat (⟨y.cost,y.rows,(t:Int)⟩:Gpage_best)) ((t:Int)+1))=j2 ((zff (Tp rows H k) rows.length).set f (zep (Rp rows H) (Kp rows H) rows.length (Tp rows H k) f d (t+1) y)):=by
     rw [ey,Int.toNat_natCast,List.set_set]; exact hnext y hy
    have hkeep:=hnext x hx
    refine zaJ (hgf x) ?_
    rw [zgj]
    by_cases h1:x.rows<0
    ·rw [if_pos (.inl h1)]; exact zaz (decide_eq_true h1) (zaJ (hgf x) hput)
    refine zay (decide_eq_false h1) ?_
    by_cases h2:y.cost<x.cost
    ·rw [if_pos (.inr (.inl h2))]; exact zaz (decide_eq_true h2) (zaJ (hgf x) hput)
    refine zay (decide_eq_false h2) ?_
    by_cases h3:y.cost=x.cost
    ·refine zaz (zgG h3) ?_
     by_cases h4:y.rows≤x.rows
     ·rw [if_pos (.inr (.inr ⟨h3,h4⟩))]; exact zaz (decide_eq_true h4) (zaJ (hgf x) hput)
     ·rw [if_neg (by omega)]; exact zay (decide_eq_false h4) hkeep
    ·rw [if_neg (by omega)]; exact zay (zgN h3) hkeep
   intro j4 held
   by_cases ht:t<rows.length
   ·obtain ⟨o1,o2,o3,o4⟩:=hok t
    have hk2:=hK f t
    have hsq:=ztO hR hH hft (by omega) hRt
    have hcs:=zp3 rows t
    have hhr:=zpT hR hft (t:=t) (by omega)
    have hkp:Kp rows H f t=(H - zdB rows f t)*(H - zdB rows f t)+zsA rows t:=if_pos ⟨hft,ht,hRt⟩
    have hfe:0≤(Tp rows H k t).rows:=znG hK (zqc hH) k t (by omega) (by omega)
    have hc:zfu (Rp rows H) (Kp rows H) rows.length (Tp rows H k) f t=some ⟨Kp rows H f t+(Tp rows H k t).cost,(Tp rows H k t).rows+1,(t:Int)⟩:=by unfold zfu; rw [if_pos hRb,if_pos ht,if_neg (by omega)]
    have hyok:=(zha hK hok hc).1
    rw [hc]
    refine zaz (decide_eq_true (by show (t:Int)<(rows.length:Int); omega)) (zaJ (ztZ hR H f t hft (by omega)) (zbo ?_ (zbo ?_ (zaJ (zyn hR H t (by omega) ht) (zbo ?_ (zaJ (hgt x) (zbo ?_ (zbo ⟨by omega,by omega⟩ ?_))))))))
    ·show I64 (H - zdB rows f t); exact ⟨by omega,by omega⟩
    ·show I64 ((H - zdB rows f t)*(H - zdB rows f t)); exact ⟨by omega,by omega⟩
    ·show I64 ((H - zdB rows f t)*(H - zdB rows f t)+zsA rows t); exact ⟨by omega,by omega⟩
    ·show I64 ((H - zdB rows f t)*(H - zdB rows f t)+zsA rows t+(Tp rows H k t).cost); rw [← hkp]; exact ⟨by omega,by omega⟩
    ·have:=held _ hyok rfl
     refine Eq.trans ?_ this
     show j4 ((H - zdB rows f t)*(H - zdB rows f t)+zsA rows t+(Tp rows H k t).cost) ((Tp rows H k t).rows+1)=j4 (Kp rows H f t+(Tp rows H k t).cost) ((Tp rows H k t).rows+1)
     rw [hkp]
   ·have hc:zfu (Rp rows H) (Kp rows H) rows.length (Tp rows H k) f t=some ⟨0,1,(t:Int)⟩:=by unfold zfu; rw [if_pos hRb,if_neg ht]
    have hyok:=(zha hK hok hc).1
    rw [hc]
    refine zay (decide_eq_false (by show ¬ ((t:Int)<(rows.length:Int)); omega)) ?_
    exact held _ hyok rfl
  ·refine zay (decide_eq_false hRt) ?_
   have hc:zfu (Rp rows H) (Kp rows H) rows.length (Tp rows H k) f t=none:=by unfold zfu; rw [if_neg (by unfold Rp; rw [decide_eq_false hRt]; decide)]
   rw [hc,zjw d (t+1) (znM x none) (fun t' h1 h2=>by
    have:=zrI hR (t' - t) hft (by omega)
    rw [show t+(t' - t)=t' by omega] at this
    unfold zfu Rp
    rw [if_neg (by rw [decide_eq_false (by omega)]; decide)])]
   rfl
theorem zrv (j1:List Bst→Option ((List Int)×Int)):∀ (d k m:Nat),k+d=rows.length→d<m→zaF (fun _ _=>none) (zbL (⟨rows,rows.map (·.Stanza),F,L,H⟩:Gpage_parter) j1) m (zff (Tp rows H k) rows.length) ((rows.length:Int) - 1 - (k:Int))=j1 (zff (Tt rows H) rows.length):=by
 have hle:=hR.n
 intro d
 induction d with
 | zero =>
  intro k m hk hm
  obtain ⟨m,rfl⟩:∃ q,m=q+1:=⟨m - 1,by omega⟩
  rw [zct]
  generalize zaF (fun _ _=>none) (zbL (⟨rows,rows.map (·.Stanza),F,L,H⟩:Gpage_parter) j1) m=ag
  unfold zbL
  refine zay (decide_eq_false (by omega)) ?_
  rw [show k=rows.length by omega]; rfl
 | succ d ih =>
  intro k m hk hm
  obtain ⟨m,rfl⟩:∃ q,m=q+1:=⟨m - 1,by omega⟩
  have ih':=ih (k+1) m (by omega) (by omega)
  rw [zct]
  generalize zaF (fun _ _=>none) (zbL (⟨rows,rows.map (·.Stanza),F,L,H⟩:Gpage_parter) j1) m=ag at ih' ⊢
  obtain ⟨f,hf⟩:∃ f:Nat,f+(k+1)=rows.length:=⟨d,by omega⟩
  rw [show (rows.length:Int) - 1 - (k:Int)=(f:Int) by omega]
  rw [show (rows.length:Int) - 1 - ((k+1:Nat):Int)=(f:Int) - 1 by omega] at ih'
  unfold zbL
  have hg:zbF (zff (Tp rows H k) rows.length) (f:Int)=some b0:=by
   have e0:Tp rows H k f=b0:=ztA k f (by omega)
   rw [zcE (zez _ _ f (by omega)),e0]
  refine zaz (decide_eq_true (by omega)) (zbs (zaJ hg (zbo ⟨by omega,by omega⟩ ?_)))
  have hin:=zsY hR hH k f hf (fun (all5:List Gpage_best)=>grd (I64 ((f:Int) - 1))<|ag all5 ((f:Int) - 1)) (rows.length - f) (f+1) zbV bm (by omega) (by omega) (zb8 (by omega)) (zry _)
  rw [show ((f+1:Nat):Int)=(f:Int)+1 by omega] at hin
  have et:(zff (Tp rows H k) rows.length).set f (zep (Rp rows H) (Kp rows H) rows.length (Tp rows H k) f (rows.length - f) (f+1) bm)=zff (Tp rows H (k+1)) rows.length:=by
   have e1:Tp rows H (k+1) f=zep (Rp rows H) (Kp rows H) rows.length (Tp rows H k) f (rows.length - f) (f+1) bm:=by
    show Bf (Rp rows H) (Kp rows H) rows.length (k+1) f=_
    rw [zf2,if_pos hf]
   rw [← e1]
   exact zmG (by omega) fun j hj=>by
    show Bf (Rp rows H) (Kp rows H) rows.length (k+1) j=_
    rw [zf2,if_neg (by omega)]
  rw [et] at hin
  refine hin.trans (zbo ⟨by omega,by omega⟩ ih')
theorem zrw (j5:List Int→Option ((List Int)×Int)):∀ (m f N:Nat) (out:List Int),rows.length≤f+m→m<N→out.length≤f→f≤rows.length→zaF (fun _ _=>none) (zbx (⟨rows,rows.map (·.Stanza),F,L,H⟩:Gpage_parter) (zff (Tt rows H) rows.length) j5) N out (f:Int)=j5 (out++(zlP (Tt rows H) rows.length m f).map (fun t=>((t:Nat):Int))):=by
 have hle:=hR.n
 intro m
 induction m with
 | zero =>
  intro f N out hm hN ho hf
  obtain ⟨N,rfl⟩:∃ q,N=q+1:=⟨N - 1,by omega⟩
  rw [zct]
  generalize zaF (fun _ _=>none) (zbx (⟨rows,rows.map (·.Stanza),F,L,H⟩:Gpage_parter) (zff (Tt rows H) rows.length) j5) N=ag
  unfold zbx
  refine zay (decide_eq_false (by show ¬ ((f:Int)<(rows.length:Int)); omega)) ?_
  show j5 out=j5 (out++[])
  rw [List.append_nil]
 | succ m ih =>
  intro f N out hm hN ho hf
  obtain ⟨N,rfl⟩:∃ q,N=q+1:=⟨N - 1,by omega⟩
  rw [zct]
  have ih':=fun t out=>ih t N out
  generalize zaF (fun _ _=>none) (zbx (⟨rows,rows.map (·.Stanza),F,L,H⟩:Gpage_parter) (zff (Tt rows H) rows.length) j5) N=ag at ih' ⊢
  unfold zbx zlP
  by_cases h:f<rows.length
  ·obtain ⟨t,h1,h2,h3,h4⟩:=zsw (zmx hR hH) (zqc hH) h
   have hg:zbF (zff (Tt rows H) rows.length) (f:Int)=some (Tt rows H f):=zcE (zez _ _ f (by omega))
   rw [if_pos h,h1,Int.toNat_natCast]
   refine zaz (decide_eq_true (by show (f:Int)<(rows.length:Int); omega)) (zaJ hg (zbo (by omega) (zaJ hg ?_)))
   rw [h1]
   rw [ih' t (out++[(t:Int)]) (by omega) (by omega) (by rw [List.length_append]; simp; omega) h3,List.append_assoc]; rfl
  ·rw [if_neg h]
   refine zay (decide_eq_false (by show ¬ ((f:Int)<(rows.length:Int)); omega)) ?_
   show j5 out=j5 (out++[])
   rw [List.append_nil]
theorem zuO:zdx (⟨rows,rows.map (·.Stanza),F,L,H⟩:Gpage_parter)=some ((zjb rows H).map (fun t=>((t:Nat):Int)),(Tt rows H 0).cost):=by
 have hle:=hR.n
 unfold zdx
 refine zbs (zbo ⟨by show _≤(rows.length:Int)+1; omega,by show (rows.length:Int)+1≤_; omega⟩ (zbo ⟨by show _≤(rows.length:Int)+1; omega,by show (rows.length:Int)+1≤_; omega⟩ (zbo ⟨by show _≤(rows.length:Int) - 1; omega,by show (rows.length:Int) - 1≤_; omega⟩ ?_)))
 have e0:List.replicate ((rows.length:Int)+1:Int).toNat (⟨0,0,0⟩:Gpage_best)=zff (Tp rows H 0) rows.length:=by
  show List.replicate ((rows.length:Int)+1:Int).toNat b0=_
  rw [show ((rows.length:Int)+1:Int).toNat=rows.length+1 by omega,ztI]
 show zaF (fun _ _=>none) _ zbV (List.replicate ((rows.length:Int)+1:Int).toNat (⟨0,0,0⟩:Gpage_best)) ((rows.length:Int) - 1)=_
 rw [e0]
 have ho:=zrv hR hH (fun (all1:List Gpage_best)=>zbd (fun (j5:(List Int)→Option ((List Int)×Int))=>zaF (fun _ _=>none) (zbx (⟨rows,rows.map (·.Stanza),F,L,H⟩:Gpage_parter) all1 j5) zbV ([]:List Int) 0) (fun (out1:List Int)=>zak (zbF all1 0) fun (q10:Gpage_best)=>some (out1,q10.cost))) rows.length 0 zbV (by omega) (zb8 (by omega))
 rw [show (rows.length:Int) - 1 - ((0:Nat):Int)=(rows.length:Int) - 1 by omega] at ho
 refine ho.trans (zbs ?_)
 have he:=zrw hR hH (fun (out1:List Int)=>zak (zbF (zff (Tt rows H) rows.length) 0) fun (q10:Gpage_best)=>some (out1,q10.cost)) rows.length 0 zbV [] (by omega) (zb8 (by omega)) (Nat.zero_le _) (Nat.zero_le _)
 rw [show ((0:Nat):Int)=0 from rfl,List.nil_append] at he
 refine he.trans (zaJ (zdE (n:=0) rfl (zez _ _ 0 (Nat.zero_le _))) rfl)
end
end Go.Proofs.YtbempdelckaccaaGreatDoor

namespace Go.Proofs.YtbempdelckaccaaGreatDoor
open Go.RowKit Go.Lib
set_option linter.unusedVariables false
set_option linter.unusedSimpArgs false
def zdS (r2:(Int×Gpage_parter)) (from3:Int) (j3:Int→(List Gapi_Row)→Option ((Option Gpage_Book)×Int)) (q1:Int) (ag2:(List Gapi_Row)→Int→Option ((Option Gpage_Book)×Int)) (page4:List Gapi_Row) (k3:Int):Option ((Option Gpage_Book)×Int) :=
zax (decide ((k3:Int)<q1)) (
zbd (fun (j4:(List Gapi_Row)→Option ((Option Gpage_Book)×Int)) =>
zax (decide ((from3:Int)<k3)) (
zak (zbF r2.2.rows k3) fun (q2:Gapi_Row) =>
grd (I64 (k3 - 1)) <|
zak (zbF r2.2.rows (k3 - 1)) fun (q3:Gapi_Row) =>
zax ((q2.Stanza:Int) != q3.Stanza) (
grd (page4.length+1≤2147483648) <|
j4 (page4++[(⟨(-1),0,0,0,0,ByteArray.empty⟩:Gapi_Row)])
) (
j4 page4
)
) (
j4 page4
)
) (fun (page5:List Gapi_Row) =>
zak (zbF r2.2.rows k3) fun (q4:Gapi_Row) =>
grd (page5.length+1≤2147483648) <|
grd (I64 (k3+1)) <|
ag2 (page5++[q4]) (k3+1)
)
) (
j3 q1 page4
)
def zdT (j1:(List (List Gapi_Row))→Int→Option ((Option Gpage_Book)×Int)) (r2:(Int×Gpage_parter)) (r3:((List Int)×Int)) (ag1:(List (List Gapi_Row))→Int→Int→Option ((Option Gpage_Book)×Int)) (b9:List (List Gapi_Row)) (from3:Int) (x4:Int):Option ((Option Gpage_Book)×Int) :=
zax (decide ((x4:Int)<(r3.1.length:Int))) (
zbd (fun (j2:(List (List Gapi_Row))→Int→Option ((Option Gpage_Book)×Int)) =>
zbd (fun (j3:Int→(List Gapi_Row)→Option ((Option Gpage_Book)×Int)) =>
zak (zbF r3.1 x4) fun (q1:Int) =>
zaF (fun _ _=>none) (zdS r2 from3 j3 q1) zbV ([]:List Gapi_Row) from3
) (fun (to1:Int) (page1:List Gapi_Row) =>
grd (b9.length+1≤2147483648) <|
j2 (b9++[page1]) to1
)
) (fun (b10:List (List Gapi_Row)) (from4:Int) =>
grd (I64 (x4+1)) <|
ag1 b10 from4 (x4+1)
)
) (
j1 b9 (r2.1+r3.2)
)
def zgb (x1:Gpoem_Poem) (l1:Gapi_Layout):Option ((Option Gpage_Book)×Int) :=
zak (zga l1) fun (r1:Bool) =>
zax (!r1) (
some (none,2)
) (
zbd (fun (j1:(List (List Gapi_Row))→Int→Option ((Option Gpage_Book)×Int)) =>
zak (zdy (⟨([]:List Gapi_Row),([]:List Int),([]:List Int),([]:List Int),l1.Height⟩:Gpage_parter) x1 l1) fun (r2:(Int×Gpage_parter)) =>
zak (zdx r2.2) fun (r3:((List Int)×Int)) =>
grd (I64 (r2.1+r3.2)) <|
zaF (fun _ _ _=>none) (zdT j1 r2 r3) zbV ([]:List (List Gapi_Row)) 0 0
) (fun (b3:List (List Gapi_Row)) (b4:Int) =>
some ((some (⟨l1.Width,l1.Height,l1.Turn,l1.Every,b3,b4⟩:Gpage_Book)),0)
)
)
theorem zo6 {bx1:Nat} {x1:Gpoem_Poem} {x1_h0 x1_h1:Hd} {l1:Gapi_Layout} {r:((Option Gpage_Book)×Int)} (h:zgb x1 l1=some r):FnR Tryz.prog 28 [zP bx1,.agg (zr0 l1).toArray] [cells bx1 [.string x1.told_title,x1_h0.v,x1_h1.v,.string x1.source] 106,zv6 x1_h0.v x1.told_lines,zv7 x1_h1.v x1.told_stanzas] [] (fun v0:Value=>.tuple #[v0,zI r.2]) (fun v0=>[zma zbP zbO 81 v0 r.1]):=by
 unfold zgb at h
 refine FnR.intro Tryz.func28 rfl Tryz.ntmps28 (by simp) ?_
 intro w0 K hrd
 refine zyG ?_
 refine zdW rfl dc rfl (fun b1 => ?_)
 refine zyR 2 rfl (zyN (zaK (zaD (zyG (zyR 1 rfl (zaU rfl (zdV Tryz.underlying58) (zyR 1 rfl (zyN (zaQ rfl ?_)))))))))
 refine zyG (za8 (k:=0) (cs:=(zr0 l1)) ziB rfl dc rfl rfl rfl rfl ?_)
 obtain ⟨r1,hq1,h⟩:=zbj h
 refine zbh (v:=.bool r1) (vs:=[.agg (zr0 l1).toArray]) rfl dc rfl rfl rfl zwG (zkP (l1:=l1) hq1) (zd6 rfl dc rfl zcv (zyR 1 rfl (zyN ?_)))
 refine zyB rfl h (fun h => ?_) (fun h => ?_)
 ·
  refine zyG (zyR 2 rfl (zyN (zaH (zaE (zav (zd4 zbP zbO 81 ?_))))))
  cases h
  exact zaN (rs:=[.tmp 4,.tmp 5]) (.pointer none) (.inl rfl) Tryz.results28 (.cons (.tmp rfl) (.cons (.tmp rfl) .nil)) rfl (zad [1] kr rfl)
 refine zat (zag (zaL ?_))
 obtain ⟨j1,hj1,h⟩:=zbC h
 refine zaX (β:=(List (List Gapi_Row))×Int×Nat×Hd) 5 rfl (fun b=>j1 b.1 b.2.1=some r) (fun b=>[]) (fun b=>[(7,zP b.2.2.1)]) (fun b=>[cells b.2.2.1 [zI l1.Width,zI l1.Height,zI l1.Turn,zI l1.Every,b.2.2.2.v,zI b.2.1] 81,zhp za7 zbc 43 1 b.2.2.2.v b.1]) (fun cut => ?_) ?_
 ·
  refine zyG (zab zjz rfl dc rfl (show _=1 from rfl) (zaq (k:=0) zbp rfl dc rfl rfl rfl ?_))
  refine za5 (v:=.agg #[.slice none 0 0,.slice none 0 0,.slice none 0 0,.slice none 0 0,zI l1.Height]) (ps:=[(4,.tmp 23)]) rfl dc rfl (fun _=>by kernel_rfl) ?_
  refine zdW rfl dc rfl (fun b5 => ?_)
  refine zyR 1 rfl (zyN (zaK ?_))
  obtain ⟨r2,hq2,h⟩:=zbj h
  refine zgx 4 ?_
  refine let vals1:(Hd×Hd×Hd×Hd)→List (Nat×Nat×Value):=fun b=>[(0,26,.agg (zr0 l1).toArray),(1,27,zP b5),(2,28,zP bx1),(3,29,.agg (zr0 l1).toArray),(4,30,zI r2.1)]; let LL1:(Nat→Prop)→(Hd×Hd×Hd×Hd)→List Asn:=fun D b=>[cells b1 (zr0 l1) 23,eD D (cells b5 [.slice none 0 0,.slice none 0 0,.slice none 0 0,.slice none 0 0,zI l1.Height] 131) [(4,cells b5 [b.1.v,b.2.1.v,b.2.2.1.v,b.2.2.2.v,zI r2.2.heights] 131)],eD D emp [(4,zv2 b.1.v r2.2.rows)],eD D emp [(4,zv0 b.2.1.v r2.2.blanks)],eD D emp [(4,zv0 b.2.2.1.v r2.2.firsts)],eD D emp [(4,zv0 b.2.2.2.v r2.2.lasts)]]; ?_
  have zhq:zyQ [4] LL1:=fun i h D b=>zac rfl (zac (zlx rfl h) (zac (zlx rfl h) (zac (zlx rfl h) (zac (zlx rfl h) (zac (zlx rfl h) rfl)))))
  refine zdY (β:=Hd×Hd×Hd×Hd) 5 (Hd.nil,Hd.nil,Hd.nil,Hd.nil) vals1 LL1 mixed kr kr dc (fun _=>rfl) (zac rfl (zac zbY (zac zbY (zac zbY (zac zbY (zac zbY rfl)))))) (zjl zhq rfl (fun _=>rfl) (fun _=>rfl) ?_ (znJ zhq (fun _=>rfl) (fun _=>rfl) 2 1 (fun _=>rfl) rfl (zjl zhq rfl (fun _=>rfl) (fun _=>rfl) ?_ (zas ?_ DrawG.nil)))) ?_
  · exact fun D ⟨hd2,hd3,hd4,hd5⟩ n d c u i=>⟨_,(zuc rfl),za8 (k:=0) (cs:=(zr0 l1)) ziB rfl dc (zba (by rfl) rfl) rfl rfl rfl (zaf 0 u i rfl)⟩
  · exact fun D ⟨hd2,hd3,hd4,hd5⟩ n d c u i=>⟨_,(zac rfl (zac (zaj (fun hD=>n (c 4 _ rfl hD 3 dc)) zap) (zac (zaj (fun hD=>n (c 4 _ rfl hD 3 dc)) zap) (zac (zaj (fun hD=>n (c 4 _ rfl hD 3 dc)) zap) (zac (zaj (fun hD=>n (c 4 _ rfl hD 3 dc)) zap) (zac (zaj (fun hD=>n (c 4 _ rfl hD 3 dc)) zap) rfl)))))),za8 (k:=0) (cs:=(zr0 l1)) ziB rfl dc (zba (by rfl) rfl) rfl rfl rfl (zaf 3 u i rfl)⟩
  ·
   intro D b hn hd hcl
   obtain ⟨zb0,zb1,zb2,zb3⟩:=b
   refine zaG (zac rfl (zac (zaj hn zap) (zac (zaj hn zap) (zac (zaj hn zap) (zac (zaj hn zap) (zac (zaj hn zap) rfl)))))) (zhJ (enc:=zcz) (e:=33) (size:=6) ?_)
   refine zhJ (enc:=(znI (.i64))) (e:=3) (size:=1) ?_
   refine zhJ (enc:=(znI (.i64))) (e:=3) (size:=1) ?_
   refine zhJ (enc:=(znI (.i64))) (e:=3) (size:=1) ?_
   refine zhf (vs:=[zP b5,zP bx1,.agg (zr0 l1).toArray]) hrd rfl dc rfl (evL.cons (zaa (m:=1) rfl rfl (hd 1 dc)) (evL.cons (zaa (m:=2) rfl rfl (hd 2 dc)) (evL.cons (zaa (m:=3) rfl rfl (hd 3 dc)) evL.nil))) rfl zxX (zh0 (bp1:=b5) (p1:=(⟨([]:List Gapi_Row),([]:List Int),([]:List Int),([]:List Int),l1.Height⟩:Gpage_parter)) (p1_h0:=Hd.nil) (p1_h1:=Hd.nil) (p1_h2:=Hd.nil) (p1_h3:=Hd.nil) (bx1:=bx1) (x1:=x1) (x1_h0:=x1_h0) (x1_h1:=x1_h1) (l1:=l1) hq2) (zad [1,6,7,8,9] kr rfl) (.ro 0 rfl (.ro 1 rfl (.ro 2 rfl .nil))) ?_
   rintro ⟨hd2,hd3,hd4,hd5⟩
   refine zdu (L':=[cells b1 (zr0 l1) 23,cells b5 [hd2.v,hd3.v,hd4.v,hd5.v,zI r2.2.heights] 131,emp,emp,emp,emp,zv2 hd2.v r2.2.rows,zv0 hd3.v r2.2.blanks,zv0 hd4.v r2.2.firsts,zv0 hd5.v r2.2.lasts]) (zad [0,10,2,3,4,5,11,12,13,14] kr rfl) (zc2 5 rfl rfl ?_)
   refine zc2 4 rfl rfl ?_
   refine zc2 3 rfl rfl ?_
   refine zc2 2 rfl rfl ?_
   exact zaM (b:=(zb0,zb1,zb2,zb3)) (hd2,hd3,hd4,hd5) 4 (by rfl) (by rfl) rfl (znK rfl) (zac rfl (zac (zaI (Or.inr rfl) rfl) (zac (zaI (Or.inr rfl) rfl) (zac (zaI (Or.inr rfl) rfl) (zac (zaI (Or.inr rfl) rfl) (zac (zaI (Or.inr rfl) rfl) rfl))))))
  intro D b hall
  obtain ⟨hd2,hd3,hd4,hd5⟩:=b
  refine zaG (zac rfl (zac (zaI (hall 4 dc) rfl) (zac (zaI (hall 4 dc) rfl) (zac (zaI (hall 4 dc) rfl) (zac (zaI (hall 4 dc) rfl) (zac (zaI (hall 4 dc) rfl) rfl)))))) ?_
  refine za5 (v:=.agg #[zI l1.Width,zI l1.Height,zI l1.Turn,zI l1.Every,.slice none 0 0,zI r2.1]) (ps:=[(0,.tmp 26),(2,.tmp 30)]) rfl dc rfl (fun _=>by kernel_rfl) ?_
  refine zdW rfl dc rfl (fun b6 => ?_)
  refine zyR 1 rfl (zyH (zyR 1 rfl ?_))
  obtain ⟨r3,hq3,h⟩:=zbj h
  refine zhf (vs:=[zP b5]) hrd rfl dc rfl rfl rfl zxW (zhZ (bp1:=b5) (p1:=r2.2) (p1_h0:=hd2) (p1_h1:=hd3) (p1_h2:=hd4) (p1_h3:=hd5) hq3) Splits.nil (.own (zad [1] (by kernel_rfl) rfl) (fun _ _ h=>sepL.one1.1 h) (.own (zad [2] (by kernel_rfl) rfl) (fun _ _ h=>sepL.one1.1 h) (.own (zad [3] (by kernel_rfl) rfl) (fun _ _ h=>sepL.one1.1 h) (.own (zad [4] (by kernel_rfl) rfl) (fun _ _ h=>sepL.one1.1 h) (.own (zad [5] (by kernel_rfl) rfl) (fun _ _ h=>sepL.one1.1 h) .nil))))) ?_
  rintro v1
  refine zbJ (k:=7) rfl (fun hd6 he1 => ?_)
  subst he1
  refine zyR 1 rfl (zaR rfl dc rfl rfl (zaR rfl dc rfl rfl (zyR 2 rfl (zyH (zyR 1 rfl (zaA rfl dc rfl (zab zrQ rfl dc rfl (show _=5 from rfl) (zaq (k:=6) zbp rfl dc rfl rfl rfl (zyR 1 rfl ?_)))))))))
  obtain ⟨hg1,h⟩:=zbl h
  refine zaU rfl (zaP (r:=r2.1+r3.2) (IntWalk.i64_in _ hg1)) (zaA rfl dc rfl (zab zrQ rfl dc rfl (show _=5 from rfl) ?_))
  refine zaS (k:=6) (l':=[zI l1.Width,zI l1.Height,zI l1.Turn,zI l1.Every,.slice none 0 0,zI (r2.1+r3.2)]) zdb rfl rfl rfl rfl rfl (fun _ _=>rfl) rfl ?_
  refine zyH (zyR 1 rfl (zyN (cut (zyG (zyR 1 rfl (zbv (k:=7) rfl dc rfl rfl Tryz.underlying49 (zyR 1 rfl (zaO ?_))))))))
  refine zaL (zaD (zsr (enc:=za7) (nest:=zbc) (e:=43) (size:=1) ?_))
  refine zbn (β:=Nat×(List (List Gapi_Row))×Int×Int×Hd) (fun b=>zaF (fun _ _ _=>none) (zdT j1 r2 r3) b.1 b.2.1 b.2.2.1 b.2.2.2.1=some r) (fun b=>[]) (fun b=>[(6,zP b5),(7,zP b6),(10,zI b.2.2.1),(46,hd6.v),(47,zI (r3.1.length:Int)),(48,zI b.2.2.2.1)]) (fun b=>[cells b5 [hd2.v,hd3.v,hd4.v,hd5.v,zI r2.2.heights] 131,zv2 hd2.v r2.2.rows,zv0 hd3.v r2.2.blanks,zv0 hd4.v r2.2.firsts,zv0 hd5.v r2.2.lasts,cells b6 [zI l1.Width,zI l1.Height,zI l1.Turn,zI l1.Every,b.2.2.2.2.v,zI (r2.1+r3.2)] 81,zhp za7 zbc 43 1 b.2.2.2.2.v b.2.1,zv0 hd6.v r3.1]) (fun b=>b.1) (zbV,([]:List (List Gapi_Row)),0,0,Hd.nil) h rfl (za1 rfl) (zad [1,2,3,4,5,6,8,7] kr rfl) ?_
  rintro ⟨n1,b9,from3,x4,hd9⟩ h
  cases n1 with
  | zero=>exact zdD h
  | succ n1 =>
   obtain ⟨ag1,hag1⟩:∃ ag,ag=zaF (fun _ _ _=>none) (zdT j1 r2 r3) n1:=⟨_,rfl⟩
   have h:zdT j1 r2 r3 ag1 b9 from3 x4=some r:=by rw [hag1]; exact h
   unfold zdT at h
   refine zyG (zaU rfl zbf (zyN (zaK ?_)))
   refine zyB rfl h (fun h => ?_) (fun h => ?_)
   ·
    refine zat (zaL ?_)
    obtain ⟨j2,hj2,h⟩:=zbC h
    refine zaX (β:=(List (List Gapi_Row))×Int×Hd) 0 rfl (fun b=>j2 b.1 b.2.1=some r) (fun b=>[]) (fun b=>[(6,zP b5),(7,zP b6),(10,zI b.2.1),(46,hd6.v),(47,zI (r3.1.length:Int)),(48,zI x4)]) (fun b=>[cells b5 [hd2.v,hd3.v,hd4.v,hd5.v,zI r2.2.heights] 131,zv2 hd2.v r2.2.rows,zv0 hd3.v r2.2.blanks,zv0 hd4.v r2.2.firsts,zv0 hd5.v r2.2.lasts,cells b6 [zI l1.Width,zI l1.Height,zI l1.Turn,zI l1.Every,b.2.2.v,zI (r2.1+r3.2)] 81,zhp za7 zbc 43 1 b.2.2.v b.1,zv0 hd6.v r3.1]) (fun cut => ?_) ?_
    ·
     refine cut (zaD ?_)
     obtain ⟨j3,hj3,h⟩:=zbC h
     refine zaX (β:=Int×(List Gapi_Row)×Hd) 2 rfl (fun b=>j3 b.1 b.2.1=some r) (fun b=>[]) (fun b=>[(6,zP b5),(7,zP b6),(12,zI b.1),(13,b.2.2.v),(46,hd6.v),(47,zI (r3.1.length:Int)),(48,zI x4)]) (fun b=>[cells b5 [hd2.v,hd3.v,hd4.v,hd5.v,zI r2.2.heights] 131,zv2 hd2.v r2.2.rows,zv0 hd3.v r2.2.blanks,zv0 hd4.v r2.2.firsts,zv0 hd5.v r2.2.lasts,cells b6 [zI l1.Width,zI l1.Height,zI l1.Turn,zI l1.Every,hd9.v,zI (r2.1+r3.2)] 81,zhp za7 zbc 43 1 hd9.v b9,zv2 b.2.2.v b.2.1,zv0 hd6.v r3.1]) (fun cut => ?_) ?_
     ·
      refine zyG ?_
      obtain ⟨q1,hq4,h⟩:=zbj h
      refine zan (k:=7) hq4 Tryz.underlying49 zdb rfl dc rfl rfl rfl rfl (zaB (i:=(x4:Int).toNat) (j:=0) (k:=7) (q:=q1) zbp za6 rfl dc rfl rfl (zaC hq4) rfl dc rfl (zyR 1 rfl (zyH (zyR 1 rfl (zyN (cut (zyG (zyR 1 rfl ?_))))))))
      refine zyR 1 rfl (zyN (zaD (zda (enc:=zcz) (e:=33) (size:=6) ?_)))
      refine zbn (β:=Nat×(List Gapi_Row)×Int×Hd) (fun b=>zaF (fun _ _=>none) (zdS r2 from3 j3 q1) b.1 b.2.1 b.2.2.1=some r) (fun b=>[]) (fun b=>[(6,zP b5),(7,zP b6),(10,zI from3),(12,zI q1),(13,b.2.2.2.v),(14,zI b.2.2.1),(46,hd6.v),(47,zI (r3.1.length:Int)),(48,zI x4)]) (fun b=>[cells b5 [hd2.v,hd3.v,hd4.v,hd5.v,zI r2.2.heights] 131,zv2 hd2.v r2.2.rows,zv0 hd3.v r2.2.blanks,zv0 hd4.v r2.2.firsts,zv0 hd5.v r2.2.lasts,cells b6 [zI l1.Width,zI l1.Height,zI l1.Turn,zI l1.Every,hd9.v,zI (r2.1+r3.2)] 81,zhp za7 zbc 43 1 hd9.v b9,zv2 b.2.2.2.v b.2.1,zv0 hd6.v r3.1]) (fun b=>b.1) (zbV,([]:List Gapi_Row),from3,Hd.nil) h rfl (za1 rfl) (zad [0,1,2,3,4,5,6,8,7] kr rfl) ?_
      rintro ⟨n2,page4,k3,hd14⟩ h
      cases n2 with
      | zero=>exact zdD h
      | succ n2 =>
       obtain ⟨ag2,hag2⟩:∃ ag,ag=zaF (fun _ _=>none) (zdS r2 from3 j3 q1) n2:=⟨_,rfl⟩
       have h:zdS r2 from3 j3 q1 ag2 page4 k3=some r:=by rw [hag2]; exact h
       unfold zdS at h
       refine zaK (zyG (zyR 2 rfl (zaU rfl zbf (zyN ?_))))
       refine zyB rfl h (fun h => ?_) (fun h => ?_)
       ·
        refine zat (zaL (zaK (zaD ?_)))
        obtain ⟨j4,hj4,h⟩:=zbC h
        refine zaX (β:=(List Gapi_Row)×Hd) 0 rfl (fun b=>j4 b.1=some r) (fun b=>[]) (fun b=>[(6,zP b5),(7,zP b6),(10,zI from3),(12,zI q1),(13,b.2.v),(14,zI k3),(46,hd6.v),(47,zI (r3.1.length:Int)),(48,zI x4)]) (fun b=>[cells b5 [hd2.v,hd3.v,hd4.v,hd5.v,zI r2.2.heights] 131,zv2 hd2.v r2.2.rows,zv0 hd3.v r2.2.blanks,zv0 hd4.v r2.2.firsts,zv0 hd5.v r2.2.lasts,cells b6 [zI l1.Width,zI l1.Height,zI l1.Turn,zI l1.Every,hd9.v,zI (r2.1+r3.2)] 81,zhp za7 zbc 43 1 hd9.v b9,zv2 b.2.v b.1,zv0 hd6.v r3.1]) (fun cut => ?_) ?_
        ·
         refine cut (zaK ?_)
         refine zeL (b:=decide ((from3:Int)<k3)) (fun hb4 => ?_) (fun hb4 => ?_)
         ·
          have h:=zhm hb4 h
          obtain ⟨q2,hq5,h⟩:=zbj h
          obtain ⟨hg2,h⟩:=zbl h
          obtain ⟨q3,hq6,h⟩:=zbj h
          refine zbG 21 [(0,58,zI k3),(1,59,zI from3),(2,60,.bool true),(3,61,.bool true),(4,62,zP b5),(5,63,zP b5),(6,64,zP b5),(7,65,hd2.v),(8,66,zI k3),(9,67,.pointer (some ⟨zco hd2.v,(k3:Int).toNat*6,none⟩)),(10,68,.pointer (some ⟨zco hd2.v,((k3:Int).toNat)*6+1,none⟩)),(11,69,zI q2.Stanza),(12,70,zP b5),(13,71,zP b5),(14,72,zP b5),(15,73,hd2.v),(16,74,zI k3),(17,75,zI (k3 - 1)),(18,76,.pointer (some ⟨zco hd2.v,(k3 - 1:Int).toNat*6,none⟩)),(19,77,.pointer (some ⟨zco hd2.v,((k3 - 1:Int).toNat)*6+1,none⟩)),(20,78,zI q3.Stanza)] mixed kr kr dc (by rfl) kr kr (zyP 2 0 rfl (zae ?_ (zyP 2 3 rfl (zae ?_ (zae ?_ (zae ?_ (zyP 1 8 rfl (zae ?_ (zae ?_ (zae ?_ (zyP 1 12 rfl (zae ?_ (zae ?_ (zae ?_ (zyP 1 16 rfl (zae ?_ (zae ?_ (zae ?_ (zae ?_ DrawPre.nil))))))))))))))))))) ?_
          · exact fun D n d c u i=>zbR rfl dc (zaa (m:=0) u rfl (d 0 dc)) (zaa (m:=1) u rfl (d 1 dc)) zcl (zeb (show Value.bool (decide ((from3:Int)<k3))=Value.bool true from congrArg Value.bool hb4) (zaf 2 u i rfl))
          · exact fun D n d c u i=>zaA (zft rfl (zaa (m:=3) u rfl (d 3 dc))) dc (zaa (m:=4) u rfl (d 4 dc)) (zaf 5 u i rfl)
          · exact fun D n d c u i=>zab zgB (zft rfl (zaa (m:=3) u rfl (d 3 dc))) dc (zaa (m:=5) u rfl (d 5 dc)) (show _=0 from rfl) (zaf 6 u i rfl)
          · exact fun D n d c u i=>zaq (k:=0) znX (zft rfl (zaa (m:=3) u rfl (d 3 dc))) dc (zaa (m:=6) u rfl (d 6 dc)) rfl rfl (zaf 7 u i rfl)
          · exact fun D n d c u i=>zan (k:=1) hq5 Tryz.underlying43 ziw (zft rfl (zaa (m:=3) u rfl (d 3 dc))) dc (zaa (m:=7) u rfl (d 7 dc)) (zaa (m:=8) u rfl (d 8 dc)) rfl rfl (zaf 9 u i rfl)
          · exact fun D n d c u i=>zab zg1 (zft rfl (zaa (m:=3) u rfl (d 3 dc))) dc (zaa (m:=9) u rfl (d 9 dc)) (show _=((k3:Int).toNat)*6+1 from rfl) (zaf 10 u i rfl)
          · exact fun D n d c u i=>zaB (i:=(k3:Int).toNat) (j:=1) (k:=1) (q:=q2) zbp zb9 (zft rfl (zaa (m:=3) u rfl (d 3 dc))) dc (zaa (m:=10) u rfl (d 10 dc)) rfl (zaC hq5) rfl dc rfl (zaf 11 u i rfl)
          · exact fun D n d c u i=>zaA (zft rfl (zaa (m:=3) u rfl (d 3 dc))) dc (zaa (m:=12) u rfl (d 12 dc)) (zaf 13 u i rfl)
          · exact fun D n d c u i=>zab zgB (zft rfl (zaa (m:=3) u rfl (d 3 dc))) dc (zaa (m:=13) u rfl (d 13 dc)) (show _=0 from rfl) (zaf 14 u i rfl)
          · exact fun D n d c u i=>zaq (k:=0) znX (zft rfl (zaa (m:=3) u rfl (d 3 dc))) dc (zaa (m:=14) u rfl (d 14 dc)) rfl rfl (zaf 15 u i rfl)
          · exact fun D n d c u i=>zbR (zft rfl (zaa (m:=3) u rfl (d 3 dc))) dc (zaa (m:=16) u rfl (d 16 dc)) rfl (zbi (r:=k3 - 1) (IntWalk.i64_in _ hg2)) (zaf 17 u i rfl)
          · exact fun D n d c u i=>zan (k:=1) hq6 Tryz.underlying43 ziw (zft rfl (zaa (m:=3) u rfl (d 3 dc))) dc (zaa (m:=15) u rfl (d 15 dc)) (zaa (m:=17) u rfl (d 17 dc)) rfl rfl (zaf 18 u i rfl)
          · exact fun D n d c u i=>zab zg1 (zft rfl (zaa (m:=3) u rfl (d 3 dc))) dc (zaa (m:=18) u rfl (d 18 dc)) (show _=((k3 - 1:Int).toNat)*6+1 from rfl) (zaf 19 u i rfl)
          · exact fun D n d c u i=>zaB (i:=(k3 - 1:Int).toNat) (j:=1) (k:=1) (q:=q3) zbp zb9 (zft rfl (zaa (m:=3) u rfl (d 3 dc))) dc (zaa (m:=19) u rfl (d 19 dc)) rfl (zaC hq6) rfl dc rfl (zaf 20 u i rfl)
          refine zaU rfl zck (zyR 1 rfl (zyN ?_))
          refine zyB rfl h (fun h => ?_) (fun h => ?_)
          ·
           refine zaw (zyR 1 rfl ?_)
           refine za5 (v:=.agg #[zI (-1),zI 0,zI 0,zI 0,zI 0,.string ByteArray.empty]) (ps:=[(0,.const (zI (-1)))]) rfl dc rfl (fun _=>by kernel_rfl) ?_
           refine zaT (cs:=[zI (-1),zI 0,zI 0,zI 0,zI 0,.string ByteArray.empty]) (te:=33) (ps:=[(0,.tmp 82)]) rfl dc rfl (fun _=>by kernel_rfl) (fun b11 => ?_)
           obtain ⟨hg3,h⟩:=zbl h
           refine za4 (k:=7) (k2:=9) (ys:=[(⟨(-1),0,0,0,0,ByteArray.empty⟩:Gapi_Row)]) Tryz.underlying43 zti zb9 zeX rfl dc rfl rfl rfl rfl rfl rfl hg3 (fun v2 => ?_)
           refine zbJ (k:=7) rfl (fun hd16 he2 => ?_)
           subst he2
           refine zyR 1 rfl (zaO ?_)
           exact zam (page4++[(⟨(-1),0,0,0,0,ByteArray.empty⟩:Gapi_Row)],hd16) h rfl (za1 rfl) (zad [0,1,2,3,4,5,6,7,8] kr rfl)
          refine zat ?_
          exact zam (page4,hd14) h rfl (za1 rfl) (zad [0,1,2,3,4,5,6,7,8] kr rfl)
         have h:=zhn hb4 h
         refine zbG 21 [(0,58,zI k3),(1,59,zI from3),(2,60,.bool false),(3,61,.bool false),(4,62,undef),(5,63,undef),(6,64,undef),(7,65,undef),(8,66,undef),(9,67,undef),(10,68,undef),(11,69,undef),(12,70,undef),(13,71,undef),(14,72,undef),(15,73,undef),(16,74,undef),(17,75,undef),(18,76,undef),(19,77,undef),(20,78,undef)] mixed kr kr dc (by rfl) kr kr (zyP 2 0 rfl (zae ?_ (zyP 18 3 rfl DrawPre.nil))) ?_
         · exact fun D n d c u i=>zbR rfl dc (zaa (m:=0) u rfl (d 0 dc)) (zaa (m:=1) u rfl (d 1 dc)) zcl (zeb (show Value.bool (decide ((from3:Int)<k3))=Value.bool false from congrArg Value.bool hb4) (zaf 2 u i rfl))
         refine zyR 2 rfl (zyN (zaQ rfl (zat ?_)))
         exact zam (page4,hd14) h rfl (za1 rfl) (zad [0,1,2,3,4,5,6,7,8] kr rfl)
        rintro ⟨page5,hd15⟩ h
        rw [hj4] at h
        refine zaw (zyR 2 rfl (zaA rfl dc rfl (zab zgB rfl dc rfl (show _=0 from rfl) (zaq (k:=0) znX rfl dc rfl rfl rfl (zyR 1 rfl ?_)))))
        obtain ⟨q4,hq7,h⟩:=zbj h
        refine zan (k:=1) hq7 Tryz.underlying43 ziw rfl dc rfl rfl rfl rfl (zey (i:=(k3:Int).toNat) (j:=0) (k:=1) (q:=q4) (cs:=(zr3 q4)) znZ zb9 rfl dc rfl rfl (zaC hq7) rfl rfl rfl ?_)
        refine zaT (cs:=(zr3 q4)) (te:=33) (ps:=[(0,.tmp 92)]) rfl dc rfl (fun _=>by kernel_rfl) (fun b12 => ?_)
        obtain ⟨hg4,h⟩:=zbl h
        refine za4 (k:=7) (k2:=9) (ys:=[q4]) Tryz.underlying43 zti zb9 zeX rfl dc rfl rfl rfl rfl rfl rfl hg4 (fun v3 => ?_)
        refine zbJ (k:=7) rfl (fun hd17 he3 => ?_)
        subst he3
        refine zyR 1 rfl (zaO (zag (zaL (zaw (zyR 1 rfl ?_)))))
        obtain ⟨hg5,h⟩:=zbl h
        refine zaU rfl (zaP (r:=k3+1) (IntWalk.i64_in _ hg5)) (zyR 1 rfl (zaO ?_))
        subst hag2
        exact za3 (n2,page5++[q4],k3+1,hd17) h (Nat.lt_succ_self _) rfl (za1 rfl) (zad [0,1,2,3,4,5,6,7,8] kr rfl)
       refine za2 (zal (zal (zau ?_)))
       exact zam (q1,page4,hd14) h rfl (za1 rfl) (zad [0,1,2,3,4,5,6,7,8] kr rfl)
     rintro ⟨to1,page1,hd11⟩ h
     rw [hj3] at h
     refine zaw (zyR 2 rfl (zaA rfl dc rfl (zab znj rfl dc rfl (show _=4 from rfl) (zaq (k:=5) zut rfl dc rfl rfl rfl (zyR 1 rfl ?_)))))
     refine zaT (cs:=[hd11.v]) (te:=43) (ps:=[(0,.tmp 100)]) rfl dc rfl (fun _=>by kernel_rfl) (fun b13 => ?_)
     refine zmv (k:=6) rfl zsZ (fun zs1 hz1 => ?_)
     obtain ⟨hg6,h⟩:=zbl h
     refine za4 (k:=6) (k2:=9) (ys:=[(page1,hd11)]) Tryz.underlying79 zym zfo zjc rfl dc rfl rfl rfl rfl rfl rfl (by rw [zxm hz1]; exact hg6) (fun v4 => ?_)
     refine zbJ (k:=6) rfl (fun hd18 he4 => ?_)
     subst he4
     refine zji (k:=10) rfl (zad [7] kr rfl) rfl (ztU (nest:=zbc) (zs:=zs1) (z:=(page1,hd11))) ?_
     refine zji (k:=6) rfl (zad [10] kr rfl) rfl (zsi (enc:=za7) (nest:=zbc) (zyI hz1)) ?_
     refine zdu (L':=[cells b5 [hd2.v,hd3.v,hd4.v,hd5.v,zI r2.2.heights] 131,zv2 hd2.v r2.2.rows,zv0 hd3.v r2.2.blanks,zv0 hd4.v r2.2.firsts,zv0 hd5.v r2.2.lasts,cells b6 [zI l1.Width,zI l1.Height,zI l1.Turn,zI l1.Every,hd9.v,zI (r2.1+r3.2)] 81,zhp za7 zbc 43 1 hd18.v (b9++[page1]),emp,zv0 hd6.v r3.1,cells b13 [hd11.v] 43]) (zad [0,1,2,3,4,5,6,7,8,9] kr rfl) (zyR 1 rfl (zaA rfl dc rfl (zab znj rfl dc rfl (show _=4 from rfl) ?_)))
     refine zaS (k:=5) (l':=[zI l1.Width,zI l1.Height,zI l1.Turn,zI l1.Every,hd18.v,zI (r2.1+r3.2)]) zxr rfl rfl rfl rfl rfl (fun _ _=>rfl) rfl ?_
     refine zyR 1 rfl (zaO (zag ?_))
     exact zam (b9++[page1],to1,hd18) h rfl (za1 rfl) (zad [0,1,2,3,4,5,6,8] kr rfl)
    rintro ⟨b10,from4,hd10⟩ h
    rw [hj2] at h
    refine zaw ?_
    obtain ⟨hg7,h⟩:=zbl h
    refine zaU rfl (zaP (r:=x4+1) (IntWalk.i64_in _ hg7)) (zyR 1 rfl (zaO ?_))
    subst hag1
    exact za3 (n1,b10,from4,x4+1,hd10) h (Nat.lt_succ_self _) rfl (za1 rfl) (zad [0,1,2,3,4,5,6,7] kr rfl)
   refine za2 (zal (zal (zau ?_)))
   exact zam (b9,r2.1+r3.2,b6,hd9) h rfl (za1 rfl) (zad [5,6] kr rfl)
 rintro ⟨b3,b4,b2,hd1⟩ h
 rw [hj1] at h
 refine zyG (zyR 3 rfl (zyN (zaH ?_)))
 refine zpq (As:=[cells b2 [zI l1.Width,zI l1.Height,zI l1.Turn,zI l1.Every,hd1.v,zI b4] 81,zhp za7 zbc 43 1 hd1.v b3]) (zad [0,1] kr rfl) (zjP (enc:=zbP) (nest:=zbO) (t:=81) (x:=(⟨l1.Width,l1.Height,l1.Turn,l1.Every,b3,b4⟩:Gpage_Book)) (b:=b2) (hd:=hd1)) (fun _ _ => ?_)
 cases h
 exact zaN (rs:=[.tmp 4,.tmp 5]) (zP b2) (.inl rfl) Tryz.results28 (.cons (.tmp rfl) (.cons (.tmp rfl) .nil)) rfl (zad [2] kr rfl)
def zeG (b1:Gpage_Book):Option Int :=
some (b1.pages.length:Int)
theorem ziN {bb1:Nat} {b1:Gpage_Book} {b1_h0:Hd} {r:Int} (h:zeG b1=some r):FnR Tryz.prog 16 [zP bb1] [cells bb1 [zI b1.layout_Width,zI b1.layout_Height,zI b1.layout_Turn,zI b1.layout_Every,b1_h0.v,zI b1.cost] 81,zhp za7 zbc 43 1 b1_h0.v b1.pages] [] (fun _:Unit=>(zI r)) (fun _=>[]):=by
 unfold zeG at h
 refine FnR.intro Tryz.func16 rfl Tryz.ntmps16 (by simp) ?_
 intro w0 K hrd
 refine zyG (zyR 1 rfl (zyN (zaK (zyG (zyR 1 rfl (zaU rfl (zdV Tryz.underlying25) (zyN (zaQ rfl (zat ?_)))))))))
 refine zaL (zyG (zyR 1 rfl (zaA rfl dc rfl (zab znj rfl dc rfl (show _=4 from rfl) (zbr (i:=0) hrd rfl zut rfl dc rfl rfl ?_)))))
 obtain ⟨zs1,hz1,hV1,hrd⟩:=hrd.openN (i:=1) rfl zfo zhA
 replace hrd:Rd _ _ [cells bb1 [zI b1.layout_Width,zI b1.layout_Height,zI b1.layout_Turn,zI b1.layout_Every,b1_h0.v,zI b1.cost] 81,zhp za7 zbc 43 1 b1_h0.v b1.pages,zjq za7 1 b1_h0.v 0 zs1,zo2 zd2 zs1]:=hrd
 refine zoM hz1 hV1 rfl dc rfl Tryz.underlying79 (zyR 1 rfl (zyN (zaH ?_)))
 cases h
 exact zaN (rs:=[.tmp 2]) () (.inl rfl) Tryz.results16 (.cons (.tmp rfl) .nil) rfl Splits.nil
end Go.Proofs.YtbempdelckaccaaGreatDoor

namespace Go.Proofs.YtbempdelckaccaaGreatDoor
open Go.RowKit Go.Lib
set_option linter.unusedVariables false
set_option linter.unusedSimpArgs false
def zel (text1:ByteArray):Option ((List Gapi_Verse)×Bool) :=
zak (zfR text1) fun (r1:(Gref17_Poem×(List Gapi_Verse)×Gapi_Spot)) =>
some (r1.2.1,(r1.2.2.Err:Int)==0)
theorem zkW {text1:ByteArray} {r:((List Gapi_Verse)×Bool)} (h:zel text1=some r):Fn Tryz.prog 30 [.string text1] [] (fun v0:Value=>.tuple #[v0,.bool r.2]) (fun v0=>[zv6 v0 r.1]):=by
 unfold zel at h
 refine Fn.intro Tryz.func30 rfl Tryz.ntmps30 (by simp) ?_
 intro w0 K
 refine zyG (zyR 2 rfl (zyH (zyR 1 rfl ?_)))
 obtain ⟨r1,hq1,h⟩:=zbj h
 refine zdG (vs:=[.string text1]) rfl dc rfl rfl rfl zxV (zm5 hq1) Splits.nil ?_
 rintro ⟨hd1,v1⟩
 refine zbJ (k:=1) rfl (fun hd2 he1 => ?_)
 subst he1
 refine zyR 1 rfl (zaR rfl dc rfl rfl (zaR rfl dc rfl rfl (zaR rfl dc rfl rfl ?_)))
 refine zbk zqO rfl dc (fun b1 => ?_)
 refine zbk zsD rfl dc (fun b2 => ?_)
 refine zaZ (k:=2) (vs:=[.string r1.1.Title,hd1.v]) (l':=[.string r1.1.Title,hd1.v]) znR rfl rfl rfl rfl rfl (show _≤_ by simp) rfl rfl (zyR 1 rfl (zaZ (k:=3) (vs:=(zr6 r1.2.2)) (l':=(zr6 r1.2.2)) zkA rfl rfl rfl rfl rfl (show _≤_ by simp) rfl rfl ?_))
 refine zyN (zaK ?_)
 refine zbG 5 [(0,13,hd2.v),(1,14,zP b2),(2,15,zI r1.2.2.Err),(3,16,.bool ((r1.2.2.Err:Int)==0)),(4,2,hd2.v)] mixed kr kr dc (by rfl) kr kr (zyP 1 0 rfl (zae ?_ (zae ?_ (zae ?_ (zyP 1 4 rfl DrawPre.nil))))) ?_
 · exact fun D n d c u i=>zab zrR rfl dc (zba (by rfl) rfl) (show _=0 from rfl) (zaf 1 u i rfl)
 · exact fun D n d c u i=>zaq (k:=3) zwc rfl dc (zaa (m:=1) u rfl (d 1 dc)) rfl rfl (zaf 2 u i rfl)
 · exact fun D n d c u i=>zbR rfl dc (zaa (m:=2) u rfl (d 2 dc)) rfl zaV (zaf 3 u i rfl)
 refine zyR 1 rfl (zyN (zaH ?_))
 cases h
 exact zaN (rs:=[.tmp 2,.tmp 3]) hd2.v (.inl rfl) Tryz.results30 (.cons (.tmp rfl) (.cons (.tmp rfl) .nil)) rfl (zad [1] kr rfl)
def zds (r1:((List Gapi_Verse)×Bool)) (j1:Option ((Option Gpage_Book)×(List Gapi_Verse)×Bool×Bool)) (ag1:Int→Option ((Option Gpage_Book)×(List Gapi_Verse)×Bool×Bool)) (i3:Int):Option ((Option Gpage_Book)×(List Gapi_Verse)×Bool×Bool) :=
zax (decide ((i3:Int)<(r1.1.length:Int))) (
zak (zbF r1.1 i3) fun (q1:Gapi_Verse) =>
zax (decide ((200:Int)<(q1.Text.size:Int))) (
some (none,([]:List Gapi_Verse),false,true)
) (
grd (I64 (i3+1)) <|
ag1 (i3+1)
)
) (
j1
)
def zcQ (text1:ByteArray) (l1:Gapi_Layout):Option ((Option Gpage_Book)×(List Gapi_Verse)×Bool×Bool) :=
zak (zel text1) fun (r1:((List Gapi_Verse)×Bool)) =>
zax (!r1.2) (
some (none,([]:List Gapi_Verse),false,true)
) (
zax (decide ((60:Int)<(r1.1.length:Int))) (
some (none,([]:List Gapi_Verse),false,true)
) (
zbd (fun (j1:Option ((Option Gpage_Book)×(List Gapi_Verse)×Bool×Bool)) =>
zaF (fun _=>none) (zds r1 j1) zbV 0
) (
zak (zfA text1) fun (r2:((Option Gpoem_Poem)×Gapi_Spot)) =>
zax (r2.1.isNone) (
some (none,([]:List Gapi_Verse),true,false)
) (
zax ((r2.2.Err:Int) != 0) (
some (none,([]:List Gapi_Verse),true,false)
) (
zak (r2.1) fun (p1:Gpoem_Poem) =>
zak (zgb p1 l1) fun (r3:((Option Gpage_Book)×Int)) =>
zak (zfz l1) fun (r4:Bool) =>
zax (!r4) (
zax (r3.1.isNone) (
some (none,([]:List Gapi_Verse),false,(r3.2:Int)==2)
) (
some (none,([]:List Gapi_Verse),false,false)
)
) (
zax (!r3.1.isNone) (
some (r3.1,r1.1,true,(r3.2:Int)==0)
) (
some (r3.1,r1.1,true,false)
)
)
)
)
)
)
)
theorem zjX {text1:ByteArray} {l1:Gapi_Layout} {r:((Option Gpage_Book)×(List Gapi_Verse)×Bool×Bool)} (h:zcQ text1 l1=some r):Fn Tryz.prog 9 [.string text1,.agg (zr0 l1).toArray] [] (fun b:Value×Value=>.tuple #[b.1,b.2,.bool r.2.2.1,.bool r.2.2.2]) (fun b=>[zma zbP zbO 81 b.1 r.1,zv6 b.2 r.2.1]):=by
 unfold zcQ at h
 refine Fn.intro Tryz.func9 rfl Tryz.ntmps9 (by simp) ?_
 intro w0 K
 refine zyG ?_
 refine zdW rfl dc rfl (fun b1 => ?_)
 refine zyR 4 rfl (zyH (zyR 1 rfl ?_))
 obtain ⟨r1,hq1,h⟩:=zbj h
 refine zdG (vs:=[.string text1]) rfl dc rfl rfl rfl zyb (zkW hq1) Splits.nil ?_
 rintro v1
 refine zbJ (k:=1) rfl (fun hd1 he1 => ?_)
 subst he1
 refine zyR 1 rfl (zaR rfl dc rfl rfl (zaR rfl dc rfl rfl (zyR 2 rfl (zyN (zaK (zyG (zyR 1 rfl (zd6 rfl dc rfl zcv (zyR 1 rfl ?_)))))))))
 refine zyS (s:=20) rfl h (fun h => ?_) (fun h => ?_)
 ·
  refine zyR 4 rfl (zyN (za9 rfl (zyG (zyR 4 rfl (zaO ?_)))))
  refine zaL (zaH (zav (zd4 zbP zbO 81 ?_)))
  refine zdQ (enc:=zbw) (e:=76) (size:=6) ?_
  cases h
  exact zaN (rs:=[.tmp 4,.tmp 5,.tmp 6,.tmp 7]) ((.pointer none),(.slice none 0 0)) (.inl rfl) Tryz.results9 (.cons (.tmp rfl) (.cons (.tmp rfl) (.cons (.tmp rfl) (.cons (.tmp rfl) .nil)))) rfl (zad [2,3] kr rfl)
 refine zyR 1 rfl (zbv (k:=1) rfl dc rfl rfl Tryz.underlying26 (zaU rfl zcl (zyR 1 rfl (zyN ?_))))
 refine zyB rfl h (fun h => ?_) (fun h => ?_)
 ·
  refine zyG (zyR 4 rfl (zyN (zaH (zav (zd4 zbP zbO 81 ?_)))))
  refine zdQ (enc:=zbw) (e:=76) (size:=6) ?_
  cases h
  exact zaN (rs:=[.tmp 4,.tmp 5,.tmp 6,.tmp 7]) ((.pointer none),(.slice none 0 0)) (.inl rfl) Tryz.results9 (.cons (.tmp rfl) (.cons (.tmp rfl) (.cons (.tmp rfl) (.cons (.tmp rfl) .nil)))) rfl (zad [2,3] kr rfl)
 refine zat (zaL ?_)
 obtain ⟨j1,hj1,h⟩:=zbC h
 refine zaX (β:=Unit) 0 rfl (fun b=>j1=some r) (fun b=>[]) (fun b=>[(0,.string text1),(3,zP b1),(5,hd1.v)]) (fun b=>[cells b1 (zr0 l1) 23,zv6 hd1.v r1.1]) (fun cut => ?_) ?_
 ·
  refine cut (zyG (zyR 1 rfl (zyN (zaD ?_))))
  refine zbn (β:=Nat×Int) (fun b=>zaF (fun _=>none) (zds r1 j1) b.1 b.2=some r) (fun b=>[]) (fun b=>[(0,.string text1),(3,zP b1),(5,hd1.v),(8,zI b.2)]) (fun b=>[cells b1 (zr0 l1) 23,zv6 hd1.v r1.1]) (fun b=>b.1) (zbV,0) h rfl (za1 rfl) (zad [0,1] kr rfl) ?_
  rintro ⟨n1,i3⟩ h
  cases n1 with
  | zero=>exact zdD h
  | succ n1 =>
   obtain ⟨ag1,hag1⟩:∃ ag,ag=zaF (fun _=>none) (zds r1 j1) n1:=⟨_,rfl⟩
   have h:zds r1 j1 ag1 i3=some r:=by rw [hag1]; exact h
   unfold zds at h
   refine zaK (zyG (zyR 2 rfl (zbv (k:=1) rfl dc rfl rfl Tryz.underlying26 (zaU rfl zbf (zyN ?_)))))
   refine zyB rfl h (fun h => ?_) (fun h => ?_)
   ·
    refine zat (zaL (zaK (zaD (zyG (zyR 2 rfl ?_)))))
    obtain ⟨q1,hq2,h⟩:=zbj h
    refine zan (k:=1) hq2 Tryz.underlying26 zlE rfl dc rfl rfl rfl rfl (zab zpg rfl dc rfl (show _=((i3:Int).toNat)*6 from rfl) (zaB (i:=(i3:Int).toNat) (j:=0) (k:=1) (q:=q1) zoQ zdO rfl dc rfl rfl (zaC hq2) rfl dc rfl (zbQ rfl dc rfl Tryz.underlying9 (zaU rfl zcl (zyN ?_)))))
    refine zyB rfl h (fun h => ?_) (fun h => ?_)
    ·
     refine zyG (zyR 4 rfl (zyN (zaH (zaE (zav (zav (zaE (zav ?_))))))))
     refine zd4 zbP zbO 81 ?_
     refine zdQ (enc:=zbw) (e:=76) (size:=6) ?_
     cases h
     exact zaN (rs:=[.tmp 4,.tmp 5,.tmp 6,.tmp 7]) ((.pointer none),(.slice none 0 0)) (.inl rfl) Tryz.results9 (.cons (.tmp rfl) (.cons (.tmp rfl) (.cons (.tmp rfl) (.cons (.tmp rfl) .nil)))) rfl (zad [2,3] kr rfl)
    refine zat (zag (zaL (zaw (zyR 1 rfl ?_))))
    obtain ⟨hg1,h⟩:=zbl h
    refine zaU rfl (zaP (r:=i3+1) (IntWalk.i64_in _ hg1)) (zyR 1 rfl (zaO ?_))
    subst hag1
    exact za3 (n1,i3+1) h (Nat.lt_succ_self _) rfl (za1 rfl) (zad [0,1] kr rfl)
   refine za2 (zal (zal (zau ?_)))
   exact zam () h rfl (za1 rfl) (zad [0,1] kr rfl)
 rintro _ h
 rw [hj1] at h
 refine zyG (zyR 1 rfl ?_)
 obtain ⟨r2,hq3,h⟩:=zbj h
 refine zdG (vs:=[.string text1]) rfl dc rfl rfl rfl zye (zoa hq3) Splits.nil ?_
 rintro v2
 refine zdu (L':=[cells b1 (zr0 l1) 23,zv6 hd1.v r1.1,zma zc6 zc5 106 v2 r2.1]) (zad [0,1,2] kr rfl) (zyR 1 rfl (zaR rfl dc rfl rfl (zaR rfl dc rfl rfl ?_)))
 refine zbk zsD rfl dc (fun b2 => ?_)
 refine zyR 1 rfl (zaZ (k:=3) (vs:=(zr6 r2.2)) (l':=(zr6 r2.2)) zkA rfl rfl rfl rfl rfl (show _≤_ by simp) rfl rfl ?_)
 refine zyN (zaK (zyG (zyR 1 rfl ?_)))
 refine zlk (k:=2) rfl (fun hv1 => ?_)
 refine zaU rfl (zmt Tryz.underlying58 hv1) (zyR 1 rfl ?_)
 refine zyS (s:=45) rfl h (fun h => ?_) (fun h => ?_)
 ·
  refine zyR 4 rfl (zyN (za9 rfl (zyG (zyR 4 rfl (zaO ?_)))))
  refine zaL (zaH (zav (zd4 zbP zbO 81 ?_)))
  refine zdQ (enc:=zbw) (e:=76) (size:=6) ?_
  cases h
  exact zaN (rs:=[.tmp 4,.tmp 5,.tmp 6,.tmp 7]) ((.pointer none),(.slice none 0 0)) (.inl rfl) Tryz.results9 (.cons (.tmp rfl) (.cons (.tmp rfl) (.cons (.tmp rfl) (.cons (.tmp rfl) .nil)))) rfl (zad [4,5] kr rfl)
 refine zab zrR rfl dc rfl (show _=0 from rfl) (zaq (k:=3) zwc rfl dc rfl rfl rfl (zaU rfl zck (zyR 1 rfl (zyN ?_))))
 refine zyB rfl h (fun h => ?_) (fun h => ?_)
 ·
  refine zyG (zyR 4 rfl (zyN (zaH (zav (zd4 zbP zbO 81 ?_)))))
  refine zdQ (enc:=zbw) (e:=76) (size:=6) ?_
  cases h
  exact zaN (rs:=[.tmp 4,.tmp 5,.tmp 6,.tmp 7]) ((.pointer none),(.slice none 0 0)) (.inl rfl) Tryz.results9 (.cons (.tmp rfl) (.cons (.tmp rfl) (.cons (.tmp rfl) (.cons (.tmp rfl) .nil)))) rfl (zad [4,5] kr rfl)
 refine zat (zaL (zyG (zyR 1 rfl (za8 (k:=0) (cs:=(zr0 l1)) ziB rfl dc rfl rfl rfl rfl ?_))))
 obtain ⟨p1,hq4,h⟩:=zbj h
 refine znC (As:=[zma zc6 zc5 106 v2 r2.1]) (zad [2] kr rfl) (zgH hq4) ?_
 rintro ⟨b3,hd2,hd3⟩ hv2
 subst hv2
 obtain ⟨r3,hq5,h⟩:=zbj h
 refine zhf (vs:=[zP b3,.agg (zr0 l1).toArray]) (Rd.nil:Rd _ _ []) rfl dc rfl rfl rfl zyd (zo6 (bx1:=b3) (x1:=p1) (x1_h0:=hd2) (x1_h1:=hd3) (l1:=l1) hq5) Splits.nil (.own (zad [4] (by kernel_rfl) rfl) (fun _ _ h=>sepL.one1.1 h) (.own (zad [5] (by kernel_rfl) rfl) (fun _ _ h=>sepL.one1.1 h) (.own (zad [6] (by kernel_rfl) rfl) (fun _ _ h=>sepL.one1.1 h) .nil))) ?_
 rintro v3
 refine zdu (L':=[cells b1 (zr0 l1) 23,zv6 hd1.v r1.1,emp,cells b2 (zr6 r2.2) 60,cells b3 [.string p1.told_title,hd2.v,hd3.v,.string p1.source] 106,zv6 hd2.v p1.told_lines,zv7 hd3.v p1.told_stanzas,zma zbP zbO 81 v3 r3.1]) (zad [0,1,2,3,4,5,6,7] kr rfl) (zyR 1 rfl (zaR rfl dc rfl rfl (zaR rfl dc rfl rfl (zyR 2 rfl (zyH (za8 (k:=0) (cs:=(zr0 l1)) ziB rfl dc rfl rfl rfl rfl ?_))))))
 obtain ⟨r4,hq6,h⟩:=zbj h
 refine zbh (v:=.bool r4) (vs:=[.agg (zr0 l1).toArray]) rfl dc rfl rfl rfl zya (zn9 (l1:=l1) hq6) (zyR 1 rfl (zyN (zaK (zyG (zyR 1 rfl (zd6 rfl dc rfl zcv (zyN ?_)))))))
 refine zyB rfl h (fun h => ?_) (fun h => ?_)
 ·
  refine zyG (zyR 1 rfl ?_)
  refine zlk (k:=7) rfl (fun hv3 => ?_)
  refine zaU rfl (zmt Tryz.underlying25 hv3) (zyR 1 rfl ?_)
  refine zyS (s:=62) rfl h (fun h => ?_) (fun h => ?_)
  ·
   refine zyR 1 rfl (zaU rfl zaV (zyR 5 rfl (zyN (zaH (zav (zd4 zbP zbO 81 ?_))))))
   refine zdQ (enc:=zbw) (e:=76) (size:=6) ?_
   cases h
   exact zaN (rs:=[.tmp 4,.tmp 5,.tmp 6,.tmp 7]) ((.pointer none),(.slice none 0 0)) (.inl rfl) Tryz.results9 (.cons (.tmp rfl) (.cons (.tmp rfl) (.cons (.tmp rfl) (.cons (.tmp rfl) .nil)))) rfl (zad [8,9] kr rfl)
  refine zyR 7 rfl (zyN (zaH (zav (zd4 zbP zbO 81 ?_))))
  refine zdQ (enc:=zbw) (e:=76) (size:=6) ?_
  cases h
  exact zaN (rs:=[.tmp 4,.tmp 5,.tmp 6,.tmp 7]) ((.pointer none),(.slice none 0 0)) (.inl rfl) Tryz.results9 (.cons (.tmp rfl) (.cons (.tmp rfl) (.cons (.tmp rfl) (.cons (.tmp rfl) .nil)))) rfl (zad [8,9] kr rfl)
 refine zat (zaL (zyG (zyR 3 rfl ?_)))
 refine zlk (k:=7) rfl (fun hv4 => ?_)
 refine zaU rfl (zqF Tryz.underlying25 hv4) (zyR 1 rfl ?_)
 refine zyS (s:=70) rfl h (fun h => ?_) (fun h => ?_)
 ·
  refine zyR 1 rfl (zaU rfl zaV (zyR 5 rfl (zyN (zaH ?_))))
  cases h
  exact zaN (rs:=[.tmp 4,.tmp 5,.tmp 6,.tmp 7]) (v3,hd1.v) (.inl rfl) Tryz.results9 (.cons (.tmp rfl) (.cons (.tmp rfl) (.cons (.tmp rfl) (.cons (.tmp rfl) .nil)))) rfl (zad [7,1] kr rfl)
 refine zyR 7 rfl (zyN (zaH ?_))
 cases h
 exact zaN (rs:=[.tmp 4,.tmp 5,.tmp 6,.tmp 7]) (v3,hd1.v) (.inl rfl) Tryz.results9 (.cons (.tmp rfl) (.cons (.tmp rfl) (.cons (.tmp rfl) (.cons (.tmp rfl) .nil)))) rfl (zad [7,1] kr rfl)
end Go.Proofs.YtbempdelckaccaaGreatDoor

namespace Go.Proofs.YtbempdelckaccaaGreatDoor
open Go.RowKit Go.Lib
set_option linter.unusedVariables false
set_option linter.unusedSimpArgs false
theorem ztN {z:List Row} {k:Nat} (ih:∀ vs:List Gapi_Verse,vs.map zpQ=(zfS (k+1) z).map zqI→Stp ((k+1:Nat):Int) vs):∀ (r:Row) (j:Nat) (vs:List Gapi_Verse),vs.map zpQ=((zgR j r).map (fun p=>(k,p))++zfS (k+1) z).map zqI→Stp ((k+1:Nat):Int) vs
 | [],j,vs,h=>ih vs h
 | x::r,j,[],h=>trivial
 | x::r,j,v::vs,h=>by
  obtain ⟨h1,h2⟩:=List.cons.inj (show zpQ v::vs.map zpQ=zqI (k,j,x)::((zgR (j+1) r).map (fun p=>(k,p))++zfS (k+1) z).map zqI from h)
  have hs:v.Stanza=(k:Int):=congrArg (fun q=>q.2.2.1) h1
  refine ⟨.inr ⟨by omega,by omega⟩,?_⟩
  rw [hs,show (k:Int)+1=((k+1:Nat):Int) by omega]
  exact ztN ih r (j+1) vs h2
theorem zpC:∀ (z:List Row) (k:Nat) (vs:List Gapi_Verse),(∀ r∈z,r≠[])→vs.map zpQ=(zfS k z).map zqI→Stp (k:Int) vs
 | [],k,vs,_,h=>by
  have:vs=[]:=by simpa [zfS] using h
  rw [this]; trivial
 | []::z,k,vs,hne,h=>absurd rfl (hne [] (List.mem_cons_self ..))
 | (x::r)::z,k,[],hne,h=>trivial
 | (x::r)::z,k,v::vs,hne,h=>by
  obtain ⟨h1,h2⟩:=List.cons.inj (show zpQ v::vs.map zpQ=zqI (k,0,x)::((zgR 1 r).map (fun p=>(k,p))++zfS (k+1) z).map zqI from h)
  have hs:v.Stanza=(k:Int):=congrArg (fun q=>q.2.2.1) h1
  refine ⟨.inl hs,?_⟩
  rw [hs,show (k:Int)+1=((k+1:Nat):Int) by omega]
  exact ztN (fun vs h=>zpC z (k+1) vs (fun r hr=>hne r (List.mem_cons_of_mem _ hr)) h) r 1 vs h2
theorem zso (n:Nat):zis (List.replicate n 32)=true:=by
 unfold zis
 rw [List.all_eq_true]
 intro b hb
 rw [(List.mem_replicate.1 hb).2]; rfl
theorem OkP.okV {p:Gpoem_Poem} {t:List UInt8} {z:List Row} (h:OkP p t z):∀ v∈p.told_lines,OkV v:=by
 intro v hv
 obtain ⟨i,hi⟩:=List.getElem?_of_mem hv
 have hk:(p.told_lines.map zpQ)[i]?=some (zpQ v):=by rw [List.getElem?_map,hi]; rfl
 rw [show p.told_lines.map zpQ=(zfS 0 z).map zqI from h.vok,List.getElem?_map] at hk
 obtain ⟨q,hq,he⟩:=Option.map_eq_some_iff.1 hk
 obtain ⟨r,hr,hx⟩:=zkT z 0 q (List.mem_of_getElem? hq)
 have hg:=h.ln r hr _ hx
 have e1:v.Text=mkB (q.2.2.drop (ind q.2.2)):=(congrArg (fun q=>q.1) he).symm
 have e2:v.Indent=(ind q.2.2:Int):=(congrArg (fun q=>q.2.1) he).symm
 have hle:=zpS q.2.2
 have hl:=hg.le
 refine ⟨?_,?_,?_⟩
 ·rw [e1,zbb,List.length_drop]; omega
 ·rw [e1,zbb]
  cases hd:q.2.2.drop (ind q.2.2) with
  | nil =>
   have:=zkY q.2.2
   rw [hd,List.append_nil] at this
   have hb:=hg.bl
   rw [← this,zso] at hb
   cases hb
  | cons b l=>simp
 ·rw [e2]; omega
theorem OkP.stp {p:Gpoem_Poem} {t:List UInt8} {z:List Row} (h:OkP p t z):Stp 0 p.told_lines:=zpC z 0 p.told_lines h.ne h.vok
def zp9:Gapi_Row:=⟨-1,0,0,0,0,ByteArray.empty⟩
def pgL:Option Int→List Gapi_Row→List Gapi_Row
 | _,[]=>[]
 | none,r::rs=>r::pgL (some r.Stanza) rs
 | some s,r::rs=>if r.Stanza=s then r::pgL (some r.Stanza) rs else zp9::r::pgL (some r.Stanza) rs
theorem zm7 (s:Int) (r:Gapi_Row) (rs:List Gapi_Row):pgL (some s) (r::rs)=if r.Stanza=s then r::pgL (some r.Stanza) rs else zp9::r::pgL (some r.Stanza) rs:=rfl
def zf3 (rows:List Gapi_Row):Nat→List Nat→List (List Gapi_Row)
 | _,[]=>[]
 | f,t::ts=>pgL none ((rows.drop f).take (t - f))::zf3 rows t ts
def zlh (l:Gapi_Layout) (vs:List Gapi_Verse):Gpage_Book:=⟨l.Width,l.Height,l.Turn,l.Every,zf3 (zcO l 0 vs) 0 (zjb (zcO l 0 vs) l.Height),zhH l vs+(Tt (zcO l 0 vs) l.Height 0).cost⟩
theorem zjt (rows:List Gapi_Row):∀ (ts:List Nat) (f:Nat),(zf3 rows f ts).length=ts.length
 | [],_=>rfl
 | t::ts,f=>by show (zf3 rows t ts).length+1=_; rw [zjt rows ts]; rfl
theorem zo4:∀ (l:List Gapi_Row) (o:Option Int),(pgL o l).length≤2*l.length
 | [],o=>by cases o <;> exact Nat.le_refl _
 | r::rs,none=>by have:=zo4 rs (some r.Stanza); show (pgL (some r.Stanza) rs).length+1≤_; rw [List.length_cons]; omega
 | r::rs,some s=>by
  have:=zo4 rs (some r.Stanza)
  unfold pgL
  split <;> simp only [List.length_cons] <;> omega
theorem zwa {rows:List Gapi_Row} (hn:rows.length≤1000000) (c H:Int) (Bl F L:List Int) (f:Nat) (j3:Int→(List Gapi_Row)→Option ((Option Gpage_Book)×Int)) (t:Nat) (ht:t≤rows.length) :
  ∀ (d k m:Nat) (pg:List Gapi_Row),f≤k→k+d=t→d<m→pg.length≤2*(k - f)→zaF (fun _ _=>none) (zdS (c,(⟨rows,Bl,F,L,H⟩:Gpage_parter)) (f:Int) j3 (t:Int)) m pg (k:Int)=j3 (t:Int) (pg++pgL (if f<k then some (stz rows (k - 1)) else none) ((rows.drop k).take (t - k))):=by
 intro d
 induction d with
 | zero =>
  intro k m pg hf hk hm hp
  obtain ⟨m,rfl⟩:∃ q,m=q+1:=⟨m - 1,by omega⟩
  rw [zct]
  generalize zaF (fun _ _=>none) (zdS (c,(⟨rows,Bl,F,L,H⟩:Gpage_parter)) (f:Int) j3 (t:Int)) m=ag
  unfold zdS
  refine zay (decide_eq_false (by omega)) ?_
  have e:(rows.drop k).take (t - k)=[]:=by rw [show t - k=0 by omega,List.take_zero]
  have e2:∀ o,pgL o []=[]:=fun o=>by cases o <;> rfl
  rw [e,e2,List.append_nil]
 | succ d ih =>
  intro k m pg hf hk hm hp
  obtain ⟨m,rfl⟩:∃ q,m=q+1:=⟨m - 1,by omega⟩
  rw [zct]
  have ih':=fun pg h=>ih (k+1) m pg (by omega) (by omega) (by omega) h
  generalize zaF (fun _ _=>none) (zdS (c,(⟨rows,Bl,F,L,H⟩:Gpage_parter)) (f:Int) j3 (t:Int)) m=ag at ih' ⊢
  have hr:rows[k]?=some rows[k]:=List.getElem?_eq_getElem (by omega)
  have hst:=zie hr
  have hd:(rows.drop k).take (t - k)=rows[k]::(rows.drop (k+1)).take (t - (k+1)):=by
   rw [List.drop_eq_getElem_cons (show k<rows.length by omega),show t - k=t - (k+1)+1 by omega,List.take_succ_cons]
  rw [hd]
  rw [if_pos (show f<k+1 by omega),show k+1 - 1=k by omega,hst,show ((k+1:Nat):Int)=(k:Int)+1 by omega] at ih'
  have fin:∀ pg':List Gapi_Row,pg'.length+1≤2*(k+1 - f)→(zak (zbF rows (k:Int)) fun (q4:Gapi_Row)=>grd (pg'.length+1≤2147483648)<|grd (I64 ((k:Int)+1))<|ag (pg'++[q4]) ((k:Int)+1))=j3 (t:Int) (pg'++rows[k]::pgL (some rows[k].Stanza) ((rows.drop (k+1)).take (t - (k+1)))):=by
   intro pg' hp'
   refine zaJ (zcE hr) (zbo (by omega) (zbo ⟨by omega,by omega⟩ ?_))
   rw [ih' _ (by rw [List.length_append,List.length_singleton]; omega),List.append_assoc]; rfl
  unfold zdS
  refine zaz (decide_eq_true (by omega)) (zbs ?_)
  by_cases h0:f<k
  ·have hr0:rows[k - 1]?=some rows[k - 1]:=List.getElem?_eq_getElem (by omega)
   have hst0:=zie hr0
   rw [if_pos h0,hst0]
   refine zaz (decide_eq_true (by omega)) (zaJ (zcE hr) (zbo ⟨by omega,by omega⟩ (zaJ (zdE (n:=k - 1) (by omega) hr0) ?_)))
   by_cases he:rows[k].Stanza=rows[k - 1].Stanza
   ·refine zay (zxC he) ((fin pg (by omega)).trans ?_)
    rw [zm7,if_pos he]
   ·refine zaz (zvw he) (zbo (by omega) ((fin _ (by rw [List.length_append,List.length_singleton]; omega)).trans ?_))
    rw [zm7,if_neg he,List.append_assoc]; rfl
  ·rw [if_neg h0]
   refine zay (decide_eq_false (by omega)) ((fin pg (by omega)).trans ?_)
   rfl
theorem zra {rows:List Gapi_Row} (hn:rows.length≤1000000) (c c2 H:Int) (Bl F L:List Int) (R:Nat→Nat→Bool) (j1:(List (List Gapi_Row))→Int→Option ((Option Gpage_Book)×Int)) (E:List Nat) :
  ∀ (ts pre:List Nat) (f m:Nat) (out:List (List Gapi_Row)),E=pre++ts→zss R rows.length f ts→ts.length<m→out.length≤f→out.length=pre.length →
  zaF (fun _ _ _=>none) (zdT j1 (c,(⟨rows,Bl,F,L,H⟩:Gpage_parter)) (E.map (fun t=>((t:Nat):Int)),c2)) m out (f:Int) (pre.length:Int)=j1 (out++zf3 rows f ts) (c+c2)
 | [],pre,f,m,out,hE,hr,hm,ho,hp=>by
  obtain ⟨m,rfl⟩:∃ q,m=q+1:=⟨m - 1,by simp at hm; omega⟩
  rw [zct]
  generalize zaF (fun _ _ _=>none) (zdT j1 (c,(⟨rows,Bl,F,L,H⟩:Gpage_parter)) (E.map (fun t=>((t:Nat):Int)),c2)) m=ag
  unfold zdT
  refine zay (decide_eq_false (by rw [List.length_map,hE]; simp)) ?_
  show j1 out (c+c2)=j1 (out++[]) (c+c2)
  rw [List.append_nil]
 | t::ts,pre,f,m,out,hE,hr,hm,ho,hp=>by
  obtain ⟨m,rfl⟩:∃ q,m=q+1:=⟨m - 1,by simp at hm; omega⟩
  obtain ⟨r1,r2,_,r3⟩:=hr
  have ih:=zra hn c c2 H Bl F L R j1 E ts (pre++[t]) t m (out++[pgL none ((rows.drop f).take (t - f))]) (by rw [hE]; simp) r3 (by simp at hm; omega) (by simp; omega) (by simp; omega)
  have hpl:pre.length<E.length:=by rw [hE]; simp
  rw [zct]
  generalize zaF (fun _ _ _=>none) (zdT j1 (c,(⟨rows,Bl,F,L,H⟩:Gpage_parter)) (E.map (fun t=>((t:Nat):Int)),c2)) m=ag at ih ⊢
  have hg:(E.map (fun t=>((t:Nat):Int)))[pre.length]?=some (t:Int):=by rw [List.getElem?_map,hE]; simp
  rw [show (((pre++[t]).length:Nat):Int)=(pre.length:Int)+1 by simp] at ih
  unfold zdT
  refine zaz (zpa hg) (zbs (zbs (zaJ (zcE hg) ?_)))
  have hin:=zwa hn c H Bl F L f (fun (to1:Int) (page1:List Gapi_Row)=>grd (out.length+1≤2147483648)<|grd (I64 ((pre.length:Int)+1))<|ag (out++[page1]) to1 ((pre.length:Int)+1)) t r2 (t - f) f zbV [] (Nat.le_refl _) (by omega) (zb8 (by omega)) (Nat.zero_le _)
  refine hin.trans ?_
  rw [if_neg (Nat.lt_irrefl f),List.nil_append]
  refine zbo (by omega) (zbo ⟨by omega,by omega⟩ ?_)
  rw [ih,List.append_assoc]; rfl
theorem zwW {rows:List Gapi_Row} {F L:List Int} {H:Int} (hR:RowsOk rows F L) (hH:4≤H∧H≤200) (f:Nat):0≤(Tt rows H f).cost∧(Tt rows H f).cost≤2000000000000*1000000:=by
 have hok:=zlw (R:=Rp rows H) (K:=Kp rows H) (n:=rows.length) (zmx hR hH) rows.length f
 obtain ⟨a,b,_⟩:=hok
 have hn:=hR.n
 refine ⟨a,?_⟩
 show (Bf (Rp rows H) (Kp rows H) rows.length rows.length f).cost≤_
 omega
theorem zrF {l:Gapi_Layout} (h:zh8 l=true):4≤l.Height∧l.Height≤200:=by
 unfold zh8 at h
 simp only [Bool.and_eq_true,decide_eq_true_eq] at h
 omega
theorem zyA (l:Gapi_Layout) (p:Gpoem_Poem) (hv:∀ v∈p.told_lines,OkV v) (hl:p.told_lines.length≤512) (hst:Stp 0 p.told_lines):zgb p l=if zh8 l=true then some (some (zlh l p.told_lines),0) else some (none,2):=by
 unfold zgb
 refine zaJ (zxD l) ?_
 cases hm:zh8 l with
 | false=>exact zaz rfl rfl
 | true =>
  rw [if_pos rfl]
  have hR:=zmU hm p.told_lines hv hl hst
  have hH:=zrF hm
  have hn:=hR.n
  have c1:=zoC hm p.told_lines hv
  have c2:=zwW hR hH 0
  refine zay rfl (zbs (zaJ (zuS l hm p l.Height hv hl hst) (zaJ (zuO hR hH) (zbo ?_ ?_))))
  ·show I64 (zhH l p.told_lines+(Tt (zcO l 0 p.told_lines) l.Height 0).cost)
   exact ⟨by omega,by omega⟩
  ·have hr:=zjF (R:=Rp (zcO l 0 p.told_lines) l.Height) (K:=Kp (zcO l 0 p.told_lines) l.Height) (n:=(zcO l 0 p.told_lines).length) (zmx hR hH) (zqc hH) (zcO l 0 p.told_lines).length 0 (Nat.zero_le _) (by omega)
   have hlen:(zjb (zcO l 0 p.told_lines) l.Height).length≤(zcO l 0 p.told_lines).length:=by
    have key:∀ (ts:List Nat) (f:Nat),zss (Rp (zcO l 0 p.told_lines) l.Height) (zcO l 0 p.told_lines).length f ts→f+ts.length≤(zcO l 0 p.told_lines).length:=by
     intro ts
     induction ts with
     | nil=>intro f h; have:f=_:=h; simp; omega
     | cons t ts ih=>intro f h; obtain ⟨a,b,_,d⟩:=h; have:=ih t d; rw [List.length_cons]; omega
    have h9:=key _ _ hr
    have h8:(zjb (zcO l 0 p.told_lines) l.Height).length≤(zcO l 0 p.told_lines).length:=by rw [Nat.zero_add] at h9; exact h9
    exact h8
   exact zra hn (zhH l p.told_lines) (Tt (zcO l 0 p.told_lines) l.Height 0).cost l.Height _ _ _ _ (fun (b3:List (List Gapi_Row)) (b4:Int)=>some ((some (⟨l.Width,l.Height,l.Turn,l.Every,b3,b4⟩:Gpage_Book)),0)) (zjb (zcO l 0 p.told_lines) l.Height) (zjb (zcO l 0 p.told_lines) l.Height) [] 0 zbV [] rfl hr (zb8 (n:=(zjb (zcO l 0 p.told_lines) l.Height).length) (by omega)) (Nat.le_refl _) rfl
theorem zuF {U:List UInt8} {e:Gapi_Spot} (h:rd U=.error e):e.Err=3:=by
 have key:∀ (xs:List (Nat×List UInt8)) (st:RS),zhg st xs=.error e→e.Err=3:=by
  intro xs
  induction xs with
  | nil=>intro st h; cases h
  | cons x xs ih =>
   intro st h
   unfold zhg at h
   cases hs:zgo st x with
   | ok s1=>rw [hs] at h; exact ih s1 h
   | error e' =>
    rw [hs] at h
    have:e'=e:=by cases h; rfl
    subst this
    unfold zgo at hs
    split at hs
    ·cases hs
    split at hs
    ·cases hs; rfl
    split at hs
    ·cases hs
    split at hs
    ·cases hs; rfl
    ·cases hs
 unfold rd at h
 split at h
 ·cases h; rfl
 ·exact key _ _ h
structure PgOk (vs:List Gapi_Verse):Prop where
 ok:∀ v∈vs,OkV v
 len:vs.length≤60
 stp:Stp 0 vs
 sz:∀ v∈vs,v.Text.size≤200
theorem zsL (vs:List Gapi_Verse) (b:Bool) (hl:vs.length≤60) (j:Option ((Option Gpage_Book)×(List Gapi_Verse)×Bool×Bool)):∀ (d i m:Nat),i+d=vs.length→d<m→zaF (fun _=>none) (zds (vs,b) j) m (i:Int)=if (vs.drop i).all (fun v=>decide (v.Text.size≤200))=true then j else some (none,([]:List Gapi_Verse),false,true):=by
 intro d
 induction d with
 | zero =>
  intro i m hi hm
  obtain ⟨m,rfl⟩:∃ q,m=q+1:=⟨m - 1,by omega⟩
  rw [zct]
  generalize zaF (fun _=>none) (zds (vs,b) j) m=ag
  unfold zds
  refine zay (decide_eq_false (by show ¬ (i:Int)<(vs.length:Int); omega)) ?_
  rw [List.drop_of_length_le (by omega)]; rfl
 | succ d ih =>
  intro i m hi hm
  obtain ⟨m,rfl⟩:∃ q,m=q+1:=⟨m - 1,by omega⟩
  rw [zct]
  have ih':=ih (i+1) m (by omega) (by omega)
  rw [show ((i+1:Nat):Int)=(i:Int)+1 by omega] at ih'
  generalize zaF (fun _=>none) (zds (vs,b) j) m=ag at ih' ⊢
  have hv:vs[i]?=some vs[i]:=List.getElem?_eq_getElem (by omega)
  unfold zds
  refine zaz (decide_eq_true (by show (i:Int)<(vs.length:Int); omega)) (zaJ (zcE hv) ?_)
  rw [List.drop_eq_getElem_cons (show i<vs.length by omega),List.all_cons]
  by_cases h:vs[i].Text.size≤200
  ·refine zay (decide_eq_false (by omega)) (zbo ⟨by omega,by omega⟩ ?_)
   rw [decide_eq_true h,Bool.true_and]; exact ih'
  ·rw [decide_eq_false h,Bool.false_and,if_neg (by decide)]
   exact zaz (decide_eq_true (by omega)) rfl
end Go.Proofs.YtbempdelckaccaaGreatDoor

namespace Go.Proofs.YtbempdelckaccaaGreatDoor
open Go.RowKit Go.Lib
set_option linter.unusedVariables false
set_option linter.unusedSimpArgs false
theorem zva (l x:List UInt8) (hl:l≠[]) (hv:((⟨(decodeL l).1,l.take (decodeL l).2⟩:Tok)).valid):decodeL (l++x)=decodeL l:=by
 have hle:=zjd l hl
 have hb:l.take (decodeL l).2=encodeRune (decodeL l).1:=hv.2
 have h1:l=encodeRune (decodeL l).1++l.drop (decodeL l).2:=by rw [← hb,List.take_append_drop]
 have h2:(encodeRune (decodeL l).1).length=(decodeL l).2:=by rw [← hb,List.length_take]; omega
 have h3:=zjJ (decodeL l).1 hv.1 (l.drop (decodeL l).2++x)
 rw [← List.append_assoc,← h1,h2] at h3
 rw [h3]
theorem znd:∀ (A B:List Tok),zlS (A++B)→zlS A
 | [],B,_=>zhL
 | t::A,B,h=>by
  have hg:zlS A:=znd A B (ziR h)
  have hok:=zuW h t (by simp)
  unfold zlS at h hg ⊢
  rw [List.cons_append,zfk] at h
  have hne:t.bs≠[]:=zto hok
  rw [zfk]
  rcases hok with hv | hb
  ·rw [zlX hv,hg]
  ·have hne1:t.bs++zcG A≠[]:=by simp [hne]
   have hne2:t.bs++zcG (A++B)≠[]:=by simp [hne]
   rw [zfe _ hne2] at h
   have ht:(⟨(decodeL (t.bs++zcG (A++B))).1,(t.bs++zcG (A++B)).take (decodeL (t.bs++zcG (A++B))).2⟩:Tok)=t:=(List.cons.inj h).1
   have h1:t.bs.length=1:=by unfold Tok.broken at hb; simp at hb; exact hb.2
   have hr:t.r=65533:=by unfold Tok.broken at hb; simp at hb; exact hb.1
   rcases ztG (t.bs++zcG A) hne1 with hv | hb'
   ·have h2:=zva (t.bs++zcG A) (zcG B) hne1 hv
    rw [List.append_assoc,← zbq] at h2
    rw [h2] at ht
    have hle:=zjd _ hne1
    have e:(t.bs++zcG (A++B)).take (decodeL (t.bs++zcG A)).2=(t.bs++zcG A).take (decodeL (t.bs++zcG A)).2:=by
     rw [zbq,← List.append_assoc,List.take_append_of_le_length (by omega)]
    rw [e] at ht
    rw [ht] at hv
    exact absurd (zj5 hv) (by rw [hb]; simp)
   ·rw [zfe _ hne1]
    have h3:(decodeL (t.bs++zcG A)).1=65533:=by unfold Tok.broken at hb'; simp at hb'; exact hb'.1
    have hle:=zjd _ hne1
    have h4:(decodeL (t.bs++zcG A)).2=1:=by
     unfold Tok.broken at hb'
     have:=(Bool.and_eq_true _ _).mp hb'
     have h5:=this.2
     simp only [List.length_take,beq_iff_eq] at h5
     omega
    have h6:(t.bs++zcG A).take 1=t.bs:=by rw [← h1,List.take_left']; rfl
    have h7:(t.bs++zcG A).drop 1=zcG A:=by rw [← h1,List.drop_left']; rfl
    rw [h4,h6,h7,hg,h3,← hr]
def shp (p:Pc):Nat×Nat:=(p.r,p.w)
theorem ztQ {p q:Pc} (h:shp p=shp q):p.broken=q.broken:=by
 have h1:p.r=q.r:=congrArg Prod.fst h
 have h2:p.w=q.w:=congrArg Prod.snd h
 unfold Pc.broken; rw [h1,h2]
theorem znc {p q:Pc} (h:shp p=shp q):kdP (pcG p)=kdP (pcG q):=by
 have h1:p.r=q.r:=congrArg Prod.fst h
 unfold kdP
 show zde p.broken (p.r:Int)=zde q.broken (q.r:Int)
 rw [ztQ h,h1]
theorem zoF {p q:Pc} (h:shp p=shp q):zfV (pcG p)=zfV (pcG q):=by
 have h1:(pcG p).Rune=(pcG q).Rune:=by show (p.r:Int)=(q.r:Int); rw [show p.r=q.r from congrArg Prod.fst h]
 unfold zfV
 rw [znc h,h1]
theorem zqv {p q:Pc} (h:shp p=shp q) (a b:Int):zfZ a b (pcG p)=zfZ a b (pcG q):=by
 have h1:(pcG p).Rune=(pcG q).Rune:=by show (p.r:Int)=(q.r:Int); rw [show p.r=q.r from congrArg Prod.fst h]
 have h2:(pcG p).Broken=(pcG q).Broken:=ztQ h
 unfold zfZ
 rw [znc h,h1,h2]
theorem znP (h:Int):∀ (X Y:List Pc) (l m:Pc),l.r=m.r→X.map shp=Y.map shp→tkN h l X=tkN h m Y
 | [],[],_,_,_,_=>rfl
 | [],y::Y,_,_,_,e=>by simp at e
 | x::X,[],_,_,_,e=>by simp at e
 | x::X,y::Y,l,m,hr,e=>by
  obtain ⟨e1,e2⟩:=List.cons.inj (show shp x::X.map shp=shp y::Y.map shp from e)
  rw [zfI,zfI,zqv e1,hr,znP h X Y x y (congrArg Prod.fst e1) e2]
theorem zrD (X Y:List Pc) (x y:Pc) (hx:shp x=shp y) (e:X.map shp=Y.map shp):nTk x X=nTk y Y:=by
 have hr:x.r=y.r:=congrArg Prod.fst hx
 unfold nTk
 rw [znc hx,hr,znP (kdP (pcG y)) X Y x y hr e]
 cases X with
 | nil =>
  have:Y=[]:=by simpa using e.symm
  rw [this]
 | cons a X =>
  cases Y with
  | nil=>simp at e
  | cons b Y =>
   obtain ⟨e1,e2⟩:=List.cons.inj (show shp a::X.map shp=shp b::Y.map shp from e)
   have:a.r=b.r:=congrArg Prod.fst e1
   simp only [this]
theorem zmd:∀ (X Y:List Pc) (c:Int),X.map shp=Y.map shp→zme c X=zme c Y
 | [],[],_,_=>rfl
 | [],y::Y,_,e=>by simp at e
 | x::X,[],_,e=>by simp at e
 | x::X,y::Y,c,e=>by
  obtain ⟨e1,e2⟩:=List.cons.inj (show shp x::X.map shp=shp y::Y.map shp from e)
  show zme (max c (zfV (pcG x))) X=zme (max c (zfV (pcG y))) Y
  rw [zoF e1]; exact zmd X Y _ e2
def zho (X:List Pc):List Int:=(zdk (X.map pcG)).map (·.Columns)
theorem zhS (x:Pc) (ts:List Pc):zho (x::ts)=zme (zfV (pcG x)) (ts.take (nTk x ts))::zho (ts.drop (nTk x ts)):=by
 unfold zho
 rw [zfs]; rfl
theorem zlf:∀ (n:Nat) (X Y:List Pc),X.length≤n→X.map shp=Y.map shp→zho X=zho Y
 | _,[],[],_,_=>rfl
 | _,[],y::Y,_,e=>by simp at e
 | _,x::X,[],_,e=>by simp at e
 | 0,x::X,y::Y,h,e=>by simp at h
 | n+1,x::X,y::Y,h,e=>by
  obtain ⟨e1,e2⟩:=List.cons.inj (show shp x::X.map shp=shp y::Y.map shp from e)
  rw [List.length_cons] at h
  rw [zhS,zhS,zoF e1,zrD X Y x y e1 e2]
  congr 1
  ·exact zmd _ _ _ (by rw [List.map_take,List.map_take,e2])
  ·exact zlf n _ _ (by rw [List.length_drop]; omega) (by rw [List.map_drop,List.map_drop,e2])
theorem zqZ (h:Int):∀ (ts:List Pc) (l:Pc) (m:Nat),tkN h l ts≤m→tkN h l (ts.take m)=tkN h l ts
 | [],l,m,_=>by rw [List.take_nil]
 | t::ts,l,0,hm=>by
  have:tkN h l (t::ts)=0:=by omega
  rw [this]; rfl
 | t::ts,l,m+1,hm=>by
  rw [List.take_succ_cons,zfI,zfI]
  rw [zfI] at hm
  split
  ·rename_i hj
   rw [if_pos hj] at hm
   rw [zqZ h ts t m (by omega)]
  ·rfl
theorem zuQ (x:Pc) (ts:List Pc) (m:Nat) (hm:nTk x ts≤m):nTk x (ts.take m)=nTk x ts:=by
 unfold nTk at hm ⊢
 split
 ·rename_i h13
  rw [if_pos h13] at hm
  cases ts with
  | nil=>rw [List.take_nil]
  | cons y ts =>
   cases m with
   | zero =>
    simp only at hm ⊢
    have:(if (y.r:Int)=10 then 1 else 0)=0:=by omega
    rw [List.take_zero]; exact this.symm
   | succ m=>rw [List.take_succ_cons]
 ·rename_i h13
  rw [if_neg h13] at hm
  split
  ·rfl
  ·rename_i hs
   rw [if_neg hs] at hm
   exact zqZ _ ts x m hm
theorem zgu:∀ (n:Nat) (X:List Pc),X.length≤n→∀ f,f≤(zdk (X.map pcG)).length→∃ A B,X=A++B∧zdk (A.map pcG)=(zdk (X.map pcG)).take f∧zdk (B.map pcG)=(zdk (X.map pcG)).drop f
 | n,X,hn,0,hf=>⟨[],X,rfl,rfl,rfl⟩
 | n,[],hn,f+1,hf=>by simp [zdk] at hf
 | 0,x::ts,hn,f+1,hf=>by simp at hn
 | n+1,x::ts,hn,f+1,hf=>by
  rw [zfs,List.length_cons] at hf
  rw [List.length_cons] at hn
  obtain ⟨A,B,h1,h2,h3⟩:=zgu n (ts.drop (nTk x ts)) (by rw [List.length_drop]; omega) f (by omega)
  have hk:=ztV x ts
  have hts:ts=ts.take (nTk x ts)++A++B:=by rw [List.append_assoc,← h1,List.take_append_drop]
  have hA:ts.take (nTk x ts)++A=ts.take (nTk x ts+A.length):=by
   rw [List.take_add,h1,List.take_left']
   rfl
  have hn2:nTk x (ts.take (nTk x ts)++A)=nTk x ts:=by rw [hA]; exact zuQ x ts _ (by omega)
  refine ⟨x::(ts.take (nTk x ts)++A),B,by rw [List.cons_append,← hts],?_,?_⟩
  ·rw [zfs,hn2,zfs x ts,List.take_succ_cons,← h2]
   have e1:(ts.take (nTk x ts)++A).take (nTk x ts)=ts.take (nTk x ts):=by
    rw [List.take_append_of_le_length (by rw [List.length_take]; omega),List.take_take,Nat.min_self]
   have e2:(ts.take (nTk x ts)++A).drop (nTk x ts)=A:=by
    rw [List.drop_left' (by rw [List.length_take]; omega)]
   rw [e1,e2]
  ·rw [zfs x ts,List.drop_succ_cons,← h3]
theorem zgY:∀ (A B:List Pc) (i:Nat) (T:List Tok),place i T=A++B→∃ TA TB,T=TA++TB∧A=place i TA∧B=place (i+(zcG TA).length) TB
 | [],B,i,T,h=>⟨[],T,rfl,rfl,by rw [ztc]; exact h.symm⟩
 | a::A,B,i,[],h=>by simp [place] at h
 | a::A,B,i,t::T,h=>by
  obtain ⟨h1,h2⟩:=List.cons.inj (show (⟨i,t.bs.length,t.r⟩:Pc)::place (i+t.bs.length) T=a::(A++B) from h)
  obtain ⟨TA,TB,e1,e2,e3⟩:=zgY A B (i+t.bs.length) T h2
  refine ⟨t::TA,TB,by rw [e1]; rfl,by rw [e2,← h1]; rfl,?_⟩
  rw [zfk,List.length_append,e3,Nat.add_assoc]
theorem zih:∀ (T:List Tok) (i:Nat),(place i T).map shp=T.map (fun t=>(t.r,t.bs.length))
 | [],_=>rfl
 | t::T,i=>by
  show shp ⟨i,t.bs.length,t.r⟩::(place (i+t.bs.length) T).map shp=_
  rw [zih T,List.map_cons]; rfl
end Go.Proofs.YtbempdelckaccaaGreatDoor

namespace Go.Proofs.YtbempdelckaccaaGreatDoor
open Go.RowKit Go.Lib
set_option linter.unusedVariables false
set_option linter.unusedSimpArgs false
theorem zmp {X:List Pc} {k:Nat} {T:List Tok} (h:X=place k T) (c:zd8) (hc:(zdk (X.map pcG))[0]?=some c):c.Span_From=(k:Int):=by
 subst h
 cases T with
 | nil=>simp [place,zdk] at hc
 | cons t T =>
  rw [show place k (t::T)=⟨k,t.bs.length,t.r⟩::place (k+t.bs.length) T from rfl,zfs] at hc
  have:=(Option.some.inj hc).symm
  rw [this]
theorem zmo {X:List Pc} (h:zdk (X.map pcG)=[]):X=[]:=by
 cases X with
 | nil=>rfl
 | cons x X=>rw [zfs] at h; cases h
theorem zpD (s:ByteArray) (f:Nat) {B:List Pc} {TA TB:List Tok} (hT:zht s.data.toList=TA++TB) (hB:B=place (zcG TA).length TB) (hc:zdk (B.map pcG)=(zah s).drop f):stN s f=((zcG TA).length:Int):=by
 unfold stN
 have h0:(zdk (B.map pcG))[0]?=(zah s)[f]?:=by rw [hc,List.getElem?_drop,Nat.add_zero]
 cases hx:(zah s)[f]? with
 | some c=>rw [hx] at h0; exact zmp hB c h0
 | none =>
  have hd:(zah s).drop f=[]:=List.drop_of_length_le (List.getElem?_eq_none_iff.1 hx)
  rw [hd] at hc
  have hB0:=zmo hc
  have hTB:TB=[]:=by
   cases TB with
   | nil=>rfl
   | cons t TB=>rw [hB0] at hB; cases hB
  have h1:=zhB s.data.toList
  rw [hT,hTB,List.append_nil] at h1
  show (s.size:Int)=_
  rw [h1,ze5]
structure RowT (s:ByteArray) (f e t:Nat) (TA T1 T2 TD:List Tok):Prop where
 all:zht s.data.toList=TA++T1++T2++TD
 sf:stN s f=((zcG TA).length:Int)
 se:stN s e=((zcG (TA++T1)).length:Int)
 st:stN s t=((zcG (TA++T1++T2)).length:Int)
 c1:zdk ((place (zcG TA).length T1).map pcG)=((zah s).take e).drop f
 c12:zdk ((place (zcG TA).length (T1++T2)).map pcG)=((zah s).take t).drop f
theorem zsS (s:ByteArray) (f e t:Nat) (h1:f≤e) (h2:e≤t) (h3:t≤(zah s).length):∃ TA T1 T2 TD,RowT s f e t TA T1 T2 TD:=by
 have hP:pcs s.data.toList=place 0 (zht s.data.toList):=zkO _ 0
 have hC:zdk ((pcs s.data.toList).map pcG)=zah s:=rfl
 obtain ⟨A,X1,a1,a2,a3⟩:=zgu _ (pcs s.data.toList) (Nat.le_refl _) f (by rw [hC]; omega)
 rw [hC] at a2 a3
 have l1:(zdk (X1.map pcG)).length=(zah s).length - f:=by rw [a3,List.length_drop]
 obtain ⟨Y,D,b1,b2,b3⟩:=zgu _ X1 (Nat.le_refl _) (t - f) (by omega)
 rw [a3] at b2 b3
 rw [List.drop_drop,show f+(t - f)=t by omega] at b3
 have l2:(zdk (Y.map pcG)).length=t - f:=by rw [b2,List.length_take,List.length_drop]; omega
 obtain ⟨B1,B2,c1,c2,c3⟩:=zgu _ Y (Nat.le_refl _) (e - f) (by omega)
 rw [hP] at a1
 obtain ⟨TA,TR,p1,p2,p3⟩:=zgY _ _ _ _ a1
 rw [Nat.zero_add] at p3
 rw [b1] at p3
 obtain ⟨TY,TD,q1,q2,q3⟩:=zgY _ _ _ _ p3.symm
 rw [c1] at q2
 obtain ⟨T1,T2,r1,r2,r3⟩:=zgY _ _ _ _ q2.symm
 have hX1:X1=place (zcG TA).length TR:=by rw [b1,p3]
 have sf:=zpD s f p1 hX1 a3
 have st:=zpD s t (TA:=TA++T1++T2) (TB:=TD) (B:=D) (by rw [p1,q1,r1]; simp) (by rw [q3,r1]; simp only [zbq,List.length_append,Nat.add_assoc]) b3
 refine ⟨TA,T1,T2,TD,by rw [p1,q1,r1]; simp,sf,?_,st,?_,?_⟩
 ·rcases Nat.lt_or_ge e t with he | he
  ·have h0:(zdk (B2.map pcG))[0]?=(zah s)[e]?:=by
    rw [c3,List.getElem?_drop,b2,List.getElem?_take_of_lt (by omega),List.getElem?_drop]
    congr 1; omega
   have hx:(zah s)[e]?=some (zah s)[e]:=List.getElem?_eq_getElem (by omega)
   rw [hx] at h0
   have:=zmp (k:=(zcG TA).length+(zcG T1).length) (T:=T2) r3 _ h0
   unfold stN
   rw [hx]
   show (zah s)[e].Span_From=_
   rw [this,zbq,List.length_append]
  ·obtain rfl:e=t:=by omega
   have:zdk (B2.map pcG)=[]:=by rw [c3]; exact List.drop_of_length_le (by omega)
   have hB2:=zmo this
   have hT2:T2=[]:=by
    cases T2 with
    | nil=>rfl
    | cons x T2=>rw [hB2] at r3; cases r3
   rw [st,hT2,List.append_nil]
 ·rw [← r2,c2,b2,List.take_take,Nat.min_eq_left (by omega),List.drop_take]
 ·rw [← r1,← q2,← c1,b2,List.drop_take]
theorem zn4 {s:ByteArray} {f e t:Nat} {TA T1 T2 TD:List Tok} (h:RowT s f e t TA T1 T2 TD):(zky s f t).data.toList=zcG T1++zcG T2∧(zky s f e).data.toList=zcG T1∧zht (zcG T1)=T1∧zht (zcG T1++zcG T2)=T1++T2:=by
 have hl:=zhB s.data.toList
 rw [h.all] at hl
 have hg:=zrL s.data.toList
 rw [h.all,List.append_assoc,List.append_assoc] at hg
 have hg1:zlS (T1++(T2++TD)):=ziS hg
 have e1:zht (zcG T1)=T1:=znd _ _ hg1
 have e2:zht (zcG (T1++T2))=T1++T2:=znd (T1++T2) TD (by rw [List.append_assoc]; exact hg1)
 rw [zbq] at e2
 have cut:∀ (X Y Z:List UInt8),X++Y++Z=s.data.toList→(zbS s (X.length:Int) ((X++Y).length:Int)).data.toList=Y:=by
  intro X Y Z he
  have:=zgs s X.length Y.length
  rw [List.length_append,Int.natCast_add,this,← he,List.append_assoc,List.drop_left' rfl,List.take_left' rfl]
 refine ⟨?_,?_,e1,e2⟩
 ·unfold zky
  rw [h.sf,h.st]
  have:=cut (zcG TA) (zcG T1++zcG T2) (zcG TD) (by rw [← hl]; simp [zbq])
  rw [← zbq,← zbq,← List.append_assoc] at this
  rw [this,zbq]
 ·unfold zky
  rw [h.sf,h.se]
  have:=cut (zcG TA) (zcG T1) (zcG T2++zcG TD) (by rw [← hl]; simp [zbq])
  rw [← zbq] at this
  exact this
theorem zir (T:List Tok) (i j:Nat):zho (place i T)=zho (place j T):=zlf _ _ _ (Nat.le_refl _) (by rw [zih,zih])
theorem zmq (s:ByteArray):(zah s).map (·.Columns)=zho (place 0 (zht s.data.toList)):=by
 unfold zah zho
 rw [show pcs s.data.toList=place 0 (zht s.data.toList) from zkO _ 0]
theorem zsT {s:ByteArray} {f e t:Nat} {TA T1 T2 TD:List Tok} (h:RowT s f e t TA T1 T2 TD):(zah (zky s f t)).map (·.Columns)=(((zah s).take t).drop f).map (·.Columns)∧zho (place 0 T1)=(((zah s).take e).drop f).map (·.Columns):=by
 obtain ⟨h1,h2,h3,h4⟩:=zn4 h
 constructor
 ·rw [zmq,h1,h4,zir _ 0 (zcG TA).length,← h.c12]; rfl
 ·rw [zir _ 0 (zcG TA).length,← h.c1]; rfl
theorem zrC (x:Pc) (ts:List Pc):∀ z∈ts.take (nTk x ts),z.r=10∨∃ a b,zfZ a b (pcG z)=true:=by
 have tk:∀ (h:Int) (ts:List Pc) (l:Pc),∀ z∈ts.take (tkN h l ts),∃ a b,zfZ a b (pcG z)=true:=by
  intro h ts
  induction ts with
  | nil=>intro l z hz; simp at hz
  | cons t ts ih =>
   intro l z hz
   rw [zfI] at hz
   split at hz
   ·rename_i hj
    rw [List.take_succ_cons] at hz
    rcases List.mem_cons.1 hz with rfl | hz
    ·exact ⟨_,_,hj⟩
    ·exact ih t z hz
   ·simp at hz
 intro z hz
 unfold nTk at hz
 split at hz
 ·cases ts with
  | nil=>simp at hz
  | cons y ts =>
   simp only at hz
   split at hz
   ·rename_i h10
    rw [List.take_succ_cons,List.take_zero,List.mem_singleton] at hz
    subst hz; left; omega
   ·simp at hz
 ·split at hz
  ·simp at hz
  ·exact .inr (tk _ _ _ z hz)
theorem zyL:kind 32≠2∧kind 32≠10∧kind 32≠11∧kind 32≠4∧kind 32≠9:=by decide +kernel
theorem zwz (a b:Int) {z:Pc} (h:z.r=32):zfZ a b (pcG z)=false:=by
 have hb:z.broken=false:=by unfold Pc.broken; rw [h]; rfl
 have hk:=zqu hb
 rw [h] at hk
 have hk:kdP (pcG z)=kind 32:=hk
 obtain ⟨k1,k2,_⟩:=zyL
 unfold zfZ
 rw [show (pcG z).Broken=false from hb,if_neg (by decide),if_neg (by rw [hk]; exact k1),if_neg (by show ¬ (z.r:Int)=8205; omega)]
 split
 ·rw [if_neg (by rw [hk]; exact k2)]
 ·rfl
theorem zwC {l:List UInt8} {p:Pc} (hp:p∈pcs l) (h:l[p.i+p.w - 1]?=some 32):p.w=1∧p.r=32:=by
 obtain ⟨h1,h2,h3⟩:=zfX l p hp
 have hd:(l.drop p.i)[p.w - 1]?=some 32:=by rw [List.getElem?_drop,show p.i+(p.w - 1)=p.i+p.w - 1 by omega]; exact h
 by_cases hbr:p.r=65533∧p.w=1
 ·exfalso
  rw [hbr.2] at hd
  have hl:l.drop p.i=32::l.drop (p.i+1):=by
   cases hx:l.drop p.i with
   | nil=>rw [hx] at hd; simp at hd
   | cons b r =>
    rw [hx] at hd
    have hb:b=32:=by simpa using hd
    rw [hb,← List.drop_drop,hx]; rfl
  have hdec:=zjJ 32 (.inl (by omega)) (l.drop (p.i+1))
  have he:encodeRune ((32:Nat):Int)=[32]:=by decide
  rw [he] at hdec
  have h4:=h3.eq
  rw [hl] at h4
  rw [show ([32]:List UInt8)++l.drop (p.i+1)=32::l.drop (p.i+1) from rfl] at hdec
  rw [hdec] at h4
  have:=(Prod.mk.inj h4).1
  omega
 ·have hby:=h3.bytes hbr
  have hw:=h3.width hbr
  have hget:(encodeRune (p.r:Int))[p.w - 1]?=some 32:=by rw [hby,List.getElem?_take_of_lt (by omega)]; exact hd
  rcases Nat.lt_or_ge p.r 128 with hr | hr
  ·have h5:=zrW p.r hr
   rw [h5] at hw hget
   have hw1:p.w=1:=by simpa using hw.symm
   refine ⟨hw1,?_⟩
   rw [hw1] at hget
   have h6:p.r.toUInt8=32:=by simpa using hget
   have h7:=congrArg UInt8.toNat h6
   have h8:p.r.toUInt8.toNat=p.r:=by simp; omega
   rw [h8] at h7; exact h7
  ·obtain ⟨_,_,h6⟩:=zrX p.r h3.valid hr
   have:=h6 32 (List.mem_of_getElem? hget)
   exact absurd this (by decide)
end Go.Proofs.YtbempdelckaccaaGreatDoor

namespace Go.Proofs.YtbempdelckaccaaGreatDoor
open Go.RowKit Go.Lib
set_option linter.unusedVariables false
set_option linter.unusedSimpArgs false
def zcH (n1:Int) (j1:(List Int)→Option ByteArray) (ag1:(List Int)→Int→Option ByteArray) (b4:List Int) (i3:Int):Option ByteArray :=
zax (decide ((i3:Int)<n1)) (
zak (zbF b4 i3) fun (q1:Int) =>
grd (I64 (i3+1)) <|
ag1 (b4.set (i3:Int).toNat 32) (i3+1)
) (
j1 b4
)
def zek (n1:Int):Option ByteArray :=
zbd (fun (j1:(List Int)→Option ByteArray) =>
grd (0≤n1∧n1≤2147483648) <|
zaF (fun _ _=>none) (zcH n1 j1) zbV (List.replicate (n1:Int).toNat 0:List Int) 0
) (fun (b1:List Int) =>
grd (∀ x∈b1,U8 x) <|
some (zf1 b1)
)
theorem zhx {n1:Int} {r:ByteArray} (h:zek n1=some r):FnP Tryz.prog 38 [zI n1] (.string r):=by
 unfold zek at h
 refine FnP.intro Tryz.func38 rfl Tryz.ntmps38 (by simp) ?_
 intro w0 K
 obtain ⟨j1,hj1,h⟩:=zbC h
 refine zaX (β:=(List Int)×Value) 2 rfl (fun b=>j1 b.1=some r) (fun b=>[]) (fun b=>[(3,b.2)]) (fun b=>[vec (znI (.u8)) 5 1 b.2 b.1]) (fun cut => ?_) ?_
 ·
  refine zyG (zyR 1 rfl (zyH (zyR 1 rfl ?_)))
  obtain ⟨hg1,h⟩:=zbl h
  refine zgh (z:=0) Tryz.underlying121 zy6 zy0 za6 rfl dc rfl hg1 (fun v2 => ?_)
  refine zyR 1 rfl (zyN (cut (zyG (zyR 1 rfl (zyN (zaD ?_))))))
  refine zbn (β:=Nat×(List Int)×Int) (fun b=>zaF (fun _ _=>none) (zcH n1 j1) b.1 b.2.1 b.2.2=some r) (fun b=>[]) (fun b=>[(0,zI n1),(3,v2),(4,zI b.2.2)]) (fun b=>[vec (znI (.u8)) 5 1 v2 b.2.1]) (fun b=>b.1) (zbV,(List.replicate (n1:Int).toNat 0:List Int),0) h rfl (za1 rfl) (zad [0] kr rfl) ?_
  rintro ⟨n2,b4,i3⟩ h
  cases n2 with
  | zero=>exact zdD h
  | succ n2 =>
   obtain ⟨ag1,hag1⟩:∃ ag,ag=zaF (fun _ _=>none) (zcH n1 j1) n2:=⟨_,rfl⟩
   have h:zcH n1 j1 ag1 b4 i3=some r:=by rw [hag1]; exact h
   unfold zcH at h
   refine zaK (zyG (zyR 2 rfl (zaU rfl zbf (zyN ?_))))
   refine zyB rfl h (fun h => ?_) (fun h => ?_)
   ·
    refine zat (zaL (zaK (zaD (zaw (zyR 2 rfl ?_)))))
    obtain ⟨q1,hq1,h⟩:=zbj h
    refine zan (k:=0) hq1 Tryz.underlying121 zyK rfl dc rfl rfl rfl rfl ?_
    refine zcc (i:=(i3:Int).toNat) (j:=0) (k:=0) (q:=q1) (q':=32) zyK za6 rfl rfl rfl rfl (zaC hq1) rfl dc rfl (fun _ _=>rfl) ?_
    refine zaO (zag (zaL (zaw (zyR 1 rfl ?_))))
    obtain ⟨hg2,h⟩:=zbl h
    refine zaU rfl (zaP (r:=i3+1) (IntWalk.i64_in _ hg2)) (zyR 1 rfl (zaO ?_))
    subst hag1
    exact za3 (n2,b4.set (i3:Int).toNat 32,i3+1) h (Nat.lt_succ_self _) rfl (za1 rfl) (zad [0] kr rfl)
   refine za2 (zal (zal (zau ?_)))
   exact zam (b4,v2) h rfl (za1 rfl) (zad [0] kr rfl)
 rintro ⟨b1,v1⟩ h
 rw [hj1] at h
 refine zyG (zyR 1 rfl ?_)
 obtain ⟨hg3,h⟩:=zbl h
 refine zps (k:=0) rfl (zoV hg3) ?_
 refine zlp (k:=0) rfl dc rfl rfl Tryz.underlying121 Tryz.underlying5 Tryz.underlying9 (zyR 1 rfl (zyN (zaH ?_)))
 cases h
 exact zaN (rs:=[.tmp 2]) () (.inl rfl) Tryz.results38 (.cons (.tmp rfl) .nil) rfl Splits.nil
end Go.Proofs.YtbempdelckaccaaGreatDoor

namespace Go.Proofs.YtbempdelckaccaaGreatDoor
open Go.RowKit Go.Lib
set_option linter.unusedVariables false
set_option linter.unusedSimpArgs false
def zee (j1:ByteArray→Option ByteArray) (ag1:Int→ByteArray→Option ByteArray) (n4:Int) (s4:ByteArray):Option ByteArray :=
zax (decide ((9:Int)<n4)) (
grd (I64 (Int.tdiv n4 10)) <|
grd (I64 (48+(Int.tmod (Int.tdiv n4 10) 10))) <|
grd (∀ x∈([IntKind.u8.wrap (48+(Int.tmod (Int.tdiv n4 10) 10))]:List Int),U8 x) <|
grd ((zf1 ([IntKind.u8.wrap (48+(Int.tmod (Int.tdiv n4 10) 10))]:List Int)).size+s4.size≤9223372036854775807) <|
ag1 (Int.tdiv n4 10) ((zf1 ([IntKind.u8.wrap (48+(Int.tmod (Int.tdiv n4 10) 10))]:List Int))++s4)
) (
j1 s4
)
def zgm (n1:Int):Option ByteArray :=
zbd (fun (j1:ByteArray→Option ByteArray) =>
grd (I64 (48+(Int.tmod n1 10))) <|
grd (∀ x∈([IntKind.u8.wrap (48+(Int.tmod n1 10))]:List Int),U8 x) <|
zaF (fun _ _=>none) (zee j1) zbV n1 (zf1 ([IntKind.u8.wrap (48+(Int.tmod n1 10))]:List Int))
) (fun (s1:ByteArray) =>
some s1
)
theorem zj8 {n1:Int} {r:ByteArray} (h:zgm n1=some r):FnP Tryz.prog 41 [zI n1] (.string r):=by
 unfold zgm at h
 refine FnP.intro Tryz.func41 rfl Tryz.ntmps41 (by simp) ?_
 intro w0 K
 obtain ⟨j1,hj1,h⟩:=zbC h
 refine zaX (β:=ByteArray) 2 rfl (fun b=>j1 b=some r) (fun b=>[]) (fun b=>[(3,.string b)]) (fun b=>[]) (fun cut => ?_) ?_
 ·
  refine zyG (zyR 1 rfl (zyH (zyR 1 rfl (zaU rfl (zny dc rfl) ?_))))
  obtain ⟨hg1,h⟩:=zbl h
  refine zaU rfl (zaP (r:=48+(Int.tmod n1 10)) (IntWalk.i64_in _ hg1)) (znD rfl dc rfl (zoD Tryz.underlying3 Tryz.underlying5) ?_)
  refine zaT (cs:=[.int .u8 (IntKind.u8.wrap (48+(Int.tmod n1 10)))]) (te:=5) (ps:=[(0,.tmp 7)]) rfl dc rfl (fun _=>by kernel_rfl) (fun b1 => ?_)
  refine zhV ([IntKind.u8.wrap (48+(Int.tmod n1 10))]:List Int) (k:=0) rfl za6 rfl (show 1≤maxLen by decide) ?_
  obtain ⟨hg2,h⟩:=zbl h
  refine zps (k:=0) rfl (zoV hg2) ?_
  refine zlp (k:=0) rfl dc rfl rfl Tryz.underlying121 Tryz.underlying5 Tryz.underlying9 (zyR 1 rfl (zyN (cut (zaD ?_))))
  refine zbn (β:=Nat×Int×ByteArray) (fun b=>zaF (fun _ _=>none) (zee j1) b.1 b.2.1 b.2.2=some r) (fun b=>[]) (fun b=>[(0,zI b.2.1),(3,.string b.2.2)]) (fun b=>[]) (fun b=>b.1) (zbV,n1,zf1 ([IntKind.u8.wrap (48+(Int.tmod n1 10))]:List Int)) h rfl (za1 rfl) Splits.nil ?_
  rintro ⟨n5,n4,s4⟩ h
  cases n5 with
  | zero=>exact zdD h
  | succ n5 =>
   obtain ⟨ag1,hag1⟩:∃ ag,ag=zaF (fun _ _=>none) (zee j1) n5:=⟨_,rfl⟩
   have h:zee j1 ag1 n4 s4=some r:=by rw [hag1]; exact h
   unfold zee at h
   refine zaK (zyG (zyR 1 rfl (zaU rfl zcl (zyN ?_))))
   refine zyB rfl h (fun h => ?_) (fun h => ?_)
   ·
    refine zat (zaL (zaD (zyG (zyR 1 rfl ?_))))
    obtain ⟨hg3,h⟩:=zbl h
    refine zaU rfl (zvf dc (IntWalk.i64_in _ hg3)) (zyR 1 rfl (zyN (zaw (zyR 1 rfl (zaU rfl (zny dc rfl) ?_)))))
    obtain ⟨hg4,h⟩:=zbl h
    refine zaU rfl (zaP (r:=48+(Int.tmod (Int.tdiv n4 10) 10)) (IntWalk.i64_in _ hg4)) (znD rfl dc rfl (zoD Tryz.underlying3 Tryz.underlying5) ?_)
    refine zaT (cs:=[.int .u8 (IntKind.u8.wrap (48+(Int.tmod (Int.tdiv n4 10) 10)))]) (te:=5) (ps:=[(0,.tmp 17)]) rfl dc rfl (fun _=>by kernel_rfl) (fun b2 => ?_)
    refine zhV ([IntKind.u8.wrap (48+(Int.tmod (Int.tdiv n4 10) 10))]:List Int) (k:=0) rfl za6 rfl (show 1≤maxLen by decide) ?_
    obtain ⟨hg5,h⟩:=zbl h
    refine zps (k:=0) rfl (zoV hg5) ?_
    refine zlp (k:=0) rfl dc rfl rfl Tryz.underlying121 Tryz.underlying5 Tryz.underlying9 (zyR 1 rfl ?_)
    obtain ⟨hg6,h⟩:=zbl h
    refine zaU rfl (zjf hg6) (zyR 1 rfl (zaO (zag ?_)))
    subst hag1
    exact za3 (n5,Int.tdiv n4 10,(zf1 ([IntKind.u8.wrap (48+(Int.tmod (Int.tdiv n4 10) 10))]:List Int))++s4) h (Nat.lt_succ_self _) rfl (za1 rfl) Splits.nil
   refine za2 (zal (zal (zau ?_)))
   exact zam s4 h rfl (za1 rfl) Splits.nil
 rintro s1 h
 rw [hj1] at h
 refine zyG (zyR 2 rfl (zyN (zaH ?_)))
 cases h
 exact zaN (rs:=[.tmp 2]) () (.inl rfl) Tryz.results41 (.cons (.tmp rfl) .nil) rfl Splits.nil
def zcX (j1:ByteArray→Option ByteArray) (ag1:ByteArray→Option ByteArray) (t4:ByteArray):Option ByteArray :=
zax (decide ((0:Int)<(t4.size:Int))) (
grd (I64 ((t4.size:Int) - 1)) <|
zak (ziT t4 ((t4.size:Int) - 1)) fun (c1:Int) =>
zax ((c1:Int)==32) (
grd (I64 ((t4.size:Int) - 1)) <|
grd (0≤(0:Int)∧(0:Int)≤((t4.size:Int) - 1)∧((t4.size:Int) - 1:Int)≤(t4.size:Int)) <|
ag1 (zbS t4 0 ((t4.size:Int) - 1))
) (
j1 t4
)
) (
j1 t4
)
def ze8 (r1:Gapi_Row) (width1:Int):Option ByteArray :=
zax (decide ((r1.Line:Int)<0)) (
some (⟨#[10]⟩:ByteArray)
) (
zbd (fun (j1:ByteArray→Option ByteArray) =>
zaF (fun _=>none) (zcX j1) zbV r1.Text
) (fun (t1:ByteArray) =>
zbd (fun (j2:ByteArray→Option ByteArray) =>
zak (zek r1.Indent) fun (r2:ByteArray) =>
grd (r2.size+t1.size≤9223372036854775807) <|
zax (decide ((0:Int)<r1.Number)) (
zbd (fun (j3:Int→Option ByteArray) =>
grd (I64 (width1 - r1.Indent)) <|
zak (zeD r1.Text) fun (r3:(List Gapi_Cell)) =>
zak (zcJ r1.Text r3) fun (r4:Int) =>
grd (I64 ((width1 - r1.Indent) - r4)) <|
zax (decide ((((width1 - r1.Indent) - r4):Int)<0)) (
j3 0
) (
j3 ((width1 - r1.Indent) - r4)
)
) (fun (lacks1:Int) =>
grd (I64 (lacks1+2)) <|
zak (zek (lacks1+2)) fun (r5:ByteArray) =>
grd ((r2++t1).size+r5.size≤9223372036854775807) <|
zak (zgm r1.Number) fun (r6:ByteArray) =>
grd (((r2++t1)++r5).size+r6.size≤9223372036854775807) <|
j2 (((r2++t1)++r5)++r6)
)
) (
j2 (r2++t1)
)
) (fun (s1:ByteArray) =>
grd (s1.size+(⟨#[10]⟩:ByteArray).size≤9223372036854775807) <|
some (s1++(⟨#[10]⟩:ByteArray))
)
)
)
theorem zm3 {r1:Gapi_Row} {width1:Int} {r:ByteArray} (h:ze8 r1 width1=some r):FnP Tryz.prog 12 [.agg (zr3 r1).toArray,zI width1] (.string r):=by
 unfold ze8 at h
 refine FnP.intro Tryz.func12 rfl Tryz.ntmps12 (by simp) ?_
 intro w0 K
 refine zyG ?_
 refine zdW rfl dc rfl (fun b1 => ?_)
 refine zyR 1 rfl (zyN (zaK (zyG (zab zin rfl dc rfl (show _=0 from rfl) (zaq (k:=0) zbp rfl dc rfl rfl rfl (zaU rfl zbf (zyN ?_)))))))
 refine zyB rfl h (fun h => ?_) (fun h => ?_)
 ·
  refine zyG (zyR 1 rfl (zyN (zaH (zav ?_))))
  cases h
  exact zaN (rs:=[.tmp 4]) () (.inl rfl) Tryz.results12 (.cons (.tmp rfl) .nil) rfl Splits.nil
 refine zat (zaL ?_)
 obtain ⟨j1,hj1,h⟩:=zbC h
 refine zaX (β:=ByteArray) 1 rfl (fun b=>j1 b=some r) (fun b=>[]) (fun b=>[(1,zI width1),(2,zP b1),(5,.string b)]) (fun b=>[cells b1 (zr3 r1) 33]) (fun cut => ?_) ?_
 ·
  refine zyG (zab znl rfl dc rfl (show _=5 from rfl) (zaq (k:=0) zoQ rfl dc rfl rfl rfl (zyR 1 rfl (zyN (cut (zaD ?_))))))
  refine zbn (β:=Nat×ByteArray) (fun b=>zaF (fun _=>none) (zcX j1) b.1 b.2=some r) (fun b=>[]) (fun b=>[(1,zI width1),(2,zP b1),(5,.string b.2)]) (fun b=>[cells b1 (zr3 r1) 33]) (fun b=>b.1) (zbV,r1.Text) h rfl (za1 rfl) (zad [0] kr rfl) ?_
  rintro ⟨n1,t4⟩ h
  cases n1 with
  | zero=>exact zdD h
  | succ n1 =>
   obtain ⟨ag1,hag1⟩:∃ ag,ag=zaF (fun _=>none) (zcX j1) n1:=⟨_,rfl⟩
   have h:zcX j1 ag1 t4=some r:=by rw [hag1]; exact h
   unfold zcX at h
   refine zaK (zyG (zyR 1 rfl (zbQ rfl dc rfl Tryz.underlying9 (zaU rfl zcl (zyR 1 rfl ?_)))))
   refine zyS (s:=16) rfl h (fun h => ?_) (fun h => ?_)
   ·
    refine zyR 2 rfl (zbQ rfl dc rfl Tryz.underlying9 ?_)
    obtain ⟨hg1,h⟩:=zbl h
    refine zaU rfl (zbi (r:=(t4.size:Int) - 1) (IntWalk.i64_in _ hg1)) ?_
    obtain ⟨c1,hq1,h⟩:=zbj h
    refine zcN rfl dc rfl rfl (zbm Tryz.underlying9 hq1) (zaU rfl zaV (zyR 1 rfl (zyN ?_)))
    refine zyB rfl h (fun h => ?_) (fun h => ?_)
    ·
     refine zat (zaL (zaD (zaw (zyR 2 rfl (zbQ rfl dc rfl Tryz.underlying9 ?_)))))
     obtain ⟨hg2,h⟩:=zbl h
     refine zaU rfl (zbi (r:=(t4.size:Int) - 1) (IntWalk.i64_in _ hg2)) ?_
     obtain ⟨hg3,h⟩:=zbl h
     refine zdn rfl dc rfl rfl rfl (zbN (i:=0) (j:=(t4.size:Int) - 1) Tryz.underlying9 (.inl ⟨rfl,rfl⟩) (.inr rfl) hg3) (zyR 1 rfl (zaO (zag ?_)))
     subst hag1
     exact za3 (n1,zbS t4 0 ((t4.size:Int) - 1)) h (Nat.lt_succ_self _) rfl (za1 rfl) (zad [0] kr rfl)
    refine za2 (zal (zal (zau ?_)))
    exact zam t4 h rfl (za1 rfl) (zad [0] kr rfl)
   refine zyR 7 rfl (zyN (zaQ rfl (za2 (zal (zal (zau ?_))))))
   exact zam t4 h rfl (za1 rfl) (zad [0] kr rfl)
 rintro t1 h
 rw [hj1] at h
 obtain ⟨j2,hj2,h⟩:=zbC h
 refine zaX (β:=ByteArray) 1 rfl (fun b=>j2 b=some r) (fun b=>[]) (fun b=>[(6,.string b)]) (fun b=>[]) (fun cut => ?_) ?_
 ·
  refine zyG (zab zjy rfl dc rfl (show _=3 from rfl) (zaq (k:=0) zbp rfl dc rfl rfl rfl ?_))
  obtain ⟨r2,hq2,h⟩:=zbj h
  refine zbh (v:=.string r2) (vs:=[zI r1.Indent]) rfl dc rfl rfl rfl zwI (zhx hq2) (zyR 1 rfl ?_)
  obtain ⟨hg4,h⟩:=zbl h
  refine zaU rfl (zjf hg4) (zyR 1 rfl (zyN (cut (zyG (zab znm rfl dc rfl (show _=4 from rfl) (zaq (k:=0) zbp rfl dc rfl rfl rfl (zaU rfl zcl (zyN ?_))))))))
  refine zyB rfl h (fun h => ?_) (fun h => ?_)
  ·
   obtain ⟨j3,hj3,h⟩:=zbC h
   refine zaX (β:=Int) 1 rfl (fun b=>j3 b=some r) (fun b=>[]) (fun b=>[(2,zP b1),(6,.string (r2++t1)),(7,zI b)]) (fun b=>[cells b1 (zr3 r1) 33]) (fun cut => ?_) ?_
   ·
    refine zaK ?_
    obtain ⟨hg5,h⟩:=zbl h
    obtain ⟨r3,hq3,h⟩:=zbj h
    obtain ⟨r4,hq4,h⟩:=zbj h
    obtain ⟨hg6,h⟩:=zbl h
    refine zgx 1 ?_
    refine let vals1:(Value)→List (Nat×Nat×Value):=fun b=>[(0,37,zI width1),(1,38,.pointer (some ⟨b1,3,none⟩)),(2,39,zI r1.Indent),(3,40,zI (width1 - r1.Indent)),(4,41,.pointer (some ⟨b1,5,none⟩)),(5,42,.string r1.Text),(6,43,.pointer (some ⟨b1,5,none⟩)),(7,44,.string r1.Text),(8,45,b),(9,46,zI r4)]; let LL1:(Nat→Prop)→(Value)→List Asn:=fun D b=>[cells b1 (zr3 r1) 33,eD D emp [(8,zv1 b r3)]]; ?_
    refine zdY (β:=Value) 10 (.slice none 0 0:Value) vals1 LL1 mixed kr kr dc (fun _=>rfl) (zac rfl (zac zbY rfl)) (zas ?_ (zas ?_ (zas ?_ (zas ?_ (zas ?_ (zas ?_ (zas ?_ (zas ?_ (zas ?_ (zas ?_ DrawG.nil)))))))))) ?_
    ·
     intro D b hn hd hcl
     revert b; intro v1
     refine zaG (zcS rfl) (ze4 rfl dc (zba (by rfl) rfl) ?_)
     exact zaM v1 0 (by rfl) (by rfl) rfl (zj4 rfl) (zac rfl (zac (zao (by rfl)) rfl))
    ·
     intro D b hn hd hcl
     revert b; intro v1
     refine zaG (zcS rfl) (zab zjy rfl dc (zba (by rfl) rfl) (show _=3 from rfl) ?_)
     exact zaM v1 1 (by rfl) (by rfl) rfl (zj4 rfl) (zac rfl (zac (zao (by rfl)) rfl))
    ·
     intro D b hn hd hcl
     revert b; intro v1
     refine zaG (zcS rfl) (zaq (k:=0) zbp rfl dc (zaa (m:=1) rfl rfl (hd 1 dc)) rfl rfl ?_)
     exact zaM v1 2 (by rfl) (by rfl) rfl (zj4 rfl) (zac rfl (zac (zao (by rfl)) rfl))
    ·
     intro D b hn hd hcl
     revert b; intro v1
     refine zaG (zcS rfl) (zbR rfl dc (zaa (m:=0) rfl rfl (hd 0 dc)) (zaa (m:=2) rfl rfl (hd 2 dc)) (zbi (r:=width1 - r1.Indent) (IntWalk.i64_in _ hg5)) ?_)
     exact zaM v1 3 (by rfl) (by rfl) rfl (zj4 rfl) (zac rfl (zac (zao (by rfl)) rfl))
    ·
     intro D b hn hd hcl
     revert b; intro v1
     refine zaG (zcS rfl) (zab znl rfl dc (zba (by rfl) rfl) (show _=5 from rfl) ?_)
     exact zaM v1 4 (by rfl) (by rfl) rfl (zj4 rfl) (zac rfl (zac (zao (by rfl)) rfl))
    ·
     intro D b hn hd hcl
     revert b; intro v1
     refine zaG (zcS rfl) (zaq (k:=0) zoQ rfl dc (zaa (m:=4) rfl rfl (hd 4 dc)) rfl rfl ?_)
     exact zaM v1 5 (by rfl) (by rfl) rfl (zj4 rfl) (zac rfl (zac (zao (by rfl)) rfl))
    ·
     intro D b hn hd hcl
     revert b; intro v1
     refine zaG (zac rfl (zac (zaj (fun hD=>hn (hcl 7 _ rfl (hcl 8 _ rfl hD 7 dc) 6 dc)) zap) rfl)) ?_
     refine zab znl rfl dc (zba (by rfl) rfl) (show _=5 from rfl) ?_
     exact zaM v1 6 (by rfl) (by rfl) rfl (zj4 rfl) (zac rfl (zac ((zao (by rfl)).trans (zaj (fun hD=>hn (hcl 7 _ rfl (hcl 8 _ rfl hD 7 dc) 6 dc)) zap)) rfl))
    ·
     intro D b hn hd hcl
     revert b; intro v1
     refine zaG (zac rfl (zac (zaj (fun hD=>hn (hcl 8 _ rfl hD 7 dc)) zap) rfl)) ?_
     refine zaq (k:=0) zoQ rfl dc (zaa (m:=6) rfl rfl (hd 6 dc)) rfl rfl ?_
     exact zaM v1 7 (by rfl) (by rfl) rfl (zj4 rfl) (zac rfl (zac ((zao (by rfl)).trans (zaj (fun hD=>hn (hcl 8 _ rfl hD 7 dc)) zap)) rfl))
    ·
     intro D b hn hd hcl
     revert b; intro _b
     refine zaG (zac rfl (zac (zaj hn zap) rfl)) (zdG (vs:=[.string r1.Text]) rfl dc rfl (evL.cons (zaa (m:=7) rfl rfl (hd 7 dc)) evL.nil) rfl zwH (zh7 hq3) Splits.nil ?_)
     rintro v1
     refine zdu (L':=[cells b1 (zr3 r1) 33,emp,zv1 v1 r3]) (zad [0,1,2] kr rfl) (zc2 1 rfl rfl ?_)
     exact zaM v1 8 (by rfl) (by rfl) rfl (zjm (zar (fun hD=>absurd hD hn) (zar (fun _=>rfl) rfl))) (zac rfl (zac (zaI (Or.inr rfl) rfl) rfl))
    ·
     intro D b hn hd hcl
     revert b; intro v1
     refine zaG (zac rfl (zac (zaI (hd 8 dc) rfl) rfl)) ?_
     refine zhU (k:=1) rfl (fun hw1 => ?_)
     refine zjj (v:=zI r4) (vs:=[.string r1.Text,v1]) rfl dc rfl (evL.cons (zaa (m:=5) rfl rfl (hd 5 dc)) (evL.cons (zaa (m:=8) rfl rfl (hd 8 dc)) evL.nil)) rfl zu2 (zfW hw1 hq4) [1] kr rfl ?_
     exact zaM v1 9 (by rfl) (by rfl) rfl (zj4 rfl) (zac rfl (zac ((zao (by rfl)).trans (zaI (hd 8 dc) rfl)) rfl))
    intro D b hall
    revert b; intro v1
    refine zaG (zac rfl (zac (zaI (hall 8 dc) rfl) rfl)) (zaU rfl (zbi (r:=(width1 - r1.Indent) - r4) (IntWalk.i64_in _ hg6)) (zyR 1 rfl (zyN (cut (zyG (zyR 1 rfl (zaU rfl zbf (zyN ?_))))))))
    refine zyB rfl h (fun h => ?_) (fun h => ?_)
    ·
     refine zaw (zyR 1 rfl (zaO ?_))
     exact zam 0 h rfl (za1 rfl) (zad [0] kr rfl)
    refine zat ?_
    exact zam ((width1 - r1.Indent) - r4) h rfl (za1 rfl) (zad [0] kr rfl)
   rintro lacks1 h
   rw [hj3] at h
   obtain ⟨hg7,h⟩:=zbl h
   obtain ⟨r5,hq5,h⟩:=zbj h
   obtain ⟨hg8,h⟩:=zbl h
   obtain ⟨r6,hq6,h⟩:=zbj h
   obtain ⟨hg9,h⟩:=zbl h
   refine zbG 8 [(0,50,.string (r2++t1)),(1,51,zI lacks1),(2,52,zI (lacks1+2)),(3,53,.string r5),(4,54,.string ((r2++t1)++r5)),(5,55,.pointer (some ⟨b1,4,none⟩)),(6,56,zI r1.Number),(7,57,.string r6)] mixed kr kr dc (by rfl) kr kr (zyP 2 0 rfl (zae ?_ (zae ?_ (zae ?_ (zae ?_ (zae ?_ (zae ?_ DrawPre.nil))))))) ?_
   · exact fun D n d c u i=>zbR rfl dc (zaa (m:=1) u rfl (d 1 dc)) rfl (zaP (r:=lacks1+2) (IntWalk.i64_in _ hg7)) (zaf 2 u i rfl)
   · exact fun D n d c u i=>zbh (v:=.string r5) (vs:=[zI (lacks1+2)]) rfl dc rfl (evL.cons (zaa (m:=2) u rfl (d 2 dc)) evL.nil) rfl zwI (zhx hq5) (zaf 3 u i rfl)
   · exact fun D n d c u i=>zbR rfl dc (zaa (m:=0) u rfl (d 0 dc)) (zaa (m:=3) u rfl (d 3 dc)) (zjf hg8) (zaf 4 u i rfl)
   · exact fun D n d c u i=>zab znm rfl dc (zba (by rfl) rfl) (show _=4 from rfl) (zaf 5 u i rfl)
   · exact fun D n d c u i=>zaq (k:=0) zbp rfl dc (zaa (m:=5) u rfl (d 5 dc)) rfl rfl (zaf 6 u i rfl)
   · exact fun D n d c u i=>zbh (v:=.string r6) (vs:=[zI r1.Number]) rfl dc rfl (evL.cons (zaa (m:=6) u rfl (d 6 dc)) evL.nil) rfl zx7 (zj8 hq6) (zaf 7 u i rfl)
   refine zaU rfl (zjf hg9) (zyR 1 rfl (zaO ?_))
   exact zam (((r2++t1)++r5)++r6) h rfl (za1 rfl) Splits.nil
  refine zat ?_
  exact zam (r2++t1) h rfl (za1 rfl) Splits.nil
 rintro s1 h
 rw [hj2] at h
 refine zyG (zyR 1 rfl ?_)
 obtain ⟨hg10,h⟩:=zbl h
 refine zaU rfl (zjf hg10) (zyR 1 rfl (zyN (zaH ?_)))
 cases h
 exact zaN (rs:=[.tmp 4]) () (.inl rfl) Tryz.results12 (.cons (.tmp rfl) .nil) rfl Splits.nil
end Go.Proofs.YtbempdelckaccaaGreatDoor

namespace Go.Proofs.YtbempdelckaccaaGreatDoor
open Go.RowKit Go.Lib
set_option linter.unusedVariables false
set_option linter.unusedSimpArgs false
def zcK (x1:Gapi_Cell) (ag1:Int→Option Int) (n4:Int):Option Int :=
grd (I64 (n4+x1.Columns)) <|
ag1 (n4+x1.Columns)
def zdt (s1:ByteArray):Option Int :=
zbd (fun (j1:Int→Option Int) =>
zak (zeT s1) fun (r1:ByteArray) =>
zak (zdh r1) fun (its1:(List Gapi_Cell)) =>
zbd (fun (dn1:Int→Option Int) =>
zcD dn1 (zcK) its1 0
) (fun (n4:Int) =>
j1 n4
)
) (fun (n1:Int) =>
some n1
)
theorem zgF {s1:ByteArray} {r:Int} (h:zdt s1=some r):FnP Tryz.prog 13 [.string s1] (zI r):=by
 unfold zdt at h
 refine FnP.intro Tryz.func13 rfl Tryz.ntmps13 (by simp) ?_
 intro w0 K
 refine zjk ?_
 obtain ⟨j1,hj1,h⟩:=zbC h
 refine zaX (β:=Int×Nat×(List Nat)) 2 rfl (fun b=>j1 b.1=some r) (fun b=>zgL b.2.2) (fun b=>[(3,zP b.2.1)]) (fun b=>[cells b.2.1 [zI b.1] 3,zj6 ((b.2.2:List Nat).map zoi)]) (fun cut => ?_) ?_
 ·
  refine zyG (zyR 1 rfl (zyH ?_))
  refine zbk zui rfl dc (fun b2 => ?_)
  refine zaS (k:=1) (l':=[zI 0]) zdb rfl rfl rfl rfl rfl (fun _ _=>rfl) rfl ?_
  refine zyN (cut (zyG (zyR 1 rfl ?_)))
  obtain ⟨r1,hq1,h⟩:=zbj h
  refine zdG (vs:=[.string s1]) rfl dc rfl rfl rfl zu6 (zgt hq1) Splits.nil ?_
  rintro b3
  refine zyN (zaD ?_)
  obtain ⟨its1,hq2,h⟩:=zbj h
  obtain ⟨dn1,hdn1,h⟩:=zbC h
  refine znE (α:=Gapi_Cell) (β:=Int) (γ:=Unit) (δ:=Nat) (ps:=[7]) Ro.nil rfl zu5 (zfr hq2) (fun pre b=>∀ post,its1=pre++post→zcD dn1 (zcK) post b=some r) (fun pre b=>[cells b2 [zI b] 3]) (fun c pre g=>False) (fun c pre g=>[]) (fun pre x b j=>[(2,zI 0),(3,zP b2),(6,.func (.func 33) #[] #[zP b3]),(4,zP j)]) (fun pre x b j=>[cells b2 [zI b] 3,cells j (zr1 x) 40]) 0 (fun post e=>by rw [List.nil_append] at e; subst e; exact h) (zad [1] kr rfl) ⟨.inl ⟨2,rfl⟩,trivial⟩ (fun _=>rfl) dc ?_ ?_ ?_ ?_
  ·
   rintro lp rc pre x1 post n4 w1 K1 hxs1 hext hro hinv
   refine zaw ?_
   refine zbk zqM rfl dc (fun b4 => ?_)
   refine zaZ (k:=1) (vs:=(zr1 x1)) (l':=(zr1 x1)) zgV rfl rfl rfl rfl rfl (show _≤_ by simp) rfl rfl ?_
   refine zaO ?_
   exact fun a w ha hw=>⟨b4,(za1 rfl) _ _ _ ha,hw.weaken (zad [0,1] kr rfl)⟩
  ·
   rintro lp rc pre x1 post1 n4 jb1 w1 K1 hxs1 hext hro hinv
   have h:=hinv (x1::post1) hxs1
   obtain ⟨ag1,hag1⟩:∃ ag,ag=zcD dn1 (zcK) post1:=⟨_,rfl⟩
   have h:zcK x1 ag1 n4=some r:=by rw [hag1]; exact h
   unfold zcK at h
   refine zaD (zaw (zaq (k:=0) zbp rfl dc rfl rfl rfl (zab zgr rfl dc rfl (show _=2 from rfl) (zaq (k:=1) zbp rfl dc rfl rfl rfl ?_))))
   obtain ⟨hg1,h⟩:=zbl h
   refine zaU rfl (zaP (r:=n4+x1.Columns) (IntWalk.i64_in _ hg1)) ?_
   refine zaS (k:=0) (l':=[zI (n4+x1.Columns)]) zdb rfl rfl rfl rfl rfl (fun _ _=>rfl) rfl ?_
   refine zaO (zag ?_)
   exact zeY (n4+x1.Columns) (fun post2 e2=>by have e9:=zec hxs1 e2; subst e9; subst hag1; exact h) (zad [0] kr rfl)
  ·
   rintro dm1 n4 hinv
   have h:dn1 n4=some r:=hinv [] (List.append_nil _).symm
   rw [hdn1] at h
   refine zgw (k:=4) (j:=0) rfl rfl dc ?_
   refine zag ?_
   exact zam (n4,b2,dm1::([]:List Nat)) h rfl (za1 rfl) (zad [3,0] kr rfl)
  rintro dm1 c pre x1 post g hxs hX
  exact (show False from hX).elim
 rintro ⟨n1,b1,ds1⟩ h
 rw [hj1] at h
 refine zyG (zaq (k:=0) zbp rfl dc rfl rfl rfl (zyR 1 rfl (zyN (zaH ?_))))
 cases h
 exact zfF (rs:=[.tmp 2]) ds1 () (.inl rfl) (zb4 (k:=1) rfl) Tryz.results13 (.cons (.tmp rfl) .nil) rfl Splits.nil
end Go.Proofs.YtbempdelckaccaaGreatDoor

namespace Go.Proofs.YtbempdelckaccaaGreatDoor
open Go.RowKit Go.Lib
set_option linter.unusedVariables false
set_option linter.unusedSimpArgs false
theorem zkl {T:List UInt8} {i:Nat} {b:UInt8} (h:T[i]?=some b):ziT (mkB T) (i:Int)=some (b.toNat:Int):=by
 obtain ⟨hl,he⟩:=List.getElem?_eq_some_iff.1 h
 have hd:T.drop i=b::T.drop (i+1):=by rw [List.drop_eq_getElem_cons hl,he]
 exact (zf0 (s:=mkB T) hd).1
theorem zuo {s:ByteArray} {k:Nat} {c:zd8} (h:(zah s)[k]?=some c) (hs:spB s c=true):stN s (k+1)=stN s k+1∧s.data.toList[(stN s k).toNat]?=some 32:=by
 obtain ⟨h1,h2,h3,h4,h5⟩:=zh5 s h
 unfold spB at hs
 split at hs
 ·rename_i e
  refine ⟨by omega,?_⟩
  have hl:c.Span_From.toNat<s.data.toList.length:=by rw [ze5]; omega
  have hg:=zkl (T:=s.data.toList) (List.getElem?_eq_getElem hl)
  rw [show ((c.Span_From.toNat:Nat):Int)=c.Span_From by omega,zo9] at hg
  rw [hg] at hs
  rw [h1,List.getElem?_eq_getElem hl]
  have h6:((s.data.toList[c.Span_From.toNat].toNat:Int))=32:=by simpa using hs
  congr 1
  apply UInt8.toNat_inj.1
  show _=32
  omega
 ·cases hs
theorem ztP {s:ByteArray} (e:Nat):∀ (d:Nat),(∀ j,e≤j→j<e+d→∃ c,(zah s)[j]?=some c∧spB s c=true)→stN s (e+d)=stN s e+d∧∀ i,i<d→s.data.toList[(stN s e).toNat+i]?=some 32
 | 0,h=>⟨by show stN s e=stN s e+(0:Int); omega,fun i hi=>by omega⟩
 | d+1,h=>by
  obtain ⟨h1,h2⟩:=ztP e d (fun j a b=>h j a (by omega))
  obtain ⟨c,hc,hs⟩:=h (e+d) (by omega) (by omega)
  obtain ⟨h3,h4⟩:=zuo hc hs
  obtain ⟨g1,g2,g3,_⟩:=zh5 s hc
  have hle:=(zh5 s hc).2.2.1
  have he:0≤stN s e:=by
   unfold stN; split
   ·rename_i c' hc'; exact (zh5 s hc').2.2.1
   ·omega
  refine ⟨by rw [show e+(d+1)=e+d+1 by omega,h3,h1]; push_cast; omega,fun i hi => ?_⟩
  by_cases hid:i<d
  ·exact h2 i hid
  ·obtain rfl:i=d:=by omega
   rw [show (stN s e).toNat+i=(stN s (e+i)).toNat by omega]; exact h4
theorem zuB {s:ByteArray} {f t:Nat} (hf:f≤t) (ht:t≤(zah s).length) {TA T1 T2 TD:List Tok} (h:RowT s f (max f (eN (spB s) ((zah s).take t))) t TA T1 T2 TD) :
  zcG T2=List.replicate (zcG T2).length 32∧∀ b,(zcG T1).getLast?=some b→b≠32:=by
 have hl:=zhB s.data.toList
 rw [h.all] at hl
 have hle:=zlQ (spB s) ((zah s).take t)
 rw [List.length_take,Nat.min_eq_left ht] at hle
 generalize he:max f (eN (spB s) ((zah s).take t))=e at h
 have het:e≤t:=by omega
 have hall:=zqa (spB s) e ((zah s).take t)
 rw [decide_eq_true (by omega)] at hall
 have hsp:∀ j,e≤j→j<e+(t - e)→∃ c,(zah s)[j]?=some c∧spB s c=true:=by
  intro j h1 h2
  have hx:(zah s)[j]?=some (zah s)[j]:=List.getElem?_eq_getElem (by omega)
  refine ⟨_,hx,List.all_eq_true.1 hall _ ?_⟩
  refine List.mem_of_getElem? (i:=j - e) ?_
  rw [List.getElem?_drop,show e+(j - e)=j by omega,List.getElem?_take_of_lt (by omega)]; exact hx
 obtain ⟨h1,h2⟩:=ztP e (t - e) hsp
 rw [show e+(t - e)=t by omega] at h1
 have h3:=h.se
 have h4:=h.st
 have hlen:(zcG T2).length=t - e:=by
  rw [h3,h4] at h1
  simp only [zbq,List.length_append] at h1
  omega
 constructor
 ·rw [hlen]
  refine List.eq_replicate_iff.2 ⟨hlen,fun b hb => ?_⟩
  obtain ⟨i,hi⟩:=List.getElem?_of_mem hb
  have hil:i<(zcG T2).length:=(List.getElem?_eq_some_iff.1 hi).1
  have h5:=h2 i (by omega)
  rw [h3,← hl] at h5
  have e6:(zcG (TA++T1++T2++TD))[((((zcG (TA++T1)).length:Nat):Int)).toNat+i]?=(zcG T2)[i]?:=by
   rw [show zcG (TA++T1++T2++TD)=zcG (TA++T1)++(zcG T2++zcG TD) by simp [zbq],List.getElem?_append_right (by omega),List.getElem?_append_left (by omega)]
   congr 1; omega
  rw [e6,hi] at h5
  exact Option.some.inj h5
 ·intro b hb hb32
  subst hb32
  have hne:zcG T1≠[]:=by intro e0; rw [e0] at hb; cases hb
  have hfe:f<e:=by
   rcases Nat.lt_or_ge f e with h | h'
   ·exact h
   ·exfalso
    have:f=e:=by omega
    have h5:=h.sf
    rw [this,h3] at h5
    simp only [zbq,List.length_append] at h5
    have:0<(zcG T1).length:=List.length_pos_iff.2 hne
    omega
  have hns:∃ c,(zah s)[e - 1]?=some c∧spB s c=false:=by
   have hx:(zah s)[e - 1]?=some (zah s)[e - 1]:=List.getElem?_eq_getElem (by omega)
   refine ⟨_,hx,?_⟩
   have hall2:=zqa (spB s) (e - 1) ((zah s).take t)
   rw [decide_eq_false (by omega),List.drop_eq_getElem_cons (by rw [List.length_take]; omega),List.all_cons,show e - 1+1=e by omega,hall,Bool.and_true] at hall2
   rw [List.getElem_take] at hall2
   exact hall2
  obtain ⟨c,hc,hcs⟩:=hns
  obtain ⟨g1,g2,g3,g4,g5⟩:=zh5 s hc
  rw [show e - 1+1=e by omega] at g2
  have hbyte:s.data.toList[(stN s e).toNat - 1]?=some 32:=by
   have h0:0<(zcG T1).length:=List.length_pos_iff.2 hne
   rw [h3,← hl,show zcG (TA++T1++T2++TD)=zcG TA++(zcG T1++(zcG T2++zcG TD)) by simp [zbq],List.getElem?_append_right (by simp only [zbq,List.length_append]; omega),List.getElem?_append_left (by simp only [zbq,List.length_append]; omega)]
   rw [List.getLast?_eq_getElem?] at hb
   rw [← hb]
   congr 1
   simp only [zbq,List.length_append]; omega
  obtain ⟨A,X1,a1,a2,a3⟩:=zgu _ (pcs s.data.toList) (Nat.le_refl _) (e - 1) (by show e - 1≤(zah s).length; omega)
  have a3:zdk (X1.map pcG)=(zah s).drop (e - 1):=a3
  cases X1 with
  | nil =>
   have:=congrArg List.length a3
   rw [List.length_drop] at this
   have h9:((zdk (([]:List Pc).map pcG)).length)=0:=rfl
   omega
  | cons x ts =>
   have h0:=congrArg (fun l=>l[0]?) a3
   simp only [List.getElem?_drop,Nat.add_zero] at h0
   rw [hc,zfs] at h0
   have h0:(⟨x.i,zrV ((x.i:Int)+(x.w:Int)) (ts.take (nTk x ts)),zme (zfV (pcG x)) (ts.take (nTk x ts))⟩:zd8)=c:=by simpa using h0
   obtain ⟨z,z1,z2⟩:=zmP (ts.take (nTk x ts)) [] x
   have hTo:c.Span_To=(z.i:Int)+(z.w:Int):=by rw [← h0,z2]
   have hFr:c.Span_From=(x.i:Int):=by rw [← h0]
   have hzm:z∈x::ts.take (nTk x ts):=List.mem_of_getElem? z1
   have hzp:z∈pcs s.data.toList:=by
    rw [a1]
    refine List.mem_append_right _ ?_
    rcases List.mem_cons.1 hzm with rfl | hz
    ·exact List.mem_cons_self ..
    ·exact List.mem_cons_of_mem _ (List.mem_of_mem_take hz)
   obtain ⟨w1,w2⟩:=zwC hzp (by rw [show z.i+z.w - 1=(stN s e).toNat - 1 by omega]; exact hbyte)
   by_cases hseg:ts.take (nTk x ts)=[]
   ·rw [hseg] at z1
    have hzx:x=z:=by simpa using z1
    subst hzx
    have:spB s c=true:=by
     unfold spB
     rw [if_pos (by omega)]
     have hg:=zkl (T:=s.data.toList) hbyte
     rw [show ((((stN s e).toNat - 1:Nat)):Int)=c.Span_From by omega,zo9] at hg
     rw [hg]; rfl
    rw [this] at hcs; cases hcs
   ·have hzt:z∈ts.take (nTk x ts):=by
     have hp:0<(ts.take (nTk x ts)).length:=List.length_pos_iff.2 hseg
     rw [List.nil_append,List.length_nil,Nat.zero_add] at z1
     obtain ⟨m,hm⟩:∃ m,(ts.take (nTk x ts)).length=m+1:=⟨_,(Nat.succ_pred_eq_of_pos hp).symm⟩
     rw [hm,List.getElem?_cons_succ] at z1
     exact List.mem_of_getElem? z1
    rcases zrC x ts z hzt with h10 | ⟨a,b,hj⟩
    ·omega
    ·rw [zwz a b w2] at hj; cases hj
end Go.Proofs.YtbempdelckaccaaGreatDoor

namespace Go.Proofs.YtbempdelckaccaaGreatDoor
open Go.RowKit Go.Lib
set_option linter.unusedVariables false
set_option linter.unusedSimpArgs false
def Zb (p:Pc):Bool:=!p.broken&&(decide (kdP (pcG p)=2)||decide (p.r=8205))
theorem zpR {h:Int} (hh:h≠10) (l:Int) (p:Pc):zfZ h l (pcG p)=Zb p:=by
 unfold zfZ Zb
 rw [show (pcG p).Broken=p.broken from rfl,show (pcG p).Rune=(p.r:Int) from rfl]
 cases p.broken with
 | true=>rfl
 | false =>
  rw [if_neg (by decide)]
  by_cases h2:kdP (pcG p)=2
  ·rw [if_pos h2,decide_eq_true h2]; rfl
  ·rw [if_neg h2,decide_eq_false h2]
   by_cases hr:p.r=8205
   ·rw [if_pos (by omega),decide_eq_true hr]; rfl
   ·rw [if_neg (by omega),if_neg hh,decide_eq_false hr]; rfl
theorem kzw:(kind 8205=2∨kind 8205=4∨kind 8205=9)∧kind 8205≠10∧zlC 32=false:=by decide +kernel
theorem zvi {p:Pc} (h:Zb p=true):zfV (pcG p)=0∧p.r≠13∧kdP (pcG p)≠10:=by
 unfold Zb at h
 rw [Bool.and_eq_true,Bool.or_eq_true] at h
 obtain ⟨h1,h2⟩:=h
 have hb:p.broken=false:=by simpa using h1
 have hk:=zqu hb
 obtain ⟨k1,k2,_⟩:=kzw
 have key:(kdP (pcG p)=2∨kdP (pcG p)=4∨kdP (pcG p)=9)∧p.r≠13:=by
  rcases h2 with h2 | h2
  ·have h2:kdP (pcG p)=2:=of_decide_eq_true h2
   refine ⟨.inl h2,fun e => ?_⟩
   have:=zwx (p:=p) (.inl (by omega))
   omega
  ·have h2:p.r=8205:=of_decide_eq_true h2
   rw [h2] at hk
   have hk:kdP (pcG p)=kind 8205:=hk
   exact ⟨by rw [hk]; exact k1,by omega⟩
 refine ⟨?_,key.2,by omega⟩
 unfold zfV
 rw [if_neg (by omega),if_pos key.1]
theorem zkU:∀ (zs:List Pc) (c:Int),0≤c→(∀ z∈zs,zfV (pcG z)=0)→zme c zs=c
 | [],c,_,_=>rfl
 | z::zs,c,hc,h=>by
  show zme (max c (zfV (pcG z))) zs=c
  rw [h z (List.mem_cons_self ..),show max c 0=c by omega]
  exact zkU zs c hc (fun x hx=>h x (List.mem_cons_of_mem _ hx))
theorem zxn {h:Int} (hh:h≠10) (rest:List Pc) (hr:∀ y∈rest.head?,Zb y=false):∀ (zs:List Pc) (l:Pc),(∀ z∈zs,Zb z=true)→tkN h l (zs++rest)=zs.length
 | [],l,_=>by
  cases rest with
  | nil=>rfl
  | cons y r =>
   rw [List.nil_append,zfI,zpR hh,hr y (by simp),if_neg (by decide)]; rfl
 | z::zs,l,hz=>by
  rw [List.cons_append,zfI,zpR hh,hz z (List.mem_cons_self ..),if_pos rfl,zxn hh rest hr zs z (fun x hx=>hz x (List.mem_cons_of_mem _ hx))]; rfl
theorem zvK (rest:List Pc) (hr:∀ y∈rest.head?,Zb y=false):∀ (zs:List Pc),(∀ z∈zs,Zb z=true)→(zho (zs++rest)).sum=(zho rest).sum
 | [],_=>rfl
 | z::zs,hz=>by
  have hz':=fun x hx=>hz x (List.mem_cons_of_mem _ hx)
  obtain ⟨z1,z2,z3⟩:=zvi (hz z (List.mem_cons_self ..))
  rw [List.cons_append,zhS]
  have hn:nTk z (zs++rest)=0∨nTk z (zs++rest)=zs.length:=by
   unfold nTk
   rw [if_neg (by omega)]
   split
   ·exact .inl rfl
   ·exact .inr (zxn z3 rest hr zs z hz')
  rcases hn with hn | hn
  ·rw [hn,List.take_zero,List.drop_zero,List.sum_cons,zvK rest hr zs hz',z1]
   show (0:Int)+_=_
   omega
  ·rw [hn,List.take_left' rfl,List.drop_left' rfl,List.sum_cons,z1,zkU zs 0 (Int.le_refl _) (fun x hx=>(zvi (hz' x hx)).1)]
   omega
theorem zvZ (x:Pc) (hx:x.r=32) (ts:List Pc):(zho (x::ts)).sum=1+(zho ts).sum:=by
 have hb:x.broken=false:=by unfold Pc.broken; rw [hx]; rfl
 have hk:=zqu hb
 rw [hx] at hk
 have hk:kdP (pcG x)=kind 32:=hk
 obtain ⟨k1,k2,k3,k4,k5⟩:=zyL
 have hc:zfV (pcG x)=1:=by
  unfold zfV
  rw [hk,if_neg k3,if_neg (by omega),show (pcG x).Rune=32 by show (x.r:Int)=32; omega,kzw.2.2,if_neg (by decide)]
 have hsp:ts=ts.takeWhile Zb++ts.dropWhile Zb:=List.takeWhile_append_dropWhile.symm
 have hz:∀ z∈ts.takeWhile Zb,Zb z=true:=fun z hz=>by
  have:=List.all_takeWhile (p:=Zb) (l:=ts)
  exact List.all_eq_true.1 this z hz
 have hr:∀ y∈(ts.dropWhile Zb).head?,Zb y=false:=fun y hy=>by
  have:=List.head?_dropWhile_not Zb ts
  rw [Option.mem_def] at hy
  rw [hy] at this
  simpa using this
 generalize ts.takeWhile Zb=zs at hsp hz
 generalize ts.dropWhile Zb=rest at hsp hr
 subst hsp
 have hn:nTk x (zs++rest)=zs.length:=by
  unfold nTk
  rw [if_neg (by omega),if_neg (by rw [hk]; intro h; rcases h with h | h | h <;> omega),zxn (by rw [hk]; exact k2) rest hr zs x hz]
 rw [zhS,hn,List.take_left' rfl,List.drop_left' rfl,List.sum_cons,hc,zkU zs 1 (by decide) (fun z h=>(zvi (hz z h)).1),zvK rest hr zs hz]
def spT:Tok:=⟨32,[32]⟩
theorem zq5 (T:List Tok):∀ (n i:Nat),(zho (place i (List.replicate n spT++T))).sum=n+(zho (place 0 T)).sum
 | 0,i=>by
  rw [List.replicate_zero,List.nil_append,zir T i 0]
  show _=(0:Int)+_
  omega
 | n+1,i=>by
  rw [List.replicate_succ,List.cons_append]
  show (zho ((⟨i,1,32⟩:Pc)::place (i+1) (List.replicate n spT++T))).sum=_
  rw [zvZ _ rfl,zq5 T n (i+1)]
  push_cast; omega
theorem zsH (n:Nat) (x:List UInt8):zht (List.replicate n 32++x)=List.replicate n spT++zht x:=by
 have hv:∀ t∈List.replicate n spT,t.valid:=fun t ht=>by
  rw [(List.mem_replicate.1 ht).2]
  exact ⟨.inl (by decide),by decide⟩
 have:=zkx hv x
 have hf:∀ n,zcG (List.replicate n spT)=List.replicate n 32:=by
  intro n
  induction n with
  | zero=>rfl
  | succ n ih=>rw [List.replicate_succ,zfk,ih,List.replicate_succ]; rfl
 rw [hf] at this
 exact this
theorem zqE (n:Nat) (x:List UInt8):zc8 (zah (mkB (List.replicate n 32++x)))=n+(zho (place 0 (zht x))).sum:=by
 show ((zah (mkB (List.replicate n 32++x))).map (·.Columns)).sum=_
 rw [zmq,zgZ,zsH,zq5]
theorem zp7 (dn:Int→Option Int):∀ (its:List zd8) (n:Int),(∀ c∈its,0≤c.Columns∧c.Columns≤2)→0≤n∧n+2*its.length≤1000000→zcD dn zcK its n=dn (n+zc8 its)
 | [],n,_,_=>by rw [zqA,Int.add_zero]; rfl
 | c::its,n,hc,hn=>by
  have h1:=hc c (List.mem_cons_self ..)
  rw [List.length_cons] at hn
  show (grd (I64 (n+c.Columns))<|zcD dn zcK its (n+c.Columns))=_
  refine zbo ⟨by omega,by omega⟩ ?_
  rw [zp7 dn its (n+c.Columns) (fun x hx=>hc x (List.mem_cons_of_mem _ hx)) ⟨by omega,by omega⟩]
  congr 1
  show n+c.Columns+(its.map (·.Columns)).sum=n+((c::its).map (·.Columns)).sum
  rw [List.map_cons,List.sum_cons]; omega
theorem zsu (s:ByteArray) (hs:s.size≤100000):zdt s=some (zc8 (zah s)):=by
 unfold zdt
 have hl:=zge s
 refine zbs (zaJ rfl (zaJ (zsb s (by omega)) (zbs ?_)))
 refine (zp7 _ (zah s) 0 (fun c hc=>((zhI s c hc).2.2.2)) ⟨Int.le_refl _,by omega⟩).trans ?_
 show some (0+_)=_
 rw [Int.zero_add]
theorem znN (X:List UInt8) (hX:∀ b,X.getLast?=some b→b≠32) (j:ByteArray→Option ByteArray):∀ (k m:Nat),X.length+k≤100000→k<m→zaF (fun _=>none) (zcX j) m (mkB (X++List.replicate k 32))=j (mkB X)
 | 0,m,hl,hm=>by
  obtain ⟨m,rfl⟩:∃ q,m=q+1:=⟨m - 1,by omega⟩
  rw [zct,List.replicate_zero,List.append_nil]
  generalize zaF (fun _=>none) (zcX j) m=ag
  unfold zcX
  rcases List.eq_nil_or_concat X with rfl | ⟨D,b,rfl⟩
  ·exact zay rfl rfl
  ·rw [List.concat_eq_append] at hX hl ⊢
   have hb:=hX b (by simp)
   have hsz:(mkB (D++[b])).size=D.length+1:=by rw [zbb]; simp
   have hg:=zkl (T:=D++[b]) (i:=D.length) (b:=b) (by simp)
   rw [show (D.length:Int)=((mkB (D++[b])).size:Int) - 1 by omega] at hg
   rw [List.length_append] at hl
   refine zaz (decide_eq_true (by omega)) (zbo ⟨by omega,by simp at hl; omega⟩ (zaJ hg (zay (zgN ?_) rfl)))
   intro e
   exact hb (UInt8.toNat_inj.1 (by show b.toNat=32; omega))
 | k+1,m,hl,hm=>by
  obtain ⟨m,rfl⟩:∃ q,m=q+1:=⟨m - 1,by omega⟩
  rw [zct]
  have ih:=znN X hX j k m (by omega) (by omega)
  generalize zaF (fun _=>none) (zcX j) m=ag at ih ⊢
  have he:X++List.replicate (k+1) 32=(X++List.replicate k 32)++[32]:=by rw [List.replicate_succ',List.append_assoc]
  have hsz:(mkB (X++List.replicate (k+1) 32)).size=X.length+k+1:=by rw [zbb]; simp; omega
  have hg:=zkl (T:=X++List.replicate (k+1) 32) (i:=X.length+k) (b:=32) (by rw [he]; simp)
  rw [show ((X.length+k:Nat):Int)=((mkB (X++List.replicate (k+1) 32)).size:Int) - 1 by omega] at hg
  have hcut:=zjK (X++List.replicate (k+1) 32) 0 (X.length+k)
  rw [List.drop_zero,Nat.sub_zero,he,List.take_left' (by simp),← he,show ((X.length+k:Nat):Int)=((mkB (X++List.replicate (k+1) 32)).size:Int) - 1 by omega] at hcut
  unfold zcX
  refine zaz (decide_eq_true (by omega)) (zbo ⟨by omega,by omega⟩ (zaJ hg (zaz rfl (zbo ⟨by omega,by omega⟩ (zbo ⟨Int.le_refl _,by omega,by omega⟩ ?_)))))
  rw [show (0:Int)=((0:Nat):Int) from rfl,hcut]; exact ih
theorem zoH (n:Nat) (hn:n≤100000) (j:List Int→Option ByteArray):∀ (d i m:Nat),i+d=n→d<m→zaF (fun _ _=>none) (zcH (n:Int) j) m (List.replicate i 32++List.replicate d 0) (i:Int)=j (List.replicate n 32)
 | 0,i,m,hi,hm=>by
  obtain ⟨m,rfl⟩:∃ q,m=q+1:=⟨m - 1,by omega⟩
  rw [zct]
  unfold zcH
  refine zay (decide_eq_false (by omega)) ?_
  rw [List.replicate_zero,List.append_nil,show i=n by omega]
 | d+1,i,m,hi,hm=>by
  obtain ⟨m,rfl⟩:∃ q,m=q+1:=⟨m - 1,by omega⟩
  rw [zct]
  have ih:=zoH n hn j d (i+1) m (by omega) (by omega)
  rw [show ((i+1:Nat):Int)=(i:Int)+1 by omega] at ih
  generalize zaF (fun _ _=>none) (zcH (n:Int) j) m=ag at ih ⊢
  unfold zcH
  refine zaz (decide_eq_true (by omega)) (zaJ (zes (q:=0) (by rw [List.getElem?_append_right (by simp)]; simp)) (zbo ⟨by omega,by omega⟩ ?_))
  rw [Int.toNat_natCast,List.set_append_right _ _ (by simp),List.length_replicate,Nat.sub_self,List.replicate_succ,List.set_cons_zero]
  rw [List.replicate_succ',List.append_assoc] at ih
  exact ih
theorem ztr (n:Nat) (hn:n≤100000):zek (n:Int)=some (mkB (List.replicate n 32)):=by
 unfold zek
 refine zbs (zbo ⟨by omega,by omega⟩ ?_)
 have:=zoH n hn (fun b1=>grd (∀ x∈b1,U8 x)<|some (zf1 b1)) n 0 zbV (by omega) (zb8 (by omega))
 rw [List.replicate_zero,List.nil_append] at this
 rw [Int.toNat_natCast]
 refine this.trans (zbo (fun x hx => ?_) (congrArg some (zqD ?_)))
 ·rw [(List.mem_replicate.1 hx).2]; exact ⟨by decide,by decide⟩
 ·rw [List.map_replicate,zgZ]; rfl
theorem zuT (r:Gapi_Row) (w:Int) (h0:0≤r.Line) (hnum:r.Number=0) (n:Nat) (hi:r.Indent=(n:Int)) (hn:n≤1024) (X:List UInt8) (k:Nat) (hX:∀ b,X.getLast?=some b→b≠32) (ht:r.Text=mkB (X++List.replicate k 32)) (hl:X.length+k≤2000) :
  ze8 r w=some (mkB (List.replicate n 32++X++[10])):=by
 unfold ze8
 refine zay (decide_eq_false (by omega)) (zbs ?_)
 rw [ht]
 refine (znN X hX _ k zbV (by omega) (zb8 (by omega))).trans (zbs ?_)
 rw [hi]
 refine zaJ (ztr n (by omega)) (zbo (by rw [zbb,zbb]; simp; omega) (zay (decide_eq_false (by omega)) ?_))
 rw [zg0]
 have h10:(⟨#[10]⟩:ByteArray).size=1:=rfl
 refine zbo (by rw [zbb,h10]; simp; omega) (congrArg some ?_)
 exact zg0 _ [10]
end Go.Proofs.YtbempdelckaccaaGreatDoor

namespace Go.Proofs.YtbempdelckaccaaGreatDoor
open Go.RowKit Go.Lib
set_option linter.unusedVariables false
set_option linter.unusedSimpArgs false
def zb6 (x3:Int) (j1:Option (List (Int×Gapi_Row))) (x4:List Gapi_Row) (ag2:Int→Option (List (Int×Gapi_Row))) (x7:Int):Option (List (Int×Gapi_Row)) :=
zax (decide ((x7:Int)<(x4.length:Int))) (
zak (zbF x4 x7) fun (q1:Gapi_Row) =>
zhl (x3,q1) <|
grd (I64 (x7+1)) <|
ag2 (x7+1)
) (
j1
)
def zb7 (c0:Gpage_Book) (ag1:Int→Option (List (Int×Gapi_Row))) (x3:Int):Option (List (Int×Gapi_Row)) :=
zax (decide ((x3:Int)<(c0.pages.length:Int))) (
zbd (fun (j1:Option (List (Int×Gapi_Row))) =>
zak (zbF c0.pages x3) fun (x4:List Gapi_Row) =>
zaF (fun _=>none) (zb6 x3 j1 x4) zbV 0
) (
grd (I64 (x3+1)) <|
ag1 (x3+1)
)
) (
some []
)
def zer (c0:Gpage_Book):Option (List (Int×Gapi_Row)) :=
zaF (fun _=>none) (zb7 c0) zbV 0
theorem zh1 {b_c0 p_c0:Nat} {c0:Gpage_Book} {c0_h0:Hd} {xs:(List (Int×Gapi_Row))} (h:zer c0=some xs):ItrR Tryz.prog 32 [zP b_c0] (fun q:Int×Gapi_Row=>[zI q.1,.agg (zr3 q.2).toArray]) xs [cells b_c0 [zP p_c0] 25,cells p_c0 [zI c0.layout_Width,zI c0.layout_Height,zI c0.layout_Turn,zI c0.layout_Every,c0_h0.v,zI c0.cost] 81,zhp za7 zbc 43 1 c0_h0.v c0.pages]:=by
 unfold zer at h
 refine ItrR.intro Tryz.func32 rfl Tryz.ntmps32 (by simp) ?_
 intro l w0 K I X hrd hy
 obtain ⟨r0,hx0⟩:∃ r,xs=[]++r:=⟨xs,rfl⟩
 have hr0:xs=r0:=hx0
 rw [hr0] at h
 refine zaK (zyG (zbr (i:=0) hrd rfl zwd rfl dc rfl rfl (zaU rfl (zdV Tryz.underlying25) (zyN (zaQ rfl (zat (zaL (zyG (zbr (i:=0) hrd rfl zwd rfl dc rfl rfl (zaA rfl dc rfl ?_))))))))))
 refine zab znj rfl dc rfl (show _=4 from rfl) (zbr (i:=1) hrd rfl zut rfl dc rfl rfl ?_)
 obtain ⟨zs1,hz1,hV1,hrd⟩:=hrd.openN (i:=2) rfl zfo zhA
 replace hrd:Rd _ _ [cells b_c0 [zP p_c0] 25,cells p_c0 [zI c0.layout_Width,zI c0.layout_Height,zI c0.layout_Turn,zI c0.layout_Every,c0_h0.v,zI c0.cost] 81,zhp za7 zbc 43 1 c0_h0.v c0.pages,zjq za7 1 c0_h0.v 0 zs1,zo2 zd2 zs1]:=hrd
 refine zoM hz1 hV1 rfl dc rfl Tryz.underlying79 (zyR 1 rfl (zyN (zaD ?_)))
 refine zbn (β:=Nat×Int×(List (Int×Gapi_Row))×(List (Int×Gapi_Row))) (fun b=>zaF (fun _=>none) (zb7 c0) b.1 b.2.1=some b.2.2.2∧xs=b.2.2.1++b.2.2.2) (fun b=>[]) (fun b=>[(0,.func (.yield l) #[] #[]),(12,c0_h0.v),(13,zI (c0.pages.length:Int)),(14,zI b.2.1)]) (fun b=>[I b.2.2.1]) (fun b=>b.1) (zbV,0,([]:List (Int×Gapi_Row)),r0) ⟨h,hx0⟩ rfl (za1 rfl) (zad [0] kr rfl) ?_
 rintro ⟨n1,x3,acc3,rr3⟩ ⟨h,hx3⟩
 cases n1 with
 | zero=>exact zdD h
 | succ n1 =>
  obtain ⟨ag1,hag1⟩:∃ ag,ag=zaF (fun _=>none) (zb7 c0) n1:=⟨_,rfl⟩
  have h:zb7 c0 ag1 x3=some rr3:=by rw [hag1]; exact h
  unfold zb7 at h
  refine zyG (zaU rfl zbf (zyN (zaK ?_)))
  refine zyB rfl h (fun h => ?_) (fun h => ?_)
  ·
   refine zat (zaL ?_)
   obtain ⟨j1,hj1,h⟩:=zbC h
   refine zaX (β:=(List (Int×Gapi_Row))×(List (Int×Gapi_Row))) 0 rfl (fun b=>j1=some b.2∧xs=b.1++b.2) (fun b=>[]) (fun b=>[(0,.func (.yield l) #[] #[]),(12,c0_h0.v),(13,zI (c0.pages.length:Int)),(14,zI x3)]) (fun b=>[I b.1]) (fun cut => ?_) ?_
   ·
    refine cut (zaD (zyG (zyR 1 rfl ?_)))
    obtain ⟨x4,hq1,h⟩:=zbj h
    obtain ⟨eh1,eq1⟩:=zrM hz1 hq1
    have hrd:Rd _ _ [cells b_c0 [zP p_c0] 25,cells p_c0 [zI c0.layout_Width,zI c0.layout_Height,zI c0.layout_Turn,zI c0.layout_Every,c0_h0.v,zI c0.cost] 81,zhp za7 zbc 43 1 c0_h0.v c0.pages,zjq za7 1 c0_h0.v 0 zs1,zo2 zd2 zs1,zwl zcz 6 eh1 x4]:=hrd.openEl (i:=4) (z:=(x4,eh1)) rfl (Vw.get hV1 eq1)
    obtain ⟨vv1,k1,L1,hV2,hrd⟩:=hrd.openSl (i:=5) rfl
    replace hrd:Rd _ _ [cells b_c0 [zP p_c0] 25,cells p_c0 [zI c0.layout_Width,zI c0.layout_Height,zI c0.layout_Turn,zI c0.layout_Every,c0_h0.v,zI c0.cost] 81,zhp za7 zbc 43 1 c0_h0.v c0.pages,zjq za7 1 c0_h0.v 0 zs1,zo2 zd2 zs1,zwl zcz 6 eh1 x4,zjq zcz 6 vv1 k1 L1]:=hrd
    refine zbe hV1 eq1 Tryz.underlying79 zvR rfl dc rfl rfl rfl (zd7 (n:=0+(x3:Int).toNat) (j:=0) (i:=3) (q:=(x4,eh1)) hrd rfl (by omega) znX rfl dc rfl (Vw.get hV1 eq1) rfl rfl (zyR 2 rfl (zyH (zyR 1 rfl (zet hV2 rfl dc rfl Tryz.underlying43 (zyR 1 rfl (zyN (zaD ?_))))))))
    refine zbn (β:=Nat×Int×(List (Int×Gapi_Row))×(List (Int×Gapi_Row))) (fun b=>zaF (fun _=>none) (zb6 x3 j1 x4) b.1 b.2.1=some b.2.2.2∧xs=b.2.2.1++b.2.2.2) (fun b=>[]) (fun b=>[(0,.func (.yield l) #[] #[]),(3,zI x3),(12,c0_h0.v),(13,zI (c0.pages.length:Int)),(14,zI x3),(19,eh1.v),(20,zI (x4.length:Int)),(21,zI b.2.1)]) (fun b=>[I b.2.2.1]) (fun b=>b.1) (zbV,0,acc3,rr3) ⟨h,hx3⟩ rfl (za1 rfl) (zad [0] kr rfl) ?_
    rintro ⟨n2,x7,acc7,rr7⟩ ⟨h,hx7⟩
    cases n2 with
    | zero=>exact zdD h
    | succ n2 =>
     obtain ⟨ag2,hag2⟩:∃ ag,ag=zaF (fun _=>none) (zb6 x3 j1 x4) n2:=⟨_,rfl⟩
     have h:zb6 x3 j1 x4 ag2 x7=some rr7:=by rw [hag2]; exact h
     unfold zb6 at h
     refine zyG (zaU rfl zbf (zyN (zaK ?_)))
     refine zyB rfl h (fun h => ?_) (fun h => ?_)
     ·
      refine zat (zaL (zaK (zaD (zyG ?_))))
      obtain ⟨q1,hq2,h⟩:=zbj h
      refine zbe hV2 hq2 Tryz.underlying43 ziw rfl dc rfl rfl rfl (znB (m:=k1+(x7:Int).toNat) (j:=0) (i:=6) (q:=q1) (cs:=(zr3 q1)) hrd rfl (by omega) znZ rfl dc rfl (Vw.get hV2 hq2) rfl rfl rfl ?_)
      refine zbk zqe rfl dc (fun b1 => ?_)
      refine zaZ (k:=1) (vs:=(zr3 q1)) (l':=(zr3 q1)) ziw rfl rfl rfl rfl rfl (show _≤_ by simp) rfl rfl ?_
      refine zyH (zyR 2 rfl (za8 (k:=1) (cs:=(zr3 q1)) znZ rfl dc rfl rfl rfl rfl ?_))
      obtain ⟨rr8,hr1,h⟩:=zke h
      have hx8:xs=acc7++(x3,q1)::rr8:=by rw [hx7,hr1]
      refine zeZ hy rfl dc rfl hx8 rfl (k:=0) rfl ?_ ?_
      ·
       have hx9:xs=(acc7++[(x3,q1)])++rr8:=by rw [hx8]; simp
       refine zd6 rfl dc rfl zcv (zyN (zaQ rfl (zat (zag (zaL (zaw ?_))))))
       obtain ⟨hg1,h⟩:=zbl h
       refine zaU rfl (zaP (r:=x7+1) (IntWalk.i64_in _ hg1)) (zyR 1 rfl (zaO ?_))
       subst hag2
       exact za3 (n2,x7+1,acc7++[(x3,q1)],rr8) ⟨h,hx9⟩ (Nat.lt_succ_self _) rfl (za1 rfl) (zad [0] kr rfl)
      refine zd6 rfl dc rfl zcv (zyN (za9 rfl (zaH (zaE (zav (zav (zaE (zaE (zav (zav (zaE ?_)))))))))))
      exact zlj (ds:=[]) acc7 (x3,q1) rr8 hx8 (.inl rfl) Splits.nil Tryz.results32 (zad [0] kr rfl)
     refine za2 (zal (zal (zau (zag ?_))))
     exact zam (acc7,rr7) ⟨h,hx7⟩ rfl (za1 rfl) (zad [0] kr rfl)
   rintro ⟨acc4,rr4⟩ ⟨h,hx4⟩
   rw [hj1] at h
   refine zaw ?_
   obtain ⟨hg2,h⟩:=zbl h
   refine zaU rfl (zaP (r:=x3+1) (IntWalk.i64_in _ hg2)) (zyR 1 rfl (zaO ?_))
   subst hag1
   exact za3 (n1,x3+1,acc4,rr4) ⟨h,hx4⟩ (Nat.lt_succ_self _) rfl (za1 rfl) (zad [0] kr rfl)
  refine za2 (zal (zal (zau ?_)))
  cases h
  exact zli (ds:=[]) (.inr rfl) Splits.nil Tryz.results32 (congrArg I (hx3.trans (List.append_nil _))) (zad [0] kr rfl)
def zfY (b1:Gpage_Book):Option Unit :=
some ()
theorem zjv {bb1:Nat} {b1:Gpage_Book} {b1_h0:Hd} {r:Unit} (h:zfY b1=some r):FnR Tryz.prog 10 [zP bb1] [cells bb1 [zI b1.layout_Width,zI b1.layout_Height,zI b1.layout_Turn,zI b1.layout_Every,b1_h0.v,zI b1.cost] 81,zhp za7 zbc 43 1 b1_h0.v b1.pages] [] (fun v0:Nat=>.func (.func 32) #[] #[zP v0]) (fun v0=>[cells v0 [zP bb1] 25]):=by
 unfold zfY at h
 refine FnR.intro Tryz.func10 rfl Tryz.ntmps10 (by simp) ?_
 intro w0 K hrd
 refine zyG ?_
 refine zdW rfl dc rfl (fun b2 => ?_)
 refine zyR 1 rfl (zyH (zhe (x1:=[]) (x2:=[.tmp 1]) rfl dc rfl rfl (zyR 1 rfl (zyN (zaH ?_)))))
 cases h
 exact zaN (rs:=[.tmp 2]) b2 (.inl rfl) Tryz.results10 (.cons (.tmp rfl) .nil) rfl (zad [0] kr rfl)
end Go.Proofs.YtbempdelckaccaaGreatDoor

namespace Go.Proofs.YtbempdelckaccaaGreatDoor
open Go.RowKit Go.Lib
set_option linter.unusedVariables false
set_option linter.unusedSimpArgs false
def zbE (x2:Gapi_Cell) (ag2:Int→Int→Option Bool) (most4:Int) (cells3:Int):Option Bool :=
zbd (fun (j3:Int→Option Bool) =>
zax (decide ((most4:Int)<x2.Columns)) (
j3 x2.Columns
) (
j3 most4
)
) (fun (most5:Int) =>
grd (I64 (cells3+1)) <|
ag2 most5 (cells3+1)
)
def zbX (l1:Gapi_Layout) (ek1:Option Bool) (x1:Int×Gapi_Row) (ag1:Option Bool):Option Bool :=
zax (decide ((x1.2.Line:Int)<0)) (
ag1
) (
zax (decide ((l1.Width:Int)≤x1.2.Indent)) (
ag1
) (
zbd (fun (j2:Int→Option Bool) =>
zak (zeT x1.2.Text) fun (r4:ByteArray) =>
zak (zdh r4) fun (its2:(List Gapi_Cell)) =>
zbd (fun (dn2:Int→Int→Option Bool) =>
zcD dn2 (zbE) its2 0 0
) (fun (most4:Int) (cells3:Int) =>
j2 most4
)
) (fun (most1:Int) =>
zak (ze8 x1.2 l1.Width) fun (r5:ByteArray) =>
grd (I64 ((r5.size:Int) - 1)) <|
grd (0≤(0:Int)∧(0:Int)≤((r5.size:Int) - 1)∧((r5.size:Int) - 1:Int)≤(r5.size:Int)) <|
zak (zdt (zbS r5 0 ((r5.size:Int) - 1))) fun (r6:Int) =>
zax (decide ((l1.Width:Int)<r6)) (
grd (I64 (l1.Width - x1.2.Indent)) <|
zax (decide ((most1:Int)≤(l1.Width - x1.2.Indent))) (
ek1
) (
ag1
)
) (
ag1
)
)
)
)
def zeH (text1:ByteArray) (l1:Gapi_Layout):Option Bool :=
zak (zgA) fun (r1:Bool) =>
zax (!r1) (
some false
) (
zax (decide ((1200:Int)<(text1.size:Int))) (
some true
) (
zak (zcQ text1 (⟨l1.Width,l1.Height,l1.Turn,0⟩:Gapi_Layout)) fun (r2:((Option Gpage_Book)×(List Gapi_Verse)×Bool×Bool)) =>
zax (!r2.2.2.2) (
some r2.2.2.2
) (
zax (!r2.2.2.1) (
some r2.2.2.2
) (
zbd (fun (j1:Option Bool) =>
zak (r2.1) fun (p1:Gpage_Book) =>
zak (zfY p1) fun (r3:Unit) =>
zak (zer p1) fun (its1:(List (Int×Gapi_Row))) =>
zbd (fun (ek1:Option Bool) =>
zbd (fun (dn1:Option Bool) =>
zcD dn1 (zbX l1 ek1) its1
) (
j1
)
) (
some false
)
) (
zak (zfP r2.2.1 (⟨l1.Width,l1.Height,l1.Turn,0⟩:Gapi_Layout)) fun (r7:((List Gapi_Row)×Int)) =>
zak (ze9 r7.1) fun (r8:Int) =>
zax (decide ((r8:Int)<4)) (
some true
) (
zax (decide ((200:Int)<r8)) (
some true
) (
zak (zcQ text1 (⟨l1.Width,r8,l1.Turn,0⟩:Gapi_Layout)) fun (r9:((Option Gpage_Book)×(List Gapi_Verse)×Bool×Bool)) =>
zax (r9.2.2.1) (
zax (r9.2.2.2) (
zak (r9.1) fun (p2:Gpage_Book) =>
zak (zeG p2) fun (r10:Int) =>
some ((r10:Int)==1)
) (
some false
)
) (
some false
)
)
)
)
)
)
)
)
theorem ziP {text1:ByteArray} {l1:Gapi_Layout} {r:Bool} (h:zeH text1 l1=some r):FnP Tryz.prog 3 [.string text1,.agg (zr0 l1).toArray] (.bool r):=by
 unfold zeH at h
 refine FnP.intro Tryz.func3 rfl Tryz.ntmps3 (by simp) ?_
 intro w0 K
 refine zjk ?_
 refine zyG ?_
 refine zdW rfl dc rfl (fun b1 => ?_)
 refine zbk zyF rfl dc (fun b2 => ?_)
 refine zyN (zaK (zyG ?_))
 obtain ⟨r1,hq1,h⟩:=zbj h
 refine zbh (v:=.bool r1) (vs:=[]) rfl dc rfl rfl rfl zy5 (zna hq1) (zd6 rfl dc rfl zcv (zyN ?_))
 refine zyB rfl h (fun h => ?_) (fun h => ?_)
 ·
  refine zyG ?_
  refine zaS (k:=2) (l':=[.bool false]) zpA rfl rfl rfl rfl rfl (fun _ _=>rfl) rfl ?_
  refine zyN (zaH (zav ?_))
  cases h
  exact zfF (rs:=[.cell 4 4]) ([]:List Nat) () (.inl rfl) (zb4 (k:=0) rfl) Tryz.results3 (.cons (.cell zlF (k:=2) rfl rfl) .nil) rfl Splits.nil
 refine zat (zaL (zyG (zab zg2 rfl dc rfl (show _=3 from rfl) ?_)))
 refine zaS (k:=1) (l':=[zI l1.Width,zI l1.Height,zI l1.Turn,zI 0]) zdb rfl rfl rfl rfl rfl (fun _ _=>rfl) rfl ?_
 refine zyN (zaK (zyG (zyR 1 rfl (zbQ rfl dc rfl Tryz.underlying9 (zaU rfl zcl (zyN ?_))))))
 refine zyB rfl h (fun h => ?_) (fun h => ?_)
 ·
  refine zyG ?_
  refine zaS (k:=2) (l':=[.bool true]) zpA rfl rfl rfl rfl rfl (fun _ _=>rfl) rfl ?_
  refine zyN (zaH (zav ?_))
  cases h
  exact zfF (rs:=[.cell 4 4]) ([]:List Nat) () (.inl rfl) (zb4 (k:=0) rfl) Tryz.results3 (.cons (.cell zlF (k:=2) rfl rfl) .nil) rfl Splits.nil
 refine zat (zaL (zyG (zyR 1 rfl (za8 (k:=1) (cs:=[zI l1.Width,zI l1.Height,zI l1.Turn,zI 0]) ziB rfl dc rfl rfl rfl rfl ?_))))
 obtain ⟨r2,hq2,h⟩:=zbj h
 refine zdG (vs:=[.string text1,.agg #[zI l1.Width,zI l1.Height,zI l1.Turn,zI 0]]) rfl dc rfl rfl rfl zyT (zjX (l1:=(⟨l1.Width,l1.Height,l1.Turn,0⟩:Gapi_Layout)) hq2) Splits.nil ?_
 rintro ⟨v1,v2⟩
 refine zbJ (k:=4) rfl (fun hd1 he1 => ?_)
 subst he1
 refine zyR 1 rfl (zaR rfl dc rfl rfl (zaR rfl dc rfl rfl (zaR rfl dc rfl rfl (zaR rfl dc rfl rfl (zyR 4 rfl (zyN (zaK (zyG ?_))))))))
 refine zyR 1 rfl (zd6 rfl dc rfl zcv (zyR 1 rfl ?_))
 refine zyS (s:=36) rfl h (fun h => ?_) (fun h => ?_)
 ·
  refine zyR 3 rfl (zyN (za9 rfl (zyG (zyR 1 rfl ?_))))
  refine zaS (k:=2) (l':=[.bool r2.2.2.2]) zpA rfl rfl rfl rfl rfl (fun _ _=>rfl) rfl ?_
  refine zyN (zaH (zav ?_))
  cases h
  exact zfF (rs:=[.cell 4 4]) ([]:List Nat) () (.inl rfl) (zb4 (k:=0) rfl) Tryz.results3 (.cons (.cell zlF (k:=2) rfl rfl) .nil) rfl Splits.nil
 refine zyR 1 rfl (zd6 rfl dc rfl zcv (zyR 1 rfl (zyN ?_)))
 refine zyB rfl h (fun h => ?_) (fun h => ?_)
 ·
  refine zyG (zyR 1 rfl ?_)
  refine zaS (k:=2) (l':=[.bool r2.2.2.2]) zpA rfl rfl rfl rfl rfl (fun _ _=>rfl) rfl ?_
  refine zyN (zaH (zav ?_))
  cases h
  exact zfF (rs:=[.cell 4 4]) ([]:List Nat) () (.inl rfl) (zb4 (k:=0) rfl) Tryz.results3 (.cons (.cell zlF (k:=2) rfl rfl) .nil) rfl Splits.nil
 refine zat (zaL ?_)
 obtain ⟨j1,hj1,h⟩:=zbC h
 refine zaX (β:=(List Nat)) 0 rfl (fun b=>j1=some r) (fun b=>zgL b) (fun b=>[(0,.string text1),(3,zP b1),(4,zP b2),(6,hd1.v)]) (fun b=>[cells b1 [zI l1.Width,zI l1.Height,zI l1.Turn,zI 0] 23,cells b2 [.bool false] 4,zv6 hd1.v r2.2.1,zj6 ((b:List Nat).map zoi)]) (fun cut => ?_) ?_
 ·
  refine cut (zyG (zyR 1 rfl ?_))
  obtain ⟨p1,hq3,h⟩:=zbj h
  refine znC (As:=[zma zbP zbO 81 v1 r2.1]) (zad [3] kr rfl) (zgH hq3) ?_
  rintro ⟨b3,hd2⟩ hv1
  have hkp:=h
  subst hv1
  have h:=hkp
  obtain ⟨r3,hq4,h⟩:=zbj h
  refine zhf (vs:=[zP b3]) (Rd.nil:Rd _ _ []) rfl dc rfl rfl rfl zyj (zjv (bb1:=b3) (b1:=p1) (b1_h0:=hd2) hq4) Splits.nil (.own (zad [5] (by kernel_rfl) rfl) (fun _ _ h=>sepL.one1.1 h) (.own (zad [6] (by kernel_rfl) rfl) (fun _ _ h=>sepL.one1.1 h) .nil)) ?_
  rintro b4
  refine zdu (L':=[zj6 ((([]:List Nat):List Nat).map zoi),cells b1 [zI l1.Width,zI l1.Height,zI l1.Turn,zI 0] 23,cells b2 [.bool false] 4,emp,zv6 hd1.v r2.2.1,cells b3 [zI p1.layout_Width,zI p1.layout_Height,zI p1.layout_Turn,zI p1.layout_Every,hd2.v,zI p1.cost] 81,zhp za7 zbc 43 1 hd2.v p1.pages,cells b4 [zP b3] 25]) (zad [0,1,2,3,4,5,6,7] kr rfl) (zyN (zaD ?_))
  obtain ⟨its1,hq5,h⟩:=zbj h
  obtain ⟨ek1,hek1,h⟩:=zbC h
  obtain ⟨dn1,hdn1,h⟩:=zbC h
  refine zoO (α:=Int×Gapi_Row) (β:=Unit) (γ:=Unit) (δ:=Nat) (ps:=[43,44]) (Rd.nil:Rd _ _ []) Ro.nil rfl zx9 (zh1 hq5) (fun pre b=>∀ post,its1=pre++post→zcD dn1 (zbX l1 ek1) post=some r) (fun pre b=>[cells b1 [zI l1.Width,zI l1.Height,zI l1.Turn,zI 0] 23,cells b2 [.bool false] 4,zv6 hd1.v r2.2.1]) (fun c pre g=>(fun g=>c=.ret∧ek1=some r) g) (fun c pre g=>(fun g=>[cells b1 [zI l1.Width,zI l1.Height,zI l1.Turn,zI 0] 23,cells b2 [.bool false] 4,zv6 hd1.v r2.2.1]) g) (fun pre x b j=>[(0,.string text1),(3,zP b1),(4,zP b2),(6,hd1.v),(42,.func (.func 32) #[] #[zP b4]),(10,zP j)]) (fun pre x b j=>[cells b1 [zI l1.Width,zI l1.Height,zI l1.Turn,zI 0] 23,cells b2 [.bool false] 4,zv6 hd1.v r2.2.1,cells j (zr3 x.2) 33]) () (fun post e=>by rw [List.nil_append] at e; subst e; exact h) (zad [1,2,4] kr rfl) (.own (As:=[cells b4 [zP b3] 25]) (zad [7] (by kernel_rfl) rfl) (fun _ _ h=>sepL.one1.1 h) (.own (As:=[cells b3 [zI p1.layout_Width,zI p1.layout_Height,zI p1.layout_Turn,zI p1.layout_Every,hd2.v,zI p1.cost] 81]) (zad [5] (by kernel_rfl) rfl) (fun _ _ h=>sepL.one1.1 h) (.own (As:=[zhp za7 zbc 43 1 hd2.v p1.pages]) (zad [6] (by kernel_rfl) rfl) (fun _ _ h=>sepL.one1.1 h) .nil))) (fun _=>rfl) dc ?_ ?_ ?_ ?_
  ·
   rintro lp rc pre x1 post _ w1 K1 hxs1 hext hro hinv
   refine zaw ?_
   refine zbk zqe rfl dc (fun b5 => ?_)
   refine zaZ (k:=3) (vs:=(zr3 x1.2)) (l':=(zr3 x1.2)) ziw rfl rfl rfl rfl rfl (show _≤_ by simp) rfl rfl ?_
   refine zaO ?_
   exact fun a w ha hw=>⟨b5,(za1 rfl) _ _ _ ha,hw.weaken (zad [0,1,2,3] kr rfl)⟩
  ·
   rintro lp rc pre x1 post1 _ jb1 w1 K1 hxs1 hext hro hinv
   have h:=hinv (x1::post1) hxs1
   obtain ⟨ag1,hag1⟩:∃ ag,ag=zcD dn1 (zbX l1 ek1) post1:=⟨_,rfl⟩
   have h:zbX l1 ek1 x1 ag1=some r:=by rw [hag1]; exact h
   unfold zbX at h
   refine zaD (zaK (zyG (zab zin rfl dc rfl (show _=0 from rfl) (zaq (k:=3) zbp rfl dc rfl rfl rfl (zaU rfl zbf (zyR 1 rfl ?_))))))
   refine zyS (s:=48) rfl h (fun h => ?_) (fun h => ?_)
   ·
    refine zyR 6 rfl (zyN (za9 rfl (za2 (zal (zau ?_)))))
    exact zeY () (fun post2 e2=>by have e9:=zec hxs1 e2; subst e9; subst hag1; exact h) (zad [0,1,2] kr rfl)
   refine zab zjy rfl dc rfl (show _=3 from rfl) (zaq (k:=3) zbp rfl dc rfl rfl rfl (zab zfl rfl dc rfl (show _=0 from rfl) (zaq (k:=0) zbp rfl dc rfl rfl rfl (zaU rfl ze3 (zyR 1 rfl (zyN ?_))))))
   refine zyB rfl h (fun h => ?_) (fun h => ?_)
   ·
    refine za2 (zal (zau ?_))
    exact zeY () (fun post2 e2=>by have e9:=zec hxs1 e2; subst e9; subst hag1; exact h) (zad [0,1,2] kr rfl)
   refine zat (zaL ?_)
   obtain ⟨j2,hj2,h⟩:=zbC h
   refine zaX (β:=Int×Nat) 1 rfl (fun b=>j2 b.1=some r) (fun b=>[]) (fun b=>[(0,.string text1),(3,zP b1),(4,zP b2),(6,hd1.v),(10,zP jb1),(11,zP b.2),(42,.func (.func 32) #[] #[zP b4])]) (fun b=>[cells b1 [zI l1.Width,zI l1.Height,zI l1.Turn,zI 0] 23,cells b2 [.bool false] 4,zv6 hd1.v r2.2.1,cells jb1 (zr3 x1.2) 33,cells b.2 [zI b.1] 3]) (fun cut => ?_) ?_
   ·
    refine zyG ?_
    refine zbk zui rfl dc (fun b7 => ?_)
    refine zbk zui rfl dc (fun b8 => ?_)
    refine zaS (k:=4) (l':=[zI 0]) zdb rfl rfl rfl rfl rfl (fun _ _=>rfl) rfl ?_
    refine zaS (k:=5) (l':=[zI 0]) zdb rfl rfl rfl rfl rfl (fun _ _=>rfl) rfl ?_
    refine zyN (cut (zyG (zab znl rfl dc rfl (show _=5 from rfl) (zaq (k:=3) zoQ rfl dc rfl rfl rfl ?_))))
    obtain ⟨r4,hq6,h⟩:=zbj h
    refine zdG (vs:=[.string x1.2.Text]) rfl dc rfl rfl rfl zu6 (zgt hq6) Splits.nil ?_
    rintro b9
    refine zdu (L':=[cells b1 [zI l1.Width,zI l1.Height,zI l1.Turn,zI 0] 23,cells b2 [.bool false] 4,zv6 hd1.v r2.2.1,cells jb1 (zr3 x1.2) 33,cells b7 [zI 0] 3,cells b8 [zI 0] 3,cells b9 [.string r4] 9]) (zad [0,1,2,3,4,5,6] kr rfl) (zyN (zaD ?_))
    obtain ⟨its2,hq7,h⟩:=zbj h
    obtain ⟨dn2,hdn2,h⟩:=zbC h
    refine zqH (α:=Gapi_Cell) (β:=Int×Int) (γ:=Unit) (δ:=Nat) (ps:=[58]) hro (i₀:=0) rfl rfl zu5 (zfr hq7) (fun pre b=>∀ post,its2=pre++post→zcD dn2 (zbE) post b.1 b.2=some r) (fun pre b=>[cells b1 [zI l1.Width,zI l1.Height,zI l1.Turn,zI 0] 23,cells b2 [.bool false] 4,zv6 hd1.v r2.2.1,cells jb1 (zr3 x1.2) 33,cells b7 [zI b.1] 3,cells b8 [zI b.2] 3]) (fun c pre g=>False) (fun c pre g=>[]) (fun pre x b j=>[(0,.string text1),(3,zP b1),(4,zP b2),(6,hd1.v),(42,.func (.func 32) #[] #[zP b4]),(10,zP jb1),(11,zP b7),(12,zP b8),(57,.func (.func 33) #[] #[zP b9]),(13,zP j)]) (fun pre x b j=>[cells b1 [zI l1.Width,zI l1.Height,zI l1.Turn,zI 0] 23,cells b2 [.bool false] 4,zv6 hd1.v r2.2.1,cells jb1 (zr3 x1.2) 33,cells b7 [zI b.1] 3,cells b8 [zI b.2] 3,cells j (zr1 x) 40]) (0,0) (fun post e=>by rw [List.nil_append] at e; subst e; exact h) (zad [0,1,2,3,4,5] kr rfl) ⟨.inl ⟨6,rfl⟩,trivial⟩ (fun _=>rfl) dc ?_ ?_ ?_ ?_
    ·
     rintro lp rc pre x2 post ⟨most4,cells3⟩ w1 K1 hxs2 hext hro hinv
     refine zaw ?_
     refine zbk zqM rfl dc (fun b10 => ?_)
     refine zaZ (k:=6) (vs:=(zr1 x2)) (l':=(zr1 x2)) zgV rfl rfl rfl rfl rfl (show _≤_ by simp) rfl rfl ?_
     refine zaO ?_
     exact fun a w ha hw=>⟨b10,(za1 rfl) _ _ _ ha,hw.weaken (zad [0,1,2,3,4,5,6] kr rfl)⟩
    ·
     rintro lp rc pre x2 post2 ⟨most4,cells3⟩ jb2 w1 K1 hxs2 hext hro hinv
     have h:=hinv (x2::post2) hxs2
     obtain ⟨ag2,hag2⟩:∃ ag,ag=zcD dn2 (zbE) post2:=⟨_,rfl⟩
     have h:zbE x2 ag2 most4 cells3=some r:=by rw [hag2]; exact h
     unfold zbE at h
     refine zaD ?_
     obtain ⟨j3,hj3,h⟩:=zbC h
     refine zaX (β:=Int) 0 rfl (fun b=>j3 b=some r) (fun b=>[]) (fun b=>[(0,.string text1),(3,zP b1),(4,zP b2),(6,hd1.v),(10,zP jb1),(11,zP b7),(12,zP b8),(42,.func (.func 32) #[] #[zP b4]),(57,.func (.func 33) #[] #[zP b9])]) (fun b=>[cells b1 [zI l1.Width,zI l1.Height,zI l1.Turn,zI 0] 23,cells b2 [.bool false] 4,zv6 hd1.v r2.2.1,cells jb1 (zr3 x1.2) 33,cells b7 [zI b] 3,cells b8 [zI cells3] 3]) (fun cut => ?_) ?_
     ·
      refine cut (zyG (zab zgr rfl dc rfl (show _=2 from rfl) (zaq (k:=6) zbp rfl dc rfl rfl rfl (zaq (k:=4) zbp rfl dc rfl rfl rfl (zaU rfl zcl (zyN ?_))))))
      refine zyB rfl h (fun h => ?_) (fun h => ?_)
      ·
       refine zaw (zab zgr rfl dc rfl (show _=2 from rfl) (zaq (k:=6) zbp rfl dc rfl rfl rfl ?_))
       refine zaS (k:=4) (l':=[zI x2.Columns]) zdb rfl rfl rfl rfl rfl (fun _ _=>rfl) rfl ?_
       refine zaO ?_
       exact zam x2.Columns h rfl (za1 rfl) (zad [0,1,2,3,4,5] kr rfl)
      refine zat ?_
      exact zam most4 h rfl (za1 rfl) (zad [0,1,2,3,4,5] kr rfl)
     rintro most5 h
     rw [hj3] at h
     refine zaw (zaq (k:=5) zbp rfl dc rfl rfl rfl ?_)
     obtain ⟨hg1,h⟩:=zbl h
     refine zaU rfl (zaP (r:=cells3+1) (IntWalk.i64_in _ hg1)) ?_
     refine zaS (k:=5) (l':=[zI (cells3+1)]) zdb rfl rfl rfl rfl rfl (fun _ _=>rfl) rfl ?_
     refine zaO (zag ?_)
     exact zeY (most5,cells3+1) (fun post2 e2=>by have e9:=zec hxs2 e2; subst e9; subst hag2; exact h) (zad [0,1,2,3,4,5] kr rfl)
    ·
     rintro ⟨most4,cells3⟩ hinv
     have h:dn2 most4 cells3=some r:=hinv [] (List.append_nil _).symm
     rw [hdn2] at h
     refine zag ?_
     exact zam (most4,b7) h rfl (za1 rfl) (zad [7,8,9,10,11] kr rfl)
    rintro c pre x2 post g hxs hX
    exact (show False from hX).elim
   rintro ⟨most1,b6⟩ h
   rw [hj2] at h
   refine zyG (za8 (k:=3) (cs:=(zr3 x1.2)) znZ rfl dc rfl rfl rfl rfl (zab zfl rfl dc rfl (show _=0 from rfl) (zaq (k:=0) zbp rfl dc rfl rfl rfl ?_)))
   obtain ⟨r5,hq8,h⟩:=zbj h
   refine zbh (v:=.string r5) (vs:=[.agg (zr3 x1.2).toArray,zI l1.Width]) rfl dc rfl rfl rfl zyi (zm3 (r1:=x1.2) hq8) (zyR 1 rfl (zyN (zaK ?_)))
   obtain ⟨hg2,h⟩:=zbl h
   obtain ⟨hg3,h⟩:=zbl h
   obtain ⟨r6,hq9,h⟩:=zbj h
   refine zeL (b:=decide ((l1.Width:Int)<r6)) (fun hb8 => ?_) (fun hb8 => ?_)
   ·
    have h:=zhm hb8 h
    obtain ⟨hg4,h⟩:=zbl h
    refine zbG 16 [(0,71,.string r5),(1,72,.string r5),(2,73,zI (r5.size:Int)),(3,74,zI ((r5.size:Int) - 1)),(4,75,.string (zbS r5 0 ((r5.size:Int) - 1))),(5,76,zI r6),(6,77,zP b1),(7,78,zI l1.Width),(8,79,.bool true),(9,80,.bool true),(10,81,zI most1),(11,82,zP b1),(12,83,zI l1.Width),(13,84,.pointer (some ⟨jb1,3,none⟩)),(14,85,zI x1.2.Indent),(15,86,zI (l1.Width - x1.2.Indent))] mixed kr kr dc (by rfl) kr kr (zyP 2 0 rfl (zae ?_ (zae ?_ (zae ?_ (zae ?_ (zae ?_ (zae ?_ (zae ?_ (zyP 1 9 rfl (zae ?_ (zae ?_ (zae ?_ (zae ?_ (zae ?_ (zae ?_ DrawPre.nil))))))))))))))) ?_
    · exact fun D n d c u i=>zbQ rfl dc (zaa (m:=1) u rfl (d 1 dc)) Tryz.underlying9 (zaf 2 u i rfl)
    · exact fun D n d c u i=>zbR rfl dc (zaa (m:=2) u rfl (d 2 dc)) rfl (zbi (r:=(r5.size:Int) - 1) (IntWalk.i64_in _ hg2)) (zaf 3 u i rfl)
    · exact fun D n d c u i=>zdn rfl dc (zaa (m:=0) u rfl (d 0 dc)) zi3 (evO.some (zaa (m:=3) u rfl (d 3 dc))) (zbN (i:=0) (j:=(r5.size:Int) - 1) Tryz.underlying9 (.inl ⟨rfl,rfl⟩) (.inr rfl) hg3) (zaf 4 u i rfl)
    · exact fun D n d c u i=>zbh (v:=zI r6) (vs:=[.string (zbS r5 0 ((r5.size:Int) - 1))]) rfl dc rfl (evL.cons (zaa (m:=4) u rfl (d 4 dc)) evL.nil) rfl zwK (zgF hq9) (zaf 5 u i rfl)
    · exact fun D n d c u i=>zab zfl rfl dc (zba (by rfl) rfl) (show _=0 from rfl) (zaf 6 u i rfl)
    · exact fun D n d c u i=>zaq (k:=0) zbp rfl dc (zaa (m:=6) u rfl (d 6 dc)) rfl rfl (zaf 7 u i rfl)
    · exact fun D n d c u i=>zbR rfl dc (zaa (m:=5) u rfl (d 5 dc)) (zaa (m:=7) u rfl (d 7 dc)) zcl (zeb (show Value.bool (decide ((l1.Width:Int)<r6))=Value.bool true from congrArg Value.bool hb8) (zaf 8 u i rfl))
    · exact fun D n d c u i=>zaq (k:=4) zbp (zft rfl (zaa (m:=9) u rfl (d 9 dc))) dc (zba (by rfl) rfl) rfl rfl (zaf 10 u i rfl)
    · exact fun D n d c u i=>zab zfl (zft rfl (zaa (m:=9) u rfl (d 9 dc))) dc (zba (by rfl) rfl) (show _=0 from rfl) (zaf 11 u i rfl)
    · exact fun D n d c u i=>zaq (k:=0) zbp (zft rfl (zaa (m:=9) u rfl (d 9 dc))) dc (zaa (m:=11) u rfl (d 11 dc)) rfl rfl (zaf 12 u i rfl)
    · exact fun D n d c u i=>zab zjy (zft rfl (zaa (m:=9) u rfl (d 9 dc))) dc (zba (by rfl) rfl) (show _=3 from rfl) (zaf 13 u i rfl)
    · exact fun D n d c u i=>zaq (k:=3) zbp (zft rfl (zaa (m:=9) u rfl (d 9 dc))) dc (zaa (m:=13) u rfl (d 13 dc)) rfl rfl (zaf 14 u i rfl)
    · exact fun D n d c u i=>zbR (zft rfl (zaa (m:=9) u rfl (d 9 dc))) dc (zaa (m:=12) u rfl (d 12 dc)) (zaa (m:=14) u rfl (d 14 dc)) (zbi (r:=l1.Width - x1.2.Indent) (IntWalk.i64_in _ hg4)) (zaf 15 u i rfl)
    refine zaU rfl zdF (zyR 1 rfl (zyN ?_))
    refine zyB rfl h (fun h => ?_) (fun h => ?_)
    ·
     refine zyG ?_
     refine zaS (k:=1) (l':=[.bool false]) zpA rfl rfl rfl rfl rfl (fun _ _=>rfl) rfl ?_
     refine zyN (zaH (zaE ?_))
     exact zea () (show _∧_ from ⟨rfl,h⟩) (zad [0,1,2] kr rfl)
    refine zat (zag ?_)
    exact zeY () (fun post2 e2=>by have e9:=zec hxs1 e2; subst e9; subst hag1; exact h) (zad [0,1,2] kr rfl)
   have h:=zhn hb8 h
   refine zbG 16 [(0,71,.string r5),(1,72,.string r5),(2,73,zI (r5.size:Int)),(3,74,zI ((r5.size:Int) - 1)),(4,75,.string (zbS r5 0 ((r5.size:Int) - 1))),(5,76,zI r6),(6,77,zP b1),(7,78,zI l1.Width),(8,79,.bool false),(9,80,.bool false),(10,81,undef),(11,82,undef),(12,83,undef),(13,84,undef),(14,85,undef),(15,86,undef)] mixed kr kr dc (by rfl) kr kr (zyP 2 0 rfl (zae ?_ (zae ?_ (zae ?_ (zae ?_ (zae ?_ (zae ?_ (zae ?_ (zyP 7 9 rfl DrawPre.nil))))))))) ?_
   · exact fun D n d c u i=>zbQ rfl dc (zaa (m:=1) u rfl (d 1 dc)) Tryz.underlying9 (zaf 2 u i rfl)
   · exact fun D n d c u i=>zbR rfl dc (zaa (m:=2) u rfl (d 2 dc)) rfl (zbi (r:=(r5.size:Int) - 1) (IntWalk.i64_in _ hg2)) (zaf 3 u i rfl)
   · exact fun D n d c u i=>zdn rfl dc (zaa (m:=0) u rfl (d 0 dc)) zi3 (evO.some (zaa (m:=3) u rfl (d 3 dc))) (zbN (i:=0) (j:=(r5.size:Int) - 1) Tryz.underlying9 (.inl ⟨rfl,rfl⟩) (.inr rfl) hg3) (zaf 4 u i rfl)
   · exact fun D n d c u i=>zbh (v:=zI r6) (vs:=[.string (zbS r5 0 ((r5.size:Int) - 1))]) rfl dc rfl (evL.cons (zaa (m:=4) u rfl (d 4 dc)) evL.nil) rfl zwK (zgF hq9) (zaf 5 u i rfl)
   · exact fun D n d c u i=>zab zfl rfl dc (zba (by rfl) rfl) (show _=0 from rfl) (zaf 6 u i rfl)
   · exact fun D n d c u i=>zaq (k:=0) zbp rfl dc (zaa (m:=6) u rfl (d 6 dc)) rfl rfl (zaf 7 u i rfl)
   · exact fun D n d c u i=>zbR rfl dc (zaa (m:=5) u rfl (d 5 dc)) (zaa (m:=7) u rfl (d 7 dc)) zcl (zeb (show Value.bool (decide ((l1.Width:Int)<r6))=Value.bool false from congrArg Value.bool hb8) (zaf 8 u i rfl))
   refine zyR 2 rfl (zyN (zaQ rfl (zat (zag ?_))))
   exact zeY () (fun post2 e2=>by have e9:=zec hxs1 e2; subst e9; subst hag1; exact h) (zad [0,1,2] kr rfl)
  ·
   rintro dm2 _ hinv
   have h:dn1=some r:=hinv [] (List.append_nil _).symm
   rw [hdn1] at h
   refine zgw (k:=11) (j:=0) rfl rfl dc ?_
   refine zag ?_
   exact zam (dm2::([]:List Nat)) h rfl (za1 rfl) (zad [8,9,10,0] kr rfl)
  rintro dm2 c pre x1 post g hxs hX
  obtain ⟨rfl,h⟩:=(show _∧_ from hX)
  rw [hek1] at h
  refine zlq (k:=11) (j:=0) rfl rfl dc ?_
  refine zaH (zaE (zav ?_))
  cases h
  exact zfF (rs:=[.cell 4 4]) (dm2::([]:List Nat)) () (.inl rfl) (zb4 (k:=0) rfl) Tryz.results3 (.cons (.cell zlF (k:=9) rfl rfl) .nil) rfl Splits.nil
 rintro ds1 h
 rw [hj1] at h
 refine zyG (zyR 1 rfl (za8 (k:=0) (cs:=[zI l1.Width,zI l1.Height,zI l1.Turn,zI 0]) ziB rfl dc rfl rfl rfl rfl ?_))
 refine zhU (k:=2) rfl (fun hw1 => ?_)
 obtain ⟨r7,hq10,h⟩:=zbj h
 refine zhf (vs:=[hd1.v,.agg #[zI l1.Width,zI l1.Height,zI l1.Turn,zI 0]]) (Rd.nil:Rd _ _ []) rfl dc rfl rfl rfl zyh (zm1 (l1:=(⟨l1.Width,l1.Height,l1.Turn,0⟩:Gapi_Layout)) hw1 hq10) Splits.nil (.own (As:=[zv6 hd1.v r2.2.1]) (zad [2] (by kernel_rfl) rfl) (fun _ _ h=>ziF zdO (sepL.one1.1 h)) .nil) ?_
 rintro v3
 refine zbJ (k:=4) rfl (fun hd3 he2 => ?_)
 subst he2
 refine zyR 1 rfl (zaR rfl dc rfl rfl (zaR rfl dc rfl rfl (zyR 2 rfl (zyH (zyR 1 rfl ?_)))))
 refine zhU (k:=4) rfl (fun hw2 => ?_)
 obtain ⟨r8,hq11,h⟩:=zbj h
 refine zcL (v:=zI r8) (vs:=[hd3.v]) (Rd.nil:Rd _ _ []) rfl dc rfl rfl rfl zyg (zm4 hw2 hq11) (.own (As:=[zv2 hd3.v r7.1]) (zad [4] (by kernel_rfl) rfl) (fun _ _ h=>ziF zb9 (sepL.one1.1 h)) .nil) ?_
 refine zyR 1 rfl (zyN (zaK (zyG (zyR 1 rfl (zaU rfl zbf (zyR 1 rfl ?_))))))
 refine zyS (s:=99) rfl h (fun h => ?_) (fun h => ?_)
 ·
  refine zyR 3 rfl (zyN (za9 rfl (zyG ?_)))
  refine zaS (k:=1) (l':=[.bool true]) zpA rfl rfl rfl rfl rfl (fun _ _=>rfl) rfl ?_
  refine zyN (zaH (zav ?_))
  cases h
  exact zfF (rs:=[.cell 4 4]) ds1 () (.inl rfl) (zb4 (k:=3) rfl) Tryz.results3 (.cons (.cell zlF (k:=1) rfl rfl) .nil) rfl Splits.nil
 refine zyR 1 rfl (zaU rfl zcl (zyR 1 rfl (zyN ?_)))
 refine zyB rfl h (fun h => ?_) (fun h => ?_)
 ·
  refine zyG ?_
  refine zaS (k:=1) (l':=[.bool true]) zpA rfl rfl rfl rfl rfl (fun _ _=>rfl) rfl ?_
  refine zyN (zaH (zav ?_))
  cases h
  exact zfF (rs:=[.cell 4 4]) ds1 () (.inl rfl) (zb4 (k:=3) rfl) Tryz.results3 (.cons (.cell zlF (k:=1) rfl rfl) .nil) rfl Splits.nil
 refine zat (zaL (zyG (zyR 1 rfl (zab zjz rfl dc rfl (show _=1 from rfl) ?_))))
 refine zaS (k:=0) (l':=[zI l1.Width,zI r8,zI l1.Turn,zI 0]) zdb rfl rfl rfl rfl rfl (fun _ _=>rfl) rfl ?_
 refine zyH (zyR 1 rfl (za8 (k:=0) (cs:=[zI l1.Width,zI r8,zI l1.Turn,zI 0]) ziB rfl dc rfl rfl rfl rfl ?_))
 obtain ⟨r9,hq12,h⟩:=zbj h
 refine zdG (vs:=[.string text1,.agg #[zI l1.Width,zI r8,zI l1.Turn,zI 0]]) rfl dc rfl rfl rfl zyT (zjX (l1:=(⟨l1.Width,r8,l1.Turn,0⟩:Gapi_Layout)) hq12) Splits.nil ?_
 rintro ⟨v4,v5⟩
 refine zbJ (k:=6) rfl (fun hd4 he3 => ?_)
 subst he3
 refine zyR 1 rfl (zaR rfl dc rfl rfl (zaR rfl dc rfl rfl (zaR rfl dc rfl rfl (zaR rfl dc rfl rfl (zyR 4 rfl (zyH (zyR 1 rfl ?_)))))))
 refine zyR 1 rfl ?_
 refine zyS (s:=114) rfl h (fun h => ?_) (fun h => ?_)
 ·
  refine zyR 3 rfl ?_
  refine zyS (s:=117) rfl h (fun h => ?_) (fun h => ?_)
  ·
   refine zyR 1 rfl ?_
   obtain ⟨p2,hq13,h⟩:=zbj h
   refine znC (As:=[zma zbP zbO 81 v4 r9.1]) (zad [5] kr rfl) (zgH hq13) ?_
   rintro ⟨b11,hd5⟩ hv2
   have hkp:=h
   subst hv2
   have h:=hkp
   obtain ⟨r10,hq14,h⟩:=zbj h
   refine zcL (v:=zI r10) (vs:=[zP b11]) (Rd.nil:Rd _ _ []) rfl dc rfl rfl rfl zyf (ziN (bb1:=b11) (b1:=p2) (b1_h0:=hd5) hq14) (.own (zad [7] (by kernel_rfl) rfl) (fun _ _ h=>sepL.one1.1 h) (.own (zad [8] (by kernel_rfl) rfl) (fun _ _ h=>sepL.one1.1 h) .nil)) ?_
   refine zaU rfl zaV (zyR 1 rfl ?_)
   refine zaS (k:=1) (l':=[.bool ((r10:Int)==1)]) zpA rfl rfl rfl rfl rfl (fun _ _=>rfl) rfl ?_
   refine zyN (zaH ?_)
   cases h
   exact zfF (rs:=[.cell 4 4]) ds1 () (.inl rfl) (zb4 (k:=3) rfl) Tryz.results3 (.cons (.cell zlF (k:=1) rfl rfl) .nil) rfl Splits.nil
  refine zyR 4 rfl ?_
  refine zaS (k:=1) (l':=[.bool false]) zpA rfl rfl rfl rfl rfl (fun _ _=>rfl) rfl ?_
  refine zyN (zaH ?_)
  cases h
  exact zfF (rs:=[.cell 4 4]) ds1 () (.inl rfl) (zb4 (k:=3) rfl) Tryz.results3 (.cons (.cell zlF (k:=1) rfl rfl) .nil) rfl Splits.nil
 refine zyR 7 rfl ?_
 refine zaS (k:=1) (l':=[.bool false]) zpA rfl rfl rfl rfl rfl (fun _ _=>rfl) rfl ?_
 refine zyN (zaH ?_)
 cases h
 exact zfF (rs:=[.cell 4 4]) ds1 () (.inl rfl) (zb4 (k:=3) rfl) Tryz.results3 (.cons (.cell zlF (k:=1) rfl rfl) .nil) rfl Splits.nil
end Go.Proofs.YtbempdelckaccaaGreatDoor

namespace Go.Proofs.YtbempdelckaccaaGreatDoor
open Go.RowKit Go.Lib
set_option linter.unusedVariables false
set_option linter.unusedSimpArgs false
def k3 (v:Gapi_Verse):ByteArray×Int×Int:=(v.Text,v.Indent,v.Stanza)
instance {a b:List (ByteArray×Int×Int)}:Decidable (a=b):=inferInstance
end Go.Proofs.YtbempdelckaccaaGreatDoor

namespace Go.Proofs.YtbempdelckaccaaGreatDoor
open Go.RowKit Go.Lib
set_option linter.unusedVariables false
set_option linter.unusedSimpArgs false
end Go.Proofs.YtbempdelckaccaaGreatDoor

namespace Go.Proofs.YtbempdelckaccaaGreatDoor
open Go.RowKit Go.Lib
set_option linter.unusedVariables false
set_option linter.unusedSimpArgs false
end Go.Proofs.YtbempdelckaccaaGreatDoor

namespace Go.Proofs.YtbempdelckaccaaGreatDoor
open Go.RowKit Go.Lib
set_option linter.unusedVariables false
set_option linter.unusedSimpArgs false
end Go.Proofs.YtbempdelckaccaaGreatDoor

namespace Go.Proofs.YtbempdelckaccaaGreatDoor
open Go.RowKit Go.Lib
set_option linter.unusedVariables false
set_option linter.unusedSimpArgs false
end Go.Proofs.YtbempdelckaccaaGreatDoor

namespace Go.Proofs.YtbempdelckaccaaGreatDoor
open Go.RowKit Go.Lib
set_option linter.unusedVariables false
set_option linter.unusedSimpArgs false
def zqz:Nat→List (List Gapi_Row)→List (Int×Gapi_Row)
 | _,[]=>[]
 | k,pg::ps=>pg.map (fun r=>((k:Int),r))++zqz (k+1) ps
theorem zop:∀ (ps:List (List Gapi_Row)) (k:Nat),(zqz k ps).map Prod.snd=ps.flatten
 | [],k=>rfl
 | pg::ps,k=>by
  show (pg.map _++zqz (k+1) ps).map Prod.snd=_
  rw [List.map_append,zop ps (k+1),List.map_map,List.flatten_cons]
  congr 1
  exact List.map_id _
theorem ztp (k:Int) (pg:List Gapi_Row) (hpg:pg.length≤1000000) (X:List (Int×Gapi_Row)) (j:Option (List (Int×Gapi_Row))) (hj:j=some X):∀ (d i m:Nat),i+d=pg.length→d<m→zaF (fun _=>none) (zb6 k j pg) m (i:Int)=some ((pg.drop i).map (fun r=>(k,r))++X):=by
 intro d
 induction d with
 | zero =>
  intro i m hi hm
  obtain ⟨m,rfl⟩:∃ q,m=q+1:=⟨m - 1,by omega⟩
  rw [zct]
  unfold zb6
  refine zay (decide_eq_false (by omega)) ?_
  rw [List.drop_of_length_le (by omega),hj]; rfl
 | succ d ih =>
  intro i m hi hm
  obtain ⟨m,rfl⟩:∃ q,m=q+1:=⟨m - 1,by omega⟩
  rw [zct]
  have ih':=ih (i+1) m (by omega) (by omega)
  rw [show ((i+1:Nat):Int)=(i:Int)+1 by omega] at ih'
  generalize zaF (fun _=>none) (zb6 k j pg) m=ag at ih' ⊢
  have hv:pg[i]?=some pg[i]:=List.getElem?_eq_getElem (by omega)
  unfold zb6
  refine zaz (decide_eq_true (by omega)) (zaJ (zes hv) ?_)
  rw [zpe (show I64 ((i:Int)+1) from ⟨by omega,by omega⟩),ih',List.drop_eq_getElem_cons (show i<pg.length by omega)]
  rfl
theorem zsm (b:Gpage_Book) (hp:b.pages.length≤1000000) (hpg:∀ pg∈b.pages,pg.length≤1000000):∀ (d i m:Nat),i+d=b.pages.length→d<m→zaF (fun _=>none) (zb7 b) m (i:Int)=some (zqz i (b.pages.drop i)):=by
 intro d
 induction d with
 | zero =>
  intro i m hi hm
  obtain ⟨m,rfl⟩:∃ q,m=q+1:=⟨m - 1,by omega⟩
  rw [zct]
  unfold zb7
  refine zay (decide_eq_false (by omega)) ?_
  rw [List.drop_of_length_le (by omega)]; rfl
 | succ d ih =>
  intro i m hi hm
  obtain ⟨m,rfl⟩:∃ q,m=q+1:=⟨m - 1,by omega⟩
  rw [zct]
  have ih':=ih (i+1) m (by omega) (by omega)
  rw [show ((i+1:Nat):Int)=(i:Int)+1 by omega] at ih'
  generalize zaF (fun _=>none) (zb7 b) m=ag at ih' ⊢
  have hv:b.pages[i]?=some b.pages[i]:=List.getElem?_eq_getElem (by omega)
  have hl:=hpg _ (List.mem_of_getElem? hv)
  unfold zb7
  refine zaz (decide_eq_true (by omega)) (zbs (zaJ (zes hv) ?_))
  have hin:=ztp (i:Int) b.pages[i] hl _ (grd (I64 ((i:Int)+1))<|ag ((i:Int)+1)) (by rw [zpe (show I64 ((i:Int)+1) from ⟨by omega,by omega⟩),ih']) b.pages[i].length 0 zbV (by omega) (zb8 (by omega))
  refine hin.trans ?_
  rw [List.drop_zero,List.drop_eq_getElem_cons (show i<b.pages.length by omega)]
  rfl
theorem zve (b:Gpage_Book) (hp:b.pages.length≤1000000) (hpg:∀ pg∈b.pages,pg.length≤1000000):zer b=some (zqz 0 b.pages):=by
 have:=zsm b hp hpg b.pages.length 0 zbV (by omega) (zb8 (by omega))
 rwa [List.drop_zero] at this
def nb (r:Gapi_Row):Bool:=r.Line != -1
def zy4 (a r:Gapi_Row) (first:Bool):Bool :=
 if first then decide (r.Line=0)&&(decide (r.Stanza=0)&&decide (r.Part=0))
 else if r.Line=a.Line then decide (r.Stanza=a.Stanza)&&decide (r.Part=a.Part+1)
 else decide (r.Line=a.Line+1)&&(decide (r.Part=0)&&(decide (r.Stanza=a.Stanza)||decide (r.Stanza=a.Stanza+1)))
structure Sml (a:Gapi_Row):Prop where
 l:0≤a.Line∧a.Line≤1000000
 s:0≤a.Stanza∧a.Stanza≤1000000
 p:0≤a.Part∧a.Part≤1000000
abbrev StB:Type:=List (List ByteArray)×Gapi_Row
structure NewR (S:List (List ByteArray)) (a r:Gapi_Row):Prop where
 sm:Sml a
 fo:zy4 a r (((S.length:Int):Int)==0)=true
 ln:r.Line≠-1
 pt:r.Part=0
 i:0≤r.Indent∧r.Indent≤1024
 sp:zdv r.Text (⟨#[32]⟩:ByteArray)=some false
 sz:r.Text.size≤1024
inductive Bk:List (List ByteArray)→Gapi_Row→List Gapi_Row→List (List ByteArray)→Gapi_Row→Prop
 | nil {S a}:Bk S a [] S a
 | skip {S a r rs S' a'} (h:r.Line=-1) (hr:Bk S a rs S' a'):Bk S a (r::rs) S' a'
 | new1 {S a r rs S' a'} (h:NewR S a r) (hs:r.Stanza=(S.length:Int)) (hl:S.length≤1000000) (hr:Bk (S++[[zgI r.Indent++r.Text]]) r rs S' a'):Bk S a (r::rs) S' a'
 | new2 {P y a r rs S' a'} (h:NewR (P++[y]) a r) (hs:r.Stanza=(P.length:Int)) (hl:P.length≤1000000) (hy:y.length≤1000000) (hr:Bk (P++[y++[zgI r.Indent++r.Text]]) r rs S' a'):Bk (P++[y]) a (r::rs) S' a'
 | cont {P y c a r rs S' a'} (hs:r.Stanza=(P.length:Int)) (hl:P.length≤1000000) (hy:y.length≤1000000) (sm:Sml a) (e1:r.Line=a.Line) (e2:r.Stanza=a.Stanza) (e3:r.Part=a.Part+1) (hc:c.size≤1000000) (ht:r.Text.size≤1000000)
   (hr:Bk (P++[y++[c++r.Text]]) r rs S' a'):Bk (P++[y++[c]]) a (r::rs) S' a'
theorem Bk.app {S a rs S' a'} (h:Bk S a rs S' a') {rs2 S2 a2} (h2:Bk S' a' rs2 S2 a2):Bk S a (rs++rs2) S2 a2:=by
 induction h with
 | nil=>exact h2
 | skip h hr ih=>exact .skip h (ih h2)
 | new1 h hs hl hr ih=>exact .new1 h hs hl (ih h2)
 | new2 h hs hl hy hr ih=>exact .new2 h hs hl hy (ih h2)
 | cont hs hl hy sm e1 e2 e3 hc ht hr ih=>exact .cont hs hl hy sm e1 e2 e3 hc ht (ih h2)
theorem Bk.blanks {B:List Gapi_Row}:∀ {S a S' a'},Bk S a (B.filter nb) S' a'→Bk S a B S' a':=by
 induction B with
 | nil=>intro S a S' a' h; exact h
 | cons r B ih =>
  intro S a S' a' h
  cases hb:nb r with
  | false =>
   rw [List.filter_cons_of_neg (by rw [hb]; decide)] at h
   have:r.Line=-1:=by unfold nb at hb; simpa using hb
   exact .skip this (ih h)
  | true =>
   rw [List.filter_cons_of_pos hb] at h
   cases h with
   | skip h hr=>exact .skip h (ih hr)
   | new1 h hs hl hr=>exact .new1 h hs hl (ih hr)
   | new2 h hs hl hy hr=>exact .new2 h hs hl hy (ih hr)
   | cont hs hl hy sm e1 e2 e3 hc ht hr=>exact .cont hs hl hy sm e1 e2 e3 hc ht (ih hr)
structure BInv (k:Int) (S:List (List ByteArray)) (a:Gapi_Row):Prop where
 sm:Sml a
 hd:(S.length=0∧k=0)∨(a.Line=k - 1∧a.Stanza=(S.length:Int) - 1∧0<S.length)
section
variable {l:Gapi_Layout} (hm:zh8 l=true)
include hm
end
theorem zpK {R:Nat→Nat→Bool} {rows:List Gapi_Row}:∀ (ts:List Nat) (f:Nat),zss R rows.length f ts→f≤rows.length→ts.length+f≤rows.length∧(zf3 rows f ts).flatten.length+2*f≤2*rows.length∧∀ pg∈zf3 rows f ts,pg.length≤2*rows.length
 | [],f,h,hf=>by
  have:f=rows.length:=h
  refine ⟨by simp; omega,by show 0+2*f≤_; omega,fun pg hpg => ?_⟩
  cases hpg
 | t::ts,f,h,hf=>by
  obtain ⟨h1,h2,_,h3⟩:=h
  obtain ⟨i1,i2,i3⟩:=zpK ts t h3 h2
  have hp:=zo4 ((rows.drop f).take (t - f)) none
  have hl:((rows.drop f).take (t - f)).length=t - f:=by rw [List.length_take,List.length_drop]; omega
  rw [hl] at hp
  refine ⟨by rw [List.length_cons]; omega,?_,fun pg hpg => ?_⟩
  ·show ((pgL none ((rows.drop f).take (t - f))::zf3 rows t ts).flatten).length+_≤_
   rw [List.flatten_cons,List.length_append]; omega
  ·rcases List.mem_cons.1 (show pg∈pgL none ((rows.drop f).take (t - f))::zf3 rows t ts from hpg) with rfl | hpg
   ·omega
   ·exact i3 pg hpg
theorem ztq {l:Gapi_Layout} (hm:zh8 l=true) {vs:List Gapi_Verse} (hg:PgOk vs):(zlh l vs).pages.length≤61440∧(zlh l vs).pages.flatten.length≤122880∧∀ pg∈(zlh l vs).pages,pg.length≤122880:=by
 have hR:=zmU hm vs hg.ok (by have:=hg.len; omega) hg.stp
 have hrise:=zjF (zmx hR (zrF hm)) (zqc (rows:=zcO l 0 vs) (zrF hm)) (zcO l 0 vs).length 0 (Nat.zero_le _) (by omega)
 obtain ⟨h1,h2,h3⟩:=zpK (zjb (zcO l 0 vs) l.Height) 0 hrise (Nat.zero_le _)
 have h4:=zkG hm vs 0 hg.ok
 have h5:=hg.len
 have h6:=zjt (zcO l 0 vs) (zjb (zcO l 0 vs) l.Height) 0
 refine ⟨?_,?_,fun pg hpg => ?_⟩
 ·show (zf3 (zcO l 0 vs) 0 (zjb (zcO l 0 vs) l.Height)).length≤_
  rw [h6]; omega
 ·show (zf3 (zcO l 0 vs) 0 (zjb (zcO l 0 vs) l.Height)).flatten.length≤_
  omega
 ·have:=h3 pg hpg; omega
end Go.Proofs.YtbempdelckaccaaGreatDoor
