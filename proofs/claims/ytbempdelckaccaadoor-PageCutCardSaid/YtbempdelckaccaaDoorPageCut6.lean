/-
  Texts laid together: LgA, PgB, PgC, PgD, LgB, LgD, PgE, LgE, PlPageCut. Nothing is assumed.
-/
import Derived.Test.YtbempdelckaccaaDoorPageCut3
import Derived.Test.YtbempdelckaccaaDoorPageCut5
import Derived.Test.YtbempdelckaccaaDoorPageCut2
import Derived.Test.YtbempdelckaccaaDoorPageCut4
set_option maxRecDepth 100000
set_option maxHeartbeats 4000000

namespace Go.Proofs.YtbempdelckaccaaDoor
open Go.RowKit Go.Lib
set_option linter.unusedVariables false
set_option linter.unusedSimpArgs false
def zcY (p1:Gpage_parter) (from1:Int) (to1:Int):Option Int :=
grd (I64 (to1 - from1)) <|
grd (I64 (to1 - 1)) <|
zal (zbF p1.blanks (to1 - 1)) fun (q1:Int) =>
grd (I64 ((to1 - from1)+q1)) <|
zal (zbF p1.blanks from1) fun (q2:Int) =>
grd (I64 (((to1 - from1)+q1) - q2)) <|
some (((to1 - from1)+q1) - q2)
theorem zfO {bp1:Nat} {p1:Gpage_parter} {p1_h0 p1_h1 p1_h2 p1_h3:Hd} {from1:Int} {to1:Int} {r:Int} (h:zcY p1 from1 to1=some r):FnR Tryd.prog 62 [zP bp1,zI from1,zI to1] [cells bp1 [p1_h0.v,p1_h1.v,p1_h2.v,p1_h3.v,zI p1.heights] 96,zv1 p1_h0.v p1.rows,zv0 p1_h1.v p1.blanks,zv0 p1_h2.v p1.firsts,zv0 p1_h3.v p1.lasts] [] (fun _:Unit=>(zI r)) (fun _=>[]):=by
 unfold zcY at h
 refine FnR.intro Tryd.func62 rfl Tryd.ntmps62 (by simp) ?_
 intro w0 K hrd
 refine zyG (zyR 1 rfl (zyN (zaJ ?_)))
 obtain ⟨hg1,h⟩:=zbk h
 obtain ⟨hg2,h⟩:=zbk h
 obtain ⟨q1,hq1,h⟩:=zbg h
 obtain ⟨hg3,h⟩:=zbk h
 obtain ⟨q2,hq2,h⟩:=zbg h
 obtain ⟨hg4,h⟩:=zbk h
 refine zbu 19 [(0,7,zI to1),(1,8,zI from1),(2,9,zI (to1 - from1)),(3,10,zP bp1),(4,11,zP bp1),(5,12,.pointer (some ⟨bp1,1,none⟩)),(6,13,p1_h1.v),(7,14,zI to1),(8,15,zI (to1 - 1)),(9,16,.pointer (some ⟨zb7 p1_h1.v,(0+(to1 - 1:Int).toNat)*1,none⟩)),(10,17,zI q1),(11,18,zI ((to1 - from1)+q1)),(12,19,zP bp1),(13,20,zP bp1),(14,21,.pointer (some ⟨bp1,1,none⟩)),(15,22,p1_h1.v),(16,23,zI from1),(17,24,.pointer (some ⟨zb7 p1_h1.v,(0+(from1:Int).toNat)*1,none⟩)),(18,25,zI q2)] mixed kr kr dc (by rfl) kr kr (zyP 2 0 rfl (zad ?_ (zyP 1 3 rfl (zad ?_ (zad ?_ (zad ?_ (zyP 1 7 rfl (zad ?_ (zad ?_ (zad ?_ (zad ?_ (zyP 1 12 rfl (zad ?_ (zad ?_ (zad ?_ (zyP 1 16 rfl (zad ?_ (zad ?_ DrawPre.nil)))))))))))))))))) ?_
 · exact fun D n d c u i=>zbM rfl dc (zaa (m:=0) u rfl (d 0 dc)) (zaa (m:=1) u rfl (d 1 dc)) (zbj (r:=to1 - from1) (IntWalk.i64_in _ hg1)) (zaf 2 u i rfl)
 · exact fun D n d c u i=>zaA rfl dc (zaa (m:=3) u rfl (d 3 dc)) (zaf 4 u i rfl)
 · exact fun D n d c u i=>zab zlP rfl dc (zaa (m:=4) u rfl (d 4 dc)) (show _=1 from rfl) (zaf 5 u i rfl)
 · exact fun D n d c u i=>zbx (i:=0) hrd rfl zgE rfl dc (zaa (m:=5) u rfl (d 5 dc)) rfl (zaf 6 u i rfl)
 · exact fun D n d c u i=>zbM rfl dc (zaa (m:=7) u rfl (d 7 dc)) rfl (zbj (r:=to1 - 1) (IntWalk.i64_in _ hg2)) (zaf 8 u i rfl)
 · exact fun D n d c u i=>za8 (hrd.vw (i:=2) rfl) hq1 Tryd.underlying24 zde rfl dc (zaa (m:=6) u rfl (d 6 dc)) (zaa (m:=8) u rfl (d 8 dc)) rfl (zaf 9 u i rfl)
 · exact fun D n d c u i=>zcu (n:=0+(to1 - 1:Int).toNat) (j:=0) (i:=2) (q:=q1) hrd rfl zbh za6 rfl dc (zaa (m:=9) u rfl (d 9 dc)) (Vw.get (hrd.vw (i:=2) rfl) hq1) rfl dc rfl (zaf 10 u i rfl)
 · exact fun D n d c u i=>zbM rfl dc (zaa (m:=2) u rfl (d 2 dc)) (zaa (m:=10) u rfl (d 10 dc)) (zaQ (r:=(to1 - from1)+q1) (IntWalk.i64_in _ hg3)) (zaf 11 u i rfl)
 · exact fun D n d c u i=>zaA rfl dc (zaa (m:=12) u rfl (d 12 dc)) (zaf 13 u i rfl)
 · exact fun D n d c u i=>zab zlP rfl dc (zaa (m:=13) u rfl (d 13 dc)) (show _=1 from rfl) (zaf 14 u i rfl)
 · exact fun D n d c u i=>zbx (i:=0) hrd rfl zgE rfl dc (zaa (m:=14) u rfl (d 14 dc)) rfl (zaf 15 u i rfl)
 · exact fun D n d c u i=>za8 (hrd.vw (i:=2) rfl) hq2 Tryd.underlying24 zde rfl dc (zaa (m:=15) u rfl (d 15 dc)) (zaa (m:=16) u rfl (d 16 dc)) rfl (zaf 17 u i rfl)
 · exact fun D n d c u i=>zcu (n:=0+(from1:Int).toNat) (j:=0) (i:=2) (q:=q2) hrd rfl zbh za6 rfl dc (zaa (m:=17) u rfl (d 17 dc)) (Vw.get (hrd.vw (i:=2) rfl) hq2) rfl dc rfl (zaf 18 u i rfl)
 refine zaT rfl (zbj (r:=((to1 - from1)+q1) - q2) (IntWalk.i64_in _ hg4)) (zyR 1 rfl (zyN (zaI ?_)))
 cases h
 exact zaK (rs:=[.tmp 6]) () (.inl rfl) Tryd.results62 (.cons (.tmp rfl) .nil) rfl Splits.nil
def zdL (p1:Gpage_parter) (k1:Int):Option Int :=
grd (I64 (k1 - 1)) <|
zal (zbF p1.rows (k1 - 1)) fun (q1:Gapi_Row) =>
zal (zbF p1.rows k1) fun (q2:Gapi_Row) =>
zaw ((q1.Stanza:Int) != q2.Stanza) (
some 0
) (
zaw ((q1.Line:Int)==q2.Line) (
some 100
) (
zal (zbF p1.firsts q1.Stanza) fun (q3:Int) =>
zaw ((q1.Line:Int)==q3) (
some 50
) (
zal (zbF p1.lasts q2.Stanza) fun (q4:Int) =>
zaw ((q2.Line:Int)==q4) (
some 50
) (
some 10
)
)
)
)
theorem zhZ {bp1:Nat} {p1:Gpage_parter} {p1_h0 p1_h1 p1_h2 p1_h3:Hd} {k1:Int} {r:Int} (h:zdL p1 k1=some r):FnR Tryd.prog 63 [zP bp1,zI k1] [cells bp1 [p1_h0.v,p1_h1.v,p1_h2.v,p1_h3.v,zI p1.heights] 96,zv1 p1_h0.v p1.rows,zv0 p1_h1.v p1.blanks,zv0 p1_h2.v p1.firsts,zv0 p1_h3.v p1.lasts] [] (fun _:Unit=>(zI r)) (fun _=>[]):=by
 unfold zdL at h
 refine FnR.intro Tryd.func63 rfl Tryd.ntmps63 (by simp) ?_
 intro w0 K hrd
 refine zyG (zyR 1 rfl (zyN (zaJ ?_)))
 obtain ⟨hg1,h⟩:=zbk h
 obtain ⟨q1,hq1,h⟩:=zbg h
 obtain ⟨q2,hq2,h⟩:=zbg h
 refine zfU 2 ?_
 refine let vals1:(Nat×Nat)→List (Nat×Nat×Value):=fun b=>[(0,7,zP bp1),(1,8,zP bp1),(2,9,zP bp1),(3,10,p1_h0.v),(4,11,zI k1),(5,12,zI (k1 - 1)),(6,13,.pointer (some ⟨zb7 p1_h0.v,(0+(k1 - 1:Int).toNat)*6,none⟩)),(7,14,.agg (zr4 q1).toArray),(8,15,zP bp1),(9,16,zP bp1),(10,17,zP bp1),(11,18,p1_h0.v),(12,19,zI k1),(13,20,.pointer (some ⟨zb7 p1_h0.v,(0+(k1:Int).toNat)*6,none⟩)),(14,21,.agg (zr4 q2).toArray),(15,5,zP b.1),(16,6,zP b.2)]; let LL1:(Nat→Prop)→(Nat×Nat)→List Asn:=fun D b=>[eD D emp [(17,cells b.1 (zr4 q1) 38),(15,cells b.1 [zI 0,zI 0,zI 0,zI 0,zI 0,.string ByteArray.empty] 38)],eD D emp [(16,cells b.2 [zI 0,zI 0,zI 0,zI 0,zI 0,.string ByteArray.empty] 38)]]; ?_
 have zhq:zyQ [15,16,17] LL1:=fun i h D b=>zac (zjd rfl h) (zac (zjd rfl h) rfl)
 refine zdI (β:=Nat×Nat) 18 ((0:Nat),(0:Nat)) vals1 LL1 mixed kr kr dc (fun _=>rfl) (zac zbS (zac zbS rfl)) (zld zhq (fun _=>rfl) (fun _=>rfl) 1 0 (fun _=>rfl) rfl (zyq zhq rfl (fun _=>rfl) (fun _=>rfl) ?_ (zyq zhq rfl (fun _=>rfl) (fun _=>rfl) ?_ (zyq zhq rfl (fun _=>rfl) (fun _=>rfl) ?_ (zld zhq (fun _=>rfl) (fun _=>rfl) 1 4 (fun _=>rfl) rfl (zyq zhq rfl (fun _=>rfl) (fun _=>rfl) ?_ (zyq zhq rfl (fun _=>rfl) (fun _=>rfl) ?_ (ziq zhq rfl (fun _=>rfl) (fun _=>rfl) ?_ (zld zhq (fun _=>rfl) (fun _=>rfl) 1 8 (fun _=>rfl) rfl (zyq zhq rfl (fun _=>rfl) (fun _=>rfl) ?_ (zyq zhq rfl (fun _=>rfl) (fun _=>rfl) ?_ (zyq zhq rfl (fun _=>rfl) (fun _=>rfl) ?_ (zld zhq (fun _=>rfl) (fun _=>rfl) 1 12 (fun _=>rfl) rfl (zyq zhq rfl (fun _=>rfl) (fun _=>rfl) ?_ (ziq zhq rfl (fun _=>rfl) (fun _=>rfl) ?_ (zat ?_ (zat ?_ (zat ?_ DrawG.nil)))))))))))))))))) ?_
 · exact fun D ⟨b1,b2⟩ n d c u i=>zaA rfl dc (zaa (m:=0) u rfl (d 0 dc)) (zaf 1 u i rfl)
 · exact fun D ⟨b1,b2⟩ n d c u i=>zab zgP rfl dc (zaa (m:=1) u rfl (d 1 dc)) (show _=0 from rfl) (zaf 2 u i rfl)
 · exact fun D ⟨b1,b2⟩ n d c u i=>zbx (i:=0) hrd rfl znn rfl dc (zaa (m:=2) u rfl (d 2 dc)) rfl (zaf 3 u i rfl)
 · exact fun D ⟨b1,b2⟩ n d c u i=>zbM rfl dc (zaa (m:=4) u rfl (d 4 dc)) rfl (zbj (r:=k1 - 1) (IntWalk.i64_in _ hg1)) (zaf 5 u i rfl)
 · exact fun D ⟨b1,b2⟩ n d c u i=>za8 (hrd.vw (i:=1) rfl) hq1 Tryd.underlying30 zfX rfl dc (zaa (m:=3) u rfl (d 3 dc)) (zaa (m:=5) u rfl (d 5 dc)) rfl (zaf 6 u i rfl)
 · exact fun D ⟨b1,b2⟩ n d c u i=>⟨_,(zac (zai (fun hD=>n (c 17 _ rfl hD 7 dc)) rfl) rfl),zeq (m:=0+(k1 - 1:Int).toNat) (j:=0) (i:=1) (q:=q1) (cs:=(zr4 q1)) hrd rfl zno zbQ rfl dc (zaa (m:=6) u rfl (d 6 dc)) (Vw.get (hrd.vw (i:=1) rfl) hq1) rfl rfl rfl (zaf 7 u i rfl)⟩
 · exact fun D ⟨b1,b2⟩ n d c u i=>zaA rfl dc (zaa (m:=8) u rfl (d 8 dc)) (zaf 9 u i rfl)
 · exact fun D ⟨b1,b2⟩ n d c u i=>zab zgP rfl dc (zaa (m:=9) u rfl (d 9 dc)) (show _=0 from rfl) (zaf 10 u i rfl)
 · exact fun D ⟨b1,b2⟩ n d c u i=>zbx (i:=0) hrd rfl znn rfl dc (zaa (m:=10) u rfl (d 10 dc)) rfl (zaf 11 u i rfl)
 · exact fun D ⟨b1,b2⟩ n d c u i=>za8 (hrd.vw (i:=1) rfl) hq2 Tryd.underlying30 zfX rfl dc (zaa (m:=11) u rfl (d 11 dc)) (zaa (m:=12) u rfl (d 12 dc)) rfl (zaf 13 u i rfl)
 · exact fun D ⟨b1,b2⟩ n d c u i=>⟨_,(zcZ rfl),zeq (m:=0+(k1:Int).toNat) (j:=0) (i:=1) (q:=q2) (cs:=(zr4 q2)) hrd rfl zno zbQ rfl dc (zaa (m:=13) u rfl (d 13 dc)) (Vw.get (hrd.vw (i:=1) rfl) hq2) rfl rfl rfl (zaf 14 u i rfl)⟩
 ·
  intro D b hn hd hcl
  obtain ⟨_,b2⟩:=b
  refine zaG (zac (zai (fun hD=>hn (hcl 17 _ rfl hD 15 dc)) (zai hn zap)) rfl) ?_
  refine zbt zos rfl dc (fun b1 => ?_)
  refine zcD 0 rfl rfl ?_
  exact zaO (b1,b2) 15 (by rfl) (by rfl) rfl (ztk (zcx (zaq (fun hD=>absurd hD hn) (zaq (fun _=>rfl) rfl)))) (zac (zai (fun h=>h.elim (fun hD=>hn (hcl 17 _ rfl hD 15 dc)) (fun h=>absurd h dc)) (zaH (Or.inr rfl) rfl)) (zac (zao (by rfl)) rfl))
 ·
  intro D b hn hd hcl
  obtain ⟨b1,_⟩:=b
  refine zaG (zac (zai (fun hD=>hn (hcl 17 _ rfl hD 16 dc)) rfl) (zac (zai hn zap) rfl)) ?_
  refine zbt zos rfl dc (fun b2 => ?_)
  refine zcD 1 rfl rfl ?_
  exact zaO (b1,b2) 16 (by rfl) (by rfl) rfl (zmf (zcx (zaq (fun hD=>absurd hD hn) rfl))) (zac ((zao (by rfl)).trans (zai (fun hD=>hn (hcl 17 _ rfl hD 16 dc)) rfl)) (zac (zaH (Or.inr rfl) rfl) rfl))
 ·
  intro D b hn hd hcl
  obtain ⟨b1,b2⟩:=b
  refine zaG (zac (zai hn (zaH (hd 15 dc) rfl)) (zac (zaH (hd 16 dc) rfl) rfl)) (zaY (k:=0) (vs:=(zr4 q1)) (l':=(zr4 q1)) zfX rfl (zaa (m:=15) rfl rfl (hd 15 dc)) (zaa (m:=7) rfl rfl (hd 7 dc)) rfl rfl (show _≤_ by simp) rfl rfl ?_)
  exact zha (b1,b2) (by rfl) (zmg (zcx rfl)) (zac (zaH (Or.inr rfl) rfl) (zac ((zao (by rfl)).trans (zaH (hd 16 dc) rfl)) rfl))
 intro D b hall
 obtain ⟨b1,b2⟩:=b
 refine zaG (zac (zaH (hall 17 dc) rfl) (zac (zaH (hall 16 dc) rfl) rfl)) (zaY (k:=1) (vs:=(zr4 q2)) (l':=(zr4 q2)) zfX rfl rfl rfl rfl rfl (show _≤_ by simp) rfl rfl (zyN (zaJ (zaE (zyG (zab zdT rfl dc rfl (show _=1 from rfl) (zar (k:=0) zbh rfl dc rfl rfl rfl (zab zdT rfl dc rfl (show _=1 from rfl) (zar (k:=1) zbh rfl dc rfl rfl rfl (zaT rfl zce (zyR 1 rfl ?_)))))))))))
 refine zyN ?_
 refine zyB rfl h (fun h => ?_) (fun h => ?_)
 ·
  refine zyG (zyR 1 rfl (zyN (zaI (zaD (zau ?_)))))
  cases h
  exact zaK (rs:=[.tmp 4]) () (.inl rfl) Tryd.results63 (.cons (.tmp rfl) .nil) rfl Splits.nil
 refine zyG (zab zfS rfl dc rfl (show _=0 from rfl) (zar (k:=0) zbh rfl dc rfl rfl rfl (zab zfS rfl dc rfl (show _=0 from rfl) (zar (k:=1) zbh rfl dc rfl rfl rfl (zaT rfl zaP (zyR 1 rfl (zyN ?_)))))))
 refine zyB rfl h (fun h => ?_) (fun h => ?_)
 ·
  refine zyG (zyR 1 rfl (zyN (zaI (zaD (zau ?_)))))
  cases h
  exact zaK (rs:=[.tmp 4]) () (.inl rfl) Tryd.results63 (.cons (.tmp rfl) .nil) rfl Splits.nil
 refine zaJ ?_
 obtain ⟨q3,hq3,h⟩:=zbg h
 refine zd8 (b:=(q1.Line:Int)==q3) (fun hb3 => ?_) (fun hb3 => ?_)
 ·
  have h:=zgv hb3 h
  refine zbu 22 [(0,35,zP b1),(1,36,zI q1.Line),(2,37,zP bp1),(3,38,zP bp1),(4,39,.pointer (some ⟨bp1,2,none⟩)),(5,40,p1_h2.v),(6,41,.pointer (some ⟨b1,1,none⟩)),(7,42,zI q1.Stanza),(8,43,.pointer (some ⟨zb7 p1_h2.v,(0+(q1.Stanza:Int).toNat)*1,none⟩)),(9,44,zI q3),(10,45,.bool true),(11,46,.bool true),(12,47,undef),(13,48,undef),(14,49,undef),(15,50,undef),(16,51,undef),(17,52,undef),(18,53,undef),(19,54,undef),(20,55,undef),(21,56,undef)] mixed kr kr dc (by rfl) kr kr (zad ?_ (zad ?_ (zyP 1 2 rfl (zad ?_ (zad ?_ (zad ?_ (zad ?_ (zad ?_ (zad ?_ (zad ?_ (zad ?_ (zyP 11 11 rfl DrawPre.nil)))))))))))) ?_
  · exact fun D n d c u i=>zab zfS rfl dc (za9 (by rfl) rfl) (show _=0 from rfl) (zaf 0 u i rfl)
  · exact fun D n d c u i=>zar (k:=0) zbh rfl dc (zaa (m:=0) u rfl (d 0 dc)) rfl rfl (zaf 1 u i rfl)
  · exact fun D n d c u i=>zaA rfl dc (zaa (m:=2) u rfl (d 2 dc)) (zaf 3 u i rfl)
  · exact fun D n d c u i=>zab zjZ rfl dc (zaa (m:=3) u rfl (d 3 dc)) (show _=2 from rfl) (zaf 4 u i rfl)
  · exact fun D n d c u i=>zbx (i:=0) hrd rfl zgE rfl dc (zaa (m:=4) u rfl (d 4 dc)) rfl (zaf 5 u i rfl)
  · exact fun D n d c u i=>zab zdT rfl dc (za9 (by rfl) rfl) (show _=1 from rfl) (zaf 6 u i rfl)
  · exact fun D n d c u i=>zar (k:=0) zbh rfl dc (zaa (m:=6) u rfl (d 6 dc)) rfl rfl (zaf 7 u i rfl)
  · exact fun D n d c u i=>za8 (hrd.vw (i:=3) rfl) hq3 Tryd.underlying24 zde rfl dc (zaa (m:=5) u rfl (d 5 dc)) (zaa (m:=7) u rfl (d 7 dc)) rfl (zaf 8 u i rfl)
  · exact fun D n d c u i=>zcu (n:=0+(q1.Stanza:Int).toNat) (j:=0) (i:=3) (q:=q3) hrd rfl zbh za6 rfl dc (zaa (m:=8) u rfl (d 8 dc)) (Vw.get (hrd.vw (i:=3) rfl) hq3) rfl dc rfl (zaf 9 u i rfl)
  · exact fun D n d c u i=>zbM rfl dc (zaa (m:=1) u rfl (d 1 dc)) (zaa (m:=9) u rfl (d 9 dc)) zaP (zdF (show Value.bool ((q1.Line:Int)==q3)=Value.bool true from congrArg Value.bool hb3) (zaf 10 u i rfl))
  refine zyR 3 rfl (zyN (za7 rfl (zyG (zyR 1 rfl (zyN (zaI (zaD (zau ?_))))))))
  cases h
  exact zaK (rs:=[.tmp 4]) () (.inl rfl) Tryd.results63 (.cons (.tmp rfl) .nil) rfl Splits.nil
 have h:=zgw hb3 h
 obtain ⟨q4,hq4,h⟩:=zbg h
 refine zbu 22 [(0,35,zP b1),(1,36,zI q1.Line),(2,37,zP bp1),(3,38,zP bp1),(4,39,.pointer (some ⟨bp1,2,none⟩)),(5,40,p1_h2.v),(6,41,.pointer (some ⟨b1,1,none⟩)),(7,42,zI q1.Stanza),(8,43,.pointer (some ⟨zb7 p1_h2.v,(0+(q1.Stanza:Int).toNat)*1,none⟩)),(9,44,zI q3),(10,45,.bool false),(11,46,.bool false),(12,47,zP b2),(13,48,zI q2.Line),(14,49,zP bp1),(15,50,zP bp1),(16,51,.pointer (some ⟨bp1,3,none⟩)),(17,52,p1_h3.v),(18,53,.pointer (some ⟨b2,1,none⟩)),(19,54,zI q2.Stanza),(20,55,.pointer (some ⟨zb7 p1_h3.v,(0+(q2.Stanza:Int).toNat)*1,none⟩)),(21,56,zI q4)] mixed kr kr dc (by rfl) kr kr (zad ?_ (zad ?_ (zyP 1 2 rfl (zad ?_ (zad ?_ (zad ?_ (zad ?_ (zad ?_ (zad ?_ (zad ?_ (zad ?_ (zyP 1 11 rfl (zad ?_ (zad ?_ (zyP 1 14 rfl (zad ?_ (zad ?_ (zad ?_ (zad ?_ (zad ?_ (zad ?_ (zad ?_ DrawPre.nil)))))))))))))))))))))) ?_
 · exact fun D n d c u i=>zab zfS rfl dc (za9 (by rfl) rfl) (show _=0 from rfl) (zaf 0 u i rfl)
 · exact fun D n d c u i=>zar (k:=0) zbh rfl dc (zaa (m:=0) u rfl (d 0 dc)) rfl rfl (zaf 1 u i rfl)
 · exact fun D n d c u i=>zaA rfl dc (zaa (m:=2) u rfl (d 2 dc)) (zaf 3 u i rfl)
 · exact fun D n d c u i=>zab zjZ rfl dc (zaa (m:=3) u rfl (d 3 dc)) (show _=2 from rfl) (zaf 4 u i rfl)
 · exact fun D n d c u i=>zbx (i:=0) hrd rfl zgE rfl dc (zaa (m:=4) u rfl (d 4 dc)) rfl (zaf 5 u i rfl)
 · exact fun D n d c u i=>zab zdT rfl dc (za9 (by rfl) rfl) (show _=1 from rfl) (zaf 6 u i rfl)
 · exact fun D n d c u i=>zar (k:=0) zbh rfl dc (zaa (m:=6) u rfl (d 6 dc)) rfl rfl (zaf 7 u i rfl)
 · exact fun D n d c u i=>za8 (hrd.vw (i:=3) rfl) hq3 Tryd.underlying24 zde rfl dc (zaa (m:=5) u rfl (d 5 dc)) (zaa (m:=7) u rfl (d 7 dc)) rfl (zaf 8 u i rfl)
 · exact fun D n d c u i=>zcu (n:=0+(q1.Stanza:Int).toNat) (j:=0) (i:=3) (q:=q3) hrd rfl zbh za6 rfl dc (zaa (m:=8) u rfl (d 8 dc)) (Vw.get (hrd.vw (i:=3) rfl) hq3) rfl dc rfl (zaf 9 u i rfl)
 · exact fun D n d c u i=>zbM rfl dc (zaa (m:=1) u rfl (d 1 dc)) (zaa (m:=9) u rfl (d 9 dc)) zaP (zdF (show Value.bool ((q1.Line:Int)==q3)=Value.bool false from congrArg Value.bool hb3) (zaf 10 u i rfl))
 · exact fun D n d c u i=>zab zfS (zeQ rfl (zaa (m:=11) u rfl (d 11 dc))) dc (za9 (by rfl) rfl) (show _=0 from rfl) (zaf 12 u i rfl)
 · exact fun D n d c u i=>zar (k:=1) zbh (zeQ rfl (zaa (m:=11) u rfl (d 11 dc))) dc (zaa (m:=12) u rfl (d 12 dc)) rfl rfl (zaf 13 u i rfl)
 · exact fun D n d c u i=>zaA (zeQ rfl (zaa (m:=11) u rfl (d 11 dc))) dc (zaa (m:=14) u rfl (d 14 dc)) (zaf 15 u i rfl)
 · exact fun D n d c u i=>zab zlO (zeQ rfl (zaa (m:=11) u rfl (d 11 dc))) dc (zaa (m:=15) u rfl (d 15 dc)) (show _=3 from rfl) (zaf 16 u i rfl)
 · exact fun D n d c u i=>zbx (i:=0) hrd rfl zgE (zeQ rfl (zaa (m:=11) u rfl (d 11 dc))) dc (zaa (m:=16) u rfl (d 16 dc)) rfl (zaf 17 u i rfl)
 · exact fun D n d c u i=>zab zdT (zeQ rfl (zaa (m:=11) u rfl (d 11 dc))) dc (za9 (by rfl) rfl) (show _=1 from rfl) (zaf 18 u i rfl)
 · exact fun D n d c u i=>zar (k:=1) zbh (zeQ rfl (zaa (m:=11) u rfl (d 11 dc))) dc (zaa (m:=18) u rfl (d 18 dc)) rfl rfl (zaf 19 u i rfl)
 · exact fun D n d c u i=>za8 (hrd.vw (i:=4) rfl) hq4 Tryd.underlying24 zde (zeQ rfl (zaa (m:=11) u rfl (d 11 dc))) dc (zaa (m:=17) u rfl (d 17 dc)) (zaa (m:=19) u rfl (d 19 dc)) rfl (zaf 20 u i rfl)
 · exact fun D n d c u i=>zcu (n:=0+(q2.Stanza:Int).toNat) (j:=0) (i:=4) (q:=q4) hrd rfl zbh za6 (zeQ rfl (zaa (m:=11) u rfl (d 11 dc))) dc (zaa (m:=20) u rfl (d 20 dc)) (Vw.get (hrd.vw (i:=4) rfl) hq4) rfl dc rfl (zaf 21 u i rfl)
 refine zaT rfl zaP (zyR 2 rfl (zyN ?_))
 refine zyB rfl h (fun h => ?_) (fun h => ?_)
 ·
  refine zyG (zyR 1 rfl (zyN (zaI (zaD (zau ?_)))))
  cases h
  exact zaK (rs:=[.tmp 4]) () (.inl rfl) Tryd.results63 (.cons (.tmp rfl) .nil) rfl Splits.nil
 refine zas (zag (zaL (zyG (zyR 1 rfl (zyN (zaI ?_))))))
 cases h
 exact zaK (rs:=[.tmp 4]) () (.inl rfl) Tryd.results63 (.cons (.tmp rfl) .nil) rfl Splits.nil
def zbG (p1:Gpage_parter) (from3:Int) (j2:(List Gpage_best)→Option ((List Int)×Int)) (ag2:(List Gpage_best)→Int→Option ((List Int)×Int)) (all8:List Gpage_best) (to3:Int):Option ((List Int)×Int) :=
zaw (decide ((to3:Int)≤(p1.rows.length:Int))) (
zal (zcY p1 from3 to3) fun (r1:Int) =>
zaw (decide ((r1:Int)≤p1.heights)) (
zbl (fun (j3:(List Gpage_best)→Option ((List Int)×Int)) =>
zbl (fun (j4:Int→Int→Option ((List Int)×Int)) =>
zaw (decide ((to3:Int)<(p1.rows.length:Int))) (
zal (zcY p1 from3 to3) fun (r2:Int) =>
grd (I64 (p1.heights - r2)) <|
grd (I64 ((p1.heights - r2)*(p1.heights - r2))) <|
zal (zdL p1 to3) fun (r3:Int) =>
grd (I64 (((p1.heights - r2)*(p1.heights - r2))+r3)) <|
zal (zbF all8 to3) fun (q2:Gpage_best) =>
grd (I64 ((((p1.heights - r2)*(p1.heights - r2))+r3)+q2.cost)) <|
grd (I64 (q2.rows+1)) <|
j4 ((((p1.heights - r2)*(p1.heights - r2))+r3)+q2.cost) (q2.rows+1)
) (
j4 0 1
)
) (fun (b2:Int) (b3:Int) =>
zal (zbF all8 from3) fun (q3:Gpage_best) =>
zaw (decide ((q3.rows:Int)<0)) (
zal (zbF all8 from3) fun (q4:Gpage_best) =>
j3 (all8.set (from3:Int).toNat (⟨b2,b3,to3⟩:Gpage_best))
) (
zaw (decide ((b2:Int)<q3.cost)) (
zal (zbF all8 from3) fun (q5:Gpage_best) =>
j3 (all8.set (from3:Int).toNat (⟨b2,b3,to3⟩:Gpage_best))
) (
zaw ((b2:Int)==q3.cost) (
zaw (decide ((b3:Int)≤q3.rows)) (
zal (zbF all8 from3) fun (q6:Gpage_best) =>
j3 (all8.set (from3:Int).toNat (⟨b2,b3,to3⟩:Gpage_best))
) (
j3 all8
)
) (
j3 all8
)
)
)
)
) (fun (all9:List Gpage_best) =>
grd (I64 (to3+1)) <|
ag2 all9 (to3+1)
)
) (
j2 all8
)
) (
j2 all8
)
def zbH (p1:Gpage_parter) (j1:(List Gpage_best)→Option ((List Int)×Int)) (ag1:(List Gpage_best)→Int→Option ((List Int)×Int)) (all4:List Gpage_best) (from3:Int):Option ((List Int)×Int) :=
zaw (decide ((0:Int)≤from3)) (
zbl (fun (j2:(List Gpage_best)→Option ((List Int)×Int)) =>
zal (zbF all4 from3) fun (q1:Gpage_best) =>
grd (I64 (from3+1)) <|
zaF (fun _ _=>none) (zbG p1 from3 j2) zbW (all4.set (from3:Int).toNat (⟨q1.cost,(-1),q1.to_⟩:Gpage_best)) (from3+1)
) (fun (all5:List Gpage_best) =>
grd (I64 (from3 - 1)) <|
ag1 all5 (from3 - 1)
)
) (
j1 all4
)
def zbv (p1:Gpage_parter) (all1:List Gpage_best) (j5:(List Int)→Option ((List Int)×Int)) (ag3:(List Int)→Int→Option ((List Int)×Int)) (out4:List Int) (from6:Int):Option ((List Int)×Int) :=
zaw (decide ((from6:Int)<(p1.rows.length:Int))) (
zal (zbF all1 from6) fun (q7:Gpage_best) =>
grd (out4.length+1≤2147483648) <|
zal (zbF all1 from6) fun (q8:Gpage_best) =>
ag3 (out4++[q7.to_]) q8.to_
) (
j5 out4
)
def zdg (p1:Gpage_parter):Option ((List Int)×Int) :=
zbl (fun (j1:(List Gpage_best)→Option ((List Int)×Int)) =>
grd (I64 ((p1.rows.length:Int)+1)) <|
grd (0≤((p1.rows.length:Int)+1)∧((p1.rows.length:Int)+1)≤2147483648) <|
grd (I64 ((p1.rows.length:Int) - 1)) <|
zaF (fun _ _=>none) (zbH p1 j1) zbW (List.replicate ((p1.rows.length:Int)+1:Int).toNat (⟨0,0,0⟩:Gpage_best):List Gpage_best) ((p1.rows.length:Int) - 1)
) (fun (all1:List Gpage_best) =>
zbl (fun (j5:(List Int)→Option ((List Int)×Int)) =>
zaF (fun _ _=>none) (zbv p1 all1 j5) zbW ([]:List Int) 0
) (fun (out1:List Int) =>
zal (zbF all1 0) fun (q9:Gpage_best) =>
some (out1,q9.cost)
)
)
theorem zhg {bp1:Nat} {p1:Gpage_parter} {p1_h0 p1_h1 p1_h2 p1_h3:Hd} {r:((List Int)×Int)} (h:zdg p1=some r):FnR Tryd.prog 39 [zP bp1] [cells bp1 [p1_h0.v,p1_h1.v,p1_h2.v,p1_h3.v,zI p1.heights] 96,zv1 p1_h0.v p1.rows,zv0 p1_h1.v p1.blanks,zv0 p1_h2.v p1.firsts,zv0 p1_h3.v p1.lasts] [] (fun v0:Value=>.tuple #[v0,zI r.2]) (fun v0=>[zv0 v0 r.1]):=by
 unfold zdg at h
 refine FnR.intro Tryd.func39 rfl Tryd.ntmps39 (by simp) ?_
 intro w0 K hrd
 obtain ⟨j1,hj1,h⟩:=zbK h
 refine zaX (β:=(List Gpage_best)×Value) 3 rfl (fun b=>j1 b.1=some r) (fun b=>[]) (fun b=>[(4,zI (p1.rows.length:Int)),(5,b.2)]) (fun b=>[zv8 b.2 b.1]) (fun cut => ?_) ?_
 ·
  refine zyG (zyR 2 rfl (zyH (zyR 1 rfl (zaA rfl dc rfl (zab zgP rfl dc rfl (show _=0 from rfl) (zbx (i:=0) hrd rfl znn rfl dc rfl rfl (zdy (hrd.vw (i:=1) rfl) rfl dc rfl Tryd.underlying30 (zyR 1 rfl ?_))))))))
  refine zyH (zyR 1 rfl ?_)
  obtain ⟨hg1,h⟩:=zbk h
  refine zaT rfl (zaQ (r:=(p1.rows.length:Int)+1) (IntWalk.i64_in _ hg1)) ?_
  obtain ⟨hg2,h⟩:=zbk h
  refine zgh (z:=(⟨0,0,0⟩:Gpage_best)) Tryd.underlying136 zrP zkK zaW rfl dc rfl hg2 (fun v2 => ?_)
  refine zyR 1 rfl (zyN (cut (zyG (zyR 1 rfl ?_))))
  obtain ⟨hg3,h⟩:=zbk h
  refine zaT rfl (zbj (r:=(p1.rows.length:Int) - 1) (IntWalk.i64_in _ hg3)) (zyR 1 rfl (zyN (zaE ?_)))
  refine zbn (β:=Nat×(List Gpage_best)×Int) (fun b=>zaF (fun _ _=>none) (zbH p1 j1) b.1 b.2.1 b.2.2=some r) (fun b=>[]) (fun b=>[(0,zP bp1),(4,zI (p1.rows.length:Int)),(5,v2),(6,zI b.2.2)]) (fun b=>[zv8 v2 b.2.1]) (fun b=>b.1) (zbW,(List.replicate ((p1.rows.length:Int)+1:Int).toNat (⟨0,0,0⟩:Gpage_best):List Gpage_best),(p1.rows.length:Int) - 1) h rfl (za0 rfl) (zae [0] kr rfl) ?_
  rintro ⟨n1,all4,from3⟩ h
  cases n1 with
  | zero=>exact zdG h
  | succ n1 =>
   obtain ⟨ag1,hag1⟩:∃ ag,ag=zaF (fun _ _=>none) (zbH p1 j1) n1:=⟨_,rfl⟩
   have h:zbH p1 j1 ag1 all4 from3=some r:=by rw [hag1]; exact h
   unfold zbH at h
   refine zaJ (zyG (zyR 1 rfl (zaT rfl ze2 (zyN ?_))))
   refine zyB rfl h (fun h => ?_) (fun h => ?_)
   ·
    refine zas (zaL ?_)
    obtain ⟨j2,hj2,h⟩:=zbK h
    refine zaX (β:=(List Gpage_best)) 0 rfl (fun b=>j2 b=some r) (fun b=>[]) (fun b=>[(0,zP bp1),(4,zI (p1.rows.length:Int)),(5,v2),(6,zI from3)]) (fun b=>[zv8 v2 b]) (fun cut => ?_) ?_
    ·
     refine cut (zaE (zyG (zyR 2 rfl ?_)))
     obtain ⟨q1,hq1,h⟩:=zbg h
     refine zan (k:=0) hq1 Tryd.underlying136 zc2 rfl dc rfl rfl rfl rfl (zab zeZ rfl dc rfl (show _=((from3:Int).toNat)*3+1 from rfl) ?_)
     refine zb9 (i:=(from3:Int).toNat) (j:=1) (k:=0) (q:=q1) (q':=(⟨q1.cost,(-1),q1.to_⟩:Gpage_best)) zde zaW rfl rfl rfl rfl (zaC hq1) rfl dc rfl (fun _ _=>rfl) ?_
     refine zyH (zyR 1 rfl ?_)
     obtain ⟨hg4,h⟩:=zbk h
     refine zaT rfl (zaQ (r:=from3+1) (IntWalk.i64_in _ hg4)) (zyR 1 rfl (zyN (zaE ?_)))
     refine zbn (β:=Nat×(List Gpage_best)×Int) (fun b=>zaF (fun _ _=>none) (zbG p1 from3 j2) b.1 b.2.1 b.2.2=some r) (fun b=>[]) (fun b=>[(0,zP bp1),(4,zI (p1.rows.length:Int)),(5,v2),(6,zI from3),(7,zI b.2.2)]) (fun b=>[zv8 v2 b.2.1]) (fun b=>b.1) (zbW,all4.set (from3:Int).toNat (⟨q1.cost,(-1),q1.to_⟩:Gpage_best),from3+1) h rfl (za0 rfl) (zae [0] kr rfl) ?_
     rintro ⟨n2,all8,to3⟩ h
     cases n2 with
     | zero=>exact zdG h
     | succ n2 =>
      obtain ⟨ag2,hag2⟩:∃ ag,ag=zaF (fun _ _=>none) (zbG p1 from3 j2) n2:=⟨_,rfl⟩
      have h:zbG p1 from3 j2 ag2 all8 to3=some r:=by rw [hag2]; exact h
      unfold zbG at h
      refine zaJ (zaJ ?_)
      refine zd8 (b:=decide ((to3:Int)≤(p1.rows.length:Int))) (fun hb2 => ?_) (fun hb2 => ?_)
      ·
       have h:=zgv hb2 h
       obtain ⟨r1,hq2,h⟩:=zbg h
       refine zbu 12 [(0,33,zI to3),(1,34,zI (p1.rows.length:Int)),(2,35,.bool true),(3,36,.bool true),(4,37,zP bp1),(5,38,zI from3),(6,39,zI to3),(7,40,zI r1),(8,41,zP bp1),(9,42,zP bp1),(10,43,.pointer (some ⟨bp1,4,none⟩)),(11,44,zI p1.heights)] mixed kr kr dc (by rfl) kr kr (zyP 2 0 rfl (zad ?_ (zyP 4 3 rfl (zad ?_ (zyP 1 8 rfl (zad ?_ (zad ?_ (zad ?_ DrawPre.nil)))))))) ?_
       · exact fun D n d c u i=>zbM rfl dc (zaa (m:=0) u rfl (d 0 dc)) (zaa (m:=1) u rfl (d 1 dc)) zc6 (zdF (show Value.bool (decide ((to3:Int)≤(p1.rows.length:Int)))=Value.bool true from congrArg Value.bool hb2) (zaf 2 u i rfl))
       · exact fun D n d c u i=>zco (v:=zI r1) (vs:=[zP bp1,zI from3,zI to3]) hrd (zeQ rfl (zaa (m:=3) u rfl (d 3 dc))) dc rfl (evL.cons (zaa (m:=4) u rfl (d 4 dc)) (evL.cons (zaa (m:=5) u rfl (d 5 dc)) (evL.cons (zaa (m:=6) u rfl (d 6 dc)) evL.nil))) rfl zui (zfO (bp1:=bp1) (p1:=p1) (p1_h0:=p1_h0) (p1_h1:=p1_h1) (p1_h2:=p1_h2) (p1_h3:=p1_h3) hq2) (.ro 0 rfl (.ro 1 rfl (.ro 2 rfl (.ro 3 rfl (.ro 4 rfl .nil))))) (zaf 7 u i rfl)
       · exact fun D n d c u i=>zaA (zeQ rfl (zaa (m:=3) u rfl (d 3 dc))) dc (zaa (m:=8) u rfl (d 8 dc)) (zaf 9 u i rfl)
       · exact fun D n d c u i=>zab zpW (zeQ rfl (zaa (m:=3) u rfl (d 3 dc))) dc (zaa (m:=9) u rfl (d 9 dc)) (show _=4 from rfl) (zaf 10 u i rfl)
       · exact fun D n d c u i=>zbx (i:=0) hrd rfl zbh (zeQ rfl (zaa (m:=3) u rfl (d 3 dc))) dc (zaa (m:=10) u rfl (d 10 dc)) rfl (zaf 11 u i rfl)
       refine zaT rfl zc6 (zyR 1 rfl (zyN ?_))
       refine zyB rfl h (fun h => ?_) (fun h => ?_)
       ·
        refine zas (zaL ?_)
        obtain ⟨j3,hj3,h⟩:=zbK h
        refine zaX (β:=(List Gpage_best)) 0 rfl (fun b=>j3 b=some r) (fun b=>[]) (fun b=>[(0,zP bp1),(4,zI (p1.rows.length:Int)),(5,v2),(6,zI from3),(7,zI to3),(37,zP bp1),(38,zI from3),(39,zI to3),(40,zI r1),(41,zP bp1),(42,zP bp1),(43,.pointer (some ⟨bp1,4,none⟩)),(44,zI p1.heights),(45,.bool (decide ((r1:Int)≤p1.heights)))]) (fun b=>[zv8 v2 b]) (fun cut => ?_) ?_
        ·
         refine cut (zaE ?_)
         obtain ⟨j4,hj4,h⟩:=zbK h
         refine zaX (β:=Int×Int×Nat) 1 rfl (fun b=>j4 b.1 b.2.1=some r) (fun b=>[]) (fun b=>[(0,zP bp1),(4,zI (p1.rows.length:Int)),(5,v2),(6,zI from3),(7,zI to3),(8,zP b.2.2),(37,zP bp1),(38,zI from3),(39,zI to3),(40,zI r1),(41,zP bp1),(42,zP bp1),(43,.pointer (some ⟨bp1,4,none⟩)),(44,zI p1.heights),(45,.bool (decide ((r1:Int)≤p1.heights)))]) (fun b=>[zv8 v2 all8,cells b.2.2 [zI b.1,zI b.2.1,zI to3] 138]) (fun cut => ?_) ?_
         ·
          refine zyG (zyR 1 rfl ?_)
          refine za3 (v:=.agg #[zI 0,zI 1,zI to3]) (ps:=[(1,.const (zI 1)),(2,.tmp 49)]) rfl dc rfl (fun _=>by kernel_rfl) ?_
          refine zbt zkK rfl dc (fun b4 => ?_)
          refine zaY (k:=1) (vs:=[zI 0,zI 1,zI to3]) (l':=[zI 0,zI 1,zI to3]) zc2 rfl rfl rfl rfl rfl (show _≤_ by simp) rfl rfl ?_
          refine zyN (cut (zyG (zyR 2 rfl (zaT rfl zbf (zyN ?_)))))
          refine zyB rfl h (fun h => ?_) (fun h => ?_)
          ·
           refine zaJ ?_
           obtain ⟨r2,hq3,h⟩:=zbg h
           obtain ⟨hg5,h⟩:=zbk h
           refine zbu 8 [(0,54,zP bp1),(1,55,zP bp1),(2,56,.pointer (some ⟨bp1,4,none⟩)),(3,57,zI p1.heights),(4,58,zP bp1),(5,59,zI from3),(6,60,zI to3),(7,61,zI r2)] mixed kr kr dc (by rfl) kr kr (zyP 1 0 rfl (zad ?_ (zad ?_ (zad ?_ (zyP 3 4 rfl (zad ?_ DrawPre.nil)))))) ?_
           · exact fun D n d c u i=>zaA rfl dc (zaa (m:=0) u rfl (d 0 dc)) (zaf 1 u i rfl)
           · exact fun D n d c u i=>zab zpW rfl dc (zaa (m:=1) u rfl (d 1 dc)) (show _=4 from rfl) (zaf 2 u i rfl)
           · exact fun D n d c u i=>zbx (i:=0) hrd rfl zbh rfl dc (zaa (m:=2) u rfl (d 2 dc)) rfl (zaf 3 u i rfl)
           · exact fun D n d c u i=>zco (v:=zI r2) (vs:=[zP bp1,zI from3,zI to3]) hrd rfl dc rfl (evL.cons (zaa (m:=4) u rfl (d 4 dc)) (evL.cons (zaa (m:=5) u rfl (d 5 dc)) (evL.cons (zaa (m:=6) u rfl (d 6 dc)) evL.nil))) rfl zui (zfO (bp1:=bp1) (p1:=p1) (p1_h0:=p1_h0) (p1_h1:=p1_h1) (p1_h2:=p1_h2) (p1_h3:=p1_h3) hq3) (.ro 0 rfl (.ro 1 rfl (.ro 2 rfl (.ro 3 rfl (.ro 4 rfl .nil))))) (zaf 7 u i rfl)
           refine zaT rfl (zbj (r:=p1.heights - r2) (IntWalk.i64_in _ hg5)) (zyR 1 rfl (zyN ?_))
           obtain ⟨hg6,h⟩:=zbk h
           obtain ⟨r3,hq4,h⟩:=zbg h
           obtain ⟨hg7,h⟩:=zbk h
           obtain ⟨q2,hq5,h⟩:=zbg h
           obtain ⟨hg8,h⟩:=zbk h
           obtain ⟨hg9,h⟩:=zbk h
           refine zbu 20 [(0,63,zI (p1.heights - r2)),(1,64,zI (p1.heights - r2)),(2,65,zI ((p1.heights - r2)*(p1.heights - r2))),(3,66,zP bp1),(4,67,zI to3),(5,68,zI r3),(6,69,zI (((p1.heights - r2)*(p1.heights - r2))+r3)),(7,70,v2),(8,71,zI to3),(9,72,.pointer (some ⟨zb7 v2,(to3:Int).toNat*3,none⟩)),(10,73,.pointer (some ⟨zb7 v2,((to3:Int).toNat)*3,none⟩)),(11,74,zI q2.cost),(12,75,zI ((((p1.heights - r2)*(p1.heights - r2))+r3)+q2.cost)),(13,76,v2),(14,77,zI to3),(15,78,.pointer (some ⟨zb7 v2,(to3:Int).toNat*3,none⟩)),(16,79,.pointer (some ⟨zb7 v2,((to3:Int).toNat)*3+1,none⟩)),(17,80,zI q2.rows),(18,81,zI (q2.rows+1)),(19,82,zI to3)] mixed kr kr dc (by rfl) kr kr (zyP 2 0 rfl (zad ?_ (zyP 2 3 rfl (zad ?_ (zad ?_ (zyP 2 7 rfl (zad ?_ (zad ?_ (zad ?_ (zad ?_ (zyP 2 13 rfl (zad ?_ (zad ?_ (zad ?_ (zad ?_ (zyP 1 19 rfl DrawPre.nil)))))))))))))))) ?_
           · exact fun D n d c u i=>zbM rfl dc (zaa (m:=0) u rfl (d 0 dc)) (zaa (m:=1) u rfl (d 1 dc)) (zl6 (r:=(p1.heights - r2)*(p1.heights - r2)) (IntWalk.i64_in _ hg6)) (zaf 2 u i rfl)
           · exact fun D n d c u i=>zco (v:=zI r3) (vs:=[zP bp1,zI to3]) hrd rfl dc rfl (evL.cons (zaa (m:=3) u rfl (d 3 dc)) (evL.cons (zaa (m:=4) u rfl (d 4 dc)) evL.nil)) rfl zvp (zhZ (bp1:=bp1) (p1:=p1) (p1_h0:=p1_h0) (p1_h1:=p1_h1) (p1_h2:=p1_h2) (p1_h3:=p1_h3) hq4) (.ro 0 rfl (.ro 1 rfl (.ro 2 rfl (.ro 3 rfl (.ro 4 rfl .nil))))) (zaf 5 u i rfl)
           · exact fun D n d c u i=>zbM rfl dc (zaa (m:=2) u rfl (d 2 dc)) (zaa (m:=5) u rfl (d 5 dc)) (zaQ (r:=((p1.heights - r2)*(p1.heights - r2))+r3) (IntWalk.i64_in _ hg7)) (zaf 6 u i rfl)
           · exact fun D n d c u i=>zan (k:=0) hq5 Tryd.underlying136 zc2 rfl dc (zaa (m:=7) u rfl (d 7 dc)) (zaa (m:=8) u rfl (d 8 dc)) rfl rfl (zaf 9 u i rfl)
           · exact fun D n d c u i=>zab zez rfl dc (zaa (m:=9) u rfl (d 9 dc)) (show _=((to3:Int).toNat)*3 from rfl) (zaf 10 u i rfl)
           · exact fun D n d c u i=>zaB (i:=(to3:Int).toNat) (j:=0) (k:=0) (q:=q2) zbh zaW rfl dc (zaa (m:=10) u rfl (d 10 dc)) rfl (zaC hq5) rfl dc rfl (zaf 11 u i rfl)
           · exact fun D n d c u i=>zbM rfl dc (zaa (m:=6) u rfl (d 6 dc)) (zaa (m:=11) u rfl (d 11 dc)) (zaQ (r:=(((p1.heights - r2)*(p1.heights - r2))+r3)+q2.cost) (IntWalk.i64_in _ hg8)) (zaf 12 u i rfl)
           · exact fun D n d c u i=>zan (k:=0) hq5 Tryd.underlying136 zc2 rfl dc (zaa (m:=13) u rfl (d 13 dc)) (zaa (m:=14) u rfl (d 14 dc)) rfl rfl (zaf 15 u i rfl)
           · exact fun D n d c u i=>zab zeZ rfl dc (zaa (m:=15) u rfl (d 15 dc)) (show _=((to3:Int).toNat)*3+1 from rfl) (zaf 16 u i rfl)
           · exact fun D n d c u i=>zaB (i:=(to3:Int).toNat) (j:=1) (k:=0) (q:=q2) zbh zaW rfl dc (zaa (m:=16) u rfl (d 16 dc)) rfl (zaC hq5) rfl dc rfl (zaf 17 u i rfl)
           · exact fun D n d c u i=>zbM rfl dc (zaa (m:=17) u rfl (d 17 dc)) rfl (zaQ (r:=q2.rows+1) (IntWalk.i64_in _ hg9)) (zaf 18 u i rfl)
           refine za3 (v:=.agg #[zI ((((p1.heights - r2)*(p1.heights - r2))+r3)+q2.cost),zI (q2.rows+1),zI to3]) (ps:=[(0,.tmp 75),(1,.tmp 81),(2,.tmp 82)]) rfl dc rfl (fun _=>by kernel_rfl) ?_
           refine zaY (k:=1) (vs:=[zI ((((p1.heights - r2)*(p1.heights - r2))+r3)+q2.cost),zI (q2.rows+1),zI to3]) (l':=[zI ((((p1.heights - r2)*(p1.heights - r2))+r3)+q2.cost),zI (q2.rows+1),zI to3]) zc2 rfl rfl rfl rfl rfl (show _≤_ by simp) rfl rfl (zaR ?_)
           exact zak ((((p1.heights - r2)*(p1.heights - r2))+r3)+q2.cost,q2.rows+1,b4) h rfl (za0 rfl) (zae [0,1] kr rfl)
          refine zas ?_
          exact zak (0,1,b4) h rfl (za0 rfl) (zae [0,1] kr rfl)
         rintro ⟨b2,b3,b1⟩ h
         rw [hj4] at h
         refine zyG (zyR 2 rfl ?_)
         obtain ⟨q3,hq6,h⟩:=zbg h
         refine zan (k:=0) hq6 Tryd.underlying136 zc2 rfl dc rfl rfl rfl rfl (zei (i:=(from3:Int).toNat) (j:=0) (k:=0) (q:=q3) (cs:=(zr7 q3)) ziW zaW rfl dc rfl rfl (zaC hq6) rfl rfl rfl ?_)
         refine zbt zkK rfl dc (fun b5 => ?_)
         refine zaY (k:=2) (vs:=(zr7 q3)) (l':=(zr7 q3)) zc2 rfl rfl rfl rfl rfl (show _≤_ by simp) rfl rfl ?_
         refine zyH (zab zeZ rfl dc rfl (show _=1 from rfl) (zar (k:=2) zbh rfl dc rfl rfl rfl (zaT rfl zbf (zyR 1 rfl ?_))))
         refine zyS (s:=91) rfl h (fun h => ?_) (fun h => ?_)
         ·
          refine zyR 14 rfl ?_
          refine zyR 6 rfl (zyN (za7 rfl (zax (zyR 2 rfl (zba (k:=1) (cs:=[zI b2,zI b3,zI to3]) ziW rfl dc rfl rfl rfl rfl ?_)))))
          obtain ⟨q4,hq7,h⟩:=zbg h
          refine zan (k:=0) hq7 Tryd.underlying136 zc2 rfl dc rfl rfl rfl rfl ?_
          refine zeN (i:=(from3:Int).toNat) (j:=0) (k:=0) (q:=q4) (q':=(⟨b2,b3,to3⟩:Gpage_best)) (vs:=[zI b2,zI b3,zI to3]) zc2 zaW rfl rfl rfl rfl (zaC hq7) rfl dc rfl rfl (fun m=>[q4,(⟨b2,q4.rows,q4.to_⟩:Gpage_best),(⟨b2,b3,q4.to_⟩:Gpage_best),(⟨b2,b3,to3⟩:Gpage_best)].getD m q4) rfl rfl (by intro m hm; rcases m with _ | _ | _ | m <;> first | rfl | (exfalso; omega)) ?_
          refine zaR (zag ?_)
          exact zak (all8.set (from3:Int).toNat (⟨b2,b3,to3⟩:Gpage_best)) h rfl (za0 rfl) (zae [0] kr rfl)
         refine zab zez rfl dc rfl (show _=0 from rfl) (zar (k:=1) zbh rfl dc rfl rfl rfl (zab zez rfl dc rfl (show _=0 from rfl) (zar (k:=2) zbh rfl dc rfl rfl rfl (zaT rfl zbf (zyR 2 rfl ?_)))))
         refine zyS (s:=98) rfl h (fun h => ?_) (fun h => ?_)
         ·
          refine zyR 13 rfl (zaR ?_)
          refine zaL (za7 rfl (zax (zyR 2 rfl (zba (k:=1) (cs:=[zI b2,zI b3,zI to3]) ziW rfl dc rfl rfl rfl rfl ?_))))
          obtain ⟨q5,hq8,h⟩:=zbg h
          refine zan (k:=0) hq8 Tryd.underlying136 zc2 rfl dc rfl rfl rfl rfl ?_
          refine zeN (i:=(from3:Int).toNat) (j:=0) (k:=0) (q:=q5) (q':=(⟨b2,b3,to3⟩:Gpage_best)) (vs:=[zI b2,zI b3,zI to3]) zc2 zaW rfl rfl rfl rfl (zaC hq8) rfl dc rfl rfl (fun m=>[q5,(⟨b2,q5.rows,q5.to_⟩:Gpage_best),(⟨b2,b3,q5.to_⟩:Gpage_best),(⟨b2,b3,to3⟩:Gpage_best)].getD m q5) rfl rfl (by intro m hm; rcases m with _ | _ | _ | m <;> first | rfl | (exfalso; omega)) ?_
          refine zaR (zag ?_)
          exact zak (all8.set (from3:Int).toNat (⟨b2,b3,to3⟩:Gpage_best)) h rfl (za0 rfl) (zae [0] kr rfl)
         refine zab zez rfl dc rfl (show _=0 from rfl) (zar (k:=1) zbh rfl dc rfl rfl rfl (zab zez rfl dc rfl (show _=0 from rfl) (zar (k:=2) zbh rfl dc rfl rfl rfl (zaT rfl zaP (zyR 1 rfl ?_)))))
         refine zyS (s:=104) rfl h (fun h => ?_) (fun h => ?_)
         ·
          refine zab zeZ rfl dc rfl (show _=1 from rfl) (zar (k:=1) zbh rfl dc rfl rfl rfl (zab zeZ rfl dc rfl (show _=1 from rfl) (zar (k:=2) zbh rfl dc rfl rfl rfl (zaT rfl zc6 (zyR 2 rfl (zyN ?_))))))
          refine zyB rfl h (fun h => ?_) (fun h => ?_)
          ·
           refine zax (zyR 2 rfl (zba (k:=1) (cs:=[zI b2,zI b3,zI to3]) ziW rfl dc rfl rfl rfl rfl ?_))
           obtain ⟨q6,hq9,h⟩:=zbg h
           refine zan (k:=0) hq9 Tryd.underlying136 zc2 rfl dc rfl rfl rfl rfl ?_
           refine zeN (i:=(from3:Int).toNat) (j:=0) (k:=0) (q:=q6) (q':=(⟨b2,b3,to3⟩:Gpage_best)) (vs:=[zI b2,zI b3,zI to3]) zc2 zaW rfl rfl rfl rfl (zaC hq9) rfl dc rfl rfl (fun m=>[q6,(⟨b2,q6.rows,q6.to_⟩:Gpage_best),(⟨b2,b3,q6.to_⟩:Gpage_best),(⟨b2,b3,to3⟩:Gpage_best)].getD m q6) rfl rfl (by intro m hm; rcases m with _ | _ | _ | m <;> first | rfl | (exfalso; omega)) ?_
           refine zaR (zag ?_)
           exact zak (all8.set (from3:Int).toNat (⟨b2,b3,to3⟩:Gpage_best)) h rfl (za0 rfl) (zae [0] kr rfl)
          refine zas (zag ?_)
          exact zak all8 h rfl (za0 rfl) (zae [0] kr rfl)
         refine zyR 7 rfl (zyN (zaN rfl (zas (zag ?_))))
         exact zak all8 h rfl (za0 rfl) (zae [0] kr rfl)
        rintro all9 h
        rw [hj3] at h
        refine zax (zyR 1 rfl ?_)
        obtain ⟨hg10,h⟩:=zbk h
        refine zaT rfl (zaQ (r:=to3+1) (IntWalk.i64_in _ hg10)) (zyR 1 rfl (zaR ?_))
        subst hag2
        exact za4 (n2,all9,to3+1) h (Nat.lt_succ_self _) rfl (za0 rfl) (zae [0] kr rfl)
       refine za2 (zam (zam (zav (zag ?_))))
       exact zak all8 h rfl (za0 rfl) (zae [0] kr rfl)
      have h:=zgw hb2 h
      refine zbu 12 [(0,33,zI to3),(1,34,zI (p1.rows.length:Int)),(2,35,.bool false),(3,36,.bool false),(4,37,undef),(5,38,undef),(6,39,undef),(7,40,undef),(8,41,undef),(9,42,undef),(10,43,undef),(11,44,undef)] mixed kr kr dc (by rfl) kr kr (zyP 2 0 rfl (zad ?_ (zyP 9 3 rfl DrawPre.nil))) ?_
      · exact fun D n d c u i=>zbM rfl dc (zaa (m:=0) u rfl (d 0 dc)) (zaa (m:=1) u rfl (d 1 dc)) zc6 (zdF (show Value.bool (decide ((to3:Int)≤(p1.rows.length:Int)))=Value.bool false from congrArg Value.bool hb2) (zaf 2 u i rfl))
      refine zyR 2 rfl (zyN (zaN rfl (za2 (zam (zam (zav (zag ?_)))))))
      exact zak all8 h rfl (za0 rfl) (zae [0] kr rfl)
    rintro all5 h
    rw [hj2] at h
    refine zax (zyR 1 rfl ?_)
    obtain ⟨hg11,h⟩:=zbk h
    refine zaT rfl (zbj (r:=from3 - 1) (IntWalk.i64_in _ hg11)) (zyR 1 rfl (zaR ?_))
    subst hag1
    exact za4 (n1,all5,from3 - 1) h (Nat.lt_succ_self _) rfl (za0 rfl) (zae [0] kr rfl)
   refine za2 (zam (zam (zav ?_)))
   exact zak (all4,v2) h rfl (za0 rfl) (zae [0] kr rfl)
 rintro ⟨all1,v1⟩ h
 rw [hj1] at h
 obtain ⟨j5,hj5,h⟩:=zbK h
 refine zaX (β:=(List Int)×Hd) 1 rfl (fun b=>j5 b.1=some r) (fun b=>[]) (fun b=>[(5,v1),(11,b.2.v)]) (fun b=>[zv8 v1 all1,zv0 b.2.v b.1]) (fun cut => ?_) ?_
 ·
  refine zyG (zyR 1 rfl (zyN (cut (zyG (zyR 1 rfl (zyN (zaE (zcX (enc:=(znE (.i64))) (e:=3) (size:=1) ?_))))))))
  refine zbn (β:=Nat×(List Int)×Int×Hd) (fun b=>zaF (fun _ _=>none) (zbv p1 all1 j5) b.1 b.2.1 b.2.2.1=some r) (fun b=>[]) (fun b=>[(4,zI (p1.rows.length:Int)),(5,v1),(11,b.2.2.2.v),(12,zI b.2.2.1)]) (fun b=>[zv8 v1 all1,zv0 b.2.2.2.v b.2.1]) (fun b=>b.1) (zbW,([]:List Int),0,Hd.nil) h rfl (za0 rfl) (zae [0,1] kr rfl) ?_
  rintro ⟨n3,out4,from6,hd4⟩ h
  cases n3 with
  | zero=>exact zdG h
  | succ n3 =>
   obtain ⟨ag3,hag3⟩:∃ ag,ag=zaF (fun _ _=>none) (zbv p1 all1 j5) n3:=⟨_,rfl⟩
   have h:zbv p1 all1 j5 ag3 out4 from6=some r:=by rw [hag3]; exact h
   unfold zbv at h
   refine zaJ (zyG (zyR 2 rfl (zaT rfl zbf (zyN ?_))))
   refine zyB rfl h (fun h => ?_) (fun h => ?_)
   ·
    refine zas (zaL (zaJ (zaE (zax (zyR 3 rfl ?_)))))
    obtain ⟨q7,hq10,h⟩:=zbg h
    refine zan (k:=0) hq10 Tryd.underlying136 zc2 rfl dc rfl rfl rfl rfl (zab zjl rfl dc rfl (show _=((from6:Int).toNat)*3+2 from rfl) (zaB (i:=(from6:Int).toNat) (j:=2) (k:=0) (q:=q7) zbh zaW rfl dc rfl rfl (zaC hq10) rfl dc rfl ?_))
    refine zaS (cs:=[zI q7.to_]) (te:=3) (ps:=[(0,.tmp 129)]) rfl dc rfl (fun _=>by kernel_rfl) (fun b6 => ?_)
    obtain ⟨hg12,h⟩:=zbk h
    refine za1 (k:=1) (k2:=2) (ys:=[q7.to_]) Tryd.underlying24 zqy za6 zgs rfl dc rfl rfl rfl rfl rfl rfl hg12 (fun v3 => ?_)
    refine zbL (k:=1) rfl (fun hd5 he1 => ?_)
    subst he1
    refine zyR 1 rfl (zaR (zag (zaL (zax (zyR 2 rfl ?_)))))
    obtain ⟨q8,hq11,h⟩:=zbg h
    refine zan (k:=0) hq11 Tryd.underlying136 zc2 rfl dc rfl rfl rfl rfl (zab zjl rfl dc rfl (show _=((from6:Int).toNat)*3+2 from rfl) (zaB (i:=(from6:Int).toNat) (j:=2) (k:=0) (q:=q8) zbh zaW rfl dc rfl rfl (zaC hq11) rfl dc rfl (zyR 1 rfl (zaR ?_))))
    subst hag3
    exact za4 (n3,out4++[q7.to_],q8.to_,hd5) h (Nat.lt_succ_self _) rfl (za0 rfl) (zae [0,1] kr rfl)
   refine za2 (zam (zam (zav ?_)))
   exact zak (out4,hd4) h rfl (za0 rfl) (zae [0,1] kr rfl)
 rintro ⟨out1,hd1⟩ h
 rw [hj5] at h
 refine zaJ ?_
 obtain ⟨q9,hq12,h⟩:=zbg h
 refine zbu 6 [(0,132,hd1.v),(1,133,v1),(2,134,.pointer (some ⟨zb7 v1,(0:Int).toNat*3,none⟩)),(3,135,.pointer (some ⟨zb7 v1,((0:Int).toNat)*3,none⟩)),(4,136,zI q9.cost),(5,2,hd1.v)] mixed kr kr dc (by rfl) kr kr (zyP 2 0 rfl (zad ?_ (zad ?_ (zad ?_ (zyP 1 5 rfl DrawPre.nil))))) ?_
 · exact fun D n d c u i=>zan (k:=0) hq12 Tryd.underlying136 zc2 rfl dc (zaa (m:=1) u rfl (d 1 dc)) rfl rfl rfl (zaf 2 u i rfl)
 · exact fun D n d c u i=>zab zez rfl dc (zaa (m:=2) u rfl (d 2 dc)) (show _=((0:Int).toNat)*3 from rfl) (zaf 3 u i rfl)
 · exact fun D n d c u i=>zaB (i:=(0:Int).toNat) (j:=0) (k:=0) (q:=q9) zbh zaW rfl dc (zaa (m:=3) u rfl (d 3 dc)) rfl (zaC hq12) rfl dc rfl (zaf 4 u i rfl)
 refine zyR 1 rfl (zyN (zaI ?_))
 cases h
 exact zaK (rs:=[.tmp 2,.tmp 3]) hd1.v (.inl rfl) Tryd.results39 (.cons (.tmp rfl) (.cons (.tmp rfl) .nil)) rfl (zae [1] kr rfl)
def zbw (l1:Gapi_Layout) (x2:Int×Gapi_Verse) (ag1:(List Gapi_Row)→(List Int)→(List Int)→(List Int)→Int→Option (Int×Gpage_parter)) (cost4:Int) (l18:List Int) (l19:List Int) (r2:((List ByteArray)×Int)) (ag2:(List Gapi_Row)→(List Int)→Int→Option (Int×Gpage_parter)) (l24:List Gapi_Row) (l25:List Int) (x5:Int):Option (Int×Gpage_parter) :=
zaw (decide ((x5:Int)<(r2.1.length:Int))) (
zbl (fun (j3:Int→Int→ByteArray→Option (Int×Gpage_parter)) =>
zal (zbF r2.1 x5) fun (q2:ByteArray) =>
zaw ((x5:Int)==0) (
zaw (decide ((0:Int)<l1.Every)) (
grd (I64 (x2.1+1)) <|
grd (l1.Every≠0) <|
zaw (((Int.tmod (x2.1+1) l1.Every):Int)==0) (
grd (I64 (x2.1+1)) <|
j3 x2.2.Indent (x2.1+1) q2
) (
j3 x2.2.Indent 0 q2
)
) (
j3 x2.2.Indent 0 q2
)
) (
j3 l1.Turn 0 q2
)
) (fun (r3:Int) (r4:Int) (r5:ByteArray) =>
grd (l24.length+1≤2147483648) <|
grd (l25.length+1≤2147483648) <|
grd (I64 (x5+1)) <|
ag2 (l24++[(⟨x2.1,x2.2.Stanza,x5,r3,r4,r5⟩:Gapi_Row)]) (l25++[x2.2.Stanza]) (x5+1)
)
) (
ag1 l24 l25 l18 (l19.set (x2.2.Stanza:Int).toNat x2.1) (cost4+r2.2)
)
def zbI (l1:Gapi_Layout) (x2:Int×Gapi_Verse) (ag1:(List Gapi_Row)→(List Int)→(List Int)→(List Int)→Int→Option (Int×Gpage_parter)) (l14:List Gapi_Row) (l15:List Int) (l16:List Int) (l17:List Int) (cost4:Int):Option (Int×Gpage_parter) :=
zbl (fun (j2:(List Int)→(List Int)→Option (Int×Gpage_parter)) =>
zaw ((x2.2.Stanza:Int)==(l16.length:Int)) (
grd (l16.length+1≤2147483648) <|
grd (l17.length+1≤2147483648) <|
j2 (l16++[x2.1]) (l17++[x2.1])
) (
j2 l16 l17
)
) (fun (l18:List Int) (l19:List Int) =>
zal (zbF l19 x2.2.Stanza) fun (q1:Int) =>
zal (zeF x2.2.Text x2.2.Indent l1) fun (r2:((List ByteArray)×Int)) =>
grd (I64 (cost4+r2.2)) <|
zaF (fun _ _ _=>none) (zbw l1 x2 ag1 cost4 l18 l19 r2) zbW l14 l15 0
)
def zdh (p1:Gpage_parter) (x1:Gpoem_Poem) (l1:Gapi_Layout):Option (Int×Gpage_parter) :=
zbl (fun (j1:(List Gapi_Row)→(List Int)→(List Int)→(List Int)→Int→Option (Int×Gpage_parter)) =>
zal (zey x1) fun (r1:Unit) =>
zal (zdp x1) fun (its1:(List (Int×Gapi_Verse))) =>
zbl (fun (dn1:(List Gapi_Row)→(List Int)→(List Int)→(List Int)→Int→Option (Int×Gpage_parter)) =>
zeL dn1 (zbI l1) its1 p1.rows p1.blanks p1.firsts p1.lasts 0
) (fun (l14:List Gapi_Row) (l15:List Int) (l16:List Int) (l17:List Int) (cost4:Int) =>
j1 l14 l15 l16 l17 cost4
)
) (fun (l2:List Gapi_Row) (l3:List Int) (l4:List Int) (l5:List Int) (cost1:Int) =>
some (cost1,(⟨l2,l3,l4,l5,p1.heights⟩:Gpage_parter))
)
theorem zhh {bp1:Nat} {p1:Gpage_parter} {p1_h0 p1_h1 p1_h2 p1_h3:Hd} {bx1:Nat} {x1:Gpoem_Poem} {x1_h0 x1_h1:Hd} {l1:Gapi_Layout} {r:(Int×Gpage_parter)} (h:zdh p1 x1 l1=some r):FnR Tryd.prog 38 [zP bp1,zP bx1,.agg (zr0 l1).toArray] [cells bx1 [.string x1.told_title,x1_h0.v,x1_h1.v,.string x1.source] 81,zv7 x1_h0.v x1.told_lines,zv6 x1_h1.v x1.told_stanzas] [cells bp1 [p1_h0.v,p1_h1.v,p1_h2.v,p1_h3.v,zI p1.heights] 96,zv1 p1_h0.v p1.rows,zv0 p1_h1.v p1.blanks,zv0 p1_h2.v p1.firsts,zv0 p1_h3.v p1.lasts] (fun b:Hd×Hd×Hd×Hd=>zI r.1) (fun b=>[cells bp1 [b.1.v,b.2.1.v,b.2.2.1.v,b.2.2.2.v,zI r.2.heights] 96,zv1 b.1.v r.2.rows,zv0 b.2.1.v r.2.blanks,zv0 b.2.2.1.v r.2.firsts,zv0 b.2.2.2.v r.2.lasts]):=by
 unfold zdh at h
 refine FnR.intro Tryd.func38 rfl Tryd.ntmps38 (by simp) ?_
 intro w0 K hrd
 refine zmb ?_
 obtain ⟨j1,hj1,h⟩:=zbK h
 refine zaX (β:=(List Gapi_Row)×(List Int)×(List Int)×(List Int)×Int×Hd×Hd×Hd×Hd×Nat×(List Nat)) 2 rfl (fun b=>j1 b.1 b.2.1 b.2.2.1 b.2.2.2.1 b.2.2.2.2.1=some r) (fun b=>zgM b.2.2.2.2.2.2.2.2.2.2) (fun b=>[(7,zP b.2.2.2.2.2.2.2.2.2.1)]) (fun b=>[cells bp1 [b.2.2.2.2.2.1.v,b.2.2.2.2.2.2.1.v,b.2.2.2.2.2.2.2.1.v,b.2.2.2.2.2.2.2.2.1.v,zI p1.heights] 96,zv1 b.2.2.2.2.2.1.v b.1,zv0 b.2.2.2.2.2.2.1.v b.2.1,zv0 b.2.2.2.2.2.2.2.1.v b.2.2.1,zv0 b.2.2.2.2.2.2.2.2.1.v b.2.2.2.1,cells b.2.2.2.2.2.2.2.2.2.1 [zI b.2.2.2.2.1] 3,zkp ((b.2.2.2.2.2.2.2.2.2.2:List Nat).map zn8)]) (fun cut => ?_) ?_
 ·
  refine zyG ?_
  refine zdQ rfl dc rfl (fun b2 => ?_)
  refine zdQ rfl dc rfl (fun b3 => ?_)
  refine zyR 1 rfl (zyH ?_)
  refine zbt zuG rfl dc (fun b4 => ?_)
  refine za5 (k:=8) (l':=[zI 0]) zde rfl rfl rfl rfl rfl (fun _ _=>rfl) rfl ?_
  refine zyN (cut (zyG (zyR 1 rfl ?_)))
  obtain ⟨r1,hq1,h⟩:=zbg h
  refine zhc (vs:=[zP bx1]) hrd rfl dc rfl rfl rfl zvq (ziw (bp1:=bx1) (p1:=x1) (p1_h0:=x1_h0) (p1_h1:=x1_h1) hq1) Splits.nil (.ro 0 rfl (.ro 1 rfl (.ro 2 rfl .nil))) ?_
  rintro b5
  refine zd7 (L':=[cells bp1 [p1_h0.v,p1_h1.v,p1_h2.v,p1_h3.v,zI p1.heights] 96,zv1 p1_h0.v p1.rows,zv0 p1_h1.v p1.blanks,zv0 p1_h2.v p1.firsts,zv0 p1_h3.v p1.lasts,zkp ((([]:List Nat):List Nat).map zn8),cells b2 [zP bp1] 94,cells b3 (zr0 l1) 23,cells b4 [zI 0] 3,cells b5 [zP bx1] 39]) (zae [0,1,2,3,4,5,6,7,8,9] kr rfl) (zyN (zaE ?_))
  obtain ⟨its1,hq2,h⟩:=zbg h
  obtain ⟨dn1,hdn1,h⟩:=zbK h
  refine zqp (α:=Int×Gapi_Verse) (β:=(List Gapi_Row)×(List Int)×(List Int)×(List Int)×Int×Hd×Hd×Hd×Hd) (γ:=Unit) (δ:=Nat) (ps:=[17,18]) hrd Ro.nil rfl zvk (zhf hq2) (fun pre b=>∀ post,its1=pre++post→zeL dn1 (zbI l1) post b.1 b.2.1 b.2.2.1 b.2.2.2.1 b.2.2.2.2.1=some r) (fun pre b=>[cells bp1 [b.2.2.2.2.2.1.v,b.2.2.2.2.2.2.1.v,b.2.2.2.2.2.2.2.1.v,b.2.2.2.2.2.2.2.2.v,zI p1.heights] 96,zv1 b.2.2.2.2.2.1.v b.1,zv0 b.2.2.2.2.2.2.1.v b.2.1,zv0 b.2.2.2.2.2.2.2.1.v b.2.2.1,zv0 b.2.2.2.2.2.2.2.2.v b.2.2.2.1,cells b2 [zP bp1] 94,cells b3 (zr0 l1) 23,cells b4 [zI b.2.2.2.2.1] 3]) (fun c pre g=>False) (fun c pre g=>[]) (fun pre x b j=>[(3,zP b2),(5,zP b3),(6,zI 0),(7,zP b4),(16,.func (.func 86) #[] #[zP b5]),(8,zI x.1),(9,zP j)]) (fun pre x b j=>[cells bp1 [b.2.2.2.2.2.1.v,b.2.2.2.2.2.2.1.v,b.2.2.2.2.2.2.2.1.v,b.2.2.2.2.2.2.2.2.v,zI p1.heights] 96,zv1 b.2.2.2.2.2.1.v b.1,zv0 b.2.2.2.2.2.2.1.v b.2.1,zv0 b.2.2.2.2.2.2.2.1.v b.2.2.1,zv0 b.2.2.2.2.2.2.2.2.v b.2.2.2.1,cells b2 [zP bp1] 94,cells b3 (zr0 l1) 23,cells b4 [zI b.2.2.2.2.1] 3,cells j (zr3 x.2) 57]) (p1.rows,p1.blanks,p1.firsts,p1.lasts,0,p1_h0,p1_h1,p1_h2,p1_h3) (fun post e=>by rw [List.nil_append] at e; subst e; exact h) (zae [0,1,2,3,4,6,7,8] kr rfl) (.own (As:=[cells b5 [zP bx1] 39]) (zae [9] (by kernel_rfl) rfl) (fun _ _ h=>sepL.one1.1 h) (.ro 0 rfl (.ro 1 rfl (.ro 2 rfl .nil)))) (fun _=>rfl) dc ?_ ?_ ?_ ?_
  ·
   rintro lp rc pre x2 post ⟨l14,l15,l16,l17,cost4,hd13,hd14,hd15,hd16⟩ w1 K1 hxs1 hext hro hinv
   have hrd:=hrd.ext hext
   refine zyG (zyR 1 rfl (zyN (zax ?_)))
   refine zbt zsg rfl dc (fun b6 => ?_)
   refine zaY (k:=8) (vs:=(zr3 x2.2)) (l':=(zr3 x2.2)) zkv rfl rfl rfl rfl rfl (show _≤_ by simp) rfl rfl ?_
   refine zaR ?_
   exact fun a w ha hw=>⟨b6,(za0 rfl) _ _ _ ha,hw.weaken (zae [0,1,2,3,4,5,6,7,8] kr rfl)⟩
  ·
   rintro lp rc pre x2 post1 ⟨l14,l15,l16,l17,cost4,hd13,hd14,hd15,hd16⟩ jb1 w1 K1 hxs1 hext hro hinv
   have hrd:=hrd.ext hext
   have h:=hinv (x2::post1) hxs1
   obtain ⟨ag1,hag1⟩:∃ ag,ag=zeL dn1 (zbI l1) post1:=⟨_,rfl⟩
   have h:zbI l1 x2 ag1 l14 l15 l16 l17 cost4=some r:=by rw [hag1]; exact h
   unfold zbI at h
   refine zaE ?_
   obtain ⟨j2,hj2,h⟩:=zbK h
   refine zaX (β:=(List Int)×(List Int)×Hd×Hd) 0 rfl (fun b=>j2 b.1 b.2.1=some r) (fun b=>[]) (fun b=>[(3,zP b2),(5,zP b3),(6,zI 0),(7,zP b4),(8,zI x2.1),(9,zP jb1),(16,.func (.func 86) #[] #[zP b5])]) (fun b=>[cells bp1 [hd13.v,hd14.v,b.2.2.1.v,b.2.2.2.v,zI p1.heights] 96,zv1 hd13.v l14,zv0 hd14.v l15,zv0 b.2.2.1.v b.1,zv0 b.2.2.2.v b.2.1,cells b2 [zP bp1] 94,cells b3 (zr0 l1) 23,cells b4 [zI cost4] 3,cells jb1 (zr3 x2.2) 57]) (fun cut => ?_) ?_
   ·
    refine cut (zaJ ?_)
    refine zbu 7 [(0,19,.pointer (some ⟨jb1,2,none⟩)),(1,20,zI x2.2.Stanza),(2,21,zP bp1),(3,22,zP bp1),(4,23,.pointer (some ⟨bp1,2,none⟩)),(5,24,hd15.v),(6,25,zI (l16.length:Int))] mixed kr kr dc (by rfl) kr kr (zad ?_ (zad ?_ (zad ?_ (zad ?_ (zad ?_ (zad ?_ (zad ?_ DrawPre.nil))))))) ?_
    · exact fun D n d c u i=>zab ziD rfl dc (za9 (by rfl) rfl) (show _=2 from rfl) (zaf 0 u i rfl)
    · exact fun D n d c u i=>zar (k:=8) zbh rfl dc (zaa (m:=0) u rfl (d 0 dc)) rfl rfl (zaf 1 u i rfl)
    · exact fun D n d c u i=>zar (k:=5) zkw rfl dc (za9 (by rfl) rfl) rfl rfl (zaf 2 u i rfl)
    · exact fun D n d c u i=>zaA rfl dc (zaa (m:=2) u rfl (d 2 dc)) (zaf 3 u i rfl)
    · exact fun D n d c u i=>zab zjZ rfl dc (zaa (m:=3) u rfl (d 3 dc)) (show _=2 from rfl) (zaf 4 u i rfl)
    · exact fun D n d c u i=>zar (k:=0) zgE rfl dc (zaa (m:=4) u rfl (d 4 dc)) rfl rfl (zaf 5 u i rfl)
    · exact fun D n d c u i=>zbd (k:=3) rfl dc (zaa (m:=5) u rfl (d 5 dc)) rfl Tryd.underlying24 (zaf 6 u i rfl)
    refine zaT rfl zaP (zyN ?_)
    refine zyB rfl h (fun h => ?_) (fun h => ?_)
    ·
     obtain ⟨hg1,h⟩:=zbk h
     obtain ⟨hg2,h⟩:=zbk h
     refine zfU 2 ?_
     refine let vals1:(Nat×Hd×Nat×Hd)→List (Nat×Nat×Value):=fun b=>[(0,27,zP bp1),(1,28,zP bp1),(2,29,zP bp1),(3,30,zP bp1),(4,31,.pointer (some ⟨bp1,2,none⟩)),(5,32,hd15.v),(6,33,zI x2.1),(7,34,.slice (some ⟨b.1,0,none⟩) 1 1),(8,35,b.2.1.v),(9,36,zP bp1),(10,37,zP bp1),(11,38,.pointer (some ⟨bp1,3,none⟩)),(12,39,hd16.v),(13,40,zI x2.1),(14,41,.slice (some ⟨b.2.2.1,0,none⟩) 1 1),(15,42,b.2.2.2.v),(16,43,zP bp1),(17,44,.pointer (some ⟨bp1,2,none⟩))]; let LL1:(Nat→Prop)→(Nat×Hd×Nat×Hd)→List Asn:=fun D b=>[eD D (cells bp1 [hd13.v,hd14.v,hd15.v,hd16.v,zI p1.heights] 96) [(18,cells bp1 [hd13.v,hd14.v,b.2.1.v,hd16.v,zI p1.heights] 96)],zv1 hd13.v l14,zv0 hd14.v l15,eD D (zv0 hd15.v l16) [(8,zv0 b.2.1.v (l16++[x2.1]))],eD D (zv0 hd16.v l17) [(15,zv0 b.2.2.2.v (l17++[x2.1]))],cells b2 [zP bp1] 94,cells b3 (zr0 l1) 23,cells b4 [zI cost4] 3,cells jb1 (zr3 x2.2) 57,eD D emp [(7,cells b.1 [zI x2.1] 3)],eD D emp [(14,cells b.2.2.1 [zI x2.1] 3)]]; ?_
     have zhq:zyQ [7,8,14,15,18] LL1:=fun i h D b=>zac (zjd rfl h) (zac rfl (zac rfl (zac (zjd rfl h) (zac (zjd rfl h) (zac rfl (zac rfl (zac rfl (zac rfl (zac (zjd rfl h) (zac (zjd rfl h) rfl))))))))))
     refine zdI (β:=Nat×Hd×Nat×Hd) 19 ((0:Nat),Hd.nil,(0:Nat),Hd.nil) vals1 LL1 mixed kr kr dc (fun _=>rfl) (zac zbS (zcZ (zac zbS (zac zbS (zfk (zac zbS (zac zbS rfl))))))) (ziq zhq rfl (fun _=>rfl) (fun _=>rfl) ?_ (ziq zhq rfl (fun _=>rfl) (fun _=>rfl) ?_ (ziq zhq rfl (fun _=>rfl) (fun _=>rfl) ?_ (zyq zhq rfl (fun _=>rfl) (fun _=>rfl) ?_ (zyq zhq rfl (fun _=>rfl) (fun _=>rfl) ?_ (ziq zhq rfl (fun _=>rfl) (fun _=>rfl) ?_ (zld zhq (fun _=>rfl) (fun _=>rfl) 1 6 (fun _=>rfl) rfl (zat ?_ (zat ?_ (ziq zhq rfl (fun _=>rfl) (fun _=>rfl) ?_ (zyq zhq rfl (fun _=>rfl) (fun _=>rfl) ?_ (zyq zhq rfl (fun _=>rfl) (fun _=>rfl) ?_ (ziq zhq rfl (fun _=>rfl) (fun _=>rfl) ?_ (zld zhq (fun _=>rfl) (fun _=>rfl) 1 13 (fun _=>rfl) rfl (zat ?_ (zat ?_ (zyq zhq rfl (fun _=>rfl) (fun _=>rfl) ?_ (zyq zhq rfl (fun _=>rfl) (fun _=>rfl) ?_ (zat ?_ DrawG.nil))))))))))))))))))) ?_
     · exact fun D ⟨b7,hd19,b8,hd20⟩ n d c u i=>⟨_,(zac (zai (fun hD=>n (c 18 _ rfl hD 0 dc)) zap) (zle rfl)),zar (k:=5) zkw rfl dc (za9 (by rfl) rfl) rfl rfl (zaf 0 u i rfl)⟩
     · exact fun D ⟨b7,hd19,b8,hd20⟩ n d c u i=>⟨_,(zkr rfl),zar (k:=5) zkw rfl dc (za9 (by rfl) rfl) rfl rfl (zaf 1 u i rfl)⟩
     · exact fun D ⟨b7,hd19,b8,hd20⟩ n d c u i=>⟨_,(zac (zai (fun hD=>n (c 18 _ rfl hD 2 dc)) zap) (zcZ (zac (zai (fun hD=>n (c 3 _ rfl (c 4 _ rfl (c 5 _ rfl (c 8 _ rfl hD 5 dc) 4 dc) 3 dc) 2 dc)) zap) (zac (zai (fun hD=>n (c 3 _ rfl (c 4 _ rfl (c 5 _ rfl (c 8 _ rfl (c 15 _ rfl hD 8 dc) 5 dc) 4 dc) 3 dc) 2 dc)) zap) (zsa rfl))))),zar (k:=5) zkw rfl dc (za9 (by rfl) rfl) rfl rfl (zaf 2 u i rfl)⟩
     · exact fun D ⟨b7,hd19,b8,hd20⟩ n d c u i=>zaA rfl dc (zaa (m:=2) u rfl (d 2 dc)) (zaf 3 u i rfl)
     · exact fun D ⟨b7,hd19,b8,hd20⟩ n d c u i=>zab zjZ rfl dc (zaa (m:=3) u rfl (d 3 dc)) (show _=2 from rfl) (zaf 4 u i rfl)
     · exact fun D ⟨b7,hd19,b8,hd20⟩ n d c u i=>⟨_,(zac (zai (fun hD=>n (c 18 _ rfl hD 5 dc)) zap) (zcZ (zac (zai (fun hD=>n (c 8 _ rfl hD 5 dc)) zap) (zac (zai (fun hD=>n (c 8 _ rfl (c 15 _ rfl hD 8 dc) 5 dc)) zap) (zsa rfl))))),zar (k:=0) zgE rfl dc (zaa (m:=4) u rfl (d 4 dc)) rfl rfl (zaf 5 u i rfl)⟩
     ·
      intro D b hn hd hcl
      obtain ⟨_,hd19,b8,hd20⟩:=b
      refine zaG (zac (zai (fun hD=>hn (hcl 18 _ rfl hD 7 dc)) zap) (zcZ (zac (zai (fun hD=>hn (hcl 8 _ rfl hD 7 dc)) zap) (zac (zai (fun hD=>hn (hcl 8 _ rfl (hcl 15 _ rfl hD 8 dc) 7 dc)) zap) (zfk (zac (zai hn zap) rfl)))))) ?_
      refine zaS (cs:=[zI x2.1]) (te:=3) (ps:=[(0,.tmp 33)]) rfl dc (evP.cons (zaa (m:=6) rfl rfl (hd 6 dc)) evP.nil) (fun _=>by kernel_rfl) (fun b7 => ?_)
      refine zcD 9 rfl rfl ?_
      exact zaO (b7,hd19,b8,hd20) 7 (by rfl) (by rfl) rfl (zi4 (zaq (fun hD=>absurd hD hn) (zqA rfl))) (zac ((zao (by rfl)).trans (zai (fun hD=>hn (hcl 18 _ rfl hD 7 dc)) zap)) (zcZ (zac ((zao (by rfl)).trans (zai (fun hD=>hn (hcl 8 _ rfl hD 7 dc)) zap)) (zac ((zao (by rfl)).trans (zai (fun hD=>hn (hcl 8 _ rfl (hcl 15 _ rfl hD 8 dc) 7 dc)) zap)) (zfk (zac (zaH (Or.inr rfl) rfl) (zac (zao (by rfl)) rfl)))))))
     ·
      intro D b hn hd hcl
      obtain ⟨b7,_,b8,hd20⟩:=b
      refine zaG (zac (zai (fun hD=>hn (hcl 18 _ rfl hD 8 dc)) zap) (zcZ (zac (zai hn zap) (zac (zai (fun hD=>hn (hcl 15 _ rfl hD 8 dc)) zap) (zfk (zac (zaH (hd 7 dc) rfl) rfl)))))) ?_
      refine za1 (k:=3) (k2:=9) (ys:=[x2.1]) Tryd.underlying24 zqy za6 zgs rfl dc (zaa (m:=5) rfl rfl (hd 5 dc)) (zaa (m:=7) rfl rfl (hd 7 dc)) rfl rfl rfl rfl hg1 (fun v1 => ?_)
      refine zbL (k:=3) rfl (fun hd19 he1 => ?_)
      subst he1
      exact zaO (b7,hd19,b8,hd20) 8 (by rfl) (by rfl) rfl (zir (zaq (fun hD=>absurd hD hn) (zuW rfl))) (zac ((zao (by rfl)).trans (zai (fun hD=>hn (hcl 18 _ rfl hD 8 dc)) zap)) (zcZ (zac (zaH (Or.inr rfl) rfl) (zac ((zao (by rfl)).trans (zai (fun hD=>hn (hcl 15 _ rfl hD 8 dc)) zap)) (zfk (zac ((zao (by rfl)).trans (zaH (hd 7 dc) rfl)) (zac (zao (by rfl)) rfl)))))))
     · exact fun D ⟨b7,hd19,b8,hd20⟩ n d c u i=>⟨_,(zac (zai (fun hD=>n (c 10 _ rfl (c 11 _ rfl (c 12 _ rfl (c 18 _ rfl hD 12 dc) 11 dc) 10 dc) 9 dc)) zap) (zcw (zac (zai (fun hD=>n (c 10 _ rfl (c 11 _ rfl (c 12 _ rfl (c 15 _ rfl hD 12 dc) 11 dc) 10 dc) 9 dc)) zap) (zsa rfl)))),zar (k:=5) zkw rfl dc (za9 (by rfl) rfl) rfl rfl (zaf 9 u i rfl)⟩
     · exact fun D ⟨b7,hd19,b8,hd20⟩ n d c u i=>zaA rfl dc (zaa (m:=9) u rfl (d 9 dc)) (zaf 10 u i rfl)
     · exact fun D ⟨b7,hd19,b8,hd20⟩ n d c u i=>zab zlO rfl dc (zaa (m:=10) u rfl (d 10 dc)) (show _=3 from rfl) (zaf 11 u i rfl)
     · exact fun D ⟨b7,hd19,b8,hd20⟩ n d c u i=>⟨_,(zac (zai (fun hD=>n (c 18 _ rfl hD 12 dc)) zap) (zcw (zac (zai (fun hD=>n (c 15 _ rfl hD 12 dc)) zap) (zsa rfl)))),zar (k:=0) zgE rfl dc (zaa (m:=11) u rfl (d 11 dc)) rfl rfl (zaf 12 u i rfl)⟩
     ·
      intro D b hn hd hcl
      obtain ⟨b7,hd19,_,hd20⟩:=b
      refine zaG (zac (zai (fun hD=>hn (hcl 15 _ rfl (hcl 18 _ rfl hD 15 dc) 14 dc)) zap) (zcw (zac (zai (fun hD=>hn (hcl 15 _ rfl hD 14 dc)) zap) (zni (zac (zai hn zap) rfl))))) ?_
      refine zaS (cs:=[zI x2.1]) (te:=3) (ps:=[(0,.tmp 40)]) rfl dc (evP.cons (zaa (m:=13) rfl rfl (hd 13 dc)) evP.nil) (fun _=>by kernel_rfl) (fun b8 => ?_)
      refine zcD 10 rfl rfl ?_
      exact zaO (b7,hd19,b8,hd20) 14 (by rfl) (by rfl) rfl (zts (zcx (zaq (fun hD=>absurd hD hn) (ztk rfl)))) (zac ((zao (by rfl)).trans (zai (fun hD=>hn (hcl 15 _ rfl (hcl 18 _ rfl hD 15 dc) 14 dc)) zap)) (zcZ (zac (zao (by rfl)) (zac ((zao (by rfl)).trans (zai (fun hD=>hn (hcl 15 _ rfl hD 14 dc)) zap)) (zfk (zac (zao (by rfl)) (zac (zaH (Or.inr rfl) rfl) rfl)))))))
     ·
      intro D b hn hd hcl
      obtain ⟨b7,hd19,b8,_⟩:=b
      refine zaG (zac (zai (fun hD=>hn (hcl 18 _ rfl hD 15 dc)) zap) (zcZ (zac (zaH (hd 8 dc) rfl) (zac (zai hn zap) (zfk (zac (zaH (hcl 8 _ rfl (hd 8 dc) 7 dc) rfl) (zac (zaH (hd 14 dc) rfl) rfl))))))) ?_
      refine za1 (k:=4) (k2:=10) (ys:=[x2.1]) Tryd.underlying24 zqy za6 zgs rfl dc (zaa (m:=12) rfl rfl (hd 12 dc)) (zaa (m:=14) rfl rfl (hd 14 dc)) rfl rfl rfl rfl hg2 (fun v2 => ?_)
      refine zbL (k:=4) rfl (fun hd20 he2 => ?_)
      subst he2
      exact zaO (b7,hd19,b8,hd20) 15 (by rfl) (by rfl) rfl (ztk (zcx (zaq (fun hD=>absurd hD hn) (zts rfl)))) (zac ((zao (by rfl)).trans (zai (fun hD=>hn (hcl 18 _ rfl hD 15 dc)) zap)) (zcZ (zac ((zao (by rfl)).trans (zaH (hd 8 dc) rfl)) (zac (zaH (Or.inr rfl) rfl) (zfk (zac ((zao (by rfl)).trans (zaH (hcl 8 _ rfl (hd 8 dc) 7 dc) rfl)) (zac ((zao (by rfl)).trans (zaH (hd 14 dc) rfl)) rfl)))))))
     · exact fun D ⟨b7,hd19,b8,hd20⟩ n d c u i=>zaA rfl dc (zaa (m:=0) u rfl (d 0 dc)) (zaf 16 u i rfl)
     · exact fun D ⟨b7,hd19,b8,hd20⟩ n d c u i=>zab zjZ rfl dc (zaa (m:=16) u rfl (d 16 dc)) (show _=2 from rfl) (zaf 17 u i rfl)
     ·
      intro D b hn hd hcl
      obtain ⟨b7,hd19,b8,hd20⟩:=b
      refine zaG (zac (zai hn zap) (zcZ (zac (zaH (hd 8 dc) rfl) (zac (zaH (hd 15 dc) rfl) (zfk (zac (zaH (hd 7 dc) rfl) (zac (zaH (hcl 15 _ rfl (hd 15 dc) 14 dc) rfl) rfl))))))) ?_
      refine za5 (k:=0) (l':=[hd13.v,hd14.v,hd19.v,hd16.v,zI p1.heights]) zpc rfl (zaa (m:=17) rfl rfl (hd 17 dc)) (zaa (m:=8) rfl rfl (hd 8 dc)) rfl rfl (fun _ _=>rfl) rfl ?_
      exact zha (b7,hd19,b8,hd20) (by rfl) (zsc (zcx rfl)) (zac (zaH (Or.inr rfl) rfl) (zcZ (zac ((zao (by rfl)).trans (zaH (hd 8 dc) rfl)) (zac ((zao (by rfl)).trans (zaH (hd 15 dc) rfl)) (zfk (zac ((zao (by rfl)).trans (zaH (hd 7 dc) rfl)) (zac ((zao (by rfl)).trans (zaH (hcl 15 _ rfl (hd 15 dc) 14 dc) rfl)) rfl)))))))
     intro D b hall
     obtain ⟨b7,hd19,b8,hd20⟩:=b
     refine zaG (zac (zaH (hall 18 dc) rfl) (zcZ (zac (zaH (hall 8 dc) rfl) (zac (zaH (hall 15 dc) rfl) (zfk (zac (zaH (hall 7 dc) rfl) (zac (zaH (hall 14 dc) rfl) rfl))))))) (zaA rfl dc rfl (zab zlO rfl dc rfl (show _=3 from rfl) ?_))
     refine za5 (k:=0) (l':=[hd13.v,hd14.v,hd19.v,hd20.v,zI p1.heights]) zpc rfl rfl rfl rfl rfl (fun _ _=>rfl) rfl ?_
     refine zaR ?_
     exact zak (l16++[x2.1],l17++[x2.1],hd19,hd20) h rfl (za0 rfl) (zae [0,1,2,3,4,5,6,7,8] kr rfl)
    refine zas ?_
    exact zak (l16,l17,hd15,hd16) h rfl (za0 rfl) (zae [0,1,2,3,4,5,6,7,8] kr rfl)
   rintro ⟨l18,l19,hd17,hd18⟩ h
   rw [hj2] at h
   refine zaJ ?_
   obtain ⟨q1,hq3,h⟩:=zbg h
   refine zbu 7 [(0,47,zP bp1),(1,48,zP bp1),(2,49,.pointer (some ⟨bp1,3,none⟩)),(3,50,hd18.v),(4,51,.pointer (some ⟨jb1,2,none⟩)),(5,52,zI x2.2.Stanza),(6,53,zI x2.1)] mixed kr kr dc (by rfl) kr kr (zad ?_ (zad ?_ (zad ?_ (zad ?_ (zad ?_ (zad ?_ (zyP 1 6 rfl DrawPre.nil))))))) ?_
   · exact fun D n d c u i=>zar (k:=5) zkw rfl dc (za9 (by rfl) rfl) rfl rfl (zaf 0 u i rfl)
   · exact fun D n d c u i=>zaA rfl dc (zaa (m:=0) u rfl (d 0 dc)) (zaf 1 u i rfl)
   · exact fun D n d c u i=>zab zlO rfl dc (zaa (m:=1) u rfl (d 1 dc)) (show _=3 from rfl) (zaf 2 u i rfl)
   · exact fun D n d c u i=>zar (k:=0) zgE rfl dc (zaa (m:=2) u rfl (d 2 dc)) rfl rfl (zaf 3 u i rfl)
   · exact fun D n d c u i=>zab ziD rfl dc (za9 (by rfl) rfl) (show _=2 from rfl) (zaf 4 u i rfl)
   · exact fun D n d c u i=>zar (k:=8) zbh rfl dc (zaa (m:=4) u rfl (d 4 dc)) rfl rfl (zaf 5 u i rfl)
   refine zan (k:=4) hq3 Tryd.underlying24 zde rfl dc rfl rfl rfl rfl ?_
   refine zb9 (i:=(x2.2.Stanza:Int).toNat) (j:=0) (k:=4) (q:=q1) (q':=x2.1) zde za6 rfl rfl rfl rfl (zaC hq3) rfl dc rfl (fun _ _=>rfl) ?_
   refine zyH (zab znB rfl dc rfl (show _=0 from rfl) (zar (k:=8) zoT rfl dc rfl rfl rfl (zab zlQ rfl dc rfl (show _=1 from rfl) (zar (k:=8) zbh rfl dc rfl rfl rfl (zba (k:=6) (cs:=(zr0 l1)) ziv rfl dc rfl rfl rfl rfl ?_)))))
   obtain ⟨r2,hq4,h⟩:=zbg h
   refine zea (vs:=[.string x2.2.Text,zI x2.2.Indent,.agg (zr0 l1).toArray]) rfl dc rfl rfl rfl zuk (ziX (l1:=l1) hq4) Splits.nil ?_
   rintro v3
   refine zbL (k:=9) rfl (fun hd21 he3 => ?_)
   subst he3
   refine zyR 1 rfl (zaU rfl dc rfl rfl (zaU rfl dc rfl rfl (zyR 2 rfl (zyH (zar (k:=7) zbh rfl dc rfl rfl rfl (zyR 1 rfl ?_))))))
   obtain ⟨hg3,h⟩:=zbk h
   refine zaT rfl (zaQ (r:=cost4+r2.2) (IntWalk.i64_in _ hg3)) ?_
   refine za5 (k:=7) (l':=[zI (cost4+r2.2)]) zde rfl rfl rfl rfl rfl (fun _ _=>rfl) rfl ?_
   refine zyH (zyR 1 rfl (zbd (k:=9) rfl dc rfl rfl Tryd.underlying49 (zyR 1 rfl (zyN (zaE ?_)))))
   refine zbn (β:=Nat×(List Gapi_Row)×(List Int)×Int×Hd×Hd) (fun b=>zaF (fun _ _ _=>none) (zbw l1 x2 ag1 cost4 l18 l19 r2) b.1 b.2.1 b.2.2.1 b.2.2.2.1=some r) (fun b=>[]) (fun b=>[(3,zP b2),(5,zP b3),(6,zI 0),(7,zP b4),(8,zI x2.1),(9,zP jb1),(16,.func (.func 86) #[] #[zP b5]),(67,hd21.v),(68,zI (r2.1.length:Int)),(69,zI b.2.2.2.1)]) (fun b=>[cells bp1 [b.2.2.2.2.1.v,b.2.2.2.2.2.v,hd17.v,hd18.v,zI p1.heights] 96,zv1 b.2.2.2.2.1.v b.2.1,zv0 b.2.2.2.2.2.v b.2.2.1,zv0 hd17.v l18,zv0 hd18.v (l19.set (x2.2.Stanza:Int).toNat x2.1),cells b2 [zP bp1] 94,cells b3 (zr0 l1) 23,cells b4 [zI (cost4+r2.2)] 3,cells jb1 (zr3 x2.2) 57,zv5 hd21.v r2.1]) (fun b=>b.1) (zbW,l14,l15,0,hd13,hd14) h rfl (za0 rfl) (zae [0,1,2,3,4,5,6,7,8,9] kr rfl) ?_
   rintro ⟨n1,l24,l25,x5,hd26,hd27⟩ h
   cases n1 with
   | zero=>exact zdG h
   | succ n1 =>
    obtain ⟨ag2,hag2⟩:∃ ag,ag=zaF (fun _ _ _=>none) (zbw l1 x2 ag1 cost4 l18 l19 r2) n1:=⟨_,rfl⟩
    have h:zbw l1 x2 ag1 cost4 l18 l19 r2 ag2 l24 l25 x5=some r:=by rw [hag2]; exact h
    unfold zbw at h
    refine zyG (zaT rfl zbf (zyN (zaJ ?_)))
    refine zyB rfl h (fun h => ?_) (fun h => ?_)
    ·
     refine zas (zaL (zaJ (zaE ?_)))
     obtain ⟨j3,hj3,h⟩:=zbK h
     refine zaX (β:=Int×Int×ByteArray×Nat) 2 rfl (fun b=>j3 b.1 b.2.1 b.2.2.1=some r) (fun b=>[]) (fun b=>[(3,zP b2),(5,zP b3),(6,zI 0),(7,zP b4),(8,zI x2.1),(9,zP jb1),(14,zP b.2.2.2),(16,.func (.func 86) #[] #[zP b5]),(67,hd21.v),(68,zI (r2.1.length:Int)),(69,zI x5)]) (fun b=>[cells bp1 [hd26.v,hd27.v,hd17.v,hd18.v,zI p1.heights] 96,zv1 hd26.v l24,zv0 hd27.v l25,zv0 hd17.v l18,zv0 hd18.v (l19.set (x2.2.Stanza:Int).toNat x2.1),cells b2 [zP bp1] 94,cells b3 (zr0 l1) 23,cells b4 [zI (cost4+r2.2)] 3,cells jb1 (zr3 x2.2) 57,cells b.2.2.2 [zI x2.1,zI x2.2.Stanza,zI x5,zI b.1,zI b.2.1,.string b.2.2.1] 38,zv5 hd21.v r2.1]) (fun cut => ?_) ?_
     ·
      refine zyG (zyR 1 rfl ?_)
      obtain ⟨q2,hq5,h⟩:=zbg h
      refine zan (k:=9) hq5 Tryd.underlying49 ztm rfl dc rfl rfl rfl rfl (zaB (i:=(x5:Int).toNat) (j:=0) (k:=9) (q:=q2) zoT zgr rfl dc rfl rfl (zaC hq5) rfl dc rfl (zyR 2 rfl (zyH (zyR 1 rfl (zab ziD rfl dc rfl (show _=2 from rfl) (zar (k:=8) zbh rfl dc rfl rfl rfl (zyR 1 rfl (zab zgn rfl dc rfl (show _=2 from rfl) (zar (k:=6) zbh rfl dc rfl rfl rfl ?_)))))))))
      refine zyR 1 rfl ?_
      refine za3 (v:=.agg #[zI x2.1,zI x2.2.Stanza,zI x5,zI l1.Turn,zI 0,.string q2]) (ps:=[(0,.tmp 74),(1,.tmp 76),(2,.tmp 77),(3,.tmp 79),(5,.tmp 80)]) rfl dc rfl (fun _=>by kernel_rfl) ?_
      refine zbt zos rfl dc (fun b10 => ?_)
      refine zaY (k:=10) (vs:=[zI x2.1,zI x2.2.Stanza,zI x5,zI l1.Turn,zI 0,.string q2]) (l':=[zI x2.1,zI x2.2.Stanza,zI x5,zI l1.Turn,zI 0,.string q2]) zfX rfl rfl rfl rfl rfl (show _≤_ by simp) rfl rfl ?_
      refine zyN (cut (zyG (zyR 1 rfl (zaT rfl zaP (zyN ?_)))))
      refine zyB rfl h (fun h => ?_) (fun h => ?_)
      ·
       refine zyG (zab zlQ rfl dc rfl (show _=1 from rfl) (zar (k:=8) zbh rfl dc rfl rfl rfl (zab zpZ rfl dc rfl (show _=3 from rfl) ?_)))
       refine za5 (k:=10) (l':=[zI x2.1,zI x2.2.Stanza,zI x5,zI x2.2.Indent,zI 0,.string q2]) zde rfl rfl rfl rfl rfl (fun _ _=>rfl) rfl ?_
       refine zyH (zab zgQ rfl dc rfl (show _=3 from rfl) (zar (k:=6) zbh rfl dc rfl rfl rfl (zaT rfl zcA (zyR 1 rfl ?_))))
       refine zyS (s:=90) rfl h (fun h => ?_) (fun h => ?_)
       ·
        refine zyR 1 rfl ?_
        obtain ⟨hg4,h⟩:=zbk h
        refine zaT rfl (zaQ (r:=x2.1+1) (IntWalk.i64_in _ hg4)) (zab zgQ rfl dc rfl (show _=3 from rfl) (zar (k:=6) zbh rfl dc rfl rfl rfl ?_))
        obtain ⟨hg5,h⟩:=zbk h
        refine zaT rfl (zqj hg5 rfl) (zaT rfl zaP (zyR 1 rfl (zyN ?_)))
        refine zyB rfl h (fun h => ?_) (fun h => ?_)
        ·
         refine zax (zyR 1 rfl ?_)
         obtain ⟨hg6,h⟩:=zbk h
         refine zaT rfl (zaQ (r:=x2.1+1) (IntWalk.i64_in _ hg6)) (zab zpY rfl dc rfl (show _=4 from rfl) ?_)
         refine za5 (k:=10) (l':=[zI x2.1,zI x2.2.Stanza,zI x5,zI x2.2.Indent,zI (x2.1+1),.string q2]) zde rfl rfl rfl rfl rfl (fun _ _=>rfl) rfl ?_
         refine zaR ?_
         exact zak (x2.2.Indent,x2.1+1,q2,b10) h rfl (za0 rfl) (zae [0,1,2,3,4,5,6,7,8,10,9] kr rfl)
        refine zas ?_
        exact zak (x2.2.Indent,0,q2,b10) h rfl (za0 rfl) (zae [0,1,2,3,4,5,6,7,8,10,9] kr rfl)
       refine zyR 7 rfl (zyN (zaN rfl (zas ?_)))
       exact zak (x2.2.Indent,0,q2,b10) h rfl (za0 rfl) (zae [0,1,2,3,4,5,6,7,8,10,9] kr rfl)
      refine zas ?_
      exact zak (l1.Turn,0,q2,b10) h rfl (za0 rfl) (zae [0,1,2,3,4,5,6,7,8,10,9] kr rfl)
     rintro ⟨r3,r4,r5,b9⟩ h
     rw [hj3] at h
     obtain ⟨hg7,h⟩:=zbk h
     obtain ⟨hg8,h⟩:=zbk h
     refine zfU 2 ?_
     refine let vals2:(Nat×Hd×Nat×Hd)→List (Nat×Nat×Value):=fun b=>[(0,101,zP bp1),(1,102,zP bp1),(2,103,zP bp1),(3,104,zP bp1),(4,105,zP bp1),(5,106,hd26.v),(6,107,.agg #[zI x2.1,zI x2.2.Stanza,zI x5,zI r3,zI r4,.string r5]),(7,108,.slice (some ⟨b.1,0,none⟩) 1 1),(8,109,b.2.1.v),(9,110,zP bp1),(10,111,zP bp1),(11,112,.pointer (some ⟨bp1,1,none⟩)),(12,113,hd27.v),(13,114,.pointer (some ⟨jb1,2,none⟩)),(14,115,zI x2.2.Stanza),(15,116,.slice (some ⟨b.2.2.1,0,none⟩) 1 1),(16,117,b.2.2.2.v),(17,118,zP bp1),(18,119,zP bp1)]; let LL2:(Nat→Prop)→(Nat×Hd×Nat×Hd)→List Asn:=fun D b=>[eD D (cells bp1 [hd26.v,hd27.v,hd17.v,hd18.v,zI p1.heights] 96) [(19,cells bp1 [b.2.1.v,hd27.v,hd17.v,hd18.v,zI p1.heights] 96)],eD D (zv1 hd26.v l24) [(8,zv1 b.2.1.v (l24++[(⟨x2.1,x2.2.Stanza,x5,r3,r4,r5⟩:Gapi_Row)]))],eD D (zv0 hd27.v l25) [(16,zv0 b.2.2.2.v (l25++[x2.2.Stanza]))],zv0 hd17.v l18,zv0 hd18.v (l19.set (x2.2.Stanza:Int).toNat x2.1),cells b2 [zP bp1] 94,cells b3 (zr0 l1) 23,cells b4 [zI (cost4+r2.2)] 3,cells jb1 (zr3 x2.2) 57,cells b9 [zI x2.1,zI x2.2.Stanza,zI x5,zI r3,zI r4,.string r5] 38,zv5 hd21.v r2.1,eD D emp [(7,cells b.1 [zI x2.1,zI x2.2.Stanza,zI x5,zI r3,zI r4,.string r5] 38)],eD D emp [(15,cells b.2.2.1 [zI x2.2.Stanza] 3)]]; ?_
     refine zdI (β:=Nat×Hd×Nat×Hd) 20 ((0:Nat),Hd.nil,(0:Nat),Hd.nil) vals2 LL2 mixed kr kr dc (fun _=>rfl) (zac zbS (zac zbS (zac zbS (zhG (zac zbS (zac zbS rfl)))))) (zat ?_ (zat ?_ (zat ?_ (zat ?_ (zat ?_ (zat ?_ (zat ?_ (zat ?_ (zat ?_ (zat ?_ (zat ?_ (zat ?_ (zat ?_ (zat ?_ (zat ?_ (zat ?_ (zat ?_ (zat ?_ (zat ?_ (zat ?_ DrawG.nil)))))))))))))))))))) ?_
     ·
      intro D b hn hd hcl
      obtain ⟨b11,hd28,b12,hd29⟩:=b
      refine zaG (zac (zai (fun hD=>hn (hcl 19 _ rfl hD 0 dc)) zap) (zsb rfl)) ?_
      refine zar (k:=5) zkw rfl dc (za9 (by rfl) rfl) rfl rfl ?_
      exact zaO (b11,hd28,b12,hd29) 0 (by rfl) (by rfl) rfl (zi4 (zcx rfl)) (zac ((zao (by rfl)).trans (zai (fun hD=>hn (hcl 19 _ rfl hD 0 dc)) zap)) (zac (zao (by rfl)) (zac (zao (by rfl)) (zhG (zac (zao (by rfl)) (zac (zao (by rfl)) rfl))))))
     ·
      intro D b hn hd hcl
      obtain ⟨b11,hd28,b12,hd29⟩:=b
      refine zaG (zac rfl (zsb rfl)) (zar (k:=5) zkw rfl dc (za9 (by rfl) rfl) rfl rfl ?_)
      exact zaO (b11,hd28,b12,hd29) 1 (by rfl) (by rfl) rfl (zi4 (zcx rfl)) (zac (zao (by rfl)) (zac (zao (by rfl)) (zac (zao (by rfl)) (zhG (zac (zao (by rfl)) (zac (zao (by rfl)) rfl))))))
     ·
      intro D b hn hd hcl
      obtain ⟨b11,hd28,b12,hd29⟩:=b
      refine zaG (zac (zai (fun hD=>hn (hcl 19 _ rfl hD 2 dc)) zap) (zac (zai (fun hD=>hn (hcl 3 _ rfl (hcl 4 _ rfl (hcl 5 _ rfl (hcl 8 _ rfl hD 5 dc) 4 dc) 3 dc) 2 dc)) zap) (zac (zai (fun hD=>hn (hcl 3 _ rfl (hcl 4 _ rfl (hcl 5 _ rfl (hcl 8 _ rfl (hcl 16 _ rfl hD 8 dc) 5 dc) 4 dc) 3 dc) 2 dc)) zap) (zle rfl)))) ?_
      refine zar (k:=5) zkw rfl dc (za9 (by rfl) rfl) rfl rfl ?_
      exact zaO (b11,hd28,b12,hd29) 2 (by rfl) (by rfl) rfl (zi4 (zcx rfl)) (zac ((zao (by rfl)).trans (zai (fun hD=>hn (hcl 19 _ rfl hD 2 dc)) zap)) (zac ((zao (by rfl)).trans (zai (fun hD=>hn (hcl 3 _ rfl (hcl 4 _ rfl (hcl 5 _ rfl (hcl 8 _ rfl hD 5 dc) 4 dc) 3 dc) 2 dc)) zap)) (zac ((zao (by rfl)).trans (zai (fun hD=>hn (hcl 3 _ rfl (hcl 4 _ rfl (hcl 5 _ rfl (hcl 8 _ rfl (hcl 16 _ rfl hD 8 dc) 5 dc) 4 dc) 3 dc) 2 dc)) zap)) (zhG (zac (zao (by rfl)) (zac (zao (by rfl)) rfl))))))
     ·
      intro D b hn hd hcl
      obtain ⟨b11,hd28,b12,hd29⟩:=b
      refine zaG (zac (zai (fun hD=>hn (hcl 19 _ rfl hD 3 dc)) zap) (zac (zai (fun hD=>hn (hcl 4 _ rfl (hcl 5 _ rfl (hcl 8 _ rfl hD 5 dc) 4 dc) 3 dc)) zap) (zac (zai (fun hD=>hn (hcl 4 _ rfl (hcl 5 _ rfl (hcl 8 _ rfl (hcl 16 _ rfl hD 8 dc) 5 dc) 4 dc) 3 dc)) zap) (zle rfl)))) ?_
      refine zaA rfl dc (zaa (m:=2) rfl rfl (hd 2 dc)) ?_
      exact zaO (b11,hd28,b12,hd29) 3 (by rfl) (by rfl) rfl (zi4 (zcx rfl)) (zac ((zao (by rfl)).trans (zai (fun hD=>hn (hcl 19 _ rfl hD 3 dc)) zap)) (zac ((zao (by rfl)).trans (zai (fun hD=>hn (hcl 4 _ rfl (hcl 5 _ rfl (hcl 8 _ rfl hD 5 dc) 4 dc) 3 dc)) zap)) (zac ((zao (by rfl)).trans (zai (fun hD=>hn (hcl 4 _ rfl (hcl 5 _ rfl (hcl 8 _ rfl (hcl 16 _ rfl hD 8 dc) 5 dc) 4 dc) 3 dc)) zap)) (zhG (zac (zao (by rfl)) (zac (zao (by rfl)) rfl))))))
     ·
      intro D b hn hd hcl
      obtain ⟨b11,hd28,b12,hd29⟩:=b
      refine zaG (zac (zai (fun hD=>hn (hcl 19 _ rfl hD 4 dc)) zap) (zac (zai (fun hD=>hn (hcl 5 _ rfl (hcl 8 _ rfl hD 5 dc) 4 dc)) zap) (zac (zai (fun hD=>hn (hcl 5 _ rfl (hcl 8 _ rfl (hcl 16 _ rfl hD 8 dc) 5 dc) 4 dc)) zap) (zle rfl)))) ?_
      refine zab zgP rfl dc (zaa (m:=3) rfl rfl (hd 3 dc)) (show _=0 from rfl) ?_
      exact zaO (b11,hd28,b12,hd29) 4 (by rfl) (by rfl) rfl (zi4 (zcx rfl)) (zac ((zao (by rfl)).trans (zai (fun hD=>hn (hcl 19 _ rfl hD 4 dc)) zap)) (zac ((zao (by rfl)).trans (zai (fun hD=>hn (hcl 5 _ rfl (hcl 8 _ rfl hD 5 dc) 4 dc)) zap)) (zac ((zao (by rfl)).trans (zai (fun hD=>hn (hcl 5 _ rfl (hcl 8 _ rfl (hcl 16 _ rfl hD 8 dc) 5 dc) 4 dc)) zap)) (zhG (zac (zao (by rfl)) (zac (zao (by rfl)) rfl))))))
     ·
      intro D b hn hd hcl
      obtain ⟨b11,hd28,b12,hd29⟩:=b
      refine zaG (zac (zai (fun hD=>hn (hcl 19 _ rfl hD 5 dc)) zap) (zac (zai (fun hD=>hn (hcl 8 _ rfl hD 5 dc)) zap) (zac (zai (fun hD=>hn (hcl 8 _ rfl (hcl 16 _ rfl hD 8 dc) 5 dc)) zap) (zle rfl)))) ?_
      refine zar (k:=0) znn rfl dc (zaa (m:=4) rfl rfl (hd 4 dc)) rfl rfl ?_
      exact zaO (b11,hd28,b12,hd29) 5 (by rfl) (by rfl) rfl (zi4 (zcx rfl)) (zac ((zao (by rfl)).trans (zai (fun hD=>hn (hcl 19 _ rfl hD 5 dc)) zap)) (zac ((zao (by rfl)).trans (zai (fun hD=>hn (hcl 8 _ rfl hD 5 dc)) zap)) (zac ((zao (by rfl)).trans (zai (fun hD=>hn (hcl 8 _ rfl (hcl 16 _ rfl hD 8 dc) 5 dc)) zap)) (zhG (zac (zao (by rfl)) (zac (zao (by rfl)) rfl))))))
     ·
      intro D b hn hd hcl
      obtain ⟨b11,hd28,b12,hd29⟩:=b
      refine zaG (zac (zai (fun hD=>hn (hcl 19 _ rfl hD 6 dc)) zap) (zac (zai (fun hD=>hn (hcl 7 _ rfl (hcl 8 _ rfl hD 7 dc) 6 dc)) zap) (zac (zai (fun hD=>hn (hcl 7 _ rfl (hcl 8 _ rfl (hcl 16 _ rfl hD 8 dc) 7 dc) 6 dc)) zap) (zhG (zac (zai (fun hD=>hn (hcl 7 _ rfl hD 6 dc)) zap) rfl))))) ?_
      refine zba (k:=9) (cs:=[zI x2.1,zI x2.2.Stanza,zI x5,zI r3,zI r4,.string r5]) zno rfl dc (za9 (by rfl) rfl) rfl rfl rfl ?_
      exact zaO (b11,hd28,b12,hd29) 6 (by rfl) (by rfl) rfl (zi4 (zcx rfl)) (zac ((zao (by rfl)).trans (zai (fun hD=>hn (hcl 19 _ rfl hD 6 dc)) zap)) (zac ((zao (by rfl)).trans (zai (fun hD=>hn (hcl 7 _ rfl (hcl 8 _ rfl hD 7 dc) 6 dc)) zap)) (zac ((zao (by rfl)).trans (zai (fun hD=>hn (hcl 7 _ rfl (hcl 8 _ rfl (hcl 16 _ rfl hD 8 dc) 7 dc) 6 dc)) zap)) (zhG (zac ((zao (by rfl)).trans (zai (fun hD=>hn (hcl 7 _ rfl hD 6 dc)) zap)) (zac (zao (by rfl)) rfl))))))
     ·
      intro D b hn hd hcl
      obtain ⟨_,hd28,b12,hd29⟩:=b
      refine zaG (zac (zai (fun hD=>hn (hcl 19 _ rfl hD 7 dc)) zap) (zac (zai (fun hD=>hn (hcl 8 _ rfl hD 7 dc)) zap) (zac (zai (fun hD=>hn (hcl 8 _ rfl (hcl 16 _ rfl hD 8 dc) 7 dc)) zap) (zhG (zac (zai hn zap) rfl))))) ?_
      refine zaS (cs:=[zI x2.1,zI x2.2.Stanza,zI x5,zI r3,zI r4,.string r5]) (te:=38) (ps:=[(0,.tmp 107)]) rfl dc (evP.cons (zaa (m:=6) rfl rfl (hd 6 dc)) evP.nil) (fun _=>by kernel_rfl) (fun b11 => ?_)
      refine zcD 11 rfl rfl ?_
      exact zaO (b11,hd28,b12,hd29) 7 (by rfl) (by rfl) rfl (zi4 (zaq (fun hD=>absurd hD hn) (zsd rfl))) (zac ((zao (by rfl)).trans (zai (fun hD=>hn (hcl 19 _ rfl hD 7 dc)) zap)) (zac ((zao (by rfl)).trans (zai (fun hD=>hn (hcl 8 _ rfl hD 7 dc)) zap)) (zac ((zao (by rfl)).trans (zai (fun hD=>hn (hcl 8 _ rfl (hcl 16 _ rfl hD 8 dc) 7 dc)) zap)) (zhG (zac (zaH (Or.inr rfl) rfl) (zac (zao (by rfl)) rfl))))))
     ·
      intro D b hn hd hcl
      obtain ⟨b11,_,b12,hd29⟩:=b
      refine zaG (zac (zai (fun hD=>hn (hcl 19 _ rfl hD 8 dc)) zap) (zac (zai hn zap) (zac (zai (fun hD=>hn (hcl 16 _ rfl hD 8 dc)) zap) (zhG (zac (zaH (hd 7 dc) rfl) rfl))))) ?_
      refine za1 (k:=1) (k2:=11) (ys:=[(⟨x2.1,x2.2.Stanza,x5,r3,r4,r5⟩:Gapi_Row)]) Tryd.underlying30 zrf zbQ zeA rfl dc (zaa (m:=5) rfl rfl (hd 5 dc)) (zaa (m:=7) rfl rfl (hd 7 dc)) rfl rfl rfl rfl hg7 (fun v4 => ?_)
      refine zbL (k:=1) rfl (fun hd28 he4 => ?_)
      subst he4
      exact zaO (b11,hd28,b12,hd29) 8 (by rfl) (by rfl) rfl (zir (zaq (fun hD=>absurd hD hn) (zqA rfl))) (zac ((zao (by rfl)).trans (zai (fun hD=>hn (hcl 19 _ rfl hD 8 dc)) zap)) (zac (zaH (Or.inr rfl) rfl) (zac ((zao (by rfl)).trans (zai (fun hD=>hn (hcl 16 _ rfl hD 8 dc)) zap)) (zhG (zac ((zao (by rfl)).trans (zaH (hd 7 dc) rfl)) (zac (zao (by rfl)) rfl))))))
     ·
      intro D b hn hd hcl
      obtain ⟨b11,hd28,b12,hd29⟩:=b
      refine zaG (zac (zai (fun hD=>hn (hcl 10 _ rfl (hcl 11 _ rfl (hcl 12 _ rfl (hcl 19 _ rfl hD 12 dc) 11 dc) 10 dc) 9 dc)) zap) (zac rfl (zac (zai (fun hD=>hn (hcl 10 _ rfl (hcl 11 _ rfl (hcl 12 _ rfl (hcl 16 _ rfl hD 12 dc) 11 dc) 10 dc) 9 dc)) zap) (zle rfl)))) ?_
      refine zar (k:=5) zkw rfl dc (za9 (by rfl) rfl) rfl rfl ?_
      exact zaO (b11,hd28,b12,hd29) 9 (by rfl) (by rfl) rfl (zi4 (zcx rfl)) (zac ((zao (by rfl)).trans (zai (fun hD=>hn (hcl 10 _ rfl (hcl 11 _ rfl (hcl 12 _ rfl (hcl 19 _ rfl hD 12 dc) 11 dc) 10 dc) 9 dc)) zap)) (zac (zao (by rfl)) (zac ((zao (by rfl)).trans (zai (fun hD=>hn (hcl 10 _ rfl (hcl 11 _ rfl (hcl 12 _ rfl (hcl 16 _ rfl hD 12 dc) 11 dc) 10 dc) 9 dc)) zap)) (zhG (zac (zao (by rfl)) (zac (zao (by rfl)) rfl))))))
     ·
      intro D b hn hd hcl
      obtain ⟨b11,hd28,b12,hd29⟩:=b
      refine zaG (zac (zai (fun hD=>hn (hcl 11 _ rfl (hcl 12 _ rfl (hcl 19 _ rfl hD 12 dc) 11 dc) 10 dc)) zap) (zac rfl (zac (zai (fun hD=>hn (hcl 11 _ rfl (hcl 12 _ rfl (hcl 16 _ rfl hD 12 dc) 11 dc) 10 dc)) zap) (zle rfl)))) ?_
      refine zaA rfl dc (zaa (m:=9) rfl rfl (hd 9 dc)) ?_
      exact zaO (b11,hd28,b12,hd29) 10 (by rfl) (by rfl) rfl (zi4 (zcx rfl)) (zac ((zao (by rfl)).trans (zai (fun hD=>hn (hcl 11 _ rfl (hcl 12 _ rfl (hcl 19 _ rfl hD 12 dc) 11 dc) 10 dc)) zap)) (zac (zao (by rfl)) (zac ((zao (by rfl)).trans (zai (fun hD=>hn (hcl 11 _ rfl (hcl 12 _ rfl (hcl 16 _ rfl hD 12 dc) 11 dc) 10 dc)) zap)) (zhG (zac (zao (by rfl)) (zac (zao (by rfl)) rfl))))))
     ·
      intro D b hn hd hcl
      obtain ⟨b11,hd28,b12,hd29⟩:=b
      refine zaG (zac (zai (fun hD=>hn (hcl 12 _ rfl (hcl 19 _ rfl hD 12 dc) 11 dc)) zap) (zac rfl (zac (zai (fun hD=>hn (hcl 12 _ rfl (hcl 16 _ rfl hD 12 dc) 11 dc)) zap) (zle rfl)))) ?_
      refine zab zlP rfl dc (zaa (m:=10) rfl rfl (hd 10 dc)) (show _=1 from rfl) ?_
      exact zaO (b11,hd28,b12,hd29) 11 (by rfl) (by rfl) rfl (zi4 (zcx rfl)) (zac ((zao (by rfl)).trans (zai (fun hD=>hn (hcl 12 _ rfl (hcl 19 _ rfl hD 12 dc) 11 dc)) zap)) (zac (zao (by rfl)) (zac ((zao (by rfl)).trans (zai (fun hD=>hn (hcl 12 _ rfl (hcl 16 _ rfl hD 12 dc) 11 dc)) zap)) (zhG (zac (zao (by rfl)) (zac (zao (by rfl)) rfl))))))
     ·
      intro D b hn hd hcl
      obtain ⟨b11,hd28,b12,hd29⟩:=b
      refine zaG (zac (zai (fun hD=>hn (hcl 19 _ rfl hD 12 dc)) zap) (zac rfl (zac (zai (fun hD=>hn (hcl 16 _ rfl hD 12 dc)) zap) (zle rfl)))) ?_
      refine zar (k:=0) zgE rfl dc (zaa (m:=11) rfl rfl (hd 11 dc)) rfl rfl ?_
      exact zaO (b11,hd28,b12,hd29) 12 (by rfl) (by rfl) rfl (zi4 (zcx rfl)) (zac ((zao (by rfl)).trans (zai (fun hD=>hn (hcl 19 _ rfl hD 12 dc)) zap)) (zac (zao (by rfl)) (zac ((zao (by rfl)).trans (zai (fun hD=>hn (hcl 16 _ rfl hD 12 dc)) zap)) (zhG (zac (zao (by rfl)) (zac (zao (by rfl)) rfl))))))
     ·
      intro D b hn hd hcl
      obtain ⟨b11,hd28,b12,hd29⟩:=b
      refine zaG (zac (zai (fun hD=>hn (hcl 14 _ rfl (hcl 15 _ rfl (hcl 16 _ rfl (hcl 19 _ rfl hD 16 dc) 15 dc) 14 dc) 13 dc)) zap) (zac rfl (zac (zai (fun hD=>hn (hcl 14 _ rfl (hcl 15 _ rfl (hcl 16 _ rfl hD 15 dc) 14 dc) 13 dc)) zap) (zuV (zac (zai (fun hD=>hn (hcl 14 _ rfl (hcl 15 _ rfl hD 14 dc) 13 dc)) zap) rfl))))) ?_
      refine zab ziD rfl dc (za9 (by rfl) rfl) (show _=2 from rfl) ?_
      exact zaO (b11,hd28,b12,hd29) 13 (by rfl) (by rfl) rfl (zi4 (zcx rfl)) (zac ((zao (by rfl)).trans (zai (fun hD=>hn (hcl 14 _ rfl (hcl 15 _ rfl (hcl 16 _ rfl (hcl 19 _ rfl hD 16 dc) 15 dc) 14 dc) 13 dc)) zap)) (zac (zao (by rfl)) (zac ((zao (by rfl)).trans (zai (fun hD=>hn (hcl 14 _ rfl (hcl 15 _ rfl (hcl 16 _ rfl hD 15 dc) 14 dc) 13 dc)) zap)) (zhG (zac (zao (by rfl)) (zac ((zao (by rfl)).trans (zai (fun hD=>hn (hcl 14 _ rfl (hcl 15 _ rfl hD 14 dc) 13 dc)) zap)) rfl))))))
     ·
      intro D b hn hd hcl
      obtain ⟨b11,hd28,b12,hd29⟩:=b
      refine zaG (zac (zai (fun hD=>hn (hcl 15 _ rfl (hcl 16 _ rfl (hcl 19 _ rfl hD 16 dc) 15 dc) 14 dc)) zap) (zac rfl (zac (zai (fun hD=>hn (hcl 15 _ rfl (hcl 16 _ rfl hD 15 dc) 14 dc)) zap) (zuV (zac (zai (fun hD=>hn (hcl 15 _ rfl hD 14 dc)) zap) rfl))))) ?_
      refine zar (k:=8) zbh rfl dc (zaa (m:=13) rfl rfl (hd 13 dc)) rfl rfl ?_
      exact zaO (b11,hd28,b12,hd29) 14 (by rfl) (by rfl) rfl (zi4 (zcx rfl)) (zac ((zao (by rfl)).trans (zai (fun hD=>hn (hcl 15 _ rfl (hcl 16 _ rfl (hcl 19 _ rfl hD 16 dc) 15 dc) 14 dc)) zap)) (zac (zao (by rfl)) (zac ((zao (by rfl)).trans (zai (fun hD=>hn (hcl 15 _ rfl (hcl 16 _ rfl hD 15 dc) 14 dc)) zap)) (zhG (zac (zao (by rfl)) (zac ((zao (by rfl)).trans (zai (fun hD=>hn (hcl 15 _ rfl hD 14 dc)) zap)) rfl))))))
     ·
      intro D b hn hd hcl
      obtain ⟨b11,hd28,_,hd29⟩:=b
      refine zaG (zac (zai (fun hD=>hn (hcl 16 _ rfl (hcl 19 _ rfl hD 16 dc) 15 dc)) zap) (zac rfl (zac (zai (fun hD=>hn (hcl 16 _ rfl hD 15 dc)) zap) (zuV (zac (zai hn zap) rfl))))) ?_
      refine zaS (cs:=[zI x2.2.Stanza]) (te:=3) (ps:=[(0,.tmp 115)]) rfl dc (evP.cons (zaa (m:=14) rfl rfl (hd 14 dc)) evP.nil) (fun _=>by kernel_rfl) (fun b12 => ?_)
      refine zcD 12 rfl rfl ?_
      exact zaO (b11,hd28,b12,hd29) 15 (by rfl) (by rfl) rfl (ztk (zcx (zaq (fun hD=>absurd hD hn) (ztk rfl)))) (zac ((zao (by rfl)).trans (zai (fun hD=>hn (hcl 16 _ rfl (hcl 19 _ rfl hD 16 dc) 15 dc)) zap)) (zac (zao (by rfl)) (zac ((zao (by rfl)).trans (zai (fun hD=>hn (hcl 16 _ rfl hD 15 dc)) zap)) (zhG (zac (zao (by rfl)) (zac (zaH (Or.inr rfl) rfl) rfl))))))
     ·
      intro D b hn hd hcl
      obtain ⟨b11,hd28,b12,_⟩:=b
      refine zaG (zac (zai (fun hD=>hn (hcl 19 _ rfl hD 16 dc)) zap) (zac (zaH (hd 8 dc) rfl) (zac (zai hn zap) (zhG (zac (zaH (hcl 8 _ rfl (hd 8 dc) 7 dc) rfl) (zac (zaH (hd 15 dc) rfl) rfl)))))) ?_
      refine za1 (k:=2) (k2:=12) (ys:=[x2.2.Stanza]) Tryd.underlying24 zqy za6 zgs rfl dc (zaa (m:=12) rfl rfl (hd 12 dc)) (zaa (m:=15) rfl rfl (hd 15 dc)) rfl rfl rfl rfl hg8 (fun v5 => ?_)
      refine zbL (k:=2) rfl (fun hd29 he5 => ?_)
      subst he5
      exact zaO (b11,hd28,b12,hd29) 16 (by rfl) (by rfl) rfl (zmf (zcx (zaq (fun hD=>absurd hD hn) (zts rfl)))) (zac ((zao (by rfl)).trans (zai (fun hD=>hn (hcl 19 _ rfl hD 16 dc)) zap)) (zac ((zao (by rfl)).trans (zaH (hd 8 dc) rfl)) (zac (zaH (Or.inr rfl) rfl) (zhG (zac ((zao (by rfl)).trans (zaH (hcl 8 _ rfl (hd 8 dc) 7 dc) rfl)) (zac ((zao (by rfl)).trans (zaH (hd 15 dc) rfl)) rfl))))))
     ·
      intro D b hn hd hcl
      obtain ⟨b11,hd28,b12,hd29⟩:=b
      refine zaG (zac (zai (fun hD=>hn (hcl 18 _ rfl (hcl 19 _ rfl hD 18 dc) 17 dc)) zap) (zac (zaH (hd 8 dc) rfl) (zac (zaH (hd 16 dc) rfl) (zhG (zac (zaH (hd 7 dc) rfl) (zac (zaH (hcl 16 _ rfl (hd 16 dc) 15 dc) rfl) rfl)))))) ?_
      refine zaA rfl dc (zaa (m:=0) rfl rfl (hd 0 dc)) ?_
      exact zaO (b11,hd28,b12,hd29) 17 (by rfl) (by rfl) rfl (zi4 (zcx rfl)) (zac ((zao (by rfl)).trans (zai (fun hD=>hn (hcl 18 _ rfl (hcl 19 _ rfl hD 18 dc) 17 dc)) zap)) (zac ((zao (by rfl)).trans (zaH (hd 8 dc) rfl)) (zac ((zao (by rfl)).trans (zaH (hd 16 dc) rfl)) (zhG (zac ((zao (by rfl)).trans (zaH (hd 7 dc) rfl)) (zac ((zao (by rfl)).trans (zaH (hcl 16 _ rfl (hd 16 dc) 15 dc) rfl)) rfl))))))
     ·
      intro D b hn hd hcl
      obtain ⟨b11,hd28,b12,hd29⟩:=b
      refine zaG (zac (zai (fun hD=>hn (hcl 19 _ rfl hD 18 dc)) zap) (zac (zaH (hd 8 dc) rfl) (zac (zaH (hd 16 dc) rfl) (zhG (zac (zaH (hd 7 dc) rfl) (zac (zaH (hcl 16 _ rfl (hd 16 dc) 15 dc) rfl) rfl)))))) ?_
      refine zab zgP rfl dc (zaa (m:=17) rfl rfl (hd 17 dc)) (show _=0 from rfl) ?_
      exact zaO (b11,hd28,b12,hd29) 18 (by rfl) (by rfl) rfl (zi4 (zcx rfl)) (zac ((zao (by rfl)).trans (zai (fun hD=>hn (hcl 19 _ rfl hD 18 dc)) zap)) (zac ((zao (by rfl)).trans (zaH (hd 8 dc) rfl)) (zac ((zao (by rfl)).trans (zaH (hd 16 dc) rfl)) (zhG (zac ((zao (by rfl)).trans (zaH (hd 7 dc) rfl)) (zac ((zao (by rfl)).trans (zaH (hcl 16 _ rfl (hd 16 dc) 15 dc) rfl)) rfl))))))
     ·
      intro D b hn hd hcl
      obtain ⟨b11,hd28,b12,hd29⟩:=b
      refine zaG (zac (zai hn zap) (zac (zaH (hd 8 dc) rfl) (zac (zaH (hd 16 dc) rfl) (zhG (zac (zaH (hd 7 dc) rfl) (zac (zaH (hcl 16 _ rfl (hd 16 dc) 15 dc) rfl) rfl)))))) ?_
      refine za5 (k:=0) (l':=[hd28.v,hd27.v,hd17.v,hd18.v,zI p1.heights]) zu4 rfl (zaa (m:=18) rfl rfl (hd 18 dc)) (zaa (m:=8) rfl rfl (hd 8 dc)) rfl rfl (fun _ _=>rfl) rfl ?_
      exact zha (b11,hd28,b12,hd29) (by rfl) (zi4 (zcx rfl)) (zac (zaH (Or.inr rfl) rfl) (zac ((zao (by rfl)).trans (zaH (hd 8 dc) rfl)) (zac ((zao (by rfl)).trans (zaH (hd 16 dc) rfl)) (zhG (zac ((zao (by rfl)).trans (zaH (hd 7 dc) rfl)) (zac ((zao (by rfl)).trans (zaH (hcl 16 _ rfl (hd 16 dc) 15 dc) rfl)) rfl))))))
     intro D b hall
     obtain ⟨b11,hd28,b12,hd29⟩:=b
     refine zaG (zac (zaH (hall 19 dc) rfl) (zac (zaH (hall 8 dc) rfl) (zac (zaH (hall 16 dc) rfl) (zhG (zac (zaH (hall 7 dc) rfl) (zac (zaH (hall 15 dc) rfl) rfl)))))) (zaA rfl dc rfl (zab zlP rfl dc rfl (show _=1 from rfl) ?_))
     refine za5 (k:=0) (l':=[hd28.v,hd29.v,hd17.v,hd18.v,zI p1.heights]) zpc rfl rfl rfl rfl rfl (fun _ _=>rfl) rfl ?_
     refine zaR (zag (zaL (zax ?_)))
     obtain ⟨hg9,h⟩:=zbk h
     refine zaT rfl (zaQ (r:=x5+1) (IntWalk.i64_in _ hg9)) (zyR 1 rfl (zaR ?_))
     subst hag2
     exact za4 (n1,l24++[(⟨x2.1,x2.2.Stanza,x5,r3,r4,r5⟩:Gapi_Row)],l25++[x2.2.Stanza],x5+1,hd28,hd29) h (Nat.lt_succ_self _) rfl (za0 rfl) (zae [0,1,2,3,4,5,6,7,8,10] kr rfl)
    refine za2 (zam (zam (zav (zag ?_))))
    exact zg9 (l24,l25,l18,l19.set (x2.2.Stanza:Int).toNat x2.1,cost4+r2.2,hd26,hd27,hd17,hd18) (fun post2 e2=>by have e9:=zga hxs1 e2; subst e9; subst hag1; exact h) (zae [0,1,2,3,4,5,6,7] kr rfl)
  ·
   rintro dm1 ⟨l14,l15,l16,l17,cost4,hd13,hd14,hd15,hd16⟩ hinv
   have h:dn1 l14 l15 l16 l17 cost4=some r:=hinv [] (List.append_nil _).symm
   rw [hdn1] at h
   refine zhE (k:=18) (j:=5) rfl rfl dc ?_
   refine zag ?_
   exact zak (l14,l15,l16,l17,cost4,hd13,hd14,hd15,hd16,b4,dm1::([]:List Nat)) h rfl (za0 rfl) (zae [10,11,12,13,14,17,5] kr rfl)
  rintro dm1 c pre x2 post g hxs hX
  exact (show False from hX).elim
 rintro ⟨l2,l3,l4,l5,cost1,hd1,hd2,hd3,hd4,b1,ds1⟩ h
 rw [hj1] at h
 refine zyG (zar (k:=5) zbh rfl dc rfl rfl rfl (zyR 1 rfl (zyN (zaI ?_))))
 cases h
 exact zql (rs:=[.tmp 6]) ds1 (hd1,hd2,hd3,hd4) (.inl rfl) (zeO (k:=6) rfl) Tryd.results38 (.cons (.tmp rfl) .nil) rfl (zae [0,1,2,3,4] kr rfl)
end Go.Proofs.YtbempdelckaccaaDoor

namespace Go.Proofs.YtbempdelckaccaaDoor
open Go.RowKit Go.Lib
set_option linter.unusedVariables false
set_option linter.unusedSimpArgs false
def zmi (l:Gapi_Layout) (v:Gapi_Verse):List ByteArray:=zf8 v.Text 0 (zj3 v.Text (zpT v.Indent l) (zpI l))
def zoW (l:Gapi_Layout) (v:Gapi_Verse):Int:=(TT v.Text (zpT v.Indent l) (zpI l) 0).cost
def zwz (l:Gapi_Layout) (k:Int):Int:=if 0<l.Every then (if Int.tmod (k+1) l.Every=0 then k+1 else 0) else 0
def ztn (l:Gapi_Layout) (k:Int) (v:Gapi_Verse) (p:Int) (t:ByteArray):Gapi_Row:=⟨k,v.Stanza,p,if p=0 then v.Indent else l.Turn,if p=0 then zwz l k else 0,t⟩
def zgk (l:Gapi_Layout) (k:Int) (v:Gapi_Verse):Int→List ByteArray→List Gapi_Row
 | _,[]=>[]
 | p,t::ts=>ztn l k v p t::zgk l k v (p+1) ts
def zdf (l:Gapi_Layout):Int→List Gapi_Verse→List Gapi_Row
 | _,[]=>[]
 | k,v::vs=>zgk l k v 0 (zmi l v)++zdf l (k+1) vs
def zgu (l:Gapi_Layout):List Gapi_Verse→Int
 | []=>0
 | v::vs=>zoW l v+zgu l vs
theorem zhR (l:Gapi_Layout) (k:Int) (v:Gapi_Verse):∀ (ts:List ByteArray) (p:Int),(zgk l k v p ts).length=ts.length
 | [],_=>rfl
 | t::ts,p=>by show (zgk l k v (p+1) ts).length+1=_; rw [zhR l k v ts]; rfl
structure OkV (v:Gapi_Verse):Prop where
 sz:v.Text.size≤1024
 ne:0<v.Text.size
 i0:0≤v.Indent∧v.Indent≤1024
section
variable {l:Gapi_Layout} (hm:zkq l=true)
include hm
theorem znl {v:Gapi_Verse} (h:OkV v):(zmi l v).length≤1024:=by
 obtain ⟨h1,h2,h3⟩:=zo4 hm h.i0
 have hs:v.Text.size≤100000:=by have:=h.sz; omega
 have hr:=zih hs h2 h3 (zaj v.Text).length 0 (zoN hs h2 h3) (Nat.zero_le _)
 have hl:0+(zj3 v.Text (zpT v.Indent l) (zpI l)).length≤max (zaj v.Text).length 0:=zlx hr
 have hc:=zg7 v.Text
 have ht:∀ (ts:List Nat) (f:Nat),(zf8 v.Text f ts).length=ts.length:=by
  intro ts
  induction ts with
  | nil=>intro f; rfl
  | cons t ts ih=>intro f; show (zf8 v.Text t ts).length+1=_; rw [ih]; rfl
 unfold zmi
 rw [ht]
 have:=h.sz
 omega
theorem znJ {v:Gapi_Verse} (h:OkV v):0≤zoW l v∧zoW l v≤2000000000000*1024:=by
 obtain ⟨h1,h2,h3⟩:=zo4 hm h.i0
 have hs:v.Text.size≤100000:=by have:=h.sz; omega
 have hok:=zkJ (R:=Rs v.Text (zpT v.Indent l) (zpI l)) (K:=Ks v.Text (zpT v.Indent l) (zpI l)) (n:=(zaj v.Text).length) (zfr hs h2 h3) (zaj v.Text).length 0
 obtain ⟨a,b,_⟩:=hok
 have hc:=zg7 v.Text
 have hz:=h.sz
 refine ⟨a,?_⟩
 show (Bf (Rs v.Text (zpT v.Indent l) (zpI l)) (Ks v.Text (zpT v.Indent l) (zpI l)) (zaj v.Text).length (zaj v.Text).length 0).cost≤_
 omega
theorem zj8:∀ (vs:List Gapi_Verse),(∀ v∈vs,OkV v)→0≤zgu l vs∧zgu l vs≤2000000000000*1024*vs.length
 | [],_=>⟨Int.le_refl _,Int.le_refl _⟩
 | v::vs,h=>by
  have h1:=znJ hm (h v (List.mem_cons_self ..))
  have h2:=zj8 vs fun w hw=>h w (List.mem_cons_of_mem _ hw)
  have e:zgu l (v::vs)=zoW l v+zgu l vs:=rfl
  rw [e,List.length_cons]; push_cast; omega
theorem zmt:∀ (vs:List Gapi_Verse) (k:Int),(∀ v∈vs,OkV v)→(zdf l k vs).length≤1024*vs.length
 | [],_,_=>Nat.le_refl _
 | v::vs,k,h=>by
  have h1:=znl hm (h v (List.mem_cons_self ..))
  have h2:=zmt vs (k+1) fun w hw=>h w (List.mem_cons_of_mem _ hw)
  show (zgk l k v 0 (zmi l v)++zdf l (k+1) vs).length≤_
  rw [List.length_append,zhR,List.length_cons]; omega
end
theorem zqR (vs:List Gapi_Verse) (l:Gapi_Layout) (k:Nat) (v:Gapi_Verse) (hv:vs[k]?=some v) (hk:k≤1000000) (sum:Int) (j2:(List Gapi_Row)→Int→Option ((List Gapi_Row)×Int)) (ts:List ByteArray) (hts:ts.length≤1000000) (c:Int) :
  ∀ (d p m:Nat) (out:List Gapi_Row),p+d=ts.length→d<m→out.length+d≤2147483648→zaF (fun _ _=>none) (zcI vs l sum (k:Int) j2 (ts,c)) m out (p:Int)=j2 (out++zgk l k v p (ts.drop p)) (sum+c):=by
 intro d
 induction d with
 | zero =>
  intro p m out hp hm ho
  obtain ⟨m,rfl⟩:∃ q,m=q+1:=⟨m - 1,by omega⟩
  rw [zcv]
  generalize zaF (fun _ _=>none) (zcI vs l sum (k:Int) j2 (ts,c)) m=ag
  unfold zcI
  refine zay (decide_eq_false (by show ¬ (p:Int)<(ts.length:Int); omega)) ?_
  rw [List.drop_of_length_le (by omega)]
  show j2 out (sum+c)=j2 (out++[]) (sum+c)
  rw [List.append_nil]
 | succ d ih =>
  intro p m out hp hm ho
  obtain ⟨m,rfl⟩:∃ q,m=q+1:=⟨m - 1,by omega⟩
  rw [zcv]
  have ih':=fun out' (h:out'.length=out.length+1)=>ih (p+1) m out' (by omega) (by omega) (by omega)
  generalize zaF (fun _ _=>none) (zcI vs l sum (k:Int) j2 (ts,c)) m=ag at ih' ⊢
  have ht:ts[p]?=some ts[p]:=List.getElem?_eq_getElem (by omega)
  rw [show ((p+1:Nat):Int)=(p:Int)+1 by omega] at ih'
  have go:∀ (i n:Int),i=(ztn l k v p ts[p]).Indent→n=(ztn l k v p ts[p]).Number→(grd (out.length+1≤2147483648)<|grd (I64 ((p:Int)+1))<|ag (out++[(⟨(k:Int),v.Stanza,(p:Int),i,n,ts[p]⟩:Gapi_Row)]) ((p:Int)+1))=j2 (out++zgk l k v p (ts.drop p)) (sum+c):=by
   intro i n hi hn
   refine zbm (by omega) (zbm ⟨by omega,by omega⟩ ?_)
   subst hi; subst hn
   rw [ih' _ (by simp),List.drop_eq_getElem_cons (show p<ts.length by omega),List.append_assoc]; rfl
  unfold zcI
  refine zaz (decide_eq_true (by show (p:Int)<(ts.length:Int); omega)) (zbE (zaM (zch hv) (zaM (zch ht) ?_)))
  by_cases h0:(p:Int)=0
  ·refine zaz (zfV h0) (zaM (zch hv) ?_)
   by_cases he:0<l.Every
   ·refine zaz (decide_eq_true he) (zbm ⟨by omega,by omega⟩ (zbm (by omega) ?_))
    by_cases ht2:Int.tmod ((k:Int)+1) l.Every=0
    ·exact zaz (zfV ht2) (zbm ⟨by omega,by omega⟩ (go _ _ (if_pos h0).symm ((if_pos h0).trans ((if_pos he).trans (if_pos ht2))).symm))
    ·exact zay (zfW ht2) (go _ _ (if_pos h0).symm ((if_pos h0).trans ((if_pos he).trans (if_neg ht2))).symm)
   ·exact zay (decide_eq_false he) (go _ _ (if_pos h0).symm ((if_pos h0).trans (if_neg he)).symm)
  ·exact zay (zfW h0) (go _ _ (if_neg h0).symm (if_neg h0).symm)
theorem zms (l:Gapi_Layout) (hm:zkq l=true) (vs:List Gapi_Verse) (hv:∀ v∈vs,OkV v) (hl:vs.length≤512) (j1:(List Gapi_Row)→Int→Option ((List Gapi_Row)×Int)) :
  ∀ (ws pre:List Gapi_Verse) (m:Nat) (out:List Gapi_Row) (sum:Int),vs=pre++ws→ws.length<m→out.length≤1024*pre.length→0≤sum∧sum≤2000000000000*1024*pre.length →
  zaF (fun _ _ _=>none) (zcJ vs l j1) m out sum (pre.length:Int)=j1 (out++zdf l pre.length ws) (sum+zgu l ws)
 | [],pre,m,out,sum,h,hn,ho,hs=>by
  obtain ⟨m,rfl⟩:∃ q,m=q+1:=⟨m - 1,by simp at hn; omega⟩
  rw [List.append_nil] at h; subst h
  rw [zcv]
  generalize zaF (fun _ _ _=>none) (zcJ vs l j1) m=ag
  unfold zcJ
  refine zay zvg ?_
  show j1 out sum=j1 (out++[]) (sum+0)
  rw [List.append_nil,Int.add_zero]
 | v::ws,pre,m,out,sum,h,hn,ho,hs=>by
  obtain ⟨m,rfl⟩:∃ q,m=q+1:=⟨m - 1,by simp at hn; omega⟩
  have hok:OkV v:=hv v (by rw [h]; simp)
  have hlen:pre.length+ws.length+1=vs.length:=by rw [h]; simp; omega
  have h1:=znl hm hok
  have h2:=znJ hm hok
  obtain ⟨w1,w2,w3⟩:=zo4 hm hok.i0
  have hsz:v.Text.size≤100000:=by have:=hok.sz; omega
  have ih:=zms l hm vs hv hl j1 ws (pre++[v]) m (out++zgk l pre.length v 0 (zmi l v)) (sum+zoW l v) (by rw [h]; simp) (by simp at hn; omega) (by rw [List.length_append,zhR,List.length_append,List.length_singleton]; omega) (by rw [List.length_append,List.length_singleton]; push_cast; omega)
  have hg:vs[pre.length]?=some v:=by rw [h]; simp
  rw [zcv]
  rw [show (((pre++[v]).length:Nat):Int)=(pre.length:Int)+1 by simp] at ih
  generalize zaF (fun _ _ _=>none) (zcJ vs l j1) m=ag at ih ⊢
  unfold zcJ
  refine zaz (znw hg) (zbE (zaM (zch hg) (zaM (zsD v.Text hsz v.Indent l w1 w2 w3) (zbm ?_ ?_))))
  ·show I64 (sum+zoW l v)
   exact ⟨by omega,by omega⟩
  ·have hin:=zqR vs l pre.length v hg (by omega) sum (fun (out5:List Gapi_Row) (sum5:Int)=>grd (I64 ((pre.length:Int)+1))<|ag out5 sum5 ((pre.length:Int)+1)) (zmi l v) (by omega) (zoW l v) (zmi l v).length 0 zbW out (by omega) (zb5 (by omega)) (by omega)
   refine hin.trans (zbm ⟨by omega,by omega⟩ ?_)
   rw [List.drop_zero]
   refine ih.trans ?_
   show j1 ((out++zgk l pre.length v 0 (zmi l v))++zdf l ((pre.length:Int)+1) ws) ((sum+zoW l v)+zgu l ws)=j1 (out++(zgk l pre.length v 0 (zmi l v)++zdf l ((pre.length:Int)+1) ws)) (sum+(zoW l v+zgu l ws))
   rw [List.append_assoc,Int.add_assoc]
theorem zsE (l:Gapi_Layout) (hm:zkq l=true) (vs:List Gapi_Verse) (hv:∀ v∈vs,OkV v) (hl:vs.length≤512):zfn vs l=some (zdf l 0 vs,zgu l vs):=by
 unfold zfn
 refine zbE ?_
 have:=zms l hm vs hv hl (fun (out1:List Gapi_Row) (sum1:Int)=>some (out1,sum1)) vs [] zbW [] 0 rfl (zb5 (by omega)) (Nat.zero_le _) ⟨Int.le_refl _,by simp⟩
 refine this.trans ?_
 rw [List.nil_append,Int.zero_add]; rfl
def Stp:Int→List Gapi_Verse→Prop
 | _,[]=>True
 | c,v::vs=>(v.Stanza=c∨(0<c∧v.Stanza=c - 1))∧Stp (v.Stanza+1) vs
def flS:Int→List Int×List Int→List Gapi_Verse→List Int×List Int
 | _,a,[]=>a
 | k,a,v::vs=>flS (k+1) (if v.Stanza=(a.1.length:Int) then (a.1++[k],a.2++[k]) else (a.1,a.2.set v.Stanza.toNat k)) vs
theorem zq6 (l:Gapi_Layout) (k:Int) (hk:0≤k∧k≤1000000) (v:Gapi_Verse) (ag1:(List Gapi_Row)→(List Int)→(List Int)→(List Int)→Int→Option (Int×Gpage_parter)) (cost:Int) (F L:List Int) (ts:List ByteArray) (hts:ts.length≤1000000) (c:Int) :
  ∀ (d p m:Nat) (out:List Gapi_Row) (bl:List Int),p+d=ts.length→d<m→out.length+d≤2147483648→bl.length=out.length→zaF (fun _ _ _=>none) (zbw l (k,v) ag1 cost F L (ts,c)) m out bl (p:Int) =
   ag1 (out++zgk l k v p (ts.drop p)) (bl++(zgk l k v p (ts.drop p)).map (·.Stanza)) F (L.set v.Stanza.toNat k) (cost+c):=by
 intro d
 induction d with
 | zero =>
  intro p m out bl hp hm ho hb
  obtain ⟨m,rfl⟩:∃ q,m=q+1:=⟨m - 1,by omega⟩
  rw [zcv]
  generalize zaF (fun _ _ _=>none) (zbw l (k,v) ag1 cost F L (ts,c)) m=ag
  unfold zbw
  refine zay (decide_eq_false (by show ¬ (p:Int)<(ts.length:Int); omega)) ?_
  rw [List.drop_of_length_le (by omega)]
  show ag1 out bl F (L.set v.Stanza.toNat k) (cost+c)=ag1 (out++[]) (bl++[]) F (L.set v.Stanza.toNat k) (cost+c)
  rw [List.append_nil,List.append_nil]
 | succ d ih =>
  intro p m out bl hp hm ho hb
  obtain ⟨m,rfl⟩:∃ q,m=q+1:=⟨m - 1,by omega⟩
  rw [zcv]
  have ih':=fun out' bl' (h:out'.length=out.length+1) (h2:bl'.length=out'.length)=>ih (p+1) m out' bl' (by omega) (by omega) (by omega) h2
  generalize zaF (fun _ _ _=>none) (zbw l (k,v) ag1 cost F L (ts,c)) m=ag at ih' ⊢
  have ht:ts[p]?=some ts[p]:=List.getElem?_eq_getElem (by omega)
  rw [show ((p+1:Nat):Int)=(p:Int)+1 by omega] at ih'
  have go:∀ (i n:Int),i=(ztn l k v p ts[p]).Indent→n=(ztn l k v p ts[p]).Number→(grd (out.length+1≤2147483648)<|grd (bl.length+1≤2147483648)<|grd (I64 ((p:Int)+1))<|ag (out++[(⟨k,v.Stanza,(p:Int),i,n,ts[p]⟩:Gapi_Row)]) (bl++[v.Stanza]) ((p:Int)+1)) =
    ag1 (out++zgk l k v p (ts.drop p)) (bl++(zgk l k v p (ts.drop p)).map (·.Stanza)) F (L.set v.Stanza.toNat k) (cost+c):=by
   intro i n hi hn
   refine zbm (by omega) (zbm (by omega) (zbm ⟨by omega,by omega⟩ ?_))
   subst hi; subst hn
   rw [ih' _ _ (by simp) (by simp; omega),List.drop_eq_getElem_cons (show p<ts.length by omega),List.append_assoc,List.append_assoc]; rfl
  unfold zbw
  refine zaz (decide_eq_true (by show (p:Int)<(ts.length:Int); omega)) (zbE (zaM (zch ht) ?_))
  by_cases h0:(p:Int)=0
  ·refine zaz (zfV h0) ?_
   by_cases he:0<l.Every
   ·refine zaz (decide_eq_true he) (zbm ?_ (zbm (by omega) ?_))
    ·show I64 (k+1); exact ⟨by omega,by omega⟩
    by_cases ht2:Int.tmod (k+1) l.Every=0
    ·exact zaz (zfV ht2) (zbm (show I64 (k+1) from ⟨by omega,by omega⟩) (go _ _ (if_pos h0).symm ((if_pos h0).trans ((if_pos he).trans (if_pos ht2))).symm))
    ·exact zay (zfW ht2) (go _ _ (if_pos h0).symm ((if_pos h0).trans ((if_pos he).trans (if_neg ht2))).symm)
   ·exact zay (decide_eq_false he) (go _ _ (if_pos h0).symm ((if_pos h0).trans (if_neg he)).symm)
  ·exact zay (zfW h0) (go _ _ (if_neg h0).symm (if_neg h0).symm)
theorem zmM (l:Gapi_Layout) (hm:zkq l=true) (dn:(List Gapi_Row)→(List Int)→(List Int)→(List Int)→Int→Option (Int×Gpage_parter)) :
  ∀ (vs:List Gapi_Verse) (k:Nat) (out:List Gapi_Row) (bl F L:List Int) (cost:Int),(∀ v∈vs,OkV v)→k+vs.length≤512→out.length≤1024*k→bl.length=out.length→0≤cost∧cost≤2000000000000*1024*k→F.length≤k→L.length=F.length→Stp F.length vs →
  zeL dn (zbI l) (znD k vs) out bl F L cost=dn (out++zdf l k vs) (bl++(zdf l k vs).map (·.Stanza)) (flS k (F,L) vs).1 (flS k (F,L) vs).2 (cost+zgu l vs)
 | [],k,out,bl,F,L,cost,_,_,_,_,_,_,_,_=>by
  show dn out bl F L cost=dn (out++[]) (bl++[]) F L (cost+0)
  rw [List.append_nil,List.append_nil,Int.add_zero]
 | v::vs,k,out,bl,F,L,cost,hv,hk,ho,hb,hc,hF,hL,hst=>by
  obtain ⟨s1,s2⟩:=hst
  have hok:OkV v:=hv v (List.mem_cons_self ..)
  have h1:=znl hm hok
  have h2:=znJ hm hok
  obtain ⟨w1,w2,w3⟩:=zo4 hm hok.i0
  have hsz:v.Text.size≤100000:=by have:=hok.sz; omega
  rw [List.length_cons] at hk
  have ih:=fun out bl F L cost h3 h4 h5 h6 h7 h8=>zmM l hm dn vs (k+1) out bl F L cost (fun w hw=>hv w (List.mem_cons_of_mem _ hw)) (by omega) h3 h4 h5 h6 h7 h8
  show zbI l (((k:Nat):Int),v) (zeL dn (zbI l) (znD (k+1) vs)) out bl F L cost=_
  generalize zeL dn (zbI l) (znD (k+1) vs)=ag at ih ⊢
  have e1:((k+1:Nat):Int)=(k:Int)+1:=by omega
  rw [e1] at ih
  have rest:∀ (F' L':List Int),F'.length≤k+1→L'.length=F'.length→0≤v.Stanza→v.Stanza.toNat<L'.length→Stp F'.length vs→(F',L'.set v.Stanza.toNat (k:Int))=(if v.Stanza=(F.length:Int) then (F++[(k:Int)],L++[(k:Int)]) else (F,L.set v.Stanza.toNat (k:Int))) →
    (zal (zbF L' v.Stanza) fun (q1:Int)=>zal (zeF v.Text v.Indent l) fun (r2:((List ByteArray)×Int))=>grd (I64 (cost+r2.2))<|zaF (fun _ _ _=>none) (zbw l ((k:Int),v) ag cost F' L' r2) zbW out bl 0) =
    dn (out++zdf l k (v::vs)) (bl++(zdf l k (v::vs)).map (·.Stanza)) (flS k (F,L) (v::vs)).1 (flS k (F,L) (v::vs)).2 (cost+zgu l (v::vs)):=by
   intro F' L' q1 q2 q3 q4 q5 q6
   refine zaM (zdm (n:=v.Stanza.toNat) (by omega) (List.getElem?_eq_getElem q4)) (zaM (ztD v.Text hsz v.Indent l w1 w2 w3) (zbm ?_ ?_))
   ·show I64 (cost+zoW l v)
    exact ⟨by omega,by omega⟩
   ·have hin:=zq6 l k ⟨by omega,by omega⟩ v ag cost F' L' (zmi l v) (by omega) (zoW l v) (zmi l v).length 0 zbW out bl (by omega) (zb5 (by omega)) (by omega) hb
    refine hin.trans ?_
    rw [List.drop_zero]
    refine (ih _ _ F' (L'.set v.Stanza.toNat (k:Int)) _ (by rw [List.length_append,zhR]; omega) (by rw [List.length_append,List.length_append,List.length_map,hb]) (by push_cast; omega) q1 (by rw [List.length_set]; exact q2) q5).trans ?_
    have e2:flS k (F,L) (v::vs)=flS ((k:Int)+1) (F',L'.set v.Stanza.toNat (k:Int)) vs:=by rw [q6]; rfl
    have e3:zdf l k (v::vs)=zgk l k v 0 (zmi l v)++zdf l ((k:Int)+1) vs:=rfl
    have e4:zgu l (v::vs)=zoW l v+zgu l vs:=rfl
    rw [e2,e3,e4,List.append_assoc,List.append_assoc,List.map_append,Int.add_assoc]; rfl
  unfold zbI
  refine zbE ?_
  rcases s1 with s1 | ⟨s1,s3⟩
  ·refine zaz (zfV s1) (zbm (by omega) (zbm (by omega) (rest _ _ (by simp; omega) (by simp; omega) (by omega) (by simp; omega) ?_ ?_)))
   ·rw [List.length_append,List.length_singleton]; rw [s1] at s2; push_cast; exact s2
   ·have e:v.Stanza.toNat=L.length:=by omega
    rw [if_pos s1,e,zjC]
  ·have hne:v.Stanza≠(F.length:Int):=by omega
   refine zay (zfW hne) (rest F L (by omega) hL (by omega) (by omega) ?_ ?_)
   ·rw [s3] at s2; rw [show (F.length:Int) - 1+1=F.length by omega] at s2; exact s2
   ·rw [if_neg hne]
theorem zsN (l:Gapi_Layout) (hm:zkq l=true) (p:Gpoem_Poem) (H:Int) (hv:∀ v∈p.told_lines,OkV v) (hl:p.told_lines.length≤512) (hst:Stp 0 p.told_lines) :
  zdh (⟨([]:List Gapi_Row),([]:List Int),([]:List Int),([]:List Int),H⟩:Gpage_parter) p l=some (zgu l p.told_lines,(⟨zdf l 0 p.told_lines,(zdf l 0 p.told_lines).map (·.Stanza),(flS 0 (([]:List Int),([]:List Int)) p.told_lines).1,(flS 0 (([]:List Int),([]:List Int)) p.told_lines).2,H⟩:Gpage_parter)):=by
 unfold zdh
 refine zbE (zaM (show zey p=some () from rfl) (zaM (zsJ p (by omega)) (zbE ?_)))
 refine (zmM l hm _ p.told_lines 0 [] [] [] [] 0 hv (by omega) (Nat.zero_le _) rfl ⟨Int.le_refl _,by omega⟩ (Nat.zero_le _) rfl hst).trans ?_
 rw [List.nil_append,List.nil_append,Int.zero_add]; rfl
end Go.Proofs.YtbempdelckaccaaDoor

namespace Go.Proofs.YtbempdelckaccaaDoor
open Go.RowKit Go.Lib
set_option linter.unusedVariables false
set_option linter.unusedSimpArgs false
theorem zeX {α:Type} {l:List α} {x y:α} {i:Nat} (h:(l++[x])[i]?=some y):l[i]?=some y∨(i=l.length∧y=x):=by
 rcases Nat.lt_or_ge i l.length with hi | hi
 ·rw [List.getElem?_append_left hi] at h; exact .inl h
 ·rw [List.getElem?_append_right hi] at h
  rcases Nat.eq_zero_or_pos (i - l.length) with e | e
  ·rw [e] at h
   exact .inr ⟨by omega,(Option.some.inj h).symm⟩
  ·rw [List.getElem?_eq_none (by simp; omega)] at h; cases h
theorem zjU {α:Type} {l:List α} {x:α} {i:Nat} (h:l[i]?=some x):i<l.length:=(List.getElem?_eq_some_iff.1 h).1
structure FL (pre:List Gapi_Verse) (F L:List Int):Prop where
 len:L.length=F.length
 fst:∀ (s:Nat) (f:Int),F[s]?=some f→∃ j:Nat,f=j∧(∃ v:Gapi_Verse,pre[j]?=some v∧v.Stanza=(s:Int))∧∀ (i:Nat) (w:Gapi_Verse),pre[i]?=some w→w.Stanza=(s:Int)→j≤i
 lst:∀ (s:Nat) (f:Int),L[s]?=some f→∃ j:Nat,f=j∧(∃ v:Gapi_Verse,pre[j]?=some v∧v.Stanza=(s:Int))∧∀ (i:Nat) (w:Gapi_Verse),pre[i]?=some w→w.Stanza=(s:Int)→i≤j
 all:∀ (i:Nat) (w:Gapi_Verse),pre[i]?=some w→0≤w.Stanza∧w.Stanza<F.length
theorem FL.new {pre:List Gapi_Verse} {F L:List Int} (h:FL pre F L) {v:Gapi_Verse} (hv:v.Stanza=F.length):FL (pre++[v]) (F++[(pre.length:Int)]) (L++[(pre.length:Int)]):=by
 have hlast:(pre++[v])[pre.length]?=some v:=by simp
 have hle:∀ {i:Nat} {w:Gapi_Verse},pre[i]?=some w→(pre++[v])[i]?=some w:=fun h=>by rw [List.getElem?_append_left (zjU h)]; exact h
 refine ⟨by simp [h.len],fun s f hs => ?_,fun s f hs => ?_,fun i w hw => ?_⟩
 ·rcases zeX hs with hs | ⟨rfl,rfl⟩
  ·obtain ⟨j,e,⟨u,hu,hus⟩,hm⟩:=h.fst s f hs
   refine ⟨j,e,⟨u,hle hu,hus⟩,fun i w hw hws => ?_⟩
   rcases zeX hw with hw | ⟨rfl,rfl⟩
   ·exact hm i w hw hws
   ·have:=zjU hu; omega
  ·refine ⟨pre.length,rfl,⟨v,hlast,hv⟩,fun i w hw hws => ?_⟩
   rcases zeX hw with hw | ⟨rfl,rfl⟩
   ·have:=(h.all i w hw).2; omega
   ·exact Nat.le_refl _
 ·rcases zeX hs with hs | ⟨e0,rfl⟩
  ·obtain ⟨j,e,⟨u,hu,hus⟩,hm⟩:=h.lst s f hs
   refine ⟨j,e,⟨u,hle hu,hus⟩,fun i w hw hws => ?_⟩
   rcases zeX hw with hw | ⟨rfl,rfl⟩
   ·exact hm i w hw hws
   ·have:=zjU hs; have:=h.len; omega
  ·refine ⟨pre.length,rfl,⟨v,hlast,by have:=h.len; omega⟩,fun i w hw hws => ?_⟩
   rcases zeX hw with hw | ⟨rfl,rfl⟩
   ·have:=zjU hw; omega
   ·exact Nat.le_refl _
 ·rw [List.length_append,List.length_singleton]; push_cast
  rcases zeX hw with hw | ⟨rfl,rfl⟩
  ·have:=h.all i w hw; omega
  ·omega
theorem FL.old {pre:List Gapi_Verse} {F L:List Int} (h:FL pre F L) {v:Gapi_Verse} (h0:0<F.length) (hv:v.Stanza=(F.length:Int) - 1):FL (pre++[v]) F (L.set v.Stanza.toNat (pre.length:Int)):=by
 have hlast:(pre++[v])[pre.length]?=some v:=by simp
 have hle:∀ {i:Nat} {w:Gapi_Verse},pre[i]?=some w→(pre++[v])[i]?=some w:=fun h=>by rw [List.getElem?_append_left (zjU h)]; exact h
 refine ⟨by simp [h.len],fun s f hs => ?_,fun s f hs => ?_,fun i w hw => ?_⟩
 ·obtain ⟨j,e,⟨u,hu,hus⟩,hm⟩:=h.fst s f hs
  refine ⟨j,e,⟨u,hle hu,hus⟩,fun i w hw hws => ?_⟩
  rcases zeX hw with hw | ⟨rfl,rfl⟩
  ·exact hm i w hw hws
  ·have:=zjU hu; omega
 ·by_cases e:v.Stanza.toNat=s
  ·subst e
   rw [List.getElem?_set_self (by have:=h.len; omega)] at hs
   obtain rfl:=Option.some.inj hs
   refine ⟨pre.length,rfl,⟨v,hlast,by omega⟩,fun i w hw hws => ?_⟩
   rcases zeX hw with hw | ⟨rfl,rfl⟩
   ·have:=zjU hw; omega
   ·exact Nat.le_refl _
  ·rw [List.getElem?_set_ne e] at hs
   obtain ⟨j,e,⟨u,hu,hus⟩,hm⟩:=h.lst s f hs
   refine ⟨j,e,⟨u,hle hu,hus⟩,fun i w hw hws => ?_⟩
   rcases zeX hw with hw | ⟨rfl,rfl⟩
   ·exact hm i w hw hws
   ·omega
 ·rcases zeX hw with hw | ⟨rfl,rfl⟩
  ·exact h.all i w hw
  ·omega
theorem FL.fold:∀ (vs pre:List Gapi_Verse) (F L:List Int),FL pre F L→Stp F.length vs→FL (pre++vs) (flS (pre.length:Int) (F,L) vs).1 (flS (pre.length:Int) (F,L) vs).2
 | [],pre,F,L,h,_=>by rw [List.append_nil]; exact h
 | v::vs,pre,F,L,h,hs=>by
  obtain ⟨s1,s2⟩:=hs
  have e:pre++v::vs=(pre++[v])++vs:=by simp
  have e1:(((pre++[v]).length:Nat):Int)=(pre.length:Int)+1:=by simp
  have e2:flS (pre.length:Int) (F,L) (v::vs)=flS ((pre.length:Int)+1) (if v.Stanza=(F.length:Int) then (F++[(pre.length:Int)],L++[(pre.length:Int)]) else (F,L.set v.Stanza.toNat (pre.length:Int))) vs:=rfl
  rw [e,e2,← e1]
  rcases s1 with s1 | ⟨s1,s3⟩
  ·rw [if_pos s1]
   exact FL.fold vs (pre++[v]) _ _ (h.new s1) (by rw [List.length_append,List.length_singleton]; rw [s1] at s2; push_cast; exact s2)
  ·rw [if_neg (by omega)]
   refine FL.fold vs (pre++[v]) _ _ (h.old (by omega) s3) ?_
   rw [s3,show (F.length:Int) - 1+1=F.length by omega] at s2
   exact s2
theorem FL.nil:FL [] [] []:=⟨rfl,fun s f h=>by simp at h,fun s f h=>by simp at h,fun i w h=>by simp at h⟩
theorem zmu {l:Gapi_Layout} {k:Int} {v:Gapi_Verse}:∀ {ts:List ByteArray} {p:Int} {r:Gapi_Row},r∈zgk l k v p ts→r.Line=k∧r.Stanza=v.Stanza
 | [],_,r,h=>by cases h
 | t::ts,p,r,h=>by
  rcases List.mem_cons.1 h with rfl | h
  ·exact ⟨rfl,rfl⟩
  ·exact zmu h
theorem zg2 {l:Gapi_Layout}:∀ {vs:List Gapi_Verse} {k:Int} {r:Gapi_Row},r∈zdf l k vs→∃ (j:Nat) (v:Gapi_Verse),vs[j]?=some v∧r.Line=k+j∧r.Stanza=v.Stanza
 | [],_,r,h=>by cases h
 | v::vs,k,r,h=>by
  rcases List.mem_append.1 h with h | h
  ·obtain ⟨h1,h2⟩:=zmu h
   exact ⟨0,v,rfl,by omega,h2⟩
  ·obtain ⟨j,w,h1,h2,h3⟩:=zg2 h
   exact ⟨j+1,w,h1,by omega,h3⟩
theorem zrw {l:Gapi_Layout} (hm:zkq l=true) {v:Gapi_Verse} (h:OkV v):zmi l v≠[]:=by
 obtain ⟨h1,h2,h3⟩:=zo4 hm h.i0
 have hc:=zrj (s:=v.Text) (by have:=h.sz; omega) h2 h3
 intro e
 have e':zf8 v.Text 0 (zj3 v.Text (zpT v.Indent l) (zpI l))=[]:=e
 rw [e'] at hc
 have:=h.ne
 rw [← hc] at this
 exact absurd this (by decide)
theorem zlv {l:Gapi_Layout} (hm:zkq l=true):∀ {vs:List Gapi_Verse} {k:Int} {j:Nat} {v:Gapi_Verse},(∀ w∈vs,OkV w)→vs[j]?=some v→∃ r∈zdf l k vs,r.Line=k+j∧r.Stanza=v.Stanza
 | [],_,_,_,_,h=>by simp at h
 | w::vs,k,0,v,hv,h=>by
  obtain rfl:=Option.some.inj h
  have hne:=zrw hm (hv w (List.mem_cons_self ..))
  cases ht:zmi l w with
  | nil=>exact absurd ht hne
  | cons t ts=>exact ⟨ztn l k w 0 t,by show _∈zgk l k w 0 (zmi l w)++_; rw [ht]; exact List.mem_append_left _ (List.mem_cons_self ..),by show k=_; omega,rfl⟩
 | w::vs,k,j+1,v,hv,h=>by
  obtain ⟨r,h1,h2,h3⟩:=zlv hm (k:=k+1) (fun u hu=>hv u (List.mem_cons_of_mem _ hu)) h
  exact ⟨r,List.mem_append_right _ h1,by omega,h3⟩
def RCh:Int→List Gapi_Row→Prop
 | _,[]=>True
 | s,r::rs=>(r.Stanza=s∨r.Stanza=s+1)∧RCh r.Stanza rs
theorem zn4 {l:Gapi_Layout} {k:Int} {v:Gapi_Verse} {rest:List Gapi_Row} (hr:RCh v.Stanza rest):∀ (ts:List ByteArray) (p:Int),RCh v.Stanza (zgk l k v p ts++rest)
 | [],_=>hr
 | t::ts,p=>⟨.inl rfl,zn4 hr ts (p+1)⟩
theorem zpv {l:Gapi_Layout} (hm:zkq l=true):∀ (vs:List Gapi_Verse) (c k:Int),(∀ w∈vs,OkV w)→Stp c vs→RCh (c - 1) (zdf l k vs)
 | [],_,_,_,_=>trivial
 | v::vs,c,k,hv,⟨s1,s2⟩=>by
  have ih:=zpv hm vs (v.Stanza+1) (k+1) (fun w hw=>hv w (List.mem_cons_of_mem _ hw)) s2
  rw [show v.Stanza+1 - 1=v.Stanza by omega] at ih
  show RCh (c - 1) (zgk l k v 0 (zmi l v)++zdf l (k+1) vs)
  have hne:=zrw hm (hv v (List.mem_cons_self ..))
  cases ht:zmi l v with
  | nil=>exact absurd ht hne
  | cons t ts=>exact ⟨by show v.Stanza=_∨v.Stanza=_; omega,zn4 ih ts (0+1)⟩
theorem RCh.step:∀ {rs:List Gapi_Row} {s:Int} {i:Nat} {a b:Gapi_Row},RCh s rs→rs[i]?=some a→rs[i+1]?=some b→b.Stanza=a.Stanza∨b.Stanza=a.Stanza+1
 | [],_,_,_,_,_,h,_=>by simp at h
 | r::rs,s,0,a,b,⟨h1,h2⟩,ha,hb=>by
  obtain rfl:=Option.some.inj ha
  cases rs with
  | nil=>simp at hb
  | cons q qs=>obtain rfl:=Option.some.inj hb; exact h2.1
 | r::rs,s,i+1,a,b,⟨h1,h2⟩,ha,hb=>h2.step ha hb
structure RowsOk (rows:List Gapi_Row) (F L:List Int):Prop where
 n:rows.length≤1000000
 ch:∀ (i:Nat) (a b:Gapi_Row),rows[i]?=some a→rows[i+1]?=some b→b.Stanza=a.Stanza∨b.Stanza=a.Stanza+1
 rg:∀ r∈rows,0≤r.Stanza∧r.Stanza≤1000000
 fst:∀ r∈rows,∃ f,F[r.Stanza.toNat]?=some f∧(r.Line=f↔∀ x∈rows,x.Stanza=r.Stanza→r.Line≤x.Line)
 lst:∀ r∈rows,∃ f,L[r.Stanza.toNat]?=some f∧(r.Line=f↔∀ x∈rows,x.Stanza=r.Stanza→x.Line≤r.Line)
theorem zn3 {l:Gapi_Layout} (hm:zkq l=true) (vs:List Gapi_Verse) (hv:∀ w∈vs,OkV w) (hl:vs.length≤512) (hs:Stp 0 vs):RowsOk (zdf l 0 vs) (flS 0 (([]:List Int),([]:List Int)) vs).1 (flS 0 (([]:List Int),([]:List Int)) vs).2:=by
 have hf:=FL.fold vs [] [] [] FL.nil hs
 rw [List.nil_append,show ((([]:List Gapi_Verse).length:Nat):Int)=0 from rfl] at hf
 have hlen:=zmt hm vs 0 hv
 have hch:=zpv hm vs 0 0 hv hs
 have hFl:∀ (pre ws:List Gapi_Verse) (F L:List Int) (k:Int),F.length≤pre.length→(flS k (F,L) ws).1.length≤pre.length+ws.length:=by
  intro pre ws
  induction ws generalizing pre with
  | nil=>intro F L k h; exact h
  | cons w ws ih =>
   intro F L k h
   have e2:flS k (F,L) (w::ws)=flS (k+1) (if w.Stanza=(F.length:Int) then (F++[k],L++[k]) else (F,L.set w.Stanza.toNat k)) ws:=rfl
   rw [e2]
   split
   ·have:=ih (pre++[w]) (F++[k]) (L++[k]) (k+1) (by simp; omega)
    simp at this ⊢; omega
   ·have:=ih (pre++[w]) F (L.set w.Stanza.toNat k) (k+1) (by simp; omega)
    simp at this ⊢; omega
 have hF2:=hFl [] vs [] [] 0 (Nat.le_refl _)
 refine ⟨by omega,fun i a b ha hb=>hch.step ha hb,fun r hr => ?_,fun r hr => ?_,fun r hr => ?_⟩
 ·obtain ⟨j,v,h1,h2,h3⟩:=zg2 hr
  have:=hf.all j v h1
  simp at hF2
  omega
 ·obtain ⟨j,v,h1,h2,h3⟩:=zg2 hr
  have ha:=hf.all j v h1
  have hg:(flS 0 (([]:List Int),([]:List Int)) vs).1[r.Stanza.toNat]?=some _:=List.getElem?_eq_getElem (by omega)
  refine ⟨_,hg,?_⟩
  obtain ⟨j2,e,⟨u,hu,hus⟩,hmin⟩:=hf.fst _ _ hg
  rw [e]
  constructor
  ·intro he x hx hxs
   obtain ⟨j3,v3,g1,g2,g3⟩:=zg2 hx
   have:=hmin j3 v3 g1 (by omega)
   omega
  ·intro hall
   obtain ⟨x,hx,x1,x2⟩:=zlv hm (l:=l) (k:=0) hv hu
   have h4:=hall x hx (by omega)
   have h5:=hmin j v h1 (by omega)
   omega
 ·obtain ⟨j,v,h1,h2,h3⟩:=zg2 hr
  have ha:=hf.all j v h1
  have hg:(flS 0 (([]:List Int),([]:List Int)) vs).2[r.Stanza.toNat]?=some _:=List.getElem?_eq_getElem (by have:=hf.len; omega)
  refine ⟨_,hg,?_⟩
  obtain ⟨j2,e,⟨u,hu,hus⟩,hmax⟩:=hf.lst _ _ hg
  rw [e]
  constructor
  ·intro he x hx hxs
   obtain ⟨j3,v3,g1,g2,g3⟩:=zg2 hx
   have:=hmax j3 v3 g1 (by omega)
   omega
  ·intro hall
   obtain ⟨x,hx,x1,x2⟩:=zlv hm (l:=l) (k:=0) hv hu
   have h4:=hall x hx (by omega)
   have h5:=hmax j v h1 (by omega)
   omega
theorem zij {α:Type} (l:List α) (f t:Nat):zjp l (f:Int) (t:Int)=(l.drop f).take (t - f):=by
 unfold zjp
 rw [Int.toNat_natCast,Int.toNat_natCast]
def stz (rows:List Gapi_Row) (i:Nat):Int:=match rows[i]? with | some r=>r.Stanza | none=>0
def zdZ (rows:List Gapi_Row) (f t:Nat):Int:=((t:Int) - f)+stz rows (t - 1) - stz rows f
theorem zhr {rows:List Gapi_Row} {i:Nat} {r:Gapi_Row} (h:rows[i]?=some r):stz rows i=r.Stanza:=by unfold stz; rw [h]
section
variable {rows:List Gapi_Row} {F L:List Int} (hR:RowsOk rows F L)
include hR
theorem zll (i:Nat):0≤stz rows i∧stz rows i≤1000000:=by
 unfold stz
 split
 ·rename_i r h
  exact hR.rg r (List.mem_of_getElem? h)
 ·omega
theorem znY {i:Nat} (h:i+1<rows.length):stz rows (i+1)=stz rows i∨stz rows (i+1)=stz rows i+1:=by
 have h1:rows[i]?=some rows[i]:=List.getElem?_eq_getElem (by omega)
 have h2:rows[i+1]?=some rows[i+1]:=List.getElem?_eq_getElem h
 rw [zhr h1,zhr h2]
 exact hR.ch i _ _ h1 h2
theorem zlm:∀ (d i:Nat),i+d<rows.length→stz rows i≤stz rows (i+d)
 | 0,i,_=>Int.le_refl _
 | d+1,i,h=>by
  have h1:=zlm d i (by omega)
  have h2:=znY hR (i:=i+d) (by omega)
  rw [show i+(d+1)=i+d+1 by omega]; omega
theorem zlJ {f t:Nat} (h1:f<t) (h2:t≤rows.length):(t:Int) - f≤zdZ rows f t∧zdZ rows f t≤3000000:=by
 have:=zlm hR (t - 1 - f) f (by omega)
 rw [show f+(t - 1 - f)=t - 1 by omega] at this
 have a:=zll hR f
 have b:=zll hR (t - 1)
 have c:=hR.n
 unfold zdZ; omega
theorem zrL (H:Int) (f t:Nat) (h1:f<t) (h2:t≤rows.length):zcY (⟨rows,rows.map (·.Stanza),F,L,H⟩:Gpage_parter) (f:Int) (t:Int)=some (zdZ rows f t):=by
 have hn:=hR.n
 have a:=zll hR f
 have b:=zll hR (t - 1)
 have g:∀ i:Nat,i<rows.length→(rows.map (·.Stanza))[i]?=some (stz rows i):=fun i hi=>by
  rw [List.getElem?_map,List.getElem?_eq_getElem hi,zhr (List.getElem?_eq_getElem hi)]; rfl
 unfold zcY
 refine zbm ⟨by omega,by omega⟩ (zbm ⟨by omega,by omega⟩ (zaM (zdm (n:=t - 1) (by omega) (g (t - 1) (by omega))) (zbm ⟨by omega,by omega⟩ (zaM (zch (g f (by omega))) (zbm ⟨by omega,by omega⟩ ?_)))))
 rfl
theorem zqU (f t:Nat) (h2:t≤rows.length) (j1:Int→Option Int):∀ (d i m:Nat) (n:Int),0<i→f+i+d=t→d<m→0≤n∧n+d≤5000000→zaF (fun _ _=>none) (zcK (zjp rows (f:Int) (t:Int)) j1) m n (i:Int)=j1 (n+(stz rows (t - 1) - stz rows (f+i - 1))):=by
 have hn:=hR.n
 intro d
 induction d with
 | zero =>
  intro i m n hi hd hm hr
  obtain ⟨m,rfl⟩:∃ q,m=q+1:=⟨m - 1,by omega⟩
  rw [zcv]
  generalize zaF (fun _ _=>none) (zcK (zjp rows (f:Int) (t:Int)) j1) m=ag
  have hlen:(zjp rows (f:Int) (t:Int)).length=t - f:=by rw [zij rows f t]; simp; omega
  unfold zcK
  refine zay (decide_eq_false (by rw [hlen]; omega)) ?_
  rw [show f+i - 1=t - 1 by omega,Int.sub_self,Int.add_zero]
 | succ d ih =>
  intro i m n hi hd hm hr
  obtain ⟨m,rfl⟩:∃ q,m=q+1:=⟨m - 1,by omega⟩
  rw [zcv]
  have ih':=fun n h=>ih (i+1) m n (by omega) (by omega) (by omega) h
  rw [show ((i+1:Nat):Int)=(i:Int)+1 by omega,show f+(i+1) - 1=f+i by omega] at ih'
  generalize zaF (fun _ _=>none) (zcK (zjp rows (f:Int) (t:Int)) j1) m=ag at ih' ⊢
  have hlen:(zjp rows (f:Int) (t:Int)).length=t - f:=by rw [zij rows f t]; simp; omega
  have g:∀ j:Nat,j<t - f→(zjp rows (f:Int) (t:Int))[j]?=rows[f+j]?:=fun j hj=>by rw [zij rows f t,List.getElem?_take,if_pos hj,List.getElem?_drop]
  have ha:rows[f+i]?=some rows[f+i]:=List.getElem?_eq_getElem (by omega)
  have hb:rows[f+(i - 1)]?=some rows[f+(i - 1)]:=List.getElem?_eq_getElem (by omega)
  have hst:=znY hR (i:=f+(i - 1)) (by omega)
  rw [show f+(i - 1)+1=f+i by omega] at hst
  have sa:=zhr ha
  have sb:=zhr hb
  rw [show f+i - 1=f+(i - 1) by omega]
  unfold zcK
  refine zaz (decide_eq_true (by rw [hlen]; omega)) (zbE (zaM (zch ((g i (by omega)).trans ha)) (zbm ⟨by omega,by omega⟩ (zaM (zdm (n:=i - 1) (by omega) ((g (i - 1) (by omega)).trans hb)) ?_))))
  by_cases he:rows[f+i].Stanza=rows[f+(i - 1)].Stanza
  ·refine zay (zuJ he) (zbm ⟨by omega,by omega⟩ ?_)
   rw [ih' n ⟨by omega,by omega⟩]
   exact congrArg j1 (by omega)
  ·refine zaz (zsM he) (zbm ⟨by omega,by omega⟩ (zbm ⟨by omega,by omega⟩ ?_))
   rw [ih' (n+1) ⟨by omega,by omega⟩]
   exact congrArg j1 (by omega)
theorem zsy (f t:Nat) (h1:f<t) (h2:t≤rows.length):zeJ (zjp rows (f:Int) (t:Int))=some (zdZ rows f t):=by
 have hn:=hR.n
 unfold zeJ
 have hlen:(zjp rows (f:Int) (t:Int)).length=t - f:=by rw [zij rows f t]; simp; omega
 refine zbE ?_
 have:=zqU hR f t h2 (fun n1=>some n1) (t - f - 1) 1 zbW ((t - f:Nat):Int) (by omega) (by omega) (zb5 (by omega)) ⟨by omega,by omega⟩
 rw [hlen]
 refine this.trans ?_
 rw [show f+1 - 1=f by omega]
 unfold zdZ
 exact congrArg some (by omega)
end
def zoj (rows:List Gapi_Row) (k:Nat):Int :=
 match rows[k - 1]?,rows[k]? with
 | some a,some b=>if a.Stanza≠b.Stanza then 0 else if a.Line=b.Line then 100 else if (rows.all fun r=>!(r.Stanza==a.Stanza&&decide (r.Line<a.Line)))=true∨(rows.all fun r=>!(r.Stanza==a.Stanza&&decide (b.Line<r.Line)))=true then 50 else 10
 | _,_=>0
theorem zl2 (rows:List Gapi_Row) (k:Nat):0≤zoj rows k∧zoj rows k≤100:=by
 unfold zoj
 split
 ·split
  ·omega
  ·split
   ·omega
   ·split <;> omega
 ·omega
theorem zsB (rows:List Gapi_Row) (a b:Gapi_Row) (hn:rows.length≤1000000) (j1:Bool→Bool→Option Int):∀ (d i m:Nat) (p q:Bool),i+d=rows.length→d<m→zaF (fun _ _ _=>none) (zc7 rows a b j1) m p q (i:Int) =
  j1 (p&&(rows.drop i).all fun r=>!(r.Stanza==a.Stanza&&decide (r.Line<a.Line))) (q&&(rows.drop i).all fun r=>!(r.Stanza==a.Stanza&&decide (b.Line<r.Line))):=by
 intro d
 induction d with
 | zero =>
  intro i m p q hi hm
  obtain ⟨m,rfl⟩:∃ q,m=q+1:=⟨m - 1,by omega⟩
  rw [zcv]
  generalize zaF (fun _ _ _=>none) (zc7 rows a b j1) m=ag
  unfold zc7
  refine zay (decide_eq_false (by omega)) ?_
  rw [List.drop_of_length_le (by omega)]; simp
 | succ d ih =>
  intro i m p q hi hm
  obtain ⟨m,rfl⟩:∃ q,m=q+1:=⟨m - 1,by omega⟩
  rw [zcv]
  have ih':=fun p q=>ih (i+1) m p q (by omega) (by omega)
  rw [show ((i+1:Nat):Int)=(i:Int)+1 by omega] at ih'
  generalize zaF (fun _ _ _=>none) (zc7 rows a b j1) m=ag at ih' ⊢
  have hr:rows[i]?=some rows[i]:=List.getElem?_eq_getElem (by omega)
  have hd:rows.drop i=rows[i]::rows.drop (i+1):=List.drop_eq_getElem_cons (by omega)
  rw [hd]
  generalize rows[i]=r at hr
  have last:∀ p':Bool,p'=(p&&!(r.Stanza==a.Stanza&&decide (r.Line<a.Line)))→(zal (zbF rows (i:Int)) fun (q4:Gapi_Row)=>zaw ((q4.Stanza:Int)==a.Stanza) (zaw (decide ((b.Line:Int)<q4.Line)) (grd (I64 ((i:Int)+1))<|ag p' false ((i:Int)+1)) (grd (I64 ((i:Int)+1))<|ag p' q ((i:Int)+1))) (grd (I64 ((i:Int)+1))<|ag p' q ((i:Int)+1))) =
    j1 (p&&(r::rows.drop (i+1)).all fun r=>!(r.Stanza==a.Stanza&&decide (r.Line<a.Line))) (q&&(r::rows.drop (i+1)).all fun r=>!(r.Stanza==a.Stanza&&decide (b.Line<r.Line))):=by
   intro p' hp
   refine zaM (zch hr) ?_
   rw [List.all_cons,List.all_cons,← Bool.and_assoc,← Bool.and_assoc,← hp]
   cases h1:(r.Stanza==a.Stanza) with
   | false=>refine zay rfl (zbm ⟨by omega,by omega⟩ ?_); rw [ih']; simp
   | true =>
    refine zaz rfl ?_
    by_cases h2:b.Line<r.Line
    ·refine zaz (decide_eq_true h2) (zbm ⟨by omega,by omega⟩ ?_); rw [ih']; simp [h2]
    ·refine zay (decide_eq_false h2) (zbm ⟨by omega,by omega⟩ ?_); rw [ih']; simp [h2]
  unfold zc7
  refine zaz (decide_eq_true (by omega)) (zbE (zbE (zaM (zch hr) ?_)))
  cases h1:(r.Stanza==a.Stanza) with
  | false=>exact zay rfl (last p (by rw [h1]; simp))
  | true =>
   refine zaz rfl ?_
   by_cases h2:r.Line<a.Line
   ·exact zaz (decide_eq_true h2) (last false (by rw [h1]; simp [h2]))
   ·exact zay (decide_eq_false h2) (last p (by rw [h1]; simp [h2]))
theorem ztY (rows:List Gapi_Row) (hn:rows.length≤1000000) (k:Nat) (h0:0<k) (hk:k<rows.length):zfa rows (k:Int)=some (zoj rows k):=by
 have ha:rows[k - 1]?=some rows[k - 1]:=List.getElem?_eq_getElem (by omega)
 have hb:rows[k]?=some rows[k]:=List.getElem?_eq_getElem hk
 unfold zfa zoj
 rw [ha,hb]
 generalize rows[k - 1]=a at ha
 generalize rows[k]=b at hb
 simp only
 refine zbm ⟨by omega,by omega⟩ (zaM (zdm (n:=k - 1) (by omega) ha) (zaM (zch hb) ?_))
 by_cases h1:a.Stanza=b.Stanza
 ·refine zay (zuJ h1) ?_
  rw [if_neg (by simp [h1])]
  by_cases h2:a.Line=b.Line
  ·rw [if_pos h2]; exact zaz (zfV h2) rfl
  ·rw [if_neg h2]
   refine zay (zfW h2) (zbE ?_)
   refine (zsB rows a b hn _ rows.length 0 zbW true true (by omega) (zb5 (by omega))).trans ?_
   rw [List.drop_zero,Bool.true_and,Bool.true_and]
   cases h3:(rows.all fun r=>!(r.Stanza==a.Stanza&&decide (r.Line<a.Line))) with
   | true=>rw [if_pos (.inl rfl)]; exact zaz rfl rfl
   | false =>
    refine zay rfl ?_
    cases h4:(rows.all fun r=>!(r.Stanza==a.Stanza&&decide (b.Line<r.Line))) with
    | true=>rw [if_pos (.inr rfl)]; exact zaz rfl rfl
    | false=>rw [if_neg (by simp)]; exact zay rfl rfl
 ·rw [if_pos h1]
  exact zaz (zsM h1) rfl
theorem zvZ {rows:List Gapi_Row} {F L:List Int} (hR:RowsOk rows F L) (H:Int) (k:Nat) (h0:0<k) (hk:k<rows.length):zdL (⟨rows,rows.map (·.Stanza),F,L,H⟩:Gpage_parter) (k:Int)=some (zoj rows k):=by
 have hn:=hR.n
 have ha:rows[k - 1]?=some rows[k - 1]:=List.getElem?_eq_getElem (by omega)
 have hb:rows[k]?=some rows[k]:=List.getElem?_eq_getElem hk
 unfold zdL zoj
 rw [ha,hb]
 have ma:=List.mem_of_getElem? ha
 have mb:=List.mem_of_getElem? hb
 generalize rows[k - 1]=a at ha ma
 generalize rows[k]=b at hb mb
 simp only
 refine zbm ⟨by omega,by omega⟩ (zaM (zdm (n:=k - 1) (by omega) ha) (zaM (zch hb) ?_))
 have ra:=hR.rg a ma
 have rb:=hR.rg b mb
 by_cases h1:a.Stanza=b.Stanza
 ·refine zay (zuJ h1) ?_
  rw [if_neg (by simp [h1])]
  by_cases h2:a.Line=b.Line
  ·rw [if_pos h2]; exact zaz (zfV h2) rfl
  ·rw [if_neg h2]
   refine zay (zfW h2) ?_
   obtain ⟨f,f1,f2⟩:=hR.fst a ma
   obtain ⟨g,g1,g2⟩:=hR.lst b mb
   have p1:(a.Line=f)↔(rows.all fun r=>!(r.Stanza==a.Stanza&&decide (r.Line<a.Line)))=true:=by
    rw [f2,List.all_eq_true]
    constructor
    ·intro h x hx
     by_cases e:x.Stanza=a.Stanza
     ·have:=h x hx e
      simp [e]; omega
     ·simp [e]
    ·intro h x hx e
     have:=h x hx
     simp [e] at this; omega
   have p2:(b.Line=g)↔(rows.all fun r=>!(r.Stanza==a.Stanza&&decide (b.Line<r.Line)))=true:=by
    rw [g2,List.all_eq_true]
    constructor
    ·intro h x hx
     by_cases e:x.Stanza=a.Stanza
     ·have:=h x hx (by omega)
      simp [e]; omega
     ·simp [e]
    ·intro h x hx e
     have:=h x hx
     simp [show x.Stanza=a.Stanza by omega] at this; omega
   refine zaM (zdm (n:=a.Stanza.toNat) (by omega) f1) ?_
   by_cases h3:a.Line=f
   ·rw [if_pos (.inl (p1.1 h3))]; exact zaz (zfV h3) rfl
   ·refine zay (zfW h3) (zaM (zdm (n:=b.Stanza.toNat) (by omega) g1) ?_)
    by_cases h4:b.Line=g
    ·rw [if_pos (.inr (p2.1 h4))]; exact zaz (zfV h4) rfl
    ·rw [if_neg (fun h=>h.elim (fun h=>h3 (p1.2 h)) (fun h=>h4 (p2.2 h)))]; exact zay (zfW h4) rfl
 ·rw [if_pos h1]
  exact zaz (zsM h1) rfl
end Go.Proofs.YtbempdelckaccaaDoor

namespace Go.Proofs.YtbempdelckaccaaDoor
open Go.RowKit Go.Lib
set_option linter.unusedVariables false
set_option linter.unusedSimpArgs false
def Rp (rows:List Gapi_Row) (H:Int) (f t:Nat):Bool:=decide (zdZ rows f t≤H)
def Kp (rows:List Gapi_Row) (H:Int) (f t:Nat):Int:=if f<t∧t<rows.length∧zdZ rows f t≤H then (H - zdZ rows f t)*(H - zdZ rows f t)+zoj rows t else 0
abbrev Tp (rows:List Gapi_Row) (H:Int) (k:Nat):Nat→Bst:=Bf (Rp rows H) (Kp rows H) rows.length k
abbrev Tt (rows:List Gapi_Row) (H:Int):Nat→Bst:=BB (Rp rows H) (Kp rows H) rows.length
abbrev zkG (rows:List Gapi_Row) (H:Int):List Nat:=zm1 (Tt rows H) rows.length rows.length 0
theorem zoq {rows:List Gapi_Row} {H:Int} (hH:4≤H∧H≤200):∀ f,f<rows.length→Rp rows H f (f+1)=true:=by
 intro f hf
 unfold Rp zdZ
 rw [show f+1 - 1=f by omega]
 exact decide_eq_true (by omega)
theorem zpP {rows:List Gapi_Row} {F L:List Int} (hR:RowsOk rows F L) {f t:Nat} (d:Nat) (h1:f<t) (h2:t+d≤rows.length):zdZ rows f t≤zdZ rows f (t+d):=by
 have:=zlm hR d (t - 1) (by omega)
 rw [show t - 1+d=t+d - 1 by omega] at this
 unfold zdZ; omega
section
variable {rows:List Gapi_Row} {F L:List Int} {H:Int} (hR:RowsOk rows F L) (hH:4≤H∧H≤200)
include hR hH
theorem zpf {f t:Nat} (h1:f<t) (h2:t≤rows.length) (h3:zdZ rows f t≤H):0≤(H - zdZ rows f t)*(H - zdZ rows f t)∧(H - zdZ rows f t)*(H - zdZ rows f t)≤40000:=by
 have:=zlJ hR h1 h2
 have a:0≤H - zdZ rows f t:=by omega
 have b:H - zdZ rows f t≤200:=by omega
 exact ⟨Int.mul_nonneg a a,Int.le_trans (Int.mul_le_mul b b a (by decide)) (by decide)⟩
theorem zng:∀ f t,0≤Kp rows H f t∧Kp rows H f t≤2000000000000:=by
 intro f t
 unfold Kp
 split
 ·rename_i h
  have h1:=zpf hR hH h.1 (by omega) h.2.2
  have h2:=zl2 rows t
  omega
 ·omega
theorem zqY (k f:Nat) (hf:f+(k+1)=rows.length) (j2:List Bst→Option ((List Int)×Int)) :
  ∀ (d t m:Nat) (x:Bst),f<t→t+d=rows.length+1→d<m→okB (k+1) x→zaF (fun _ _=>none) (zbG (⟨rows,rows.map (·.Stanza),F,L,H⟩:Gpage_parter) (f:Int) j2) m ((zeR (Tp rows H k) rows.length).set f x) (t:Int) =
   j2 ((zeR (Tp rows H k) rows.length).set f (zem (Rp rows H) (Kp rows H) rows.length (Tp rows H k) f d t x)):=by
 have hn:=hR.n
 have hK:=zng hR hH
 have hok:∀ t,okB k (Tp rows H k t):=zkJ (R:=Rp rows H) (K:=Kp rows H) (n:=rows.length) hK k
 intro d
 induction d with
 | zero =>
  intro t m x hft htd hm hx
  obtain ⟨m,rfl⟩:∃ q,m=q+1:=⟨m - 1,by omega⟩
  rw [zcv]
  generalize zaF (fun _ _=>none) (zbG (⟨rows,rows.map (·.Stanza),F,L,H⟩:Gpage_parter) (f:Int) j2) m=ag
  unfold zbG
  exact zay (decide_eq_false (by show ¬ ((t:Int)≤(rows.length:Int)); omega)) rfl
 | succ d ih =>
  intro t m x hft htd hm hx
  obtain ⟨m,rfl⟩:∃ q,m=q+1:=⟨m - 1,by omega⟩
  have ih':=fun y hy=>ih (t+1) m y (by omega) (by omega) (by omega) hy
  rw [zcv]
  generalize zaF (fun _ _=>none) (zbG (⟨rows,rows.map (·.Stanza),F,L,H⟩:Gpage_parter) (f:Int) j2) m=ag at ih' ⊢
  rw [show ((t+1:Nat):Int)=(t:Int)+1 by omega] at ih'
  have htl:=zfY (Tp rows H k) rows.length
  have hgt:∀ y:Bst,zbF ((zeR (Tp rows H k) rows.length).set f y) (t:Int)=some (Tp rows H k t):=fun y=>zch (by rw [List.getElem?_set_ne (by omega)]; exact zej _ _ _ (by omega))
  have hgf:∀ y:Bst,zbF ((zeR (Tp rows H k) rows.length).set f y) (f:Int)=some y:=fun y=>zch (by rw [List.getElem?_set_self (by omega)])
  have hnext:∀ y,okB (k+1) y→(grd (I64 ((t:Int)+1))<|ag ((zeR (Tp rows H k) rows.length).set f y) ((t:Int)+1))=j2 ((zeR (Tp rows H k) rows.length).set f (zem (Rp rows H) (Kp rows H) rows.length (Tp rows H k) f d (t+1) y)):=fun y hy=>zbm ⟨by omega,by omega⟩ (ih' y hy)
  unfold zbG
  refine zaz (decide_eq_true (by show (t:Int)≤(rows.length:Int); omega)) (zaM (zrL hR H f t hft (by omega)) ?_)
  unfold zem
  by_cases hRt:zdZ rows f t≤H
  ·have hRb:Rp rows H f t=true:=decide_eq_true hRt
   refine zaz (decide_eq_true hRt) (zbE (zub (fun j4=>∀ y:Bst,okB (k+1) y→y.to_=(t:Int)→j4 y.cost y.rows=j2 ((zeR (Tp rows H k) rows.length).set f (zem (Rp rows H) (Kp rows H) rows.length (Tp rows H k) f d (t+1) (znk x (some y))))) ?_ ?_))
   ·intro y hy hto
    have ey:(⟨y.cost,y.rows,(t:Int)⟩:Gpage_best)=y:=by rw [← hto]
    have hput:(grd (I64 ((t:Int)+1))<|ag (((zeR (Tp rows H k) rows.length).set f x).set (f:Int).toNat (⟨y.cost,y.rows,(t:Int)⟩:Gpage_best)) ((t:Int)+1))=j2 ((zeR (Tp rows H k) rows.length).set f (zem (Rp rows H) (Kp rows H) rows.length (Tp rows H k) f d (t+1) y)):=by
     rw [ey,Int.toNat_natCast,List.set_set]; exact hnext y hy
    have hkeep:=hnext x hx
    refine zaM (hgf x) ?_
    rw [zf7]
    by_cases h1:x.rows<0
    ·rw [if_pos (.inl h1)]; exact zaz (decide_eq_true h1) (zaM (hgf x) hput)
    refine zay (decide_eq_false h1) ?_
    by_cases h2:y.cost<x.cost
    ·rw [if_pos (.inr (.inl h2))]; exact zaz (decide_eq_true h2) (zaM (hgf x) hput)
    refine zay (decide_eq_false h2) ?_
    by_cases h3:y.cost=x.cost
    ·refine zaz (zfV h3) ?_
     by_cases h4:y.rows≤x.rows
     ·rw [if_pos (.inr (.inr ⟨h3,h4⟩))]; exact zaz (decide_eq_true h4) (zaM (hgf x) hput)
     ·rw [if_neg (by omega)]; exact zay (decide_eq_false h4) hkeep
    ·rw [if_neg (by omega)]; exact zay (zfW h3) hkeep
   intro j4 held
   by_cases ht:t<rows.length
   ·obtain ⟨o1,o2,o3,o4⟩:=hok t
    have hk2:=hK f t
    have hsq:=zpf hR hH hft (by omega) hRt
    have hcs:=zl2 rows t
    have hhr:=zlJ hR hft (t:=t) (by omega)
    have hkp:Kp rows H f t=(H - zdZ rows f t)*(H - zdZ rows f t)+zoj rows t:=if_pos ⟨hft,ht,hRt⟩
    have hfe:0≤(Tp rows H k t).rows:=zme hK (zoq hH) k t (by omega) (by omega)
    have hc:zft (Rp rows H) (Kp rows H) rows.length (Tp rows H k) f t=some ⟨Kp rows H f t+(Tp rows H k t).cost,(Tp rows H k t).rows+1,(t:Int)⟩:=by unfold zft; rw [if_pos hRb,if_pos ht,if_neg (by omega)]
    have hyok:=(zgX hK hok hc).1
    rw [hc]
    refine zaz (decide_eq_true (by show (t:Int)<(rows.length:Int); omega)) (zaM (zrL hR H f t hft (by omega)) (zbm ?_ (zbm ?_ (zaM (zvZ hR H t (by omega) ht) (zbm ?_ (zaM (hgt x) (zbm ?_ (zbm ⟨by omega,by omega⟩ ?_))))))))
    ·show I64 (H - zdZ rows f t); exact ⟨by omega,by omega⟩
    ·show I64 ((H - zdZ rows f t)*(H - zdZ rows f t)); exact ⟨by omega,by omega⟩
    ·show I64 ((H - zdZ rows f t)*(H - zdZ rows f t)+zoj rows t); exact ⟨by omega,by omega⟩
    ·show I64 ((H - zdZ rows f t)*(H - zdZ rows f t)+zoj rows t+(Tp rows H k t).cost); rw [← hkp]; exact ⟨by omega,by omega⟩
    ·have:=held _ hyok rfl
     refine Eq.trans ?_ this
     show j4 ((H - zdZ rows f t)*(H - zdZ rows f t)+zoj rows t+(Tp rows H k t).cost) ((Tp rows H k t).rows+1)=j4 (Kp rows H f t+(Tp rows H k t).cost) ((Tp rows H k t).rows+1)
     rw [hkp]
   ·have hc:zft (Rp rows H) (Kp rows H) rows.length (Tp rows H k) f t=some ⟨0,1,(t:Int)⟩:=by unfold zft; rw [if_pos hRb,if_neg ht]
    have hyok:=(zgX hK hok hc).1
    rw [hc]
    refine zay (decide_eq_false (by show ¬ ((t:Int)<(rows.length:Int)); omega)) ?_
    exact held _ hyok rfl
  ·refine zay (decide_eq_false hRt) ?_
   have hc:zft (Rp rows H) (Kp rows H) rows.length (Tp rows H k) f t=none:=by unfold zft; rw [if_neg (by unfold Rp; rw [decide_eq_false hRt]; decide)]
   rw [hc,ziB d (t+1) (znk x none) (fun t' h1 h2=>by
    have:=zpP hR (t' - t) hft (by omega)
    rw [show t+(t' - t)=t' by omega] at this
    unfold zft Rp
    rw [if_neg (by rw [decide_eq_false (by omega)]; decide)])]
   rfl
theorem zpD (j1:List Bst→Option ((List Int)×Int)):∀ (d k m:Nat),k+d=rows.length→d<m→zaF (fun _ _=>none) (zbH (⟨rows,rows.map (·.Stanza),F,L,H⟩:Gpage_parter) j1) m (zeR (Tp rows H k) rows.length) ((rows.length:Int) - 1 - (k:Int))=j1 (zeR (Tt rows H) rows.length):=by
 have hle:=hR.n
 intro d
 induction d with
 | zero =>
  intro k m hk hm
  obtain ⟨m,rfl⟩:∃ q,m=q+1:=⟨m - 1,by omega⟩
  rw [zcv]
  generalize zaF (fun _ _=>none) (zbH (⟨rows,rows.map (·.Stanza),F,L,H⟩:Gpage_parter) j1) m=ag
  unfold zbH
  refine zay (decide_eq_false (by omega)) ?_
  rw [show k=rows.length by omega]; rfl
 | succ d ih =>
  intro k m hk hm
  obtain ⟨m,rfl⟩:∃ q,m=q+1:=⟨m - 1,by omega⟩
  have ih':=ih (k+1) m (by omega) (by omega)
  rw [zcv]
  generalize zaF (fun _ _=>none) (zbH (⟨rows,rows.map (·.Stanza),F,L,H⟩:Gpage_parter) j1) m=ag at ih' ⊢
  obtain ⟨f,hf⟩:∃ f:Nat,f+(k+1)=rows.length:=⟨d,by omega⟩
  rw [show (rows.length:Int) - 1 - (k:Int)=(f:Int) by omega]
  rw [show (rows.length:Int) - 1 - ((k+1:Nat):Int)=(f:Int) - 1 by omega] at ih'
  unfold zbH
  have hg:zbF (zeR (Tp rows H k) rows.length) (f:Int)=some b0:=by
   have e0:Tp rows H k f=b0:=zrt k f (by omega)
   rw [zch (zej _ _ f (by omega)),e0]
  refine zaz (decide_eq_true (by omega)) (zbE (zaM hg (zbm ⟨by omega,by omega⟩ ?_)))
  have hin:=zqY hR hH k f hf (fun (all5:List Gpage_best)=>grd (I64 ((f:Int) - 1))<|ag all5 ((f:Int) - 1)) (rows.length - f) (f+1) zbW bm (by omega) (by omega) (zb5 (by omega)) (zpH _)
  rw [show ((f+1:Nat):Int)=(f:Int)+1 by omega] at hin
  have et:(zeR (Tp rows H k) rows.length).set f (zem (Rp rows H) (Kp rows H) rows.length (Tp rows H k) f (rows.length - f) (f+1) bm)=zeR (Tp rows H (k+1)) rows.length:=by
   have e1:Tp rows H (k+1) f=zem (Rp rows H) (Kp rows H) rows.length (Tp rows H k) f (rows.length - f) (f+1) bm:=by
    show Bf (Rp rows H) (Kp rows H) rows.length (k+1) f=_
    rw [zff,if_pos hf]
   rw [← e1]
   exact zlk (by omega) fun j hj=>by
    show Bf (Rp rows H) (Kp rows H) rows.length (k+1) j=_
    rw [zff,if_neg (by omega)]
  rw [et] at hin
  refine hin.trans (zbm ⟨by omega,by omega⟩ ih')
theorem zpE (j5:List Int→Option ((List Int)×Int)):∀ (m f N:Nat) (out:List Int),rows.length≤f+m→m<N→out.length≤f→f≤rows.length→zaF (fun _ _=>none) (zbv (⟨rows,rows.map (·.Stanza),F,L,H⟩:Gpage_parter) (zeR (Tt rows H) rows.length) j5) N out (f:Int)=j5 (out++(zm1 (Tt rows H) rows.length m f).map (fun t=>((t:Nat):Int))):=by
 have hle:=hR.n
 intro m
 induction m with
 | zero =>
  intro f N out hm hN ho hf
  obtain ⟨N,rfl⟩:∃ q,N=q+1:=⟨N - 1,by omega⟩
  rw [zcv]
  generalize zaF (fun _ _=>none) (zbv (⟨rows,rows.map (·.Stanza),F,L,H⟩:Gpage_parter) (zeR (Tt rows H) rows.length) j5) N=ag
  unfold zbv
  refine zay (decide_eq_false (by show ¬ ((f:Int)<(rows.length:Int)); omega)) ?_
  show j5 out=j5 (out++[])
  rw [List.append_nil]
 | succ m ih =>
  intro f N out hm hN ho hf
  obtain ⟨N,rfl⟩:∃ q,N=q+1:=⟨N - 1,by omega⟩
  rw [zcv]
  have ih':=fun t out=>ih t N out
  generalize zaF (fun _ _=>none) (zbv (⟨rows,rows.map (·.Stanza),F,L,H⟩:Gpage_parter) (zeR (Tt rows H) rows.length) j5) N=ag at ih' ⊢
  unfold zbv zm1
  by_cases h:f<rows.length
  ·obtain ⟨t,h1,h2,h3,h4⟩:=zqt (zng hR hH) (zoq hH) h
   have hg:zbF (zeR (Tt rows H) rows.length) (f:Int)=some (Tt rows H f):=zch (zej _ _ f (by omega))
   rw [if_pos h,h1,Int.toNat_natCast]
   refine zaz (decide_eq_true (by show (f:Int)<(rows.length:Int); omega)) (zaM hg (zbm (by omega) (zaM hg ?_)))
   rw [h1]
   rw [ih' t (out++[(t:Int)]) (by omega) (by omega) (by rw [List.length_append]; simp; omega) h3,List.append_assoc]; rfl
  ·rw [if_neg h]
   refine zay (decide_eq_false (by show ¬ ((f:Int)<(rows.length:Int)); omega)) ?_
   show j5 out=j5 (out++[])
   rw [List.append_nil]
theorem zsL:zdg (⟨rows,rows.map (·.Stanza),F,L,H⟩:Gpage_parter)=some ((zkG rows H).map (fun t=>((t:Nat):Int)),(Tt rows H 0).cost):=by
 have hle:=hR.n
 unfold zdg
 refine zbE (zbm ⟨by show _≤(rows.length:Int)+1; omega,by show (rows.length:Int)+1≤_; omega⟩ (zbm ⟨by show _≤(rows.length:Int)+1; omega,by show (rows.length:Int)+1≤_; omega⟩ (zbm ⟨by show _≤(rows.length:Int) - 1; omega,by show (rows.length:Int) - 1≤_; omega⟩ ?_)))
 have e0:List.replicate ((rows.length:Int)+1:Int).toNat (⟨0,0,0⟩:Gpage_best)=zeR (Tp rows H 0) rows.length:=by
  show List.replicate ((rows.length:Int)+1:Int).toNat b0=_
  rw [show ((rows.length:Int)+1:Int).toNat=rows.length+1 by omega,zrz]
 show zaF (fun _ _=>none) _ zbW (List.replicate ((rows.length:Int)+1:Int).toNat (⟨0,0,0⟩:Gpage_best)) ((rows.length:Int) - 1)=_
 rw [e0]
 have ho:=zpD hR hH (fun (all1:List Gpage_best)=>zbl (fun (j5:(List Int)→Option ((List Int)×Int))=>zaF (fun _ _=>none) (zbv (⟨rows,rows.map (·.Stanza),F,L,H⟩:Gpage_parter) all1 j5) zbW ([]:List Int) 0) (fun (out1:List Int)=>zal (zbF all1 0) fun (q10:Gpage_best)=>some (out1,q10.cost))) rows.length 0 zbW (by omega) (zb5 (by omega))
 rw [show (rows.length:Int) - 1 - ((0:Nat):Int)=(rows.length:Int) - 1 by omega] at ho
 refine ho.trans (zbE ?_)
 have he:=zpE hR hH (fun (out1:List Int)=>zal (zbF (zeR (Tt rows H) rows.length) 0) fun (q10:Gpage_best)=>some (out1,q10.cost)) rows.length 0 zbW [] (by omega) (zb5 (by omega)) (Nat.zero_le _) (Nat.zero_le _)
 rw [show ((0:Nat):Int)=0 from rfl,List.nil_append] at he
 refine he.trans (zaM (zdm (n:=0) rfl (zej _ _ 0 (Nat.zero_le _))) rfl)
end
end Go.Proofs.YtbempdelckaccaaDoor

namespace Go.Proofs.YtbempdelckaccaaDoor
open Go.RowKit Go.Lib
set_option linter.unusedVariables false
set_option linter.unusedSimpArgs false
def zdA (r2:(Int×Gpage_parter)) (from3:Int) (j3:Int→(List Gapi_Row)→Option ((Option Gpage_Book)×Int)) (q1:Int) (ag2:(List Gapi_Row)→Int→Option ((Option Gpage_Book)×Int)) (page4:List Gapi_Row) (k3:Int):Option ((Option Gpage_Book)×Int) :=
zaw (decide ((k3:Int)<q1)) (
zbl (fun (j4:(List Gapi_Row)→Option ((Option Gpage_Book)×Int)) =>
zaw (decide ((from3:Int)<k3)) (
zal (zbF r2.2.rows k3) fun (q2:Gapi_Row) =>
grd (I64 (k3 - 1)) <|
zal (zbF r2.2.rows (k3 - 1)) fun (q3:Gapi_Row) =>
zaw ((q2.Stanza:Int) != q3.Stanza) (
grd (page4.length+1≤2147483648) <|
j4 (page4++[(⟨(-1),0,0,0,0,ByteArray.empty⟩:Gapi_Row)])
) (
j4 page4
)
) (
j4 page4
)
) (fun (page5:List Gapi_Row) =>
zal (zbF r2.2.rows k3) fun (q4:Gapi_Row) =>
grd (page5.length+1≤2147483648) <|
grd (I64 (k3+1)) <|
ag2 (page5++[q4]) (k3+1)
)
) (
j3 q1 page4
)
def zdB (j1:(List (List Gapi_Row))→Int→Option ((Option Gpage_Book)×Int)) (r2:(Int×Gpage_parter)) (r3:((List Int)×Int)) (ag1:(List (List Gapi_Row))→Int→Int→Option ((Option Gpage_Book)×Int)) (b9:List (List Gapi_Row)) (from3:Int) (x4:Int):Option ((Option Gpage_Book)×Int) :=
zaw (decide ((x4:Int)<(r3.1.length:Int))) (
zbl (fun (j2:(List (List Gapi_Row))→Int→Option ((Option Gpage_Book)×Int)) =>
zbl (fun (j3:Int→(List Gapi_Row)→Option ((Option Gpage_Book)×Int)) =>
zal (zbF r3.1 x4) fun (q1:Int) =>
zaF (fun _ _=>none) (zdA r2 from3 j3 q1) zbW ([]:List Gapi_Row) from3
) (fun (to1:Int) (page1:List Gapi_Row) =>
grd (b9.length+1≤2147483648) <|
j2 (b9++[page1]) to1
)
) (fun (b10:List (List Gapi_Row)) (from4:Int) =>
grd (I64 (x4+1)) <|
ag1 b10 from4 (x4+1)
)
) (
j1 b9 (r2.1+r3.2)
)
def zfC (x1:Gpoem_Poem) (l1:Gapi_Layout):Option ((Option Gpage_Book)×Int) :=
zal (zfB l1) fun (r1:Bool) =>
zaw (!r1) (
some (none,2)
) (
zbl (fun (j1:(List (List Gapi_Row))→Int→Option ((Option Gpage_Book)×Int)) =>
zal (zdh (⟨([]:List Gapi_Row),([]:List Int),([]:List Int),([]:List Int),l1.Height⟩:Gpage_parter) x1 l1) fun (r2:(Int×Gpage_parter)) =>
zal (zdg r2.2) fun (r3:((List Int)×Int)) =>
grd (I64 (r2.1+r3.2)) <|
zaF (fun _ _ _=>none) (zdB j1 r2 r3) zbW ([]:List (List Gapi_Row)) 0 0
) (fun (b3:List (List Gapi_Row)) (b4:Int) =>
some ((some (⟨l1.Width,l1.Height,l1.Turn,l1.Every,b3,b4⟩:Gpage_Book)),0)
)
)
theorem znu {bx1:Nat} {x1:Gpoem_Poem} {x1_h0 x1_h1:Hd} {l1:Gapi_Layout} {r:((Option Gpage_Book)×Int)} (h:zfC x1 l1=some r):FnR Tryd.prog 19 [zP bx1,.agg (zr0 l1).toArray] [cells bx1 [.string x1.told_title,x1_h0.v,x1_h1.v,.string x1.source] 81,zv7 x1_h0.v x1.told_lines,zv6 x1_h1.v x1.told_stanzas] [] (fun v0:Value=>.tuple #[v0,zI r.2]) (fun v0=>[zi7 zbc zbb 69 v0 r.1]):=by
 unfold zfC at h
 refine FnR.intro Tryd.func19 rfl Tryd.ntmps19 (by simp) ?_
 intro w0 K hrd
 refine zyG ?_
 refine zdQ rfl dc rfl (fun b1 => ?_)
 refine zyR 2 rfl (zyN (zaJ (zaE (zyG (zyR 1 rfl (zaT rfl (zdE Tryd.underlying39) (zyR 1 rfl (zyN (zaN rfl ?_)))))))))
 refine zyG (zba (k:=0) (cs:=(zr0 l1)) ziv rfl dc rfl rfl rfl rfl ?_)
 obtain ⟨r1,hq1,h⟩:=zbg h
 refine zbq (v:=.bool r1) (vs:=[.agg (zr0 l1).toArray]) rfl dc rfl rfl rfl zul (zjL (l1:=l1) hq1) (zdU rfl dc rfl zcy (zyR 1 rfl (zyN ?_)))
 refine zyB rfl h (fun h => ?_) (fun h => ?_)
 ·
  refine zyG (zyR 2 rfl (zyN (zaI (zaD (zau (zdO zbc zbb 69 ?_))))))
  cases h
  exact zaK (rs:=[.tmp 4,.tmp 5]) (.pointer none) (.inl rfl) Tryd.results19 (.cons (.tmp rfl) (.cons (.tmp rfl) .nil)) rfl (zae [1] kr rfl)
 refine zas (zag (zaL ?_))
 obtain ⟨j1,hj1,h⟩:=zbK h
 refine zaX (β:=(List (List Gapi_Row))×Int×Nat×Hd) 5 rfl (fun b=>j1 b.1 b.2.1=some r) (fun b=>[]) (fun b=>[(7,zP b.2.2.1)]) (fun b=>[cells b.2.2.1 [zI l1.Width,zI l1.Height,zI l1.Turn,zI l1.Every,b.2.2.2.v,zI b.2.1] 69,zhH zbs zbJ 30 1 b.2.2.2.v b.1]) (fun cut => ?_) ?_
 ·
  refine zyG (zab zgR rfl dc rfl (show _=1 from rfl) (zar (k:=0) zbh rfl dc rfl rfl rfl ?_))
  refine za3 (v:=.agg #[.slice none 0 0,.slice none 0 0,.slice none 0 0,.slice none 0 0,zI l1.Height]) (ps:=[(4,.tmp 23)]) rfl dc rfl (fun _=>by kernel_rfl) ?_
  refine zdQ rfl dc rfl (fun b5 => ?_)
  refine zyR 1 rfl (zyN (zaJ ?_))
  obtain ⟨r2,hq2,h⟩:=zbg h
  refine zfU 4 ?_
  refine let vals1:(Hd×Hd×Hd×Hd)→List (Nat×Nat×Value):=fun b=>[(0,26,.agg (zr0 l1).toArray),(1,27,zP b5),(2,28,zP bx1),(3,29,.agg (zr0 l1).toArray),(4,30,zI r2.1)]; let LL1:(Nat→Prop)→(Hd×Hd×Hd×Hd)→List Asn:=fun D b=>[cells b1 (zr0 l1) 23,eD D (cells b5 [.slice none 0 0,.slice none 0 0,.slice none 0 0,.slice none 0 0,zI l1.Height] 96) [(4,cells b5 [b.1.v,b.2.1.v,b.2.2.1.v,b.2.2.2.v,zI r2.2.heights] 96)],eD D emp [(4,zv1 b.1.v r2.2.rows)],eD D emp [(4,zv0 b.2.1.v r2.2.blanks)],eD D emp [(4,zv0 b.2.2.1.v r2.2.firsts)],eD D emp [(4,zv0 b.2.2.2.v r2.2.lasts)]]; ?_
  have zhq:zyQ [4] LL1:=fun i h D b=>zac rfl (zac (zjd rfl h) (zac (zjd rfl h) (zac (zjd rfl h) (zac (zjd rfl h) (zac (zjd rfl h) rfl)))))
  refine zdI (β:=Hd×Hd×Hd×Hd) 5 (Hd.nil,Hd.nil,Hd.nil,Hd.nil) vals1 LL1 mixed kr kr dc (fun _=>rfl) (zac rfl (zac zbS (zac zbS (zac zbS (zac zbS (zac zbS rfl)))))) (ziq zhq rfl (fun _=>rfl) (fun _=>rfl) ?_ (zld zhq (fun _=>rfl) (fun _=>rfl) 2 1 (fun _=>rfl) rfl (ziq zhq rfl (fun _=>rfl) (fun _=>rfl) ?_ (zat ?_ DrawG.nil)))) ?_
  · exact fun D ⟨hd2,hd3,hd4,hd5⟩ n d c u i=>⟨_,(zsa rfl),zba (k:=0) (cs:=(zr0 l1)) ziv rfl dc (za9 (by rfl) rfl) rfl rfl rfl (zaf 0 u i rfl)⟩
  · exact fun D ⟨hd2,hd3,hd4,hd5⟩ n d c u i=>⟨_,(zac rfl (zac (zai (fun hD=>n (c 4 _ rfl hD 3 dc)) zap) (zac (zai (fun hD=>n (c 4 _ rfl hD 3 dc)) zap) (zac (zai (fun hD=>n (c 4 _ rfl hD 3 dc)) zap) (zac (zai (fun hD=>n (c 4 _ rfl hD 3 dc)) zap) (zac (zai (fun hD=>n (c 4 _ rfl hD 3 dc)) zap) rfl)))))),zba (k:=0) (cs:=(zr0 l1)) ziv rfl dc (za9 (by rfl) rfl) rfl rfl rfl (zaf 3 u i rfl)⟩
  ·
   intro D b hn hd hcl
   obtain ⟨zb0,zb1,zb2,zb3⟩:=b
   refine zaG (zac rfl (zac (zai hn zap) (zac (zai hn zap) (zac (zai hn zap) (zac (zai hn zap) (zac (zai hn zap) rfl)))))) (zgY (enc:=zcT) (e:=38) (size:=6) ?_)
   refine zgY (enc:=(znE (.i64))) (e:=3) (size:=1) ?_
   refine zgY (enc:=(znE (.i64))) (e:=3) (size:=1) ?_
   refine zgY (enc:=(znE (.i64))) (e:=3) (size:=1) ?_
   refine zhc (vs:=[zP b5,zP bx1,.agg (zr0 l1).toArray]) hrd rfl dc rfl (evL.cons (zaa (m:=1) rfl rfl (hd 1 dc)) (evL.cons (zaa (m:=2) rfl rfl (hd 2 dc)) (evL.cons (zaa (m:=3) rfl rfl (hd 3 dc)) evL.nil))) rfl zvE (zhh (bp1:=b5) (p1:=(⟨([]:List Gapi_Row),([]:List Int),([]:List Int),([]:List Int),l1.Height⟩:Gpage_parter)) (p1_h0:=Hd.nil) (p1_h1:=Hd.nil) (p1_h2:=Hd.nil) (p1_h3:=Hd.nil) (bx1:=bx1) (x1:=x1) (x1_h0:=x1_h0) (x1_h1:=x1_h1) (l1:=l1) hq2) (zae [1,6,7,8,9] kr rfl) (.ro 0 rfl (.ro 1 rfl (.ro 2 rfl .nil))) ?_
   rintro ⟨hd2,hd3,hd4,hd5⟩
   refine zd7 (L':=[cells b1 (zr0 l1) 23,cells b5 [hd2.v,hd3.v,hd4.v,hd5.v,zI r2.2.heights] 96,emp,emp,emp,emp,zv1 hd2.v r2.2.rows,zv0 hd3.v r2.2.blanks,zv0 hd4.v r2.2.firsts,zv0 hd5.v r2.2.lasts]) (zae [0,10,2,3,4,5,11,12,13,14] kr rfl) (zcD 5 rfl rfl ?_)
   refine zcD 4 rfl rfl ?_
   refine zcD 3 rfl rfl ?_
   refine zcD 2 rfl rfl ?_
   exact zaO (b:=(zb0,zb1,zb2,zb3)) (hd2,hd3,hd4,hd5) 4 (by rfl) (by rfl) rfl (zmg rfl) (zac rfl (zac (zaH (Or.inr rfl) rfl) (zac (zaH (Or.inr rfl) rfl) (zac (zaH (Or.inr rfl) rfl) (zac (zaH (Or.inr rfl) rfl) (zac (zaH (Or.inr rfl) rfl) rfl))))))
  intro D b hall
  obtain ⟨hd2,hd3,hd4,hd5⟩:=b
  refine zaG (zac rfl (zac (zaH (hall 4 dc) rfl) (zac (zaH (hall 4 dc) rfl) (zac (zaH (hall 4 dc) rfl) (zac (zaH (hall 4 dc) rfl) (zac (zaH (hall 4 dc) rfl) rfl)))))) ?_
  refine za3 (v:=.agg #[zI l1.Width,zI l1.Height,zI l1.Turn,zI l1.Every,.slice none 0 0,zI r2.1]) (ps:=[(0,.tmp 26),(2,.tmp 30)]) rfl dc rfl (fun _=>by kernel_rfl) ?_
  refine zdQ rfl dc rfl (fun b6 => ?_)
  refine zyR 1 rfl (zyH (zyR 1 rfl ?_))
  obtain ⟨r3,hq3,h⟩:=zbg h
  refine zhc (vs:=[zP b5]) hrd rfl dc rfl rfl rfl zvD (zhg (bp1:=b5) (p1:=r2.2) (p1_h0:=hd2) (p1_h1:=hd3) (p1_h2:=hd4) (p1_h3:=hd5) hq3) Splits.nil (.own (zae [1] (by kernel_rfl) rfl) (fun _ _ h=>sepL.one1.1 h) (.own (zae [2] (by kernel_rfl) rfl) (fun _ _ h=>sepL.one1.1 h) (.own (zae [3] (by kernel_rfl) rfl) (fun _ _ h=>sepL.one1.1 h) (.own (zae [4] (by kernel_rfl) rfl) (fun _ _ h=>sepL.one1.1 h) (.own (zae [5] (by kernel_rfl) rfl) (fun _ _ h=>sepL.one1.1 h) .nil))))) ?_
  rintro v1
  refine zbL (k:=7) rfl (fun hd6 he1 => ?_)
  subst he1
  refine zyR 1 rfl (zaU rfl dc rfl rfl (zaU rfl dc rfl rfl (zyR 2 rfl (zyH (zyR 1 rfl (zaA rfl dc rfl (zab znz rfl dc rfl (show _=5 from rfl) (zar (k:=6) zbh rfl dc rfl rfl rfl (zyR 1 rfl ?_)))))))))
  obtain ⟨hg1,h⟩:=zbk h
  refine zaT rfl (zaQ (r:=r2.1+r3.2) (IntWalk.i64_in _ hg1)) (zaA rfl dc rfl (zab znz rfl dc rfl (show _=5 from rfl) ?_))
  refine za5 (k:=6) (l':=[zI l1.Width,zI l1.Height,zI l1.Turn,zI l1.Every,.slice none 0 0,zI (r2.1+r3.2)]) zde rfl rfl rfl rfl rfl (fun _ _=>rfl) rfl ?_
  refine zyH (zyR 1 rfl (zyN (cut (zyG (zyR 1 rfl (zbd (k:=7) rfl dc rfl rfl Tryd.underlying24 (zyR 1 rfl (zaR ?_))))))))
  refine zaL (zaE (zqq (enc:=zbs) (nest:=zbJ) (e:=30) (size:=1) ?_))
  refine zbn (β:=Nat×(List (List Gapi_Row))×Int×Int×Hd) (fun b=>zaF (fun _ _ _=>none) (zdB j1 r2 r3) b.1 b.2.1 b.2.2.1 b.2.2.2.1=some r) (fun b=>[]) (fun b=>[(6,zP b5),(7,zP b6),(10,zI b.2.2.1),(46,hd6.v),(47,zI (r3.1.length:Int)),(48,zI b.2.2.2.1)]) (fun b=>[cells b5 [hd2.v,hd3.v,hd4.v,hd5.v,zI r2.2.heights] 96,zv1 hd2.v r2.2.rows,zv0 hd3.v r2.2.blanks,zv0 hd4.v r2.2.firsts,zv0 hd5.v r2.2.lasts,cells b6 [zI l1.Width,zI l1.Height,zI l1.Turn,zI l1.Every,b.2.2.2.2.v,zI (r2.1+r3.2)] 69,zhH zbs zbJ 30 1 b.2.2.2.2.v b.2.1,zv0 hd6.v r3.1]) (fun b=>b.1) (zbW,([]:List (List Gapi_Row)),0,0,Hd.nil) h rfl (za0 rfl) (zae [1,2,3,4,5,6,8,7] kr rfl) ?_
  rintro ⟨n1,b9,from3,x4,hd9⟩ h
  cases n1 with
  | zero=>exact zdG h
  | succ n1 =>
   obtain ⟨ag1,hag1⟩:∃ ag,ag=zaF (fun _ _ _=>none) (zdB j1 r2 r3) n1:=⟨_,rfl⟩
   have h:zdB j1 r2 r3 ag1 b9 from3 x4=some r:=by rw [hag1]; exact h
   unfold zdB at h
   refine zyG (zaT rfl zbf (zyN (zaJ ?_)))
   refine zyB rfl h (fun h => ?_) (fun h => ?_)
   ·
    refine zas (zaL ?_)
    obtain ⟨j2,hj2,h⟩:=zbK h
    refine zaX (β:=(List (List Gapi_Row))×Int×Hd) 0 rfl (fun b=>j2 b.1 b.2.1=some r) (fun b=>[]) (fun b=>[(6,zP b5),(7,zP b6),(10,zI b.2.1),(46,hd6.v),(47,zI (r3.1.length:Int)),(48,zI x4)]) (fun b=>[cells b5 [hd2.v,hd3.v,hd4.v,hd5.v,zI r2.2.heights] 96,zv1 hd2.v r2.2.rows,zv0 hd3.v r2.2.blanks,zv0 hd4.v r2.2.firsts,zv0 hd5.v r2.2.lasts,cells b6 [zI l1.Width,zI l1.Height,zI l1.Turn,zI l1.Every,b.2.2.v,zI (r2.1+r3.2)] 69,zhH zbs zbJ 30 1 b.2.2.v b.1,zv0 hd6.v r3.1]) (fun cut => ?_) ?_
    ·
     refine cut (zaE ?_)
     obtain ⟨j3,hj3,h⟩:=zbK h
     refine zaX (β:=Int×(List Gapi_Row)×Hd) 2 rfl (fun b=>j3 b.1 b.2.1=some r) (fun b=>[]) (fun b=>[(6,zP b5),(7,zP b6),(12,zI b.1),(13,b.2.2.v),(46,hd6.v),(47,zI (r3.1.length:Int)),(48,zI x4)]) (fun b=>[cells b5 [hd2.v,hd3.v,hd4.v,hd5.v,zI r2.2.heights] 96,zv1 hd2.v r2.2.rows,zv0 hd3.v r2.2.blanks,zv0 hd4.v r2.2.firsts,zv0 hd5.v r2.2.lasts,cells b6 [zI l1.Width,zI l1.Height,zI l1.Turn,zI l1.Every,hd9.v,zI (r2.1+r3.2)] 69,zhH zbs zbJ 30 1 hd9.v b9,zv1 b.2.2.v b.2.1,zv0 hd6.v r3.1]) (fun cut => ?_) ?_
     ·
      refine zyG ?_
      obtain ⟨q1,hq4,h⟩:=zbg h
      refine zan (k:=7) hq4 Tryd.underlying24 zde rfl dc rfl rfl rfl rfl (zaB (i:=(x4:Int).toNat) (j:=0) (k:=7) (q:=q1) zbh za6 rfl dc rfl rfl (zaC hq4) rfl dc rfl (zyR 1 rfl (zyH (zyR 1 rfl (zyN (cut (zyG (zyR 1 rfl ?_))))))))
      refine zyR 1 rfl (zyN (zaE (zcX (enc:=zcT) (e:=38) (size:=6) ?_)))
      refine zbn (β:=Nat×(List Gapi_Row)×Int×Hd) (fun b=>zaF (fun _ _=>none) (zdA r2 from3 j3 q1) b.1 b.2.1 b.2.2.1=some r) (fun b=>[]) (fun b=>[(6,zP b5),(7,zP b6),(10,zI from3),(12,zI q1),(13,b.2.2.2.v),(14,zI b.2.2.1),(46,hd6.v),(47,zI (r3.1.length:Int)),(48,zI x4)]) (fun b=>[cells b5 [hd2.v,hd3.v,hd4.v,hd5.v,zI r2.2.heights] 96,zv1 hd2.v r2.2.rows,zv0 hd3.v r2.2.blanks,zv0 hd4.v r2.2.firsts,zv0 hd5.v r2.2.lasts,cells b6 [zI l1.Width,zI l1.Height,zI l1.Turn,zI l1.Every,hd9.v,zI (r2.1+r3.2)] 69,zhH zbs zbJ 30 1 hd9.v b9,zv1 b.2.2.2.v b.2.1,zv0 hd6.v r3.1]) (fun b=>b.1) (zbW,([]:List Gapi_Row),from3,Hd.nil) h rfl (za0 rfl) (zae [0,1,2,3,4,5,6,8,7] kr rfl) ?_
      rintro ⟨n2,page4,k3,hd14⟩ h
      cases n2 with
      | zero=>exact zdG h
      | succ n2 =>
       obtain ⟨ag2,hag2⟩:∃ ag,ag=zaF (fun _ _=>none) (zdA r2 from3 j3 q1) n2:=⟨_,rfl⟩
       have h:zdA r2 from3 j3 q1 ag2 page4 k3=some r:=by rw [hag2]; exact h
       unfold zdA at h
       refine zaJ (zyG (zyR 2 rfl (zaT rfl zbf (zyN ?_))))
       refine zyB rfl h (fun h => ?_) (fun h => ?_)
       ·
        refine zas (zaL (zaJ (zaE ?_)))
        obtain ⟨j4,hj4,h⟩:=zbK h
        refine zaX (β:=(List Gapi_Row)×Hd) 0 rfl (fun b=>j4 b.1=some r) (fun b=>[]) (fun b=>[(6,zP b5),(7,zP b6),(10,zI from3),(12,zI q1),(13,b.2.v),(14,zI k3),(46,hd6.v),(47,zI (r3.1.length:Int)),(48,zI x4)]) (fun b=>[cells b5 [hd2.v,hd3.v,hd4.v,hd5.v,zI r2.2.heights] 96,zv1 hd2.v r2.2.rows,zv0 hd3.v r2.2.blanks,zv0 hd4.v r2.2.firsts,zv0 hd5.v r2.2.lasts,cells b6 [zI l1.Width,zI l1.Height,zI l1.Turn,zI l1.Every,hd9.v,zI (r2.1+r3.2)] 69,zhH zbs zbJ 30 1 hd9.v b9,zv1 b.2.v b.1,zv0 hd6.v r3.1]) (fun cut => ?_) ?_
        ·
         refine cut (zaJ ?_)
         refine zd8 (b:=decide ((from3:Int)<k3)) (fun hb4 => ?_) (fun hb4 => ?_)
         ·
          have h:=zgv hb4 h
          obtain ⟨q2,hq5,h⟩:=zbg h
          obtain ⟨hg2,h⟩:=zbk h
          obtain ⟨q3,hq6,h⟩:=zbg h
          refine zbu 21 [(0,58,zI k3),(1,59,zI from3),(2,60,.bool true),(3,61,.bool true),(4,62,zP b5),(5,63,zP b5),(6,64,zP b5),(7,65,hd2.v),(8,66,zI k3),(9,67,.pointer (some ⟨zb7 hd2.v,(k3:Int).toNat*6,none⟩)),(10,68,.pointer (some ⟨zb7 hd2.v,((k3:Int).toNat)*6+1,none⟩)),(11,69,zI q2.Stanza),(12,70,zP b5),(13,71,zP b5),(14,72,zP b5),(15,73,hd2.v),(16,74,zI k3),(17,75,zI (k3 - 1)),(18,76,.pointer (some ⟨zb7 hd2.v,(k3 - 1:Int).toNat*6,none⟩)),(19,77,.pointer (some ⟨zb7 hd2.v,((k3 - 1:Int).toNat)*6+1,none⟩)),(20,78,zI q3.Stanza)] mixed kr kr dc (by rfl) kr kr (zyP 2 0 rfl (zad ?_ (zyP 2 3 rfl (zad ?_ (zad ?_ (zad ?_ (zyP 1 8 rfl (zad ?_ (zad ?_ (zad ?_ (zyP 1 12 rfl (zad ?_ (zad ?_ (zad ?_ (zyP 1 16 rfl (zad ?_ (zad ?_ (zad ?_ (zad ?_ DrawPre.nil))))))))))))))))))) ?_
          · exact fun D n d c u i=>zbM rfl dc (zaa (m:=0) u rfl (d 0 dc)) (zaa (m:=1) u rfl (d 1 dc)) zcA (zdF (show Value.bool (decide ((from3:Int)<k3))=Value.bool true from congrArg Value.bool hb4) (zaf 2 u i rfl))
          · exact fun D n d c u i=>zaA (zeQ rfl (zaa (m:=3) u rfl (d 3 dc))) dc (zaa (m:=4) u rfl (d 4 dc)) (zaf 5 u i rfl)
          · exact fun D n d c u i=>zab zgP (zeQ rfl (zaa (m:=3) u rfl (d 3 dc))) dc (zaa (m:=5) u rfl (d 5 dc)) (show _=0 from rfl) (zaf 6 u i rfl)
          · exact fun D n d c u i=>zar (k:=0) znn (zeQ rfl (zaa (m:=3) u rfl (d 3 dc))) dc (zaa (m:=6) u rfl (d 6 dc)) rfl rfl (zaf 7 u i rfl)
          · exact fun D n d c u i=>zan (k:=1) hq5 Tryd.underlying30 zfX (zeQ rfl (zaa (m:=3) u rfl (d 3 dc))) dc (zaa (m:=7) u rfl (d 7 dc)) (zaa (m:=8) u rfl (d 8 dc)) rfl rfl (zaf 9 u i rfl)
          · exact fun D n d c u i=>zab zdT (zeQ rfl (zaa (m:=3) u rfl (d 3 dc))) dc (zaa (m:=9) u rfl (d 9 dc)) (show _=((k3:Int).toNat)*6+1 from rfl) (zaf 10 u i rfl)
          · exact fun D n d c u i=>zaB (i:=(k3:Int).toNat) (j:=1) (k:=1) (q:=q2) zbh zbQ (zeQ rfl (zaa (m:=3) u rfl (d 3 dc))) dc (zaa (m:=10) u rfl (d 10 dc)) rfl (zaC hq5) rfl dc rfl (zaf 11 u i rfl)
          · exact fun D n d c u i=>zaA (zeQ rfl (zaa (m:=3) u rfl (d 3 dc))) dc (zaa (m:=12) u rfl (d 12 dc)) (zaf 13 u i rfl)
          · exact fun D n d c u i=>zab zgP (zeQ rfl (zaa (m:=3) u rfl (d 3 dc))) dc (zaa (m:=13) u rfl (d 13 dc)) (show _=0 from rfl) (zaf 14 u i rfl)
          · exact fun D n d c u i=>zar (k:=0) znn (zeQ rfl (zaa (m:=3) u rfl (d 3 dc))) dc (zaa (m:=14) u rfl (d 14 dc)) rfl rfl (zaf 15 u i rfl)
          · exact fun D n d c u i=>zbM (zeQ rfl (zaa (m:=3) u rfl (d 3 dc))) dc (zaa (m:=16) u rfl (d 16 dc)) rfl (zbj (r:=k3 - 1) (IntWalk.i64_in _ hg2)) (zaf 17 u i rfl)
          · exact fun D n d c u i=>zan (k:=1) hq6 Tryd.underlying30 zfX (zeQ rfl (zaa (m:=3) u rfl (d 3 dc))) dc (zaa (m:=15) u rfl (d 15 dc)) (zaa (m:=17) u rfl (d 17 dc)) rfl rfl (zaf 18 u i rfl)
          · exact fun D n d c u i=>zab zdT (zeQ rfl (zaa (m:=3) u rfl (d 3 dc))) dc (zaa (m:=18) u rfl (d 18 dc)) (show _=((k3 - 1:Int).toNat)*6+1 from rfl) (zaf 19 u i rfl)
          · exact fun D n d c u i=>zaB (i:=(k3 - 1:Int).toNat) (j:=1) (k:=1) (q:=q3) zbh zbQ (zeQ rfl (zaa (m:=3) u rfl (d 3 dc))) dc (zaa (m:=19) u rfl (d 19 dc)) rfl (zaC hq6) rfl dc rfl (zaf 20 u i rfl)
          refine zaT rfl zce (zyR 1 rfl (zyN ?_))
          refine zyB rfl h (fun h => ?_) (fun h => ?_)
          ·
           refine zax (zyR 1 rfl ?_)
           refine za3 (v:=.agg #[zI (-1),zI 0,zI 0,zI 0,zI 0,.string ByteArray.empty]) (ps:=[(0,.const (zI (-1)))]) rfl dc rfl (fun _=>by kernel_rfl) ?_
           refine zaS (cs:=[zI (-1),zI 0,zI 0,zI 0,zI 0,.string ByteArray.empty]) (te:=38) (ps:=[(0,.tmp 82)]) rfl dc rfl (fun _=>by kernel_rfl) (fun b11 => ?_)
           obtain ⟨hg3,h⟩:=zbk h
           refine za1 (k:=7) (k2:=9) (ys:=[(⟨(-1),0,0,0,0,ByteArray.empty⟩:Gapi_Row)]) Tryd.underlying30 zrf zbQ zeA rfl dc rfl rfl rfl rfl rfl rfl hg3 (fun v2 => ?_)
           refine zbL (k:=7) rfl (fun hd16 he2 => ?_)
           subst he2
           refine zyR 1 rfl (zaR ?_)
           exact zak (page4++[(⟨(-1),0,0,0,0,ByteArray.empty⟩:Gapi_Row)],hd16) h rfl (za0 rfl) (zae [0,1,2,3,4,5,6,7,8] kr rfl)
          refine zas ?_
          exact zak (page4,hd14) h rfl (za0 rfl) (zae [0,1,2,3,4,5,6,7,8] kr rfl)
         have h:=zgw hb4 h
         refine zbu 21 [(0,58,zI k3),(1,59,zI from3),(2,60,.bool false),(3,61,.bool false),(4,62,undef),(5,63,undef),(6,64,undef),(7,65,undef),(8,66,undef),(9,67,undef),(10,68,undef),(11,69,undef),(12,70,undef),(13,71,undef),(14,72,undef),(15,73,undef),(16,74,undef),(17,75,undef),(18,76,undef),(19,77,undef),(20,78,undef)] mixed kr kr dc (by rfl) kr kr (zyP 2 0 rfl (zad ?_ (zyP 18 3 rfl DrawPre.nil))) ?_
         · exact fun D n d c u i=>zbM rfl dc (zaa (m:=0) u rfl (d 0 dc)) (zaa (m:=1) u rfl (d 1 dc)) zcA (zdF (show Value.bool (decide ((from3:Int)<k3))=Value.bool false from congrArg Value.bool hb4) (zaf 2 u i rfl))
         refine zyR 2 rfl (zyN (zaN rfl (zas ?_)))
         exact zak (page4,hd14) h rfl (za0 rfl) (zae [0,1,2,3,4,5,6,7,8] kr rfl)
        rintro ⟨page5,hd15⟩ h
        rw [hj4] at h
        refine zax (zyR 2 rfl (zaA rfl dc rfl (zab zgP rfl dc rfl (show _=0 from rfl) (zar (k:=0) znn rfl dc rfl rfl rfl (zyR 1 rfl ?_)))))
        obtain ⟨q4,hq7,h⟩:=zbg h
        refine zan (k:=1) hq7 Tryd.underlying30 zfX rfl dc rfl rfl rfl rfl (zei (i:=(k3:Int).toNat) (j:=0) (k:=1) (q:=q4) (cs:=(zr4 q4)) zno zbQ rfl dc rfl rfl (zaC hq7) rfl rfl rfl ?_)
        refine zaS (cs:=(zr4 q4)) (te:=38) (ps:=[(0,.tmp 92)]) rfl dc rfl (fun _=>by kernel_rfl) (fun b12 => ?_)
        obtain ⟨hg4,h⟩:=zbk h
        refine za1 (k:=7) (k2:=9) (ys:=[q4]) Tryd.underlying30 zrf zbQ zeA rfl dc rfl rfl rfl rfl rfl rfl hg4 (fun v3 => ?_)
        refine zbL (k:=7) rfl (fun hd17 he3 => ?_)
        subst he3
        refine zyR 1 rfl (zaR (zag (zaL (zax (zyR 1 rfl ?_)))))
        obtain ⟨hg5,h⟩:=zbk h
        refine zaT rfl (zaQ (r:=k3+1) (IntWalk.i64_in _ hg5)) (zyR 1 rfl (zaR ?_))
        subst hag2
        exact za4 (n2,page5++[q4],k3+1,hd17) h (Nat.lt_succ_self _) rfl (za0 rfl) (zae [0,1,2,3,4,5,6,7,8] kr rfl)
       refine za2 (zam (zam (zav ?_)))
       exact zak (q1,page4,hd14) h rfl (za0 rfl) (zae [0,1,2,3,4,5,6,7,8] kr rfl)
     rintro ⟨to1,page1,hd11⟩ h
     rw [hj3] at h
     refine zax (zyR 2 rfl (zaA rfl dc rfl (zab znA rfl dc rfl (show _=4 from rfl) (zar (k:=5) ztP rfl dc rfl rfl rfl (zyR 1 rfl ?_)))))
     refine zaS (cs:=[hd11.v]) (te:=30) (ps:=[(0,.tmp 100)]) rfl dc rfl (fun _=>by kernel_rfl) (fun b13 => ?_)
     refine zlb (k:=6) rfl zqZ (fun zs1 hz1 => ?_)
     obtain ⟨hg6,h⟩:=zbk h
     refine za1 (k:=6) (k2:=9) (ys:=[(page1,hd11)]) Tryd.underlying67 zvY zf4 zii rfl dc rfl rfl rfl rfl rfl rfl (by rw [zuZ hz1]; exact hg6) (fun v4 => ?_)
     refine zbL (k:=6) rfl (fun hd18 he4 => ?_)
     subst he4
     refine zip (k:=10) rfl (zae [7] kr rfl) rfl (zrI (nest:=zbJ) (zs:=zs1) (z:=(page1,hd11))) ?_
     refine zip (k:=6) rfl (zae [10] kr rfl) rfl (zqd (enc:=zbs) (nest:=zbJ) (zwl hz1)) ?_
     refine zd7 (L':=[cells b5 [hd2.v,hd3.v,hd4.v,hd5.v,zI r2.2.heights] 96,zv1 hd2.v r2.2.rows,zv0 hd3.v r2.2.blanks,zv0 hd4.v r2.2.firsts,zv0 hd5.v r2.2.lasts,cells b6 [zI l1.Width,zI l1.Height,zI l1.Turn,zI l1.Every,hd9.v,zI (r2.1+r3.2)] 69,zhH zbs zbJ 30 1 hd18.v (b9++[page1]),emp,zv0 hd6.v r3.1,cells b13 [hd11.v] 30]) (zae [0,1,2,3,4,5,6,7,8,9] kr rfl) (zyR 1 rfl (zaA rfl dc rfl (zab znA rfl dc rfl (show _=4 from rfl) ?_)))
     refine za5 (k:=5) (l':=[zI l1.Width,zI l1.Height,zI l1.Turn,zI l1.Every,hd18.v,zI (r2.1+r3.2)]) zu2 rfl rfl rfl rfl rfl (fun _ _=>rfl) rfl ?_
     refine zyR 1 rfl (zaR (zag ?_))
     exact zak (b9++[page1],to1,hd18) h rfl (za0 rfl) (zae [0,1,2,3,4,5,6,8] kr rfl)
    rintro ⟨b10,from4,hd10⟩ h
    rw [hj2] at h
    refine zax ?_
    obtain ⟨hg7,h⟩:=zbk h
    refine zaT rfl (zaQ (r:=x4+1) (IntWalk.i64_in _ hg7)) (zyR 1 rfl (zaR ?_))
    subst hag1
    exact za4 (n1,b10,from4,x4+1,hd10) h (Nat.lt_succ_self _) rfl (za0 rfl) (zae [0,1,2,3,4,5,6,7] kr rfl)
   refine za2 (zam (zam (zav ?_)))
   exact zak (b9,r2.1+r3.2,b6,hd9) h rfl (za0 rfl) (zae [5,6] kr rfl)
 rintro ⟨b3,b4,b2,hd1⟩ h
 rw [hj1] at h
 refine zyG (zyR 3 rfl (zyN (zaI ?_)))
 refine znO (As:=[cells b2 [zI l1.Width,zI l1.Height,zI l1.Turn,zI l1.Every,hd1.v,zI b4] 69,zhH zbs zbJ 30 1 hd1.v b3]) (zae [0,1] kr rfl) (ziQ (enc:=zbc) (nest:=zbb) (t:=69) (x:=(⟨l1.Width,l1.Height,l1.Turn,l1.Every,b3,b4⟩:Gpage_Book)) (b:=b2) (hd:=hd1)) (fun _ _ => ?_)
 cases h
 exact zaK (rs:=[.tmp 4,.tmp 5]) (zP b2) (.inl rfl) Tryd.results19 (.cons (.tmp rfl) (.cons (.tmp rfl) .nil)) rfl (zae [2] kr rfl)
def zdM (b1:Gpage_Book):Option Int :=
some (b1.pages.length:Int)
theorem zh0 {bb1:Nat} {b1:Gpage_Book} {b1_h0:Hd} {r:Int} (h:zdM b1=some r):FnR Tryd.prog 11 [zP bb1] [cells bb1 [zI b1.layout_Width,zI b1.layout_Height,zI b1.layout_Turn,zI b1.layout_Every,b1_h0.v,zI b1.cost] 69,zhH zbs zbJ 30 1 b1_h0.v b1.pages] [] (fun _:Unit=>(zI r)) (fun _=>[]):=by
 unfold zdM at h
 refine FnR.intro Tryd.func11 rfl Tryd.ntmps11 (by simp) ?_
 intro w0 K hrd
 refine zyG (zyR 1 rfl (zyN (zaJ (zyG (zyR 1 rfl (zaT rfl (zdE Tryd.underlying26) (zyN (zaN rfl (zas ?_)))))))))
 refine zaL (zyG (zyR 1 rfl (zaA rfl dc rfl (zab znA rfl dc rfl (show _=4 from rfl) (zbx (i:=0) hrd rfl ztP rfl dc rfl rfl ?_)))))
 obtain ⟨zs1,hz1,hV1,hrd⟩:=hrd.openN (i:=1) rfl zf4 zjT
 replace hrd:Rd _ _ [cells bb1 [zI b1.layout_Width,zI b1.layout_Height,zI b1.layout_Turn,zI b1.layout_Every,b1_h0.v,zI b1.cost] 69,zhH zbs zbJ 30 1 b1_h0.v b1.pages,zhS zbs 1 b1_h0.v 0 zs1,zsA zfP zs1]:=hrd
 refine zqn hz1 hV1 rfl dc rfl Tryd.underlying67 (zyR 1 rfl (zyN (zaI ?_)))
 cases h
 exact zaK (rs:=[.tmp 2]) () (.inl rfl) Tryd.results11 (.cons (.tmp rfl) .nil) rfl Splits.nil
def zdY (b1:Gpage_Book):Option Int :=
some b1.cost
theorem ziz {bb1:Nat} {b1:Gpage_Book} {b1_h0:Hd} {r:Int} (h:zdY b1=some r):FnR Tryd.prog 10 [zP bb1] [cells bb1 [zI b1.layout_Width,zI b1.layout_Height,zI b1.layout_Turn,zI b1.layout_Every,b1_h0.v,zI b1.cost] 69,zhH zbs zbJ 30 1 b1_h0.v b1.pages] [] (fun _:Unit=>(zI r)) (fun _=>[]):=by
 unfold zdY at h
 refine FnR.intro Tryd.func10 rfl Tryd.ntmps10 (by simp) ?_
 intro w0 K hrd
 refine zyG (zyR 1 rfl (zyN (zaJ (zyG (zyR 1 rfl (zaT rfl (zdE Tryd.underlying26) (zyN (zaN rfl (zas ?_)))))))))
 refine zaL (zyG (zyR 1 rfl (zaA rfl dc rfl (zab znz rfl dc rfl (show _=5 from rfl) (zbx (i:=0) hrd rfl zbh rfl dc rfl rfl (zyR 1 rfl (zyN (zaI ?_))))))))
 cases h
 exact zaK (rs:=[.tmp 2]) () (.inl rfl) Tryd.results10 (.cons (.tmp rfl) .nil) rfl Splits.nil
end Go.Proofs.YtbempdelckaccaaDoor

namespace Go.Proofs.YtbempdelckaccaaDoor
open Go.RowKit Go.Lib
set_option linter.unusedVariables false
set_option linter.unusedSimpArgs false
def zd4 (text1:ByteArray):Option ((List Gapi_Verse)×Bool) :=
zal (zfp text1) fun (r1:(Gref17_Poem×(List Gapi_Verse)×Gapi_Spot)) =>
some (r1.2.1,(r1.2.2.Err:Int)==0)
theorem zjP {text1:ByteArray} {r:((List Gapi_Verse)×Bool)} (h:zd4 text1=some r):Fn Tryd.prog 17 [.string text1] [] (fun v0:Value=>.tuple #[v0,.bool r.2]) (fun v0=>[zv7 v0 r.1]):=by
 unfold zd4 at h
 refine Fn.intro Tryd.func17 rfl Tryd.ntmps17 (by simp) ?_
 intro w0 K
 refine zyG (zyR 2 rfl (zyH (zyR 1 rfl ?_)))
 obtain ⟨r1,hq1,h⟩:=zbg h
 refine zea (vs:=[.string text1]) rfl dc rfl rfl rfl zvL (zlD hq1) Splits.nil ?_
 rintro ⟨hd1,v1⟩
 refine zbL (k:=1) rfl (fun hd2 he1 => ?_)
 subst he1
 refine zyR 1 rfl (zaU rfl dc rfl rfl (zaU rfl dc rfl rfl (zaU rfl dc rfl rfl ?_)))
 refine zbt zsf rfl dc (fun b1 => ?_)
 refine zbt zqC rfl dc (fun b2 => ?_)
 refine zaY (k:=2) (vs:=[.string r1.1.Title,hd1.v]) (l':=[.string r1.1.Title,hd1.v]) zpa rfl rfl rfl rfl rfl (show _≤_ by simp) rfl rfl (zyR 1 rfl (zaY (k:=3) (vs:=(zr6 r1.2.2)) (l':=(zr6 r1.2.2)) zjy rfl rfl rfl rfl rfl (show _≤_ by simp) rfl rfl ?_))
 refine zyN (zaJ ?_)
 refine zbu 5 [(0,13,hd2.v),(1,14,zP b2),(2,15,zI r1.2.2.Err),(3,16,.bool ((r1.2.2.Err:Int)==0)),(4,2,hd2.v)] mixed kr kr dc (by rfl) kr kr (zyP 1 0 rfl (zad ?_ (zad ?_ (zad ?_ (zyP 1 4 rfl DrawPre.nil))))) ?_
 · exact fun D n d c u i=>zab zpX rfl dc (za9 (by rfl) rfl) (show _=0 from rfl) (zaf 1 u i rfl)
 · exact fun D n d c u i=>zar (k:=3) ztQ rfl dc (zaa (m:=1) u rfl (d 1 dc)) rfl rfl (zaf 2 u i rfl)
 · exact fun D n d c u i=>zbM rfl dc (zaa (m:=2) u rfl (d 2 dc)) rfl zaP (zaf 3 u i rfl)
 refine zyR 1 rfl (zyN (zaI ?_))
 cases h
 exact zaK (rs:=[.tmp 2,.tmp 3]) hd2.v (.inl rfl) Tryd.results17 (.cons (.tmp rfl) (.cons (.tmp rfl) .nil)) rfl (zae [1] kr rfl)
def zdc (r1:((List Gapi_Verse)×Bool)) (j1:Option ((Option Gpage_Book)×(List Gapi_Verse)×Bool×Bool)) (ag1:Int→Option ((Option Gpage_Book)×(List Gapi_Verse)×Bool×Bool)) (i3:Int):Option ((Option Gpage_Book)×(List Gapi_Verse)×Bool×Bool) :=
zaw (decide ((i3:Int)<(r1.1.length:Int))) (
zal (zbF r1.1 i3) fun (q1:Gapi_Verse) =>
zaw (decide ((200:Int)<(q1.Text.size:Int))) (
some (none,([]:List Gapi_Verse),false,true)
) (
grd (I64 (i3+1)) <|
ag1 (i3+1)
)
) (
j1
)
def zdC (text1:ByteArray) (l1:Gapi_Layout):Option ((Option Gpage_Book)×(List Gapi_Verse)×Bool×Bool) :=
zal (zd4 text1) fun (r1:((List Gapi_Verse)×Bool)) =>
zaw (!r1.2) (
some (none,([]:List Gapi_Verse),false,true)
) (
zaw (decide ((60:Int)<(r1.1.length:Int))) (
some (none,([]:List Gapi_Verse),false,true)
) (
zbl (fun (j1:Option ((Option Gpage_Book)×(List Gapi_Verse)×Bool×Bool)) =>
zaF (fun _=>none) (zdc r1 j1) zbW 0
) (
zal (zeC text1) fun (r2:((Option Gpoem_Poem)×Gapi_Spot)) =>
zaw (r2.1.isNone) (
some (none,([]:List Gapi_Verse),true,false)
) (
zaw ((r2.2.Err:Int) != 0) (
some (none,([]:List Gapi_Verse),true,false)
) (
zal (r2.1) fun (p1:Gpoem_Poem) =>
zal (zfC p1 l1) fun (r3:((Option Gpage_Book)×Int)) =>
zal (ze9 l1) fun (r4:Bool) =>
zaw (!r4) (
zaw (r3.1.isNone) (
some (none,([]:List Gapi_Verse),false,(r3.2:Int)==2)
) (
some (none,([]:List Gapi_Verse),false,false)
)
) (
zaw (!r3.1.isNone) (
some (r3.1,r1.1,true,(r3.2:Int)==0)
) (
some (r3.1,r1.1,true,false)
)
)
)
)
)
)
)
theorem zmN {text1:ByteArray} {l1:Gapi_Layout} {r:((Option Gpage_Book)×(List Gapi_Verse)×Bool×Bool)} (h:zdC text1 l1=some r):Fn Tryd.prog 6 [.string text1,.agg (zr0 l1).toArray] [] (fun b:Value×Value=>.tuple #[b.1,b.2,.bool r.2.2.1,.bool r.2.2.2]) (fun b=>[zi7 zbc zbb 69 b.1 r.1,zv7 b.2 r.2.1]):=by
 unfold zdC at h
 refine Fn.intro Tryd.func6 rfl Tryd.ntmps6 (by simp) ?_
 intro w0 K
 refine zyG ?_
 refine zdQ rfl dc rfl (fun b1 => ?_)
 refine zyR 4 rfl (zyH (zyR 1 rfl ?_))
 obtain ⟨r1,hq1,h⟩:=zbg h
 refine zea (vs:=[.string text1]) rfl dc rfl rfl rfl zvS (zjP hq1) Splits.nil ?_
 rintro v1
 refine zbL (k:=1) rfl (fun hd1 he1 => ?_)
 subst he1
 refine zyR 1 rfl (zaU rfl dc rfl rfl (zaU rfl dc rfl rfl (zyR 2 rfl (zyN (zaJ (zyG (zyR 1 rfl (zdU rfl dc rfl zcy (zyR 1 rfl ?_)))))))))
 refine zyS (s:=20) rfl h (fun h => ?_) (fun h => ?_)
 ·
  refine zyR 4 rfl (zyN (za7 rfl (zyG (zyR 4 rfl (zaR ?_)))))
  refine zaL (zaI (zau (zdO zbc zbb 69 ?_)))
  refine zdw (enc:=zbr) (e:=57) (size:=6) ?_
  cases h
  exact zaK (rs:=[.tmp 4,.tmp 5,.tmp 6,.tmp 7]) ((.pointer none),(.slice none 0 0)) (.inl rfl) Tryd.results6 (.cons (.tmp rfl) (.cons (.tmp rfl) (.cons (.tmp rfl) (.cons (.tmp rfl) .nil)))) rfl (zae [2,3] kr rfl)
 refine zyR 1 rfl (zbd (k:=1) rfl dc rfl rfl Tryd.underlying27 (zaT rfl zcA (zyR 1 rfl (zyN ?_))))
 refine zyB rfl h (fun h => ?_) (fun h => ?_)
 ·
  refine zyG (zyR 4 rfl (zyN (zaI (zau (zdO zbc zbb 69 ?_)))))
  refine zdw (enc:=zbr) (e:=57) (size:=6) ?_
  cases h
  exact zaK (rs:=[.tmp 4,.tmp 5,.tmp 6,.tmp 7]) ((.pointer none),(.slice none 0 0)) (.inl rfl) Tryd.results6 (.cons (.tmp rfl) (.cons (.tmp rfl) (.cons (.tmp rfl) (.cons (.tmp rfl) .nil)))) rfl (zae [2,3] kr rfl)
 refine zas (zaL ?_)
 obtain ⟨j1,hj1,h⟩:=zbK h
 refine zaX (β:=Unit) 0 rfl (fun b=>j1=some r) (fun b=>[]) (fun b=>[(0,.string text1),(3,zP b1),(5,hd1.v)]) (fun b=>[cells b1 (zr0 l1) 23,zv7 hd1.v r1.1]) (fun cut => ?_) ?_
 ·
  refine cut (zyG (zyR 1 rfl (zyN (zaE ?_))))
  refine zbn (β:=Nat×Int) (fun b=>zaF (fun _=>none) (zdc r1 j1) b.1 b.2=some r) (fun b=>[]) (fun b=>[(0,.string text1),(3,zP b1),(5,hd1.v),(8,zI b.2)]) (fun b=>[cells b1 (zr0 l1) 23,zv7 hd1.v r1.1]) (fun b=>b.1) (zbW,0) h rfl (za0 rfl) (zae [0,1] kr rfl) ?_
  rintro ⟨n1,i3⟩ h
  cases n1 with
  | zero=>exact zdG h
  | succ n1 =>
   obtain ⟨ag1,hag1⟩:∃ ag,ag=zaF (fun _=>none) (zdc r1 j1) n1:=⟨_,rfl⟩
   have h:zdc r1 j1 ag1 i3=some r:=by rw [hag1]; exact h
   unfold zdc at h
   refine zaJ (zyG (zyR 2 rfl (zbd (k:=1) rfl dc rfl rfl Tryd.underlying27 (zaT rfl zbf (zyN ?_)))))
   refine zyB rfl h (fun h => ?_) (fun h => ?_)
   ·
    refine zas (zaL (zaJ (zaE (zyG (zyR 2 rfl ?_)))))
    obtain ⟨q1,hq2,h⟩:=zbg h
    refine zan (k:=1) hq2 Tryd.underlying27 zkv rfl dc rfl rfl rfl rfl (zab znB rfl dc rfl (show _=((i3:Int).toNat)*6 from rfl) (zaB (i:=(i3:Int).toNat) (j:=0) (k:=1) (q:=q1) zoT zdu rfl dc rfl rfl (zaC hq2) rfl dc rfl (zb6 rfl dc rfl Tryd.underlying9 (zaT rfl zcA (zyN ?_)))))
    refine zyB rfl h (fun h => ?_) (fun h => ?_)
    ·
     refine zyG (zyR 4 rfl (zyN (zaI (zaD (zau (zau (zaD (zau ?_))))))))
     refine zdO zbc zbb 69 ?_
     refine zdw (enc:=zbr) (e:=57) (size:=6) ?_
     cases h
     exact zaK (rs:=[.tmp 4,.tmp 5,.tmp 6,.tmp 7]) ((.pointer none),(.slice none 0 0)) (.inl rfl) Tryd.results6 (.cons (.tmp rfl) (.cons (.tmp rfl) (.cons (.tmp rfl) (.cons (.tmp rfl) .nil)))) rfl (zae [2,3] kr rfl)
    refine zas (zag (zaL (zax (zyR 1 rfl ?_))))
    obtain ⟨hg1,h⟩:=zbk h
    refine zaT rfl (zaQ (r:=i3+1) (IntWalk.i64_in _ hg1)) (zyR 1 rfl (zaR ?_))
    subst hag1
    exact za4 (n1,i3+1) h (Nat.lt_succ_self _) rfl (za0 rfl) (zae [0,1] kr rfl)
   refine za2 (zam (zam (zav ?_)))
   exact zak () h rfl (za0 rfl) (zae [0,1] kr rfl)
 rintro _ h
 rw [hj1] at h
 refine zyG (zyR 1 rfl ?_)
 obtain ⟨r2,hq3,h⟩:=zbg h
 refine zea (vs:=[.string text1]) rfl dc rfl rfl rfl zvR (zmC hq3) Splits.nil ?_
 rintro v2
 refine zd7 (L':=[cells b1 (zr0 l1) 23,zv7 hd1.v r1.1,zi7 zcU zcS 81 v2 r2.1]) (zae [0,1,2] kr rfl) (zyR 1 rfl (zaU rfl dc rfl rfl (zaU rfl dc rfl rfl ?_)))
 refine zbt zqC rfl dc (fun b2 => ?_)
 refine zyR 1 rfl (zaY (k:=3) (vs:=(zr6 r2.2)) (l':=(zr6 r2.2)) zjy rfl rfl rfl rfl rfl (show _≤_ by simp) rfl rfl ?_)
 refine zyN (zaJ (zyG (zyR 1 rfl ?_)))
 refine zke (k:=2) rfl (fun hv1 => ?_)
 refine zaT rfl (zk9 Tryd.underlying39 hv1) (zyR 1 rfl ?_)
 refine zyS (s:=45) rfl h (fun h => ?_) (fun h => ?_)
 ·
  refine zyR 4 rfl (zyN (za7 rfl (zyG (zyR 4 rfl (zaR ?_)))))
  refine zaL (zaI (zau (zdO zbc zbb 69 ?_)))
  refine zdw (enc:=zbr) (e:=57) (size:=6) ?_
  cases h
  exact zaK (rs:=[.tmp 4,.tmp 5,.tmp 6,.tmp 7]) ((.pointer none),(.slice none 0 0)) (.inl rfl) Tryd.results6 (.cons (.tmp rfl) (.cons (.tmp rfl) (.cons (.tmp rfl) (.cons (.tmp rfl) .nil)))) rfl (zae [4,5] kr rfl)
 refine zab zpX rfl dc rfl (show _=0 from rfl) (zar (k:=3) ztQ rfl dc rfl rfl rfl (zaT rfl zce (zyR 1 rfl (zyN ?_))))
 refine zyB rfl h (fun h => ?_) (fun h => ?_)
 ·
  refine zyG (zyR 4 rfl (zyN (zaI (zau (zdO zbc zbb 69 ?_)))))
  refine zdw (enc:=zbr) (e:=57) (size:=6) ?_
  cases h
  exact zaK (rs:=[.tmp 4,.tmp 5,.tmp 6,.tmp 7]) ((.pointer none),(.slice none 0 0)) (.inl rfl) Tryd.results6 (.cons (.tmp rfl) (.cons (.tmp rfl) (.cons (.tmp rfl) (.cons (.tmp rfl) .nil)))) rfl (zae [4,5] kr rfl)
 refine zas (zaL (zyG (zyR 1 rfl (zba (k:=0) (cs:=(zr0 l1)) ziv rfl dc rfl rfl rfl rfl ?_))))
 obtain ⟨p1,hq4,h⟩:=zbg h
 refine znQ (As:=[zi7 zcU zcS 81 v2 r2.1]) (zae [2] kr rfl) (zg0 hq4) ?_
 rintro ⟨b3,hd2,hd3⟩ hv2
 subst hv2
 obtain ⟨r3,hq5,h⟩:=zbg h
 refine zhc (vs:=[zP b3,.agg (zr0 l1).toArray]) (Rd.nil:Rd _ _ []) rfl dc rfl rfl rfl zvQ (znu (bx1:=b3) (x1:=p1) (x1_h0:=hd2) (x1_h1:=hd3) (l1:=l1) hq5) Splits.nil (.own (zae [4] (by kernel_rfl) rfl) (fun _ _ h=>sepL.one1.1 h) (.own (zae [5] (by kernel_rfl) rfl) (fun _ _ h=>sepL.one1.1 h) (.own (zae [6] (by kernel_rfl) rfl) (fun _ _ h=>sepL.one1.1 h) .nil))) ?_
 rintro v3
 refine zd7 (L':=[cells b1 (zr0 l1) 23,zv7 hd1.v r1.1,emp,cells b2 (zr6 r2.2) 59,cells b3 [.string p1.told_title,hd2.v,hd3.v,.string p1.source] 81,zv7 hd2.v p1.told_lines,zv6 hd3.v p1.told_stanzas,zi7 zbc zbb 69 v3 r3.1]) (zae [0,1,2,3,4,5,6,7] kr rfl) (zyR 1 rfl (zaU rfl dc rfl rfl (zaU rfl dc rfl rfl (zyR 2 rfl (zyH (zba (k:=0) (cs:=(zr0 l1)) ziv rfl dc rfl rfl rfl rfl ?_))))))
 obtain ⟨r4,hq6,h⟩:=zbg h
 refine zbq (v:=.bool r4) (vs:=[.agg (zr0 l1).toArray]) rfl dc rfl rfl rfl zvP (zmA (l1:=l1) hq6) (zyR 1 rfl (zyN (zaJ (zyG (zyR 1 rfl (zdU rfl dc rfl zcy (zyN ?_)))))))
 refine zyB rfl h (fun h => ?_) (fun h => ?_)
 ·
  refine zyG (zyR 1 rfl ?_)
  refine zke (k:=7) rfl (fun hv3 => ?_)
  refine zaT rfl (zk9 Tryd.underlying26 hv3) (zyR 1 rfl ?_)
  refine zyS (s:=62) rfl h (fun h => ?_) (fun h => ?_)
  ·
   refine zyR 1 rfl (zaT rfl zaP (zyR 5 rfl (zyN (zaI (zau (zdO zbc zbb 69 ?_))))))
   refine zdw (enc:=zbr) (e:=57) (size:=6) ?_
   cases h
   exact zaK (rs:=[.tmp 4,.tmp 5,.tmp 6,.tmp 7]) ((.pointer none),(.slice none 0 0)) (.inl rfl) Tryd.results6 (.cons (.tmp rfl) (.cons (.tmp rfl) (.cons (.tmp rfl) (.cons (.tmp rfl) .nil)))) rfl (zae [8,9] kr rfl)
  refine zyR 7 rfl (zyN (zaI (zau (zdO zbc zbb 69 ?_))))
  refine zdw (enc:=zbr) (e:=57) (size:=6) ?_
  cases h
  exact zaK (rs:=[.tmp 4,.tmp 5,.tmp 6,.tmp 7]) ((.pointer none),(.slice none 0 0)) (.inl rfl) Tryd.results6 (.cons (.tmp rfl) (.cons (.tmp rfl) (.cons (.tmp rfl) (.cons (.tmp rfl) .nil)))) rfl (zae [8,9] kr rfl)
 refine zas (zaL (zyG (zyR 3 rfl ?_)))
 refine zke (k:=7) rfl (fun hv4 => ?_)
 refine zaT rfl (zoR Tryd.underlying26 hv4) (zyR 1 rfl ?_)
 refine zyS (s:=70) rfl h (fun h => ?_) (fun h => ?_)
 ·
  refine zyR 1 rfl (zaT rfl zaP (zyR 5 rfl (zyN (zaI ?_))))
  cases h
  exact zaK (rs:=[.tmp 4,.tmp 5,.tmp 6,.tmp 7]) (v3,hd1.v) (.inl rfl) Tryd.results6 (.cons (.tmp rfl) (.cons (.tmp rfl) (.cons (.tmp rfl) (.cons (.tmp rfl) .nil)))) rfl (zae [7,1] kr rfl)
 refine zyR 7 rfl (zyN (zaI ?_))
 cases h
 exact zaK (rs:=[.tmp 4,.tmp 5,.tmp 6,.tmp 7]) (v3,hd1.v) (.inl rfl) Tryd.results6 (.cons (.tmp rfl) (.cons (.tmp rfl) (.cons (.tmp rfl) (.cons (.tmp rfl) .nil)))) rfl (zae [7,1] kr rfl)
end Go.Proofs.YtbempdelckaccaaDoor

namespace Go.Proofs.YtbempdelckaccaaDoor
open Go.RowKit Go.Lib
set_option linter.unusedVariables false
set_option linter.unusedSimpArgs false
theorem zrE {z:List Row} {k:Nat} (ih:∀ vs:List Gapi_Verse,vs.map zoJ=(zfR (k+1) z).map zpL→Stp ((k+1:Nat):Int) vs):∀ (r:Row) (j:Nat) (vs:List Gapi_Verse),vs.map zoJ=((zhD j r).map (fun p=>(k,p))++zfR (k+1) z).map zpL→Stp ((k+1:Nat):Int) vs
 | [],j,vs,h=>ih vs h
 | x::r,j,[],h=>trivial
 | x::r,j,v::vs,h=>by
  obtain ⟨h1,h2⟩:=List.cons.inj (show zoJ v::vs.map zoJ=zpL (k,j,x)::((zhD (j+1) r).map (fun p=>(k,p))++zfR (k+1) z).map zpL from h)
  have hs:v.Stanza=(k:Int):=congrArg (fun q=>q.2.2.1) h1
  refine ⟨.inr ⟨by omega,by omega⟩,?_⟩
  rw [hs,show (k:Int)+1=((k+1:Nat):Int) by omega]
  exact zrE ih r (j+1) vs h2
theorem znZ:∀ (z:List Row) (k:Nat) (vs:List Gapi_Verse),(∀ r∈z,r≠[])→vs.map zoJ=(zfR k z).map zpL→Stp (k:Int) vs
 | [],k,vs,_,h=>by
  have:vs=[]:=by simpa [zfR] using h
  rw [this]; trivial
 | []::z,k,vs,hne,h=>absurd rfl (hne [] (List.mem_cons_self ..))
 | (x::r)::z,k,[],hne,h=>trivial
 | (x::r)::z,k,v::vs,hne,h=>by
  obtain ⟨h1,h2⟩:=List.cons.inj (show zoJ v::vs.map zoJ=zpL (k,0,x)::((zhD 1 r).map (fun p=>(k,p))++zfR (k+1) z).map zpL from h)
  have hs:v.Stanza=(k:Int):=congrArg (fun q=>q.2.2.1) h1
  refine ⟨.inl hs,?_⟩
  rw [hs,show (k:Int)+1=((k+1:Nat):Int) by omega]
  exact zrE (fun vs h=>znZ z (k+1) vs (fun r hr=>hne r (List.mem_cons_of_mem _ hr)) h) r 1 vs h2
theorem zqi (n:Nat):zim (List.replicate n 32)=true:=by
 unfold zim
 rw [List.all_eq_true]
 intro b hb
 rw [(List.mem_replicate.1 hb).2]; rfl
theorem OkP.okV {p:Gpoem_Poem} {t:List UInt8} {z:List Row} (h:OkP p t z):∀ v∈p.told_lines,OkV v:=by
 intro v hv
 obtain ⟨i,hi⟩:=List.getElem?_of_mem hv
 have hk:(p.told_lines.map zoJ)[i]?=some (zoJ v):=by rw [List.getElem?_map,hi]; rfl
 rw [show p.told_lines.map zoJ=(zfR 0 z).map zpL from h.vok,List.getElem?_map] at hk
 obtain ⟨q,hq,he⟩:=Option.map_eq_some_iff.1 hk
 obtain ⟨r,hr,hx⟩:=zmK z 0 q (List.mem_of_getElem? hq)
 have hg:=h.ln r hr _ hx
 have e1:v.Text=mkB (q.2.2.drop (ind q.2.2)):=(congrArg (fun q=>q.1) he).symm
 have e2:v.Indent=(ind q.2.2:Int):=(congrArg (fun q=>q.2.1) he).symm
 have hle:=zpO q.2.2
 have hl:=hg.le
 refine ⟨?_,?_,?_⟩
 ·rw [e1,zbP,List.length_drop]; omega
 ·rw [e1,zbP]
  cases hd:q.2.2.drop (ind q.2.2) with
  | nil =>
   have:=zmQ q.2.2
   rw [hd,List.append_nil] at this
   have hb:=hg.bl
   rw [← this,zqi] at hb
   cases hb
  | cons b l=>simp
 ·rw [e2]; omega
theorem OkP.stp {p:Gpoem_Poem} {t:List UInt8} {z:List Row} (h:OkP p t z):Stp 0 p.told_lines:=znZ z 0 p.told_lines h.ne h.vok
def zrU:Gapi_Row:=⟨-1,0,0,0,0,ByteArray.empty⟩
def pgL:Option Int→List Gapi_Row→List Gapi_Row
 | _,[]=>[]
 | none,r::rs=>r::pgL (some r.Stanza) rs
 | some s,r::rs=>if r.Stanza=s then r::pgL (some r.Stanza) rs else zrU::r::pgL (some r.Stanza) rs
theorem zn5 (s:Int) (r:Gapi_Row) (rs:List Gapi_Row):pgL (some s) (r::rs)=if r.Stanza=s then r::pgL (some r.Stanza) rs else zrU::r::pgL (some r.Stanza) rs:=rfl
def zmF (rows:List Gapi_Row):Nat→List Nat→List (List Gapi_Row)
 | _,[]=>[]
 | f,t::ts=>pgL none ((rows.drop f).take (t - f))::zmF rows t ts
def znL (l:Gapi_Layout) (vs:List Gapi_Verse):Gpage_Book:=⟨l.Width,l.Height,l.Turn,l.Every,zmF (zdf l 0 vs) 0 (zkG (zdf l 0 vs) l.Height),zgu l vs+(Tt (zdf l 0 vs) l.Height 0).cost⟩
theorem zkY (rows:List Gapi_Row):∀ (ts:List Nat) (f:Nat),(zmF rows f ts).length=ts.length
 | [],_=>rfl
 | t::ts,f=>by show (zmF rows t ts).length+1=_; rw [zkY rows ts]; rfl
theorem ztO {rows:List Gapi_Row} (hn:rows.length≤1000000) (c H:Int) (Bl F L:List Int) (f:Nat) (j3:Int→(List Gapi_Row)→Option ((Option Gpage_Book)×Int)) (t:Nat) (ht:t≤rows.length) :
  ∀ (d k m:Nat) (pg:List Gapi_Row),f≤k→k+d=t→d<m→pg.length≤2*(k - f)→zaF (fun _ _=>none) (zdA (c,(⟨rows,Bl,F,L,H⟩:Gpage_parter)) (f:Int) j3 (t:Int)) m pg (k:Int)=j3 (t:Int) (pg++pgL (if f<k then some (stz rows (k - 1)) else none) ((rows.drop k).take (t - k))):=by
 intro d
 induction d with
 | zero =>
  intro k m pg hf hk hm hp
  obtain ⟨m,rfl⟩:∃ q,m=q+1:=⟨m - 1,by omega⟩
  rw [zcv]
  generalize zaF (fun _ _=>none) (zdA (c,(⟨rows,Bl,F,L,H⟩:Gpage_parter)) (f:Int) j3 (t:Int)) m=ag
  unfold zdA
  refine zay (decide_eq_false (by omega)) ?_
  have e:(rows.drop k).take (t - k)=[]:=by rw [show t - k=0 by omega,List.take_zero]
  have e2:∀ o,pgL o []=[]:=fun o=>by cases o <;> rfl
  rw [e,e2,List.append_nil]
 | succ d ih =>
  intro k m pg hf hk hm hp
  obtain ⟨m,rfl⟩:∃ q,m=q+1:=⟨m - 1,by omega⟩
  rw [zcv]
  have ih':=fun pg h=>ih (k+1) m pg (by omega) (by omega) (by omega) h
  generalize zaF (fun _ _=>none) (zdA (c,(⟨rows,Bl,F,L,H⟩:Gpage_parter)) (f:Int) j3 (t:Int)) m=ag at ih' ⊢
  have hr:rows[k]?=some rows[k]:=List.getElem?_eq_getElem (by omega)
  have hst:=zhr hr
  have hd:(rows.drop k).take (t - k)=rows[k]::(rows.drop (k+1)).take (t - (k+1)):=by
   rw [List.drop_eq_getElem_cons (show k<rows.length by omega),show t - k=t - (k+1)+1 by omega,List.take_succ_cons]
  rw [hd]
  rw [if_pos (show f<k+1 by omega),show k+1 - 1=k by omega,hst,show ((k+1:Nat):Int)=(k:Int)+1 by omega] at ih'
  have fin:∀ pg':List Gapi_Row,pg'.length+1≤2*(k+1 - f)→(zal (zbF rows (k:Int)) fun (q4:Gapi_Row)=>grd (pg'.length+1≤2147483648)<|grd (I64 ((k:Int)+1))<|ag (pg'++[q4]) ((k:Int)+1))=j3 (t:Int) (pg'++rows[k]::pgL (some rows[k].Stanza) ((rows.drop (k+1)).take (t - (k+1)))):=by
   intro pg' hp'
   refine zaM (zch hr) (zbm (by omega) (zbm ⟨by omega,by omega⟩ ?_))
   rw [ih' _ (by rw [List.length_append,List.length_singleton]; omega),List.append_assoc]; rfl
  unfold zdA
  refine zaz (decide_eq_true (by omega)) (zbE ?_)
  by_cases h0:f<k
  ·have hr0:rows[k - 1]?=some rows[k - 1]:=List.getElem?_eq_getElem (by omega)
   have hst0:=zhr hr0
   rw [if_pos h0,hst0]
   refine zaz (decide_eq_true (by omega)) (zaM (zch hr) (zbm ⟨by omega,by omega⟩ (zaM (zdm (n:=k - 1) (by omega) hr0) ?_)))
   by_cases he:rows[k].Stanza=rows[k - 1].Stanza
   ·refine zay (zuJ he) ((fin pg (by omega)).trans ?_)
    rw [zn5,if_pos he]
   ·refine zaz (zsM he) (zbm (by omega) ((fin _ (by rw [List.length_append,List.length_singleton]; omega)).trans ?_))
    rw [zn5,if_neg he,List.append_assoc]; rfl
  ·rw [if_neg h0]
   refine zay (decide_eq_false (by omega)) ((fin pg (by omega)).trans ?_)
   rfl
theorem zpk {rows:List Gapi_Row} (hn:rows.length≤1000000) (c c2 H:Int) (Bl F L:List Int) (R:Nat→Nat→Bool) (j1:(List (List Gapi_Row))→Int→Option ((Option Gpage_Book)×Int)) (E:List Nat) :
  ∀ (ts pre:List Nat) (f m:Nat) (out:List (List Gapi_Row)),E=pre++ts→zrs R rows.length f ts→ts.length<m→out.length≤f→out.length=pre.length →
  zaF (fun _ _ _=>none) (zdB j1 (c,(⟨rows,Bl,F,L,H⟩:Gpage_parter)) (E.map (fun t=>((t:Nat):Int)),c2)) m out (f:Int) (pre.length:Int)=j1 (out++zmF rows f ts) (c+c2)
 | [],pre,f,m,out,hE,hr,hm,ho,hp=>by
  obtain ⟨m,rfl⟩:∃ q,m=q+1:=⟨m - 1,by simp at hm; omega⟩
  rw [zcv]
  generalize zaF (fun _ _ _=>none) (zdB j1 (c,(⟨rows,Bl,F,L,H⟩:Gpage_parter)) (E.map (fun t=>((t:Nat):Int)),c2)) m=ag
  unfold zdB
  refine zay (decide_eq_false (by rw [List.length_map,hE]; simp)) ?_
  show j1 out (c+c2)=j1 (out++[]) (c+c2)
  rw [List.append_nil]
 | t::ts,pre,f,m,out,hE,hr,hm,ho,hp=>by
  obtain ⟨m,rfl⟩:∃ q,m=q+1:=⟨m - 1,by simp at hm; omega⟩
  obtain ⟨r1,r2,_,r3⟩:=hr
  have ih:=zpk hn c c2 H Bl F L R j1 E ts (pre++[t]) t m (out++[pgL none ((rows.drop f).take (t - f))]) (by rw [hE]; simp) r3 (by simp at hm; omega) (by simp; omega) (by simp; omega)
  have hpl:pre.length<E.length:=by rw [hE]; simp
  rw [zcv]
  generalize zaF (fun _ _ _=>none) (zdB j1 (c,(⟨rows,Bl,F,L,H⟩:Gpage_parter)) (E.map (fun t=>((t:Nat):Int)),c2)) m=ag at ih ⊢
  have hg:(E.map (fun t=>((t:Nat):Int)))[pre.length]?=some (t:Int):=by rw [List.getElem?_map,hE]; simp
  rw [show (((pre++[t]).length:Nat):Int)=(pre.length:Int)+1 by simp] at ih
  unfold zdB
  refine zaz (znw hg) (zbE (zbE (zaM (zch hg) ?_)))
  have hin:=ztO hn c H Bl F L f (fun (to1:Int) (page1:List Gapi_Row)=>grd (out.length+1≤2147483648)<|grd (I64 ((pre.length:Int)+1))<|ag (out++[page1]) to1 ((pre.length:Int)+1)) t r2 (t - f) f zbW [] (Nat.le_refl _) (by omega) (zb5 (by omega)) (Nat.zero_le _)
  refine hin.trans ?_
  rw [if_neg (Nat.lt_irrefl f),List.nil_append]
  refine zbm (by omega) (zbm ⟨by omega,by omega⟩ ?_)
  rw [ih,List.append_assoc]; rfl
theorem zrW {rows:List Gapi_Row} {F L:List Int} {H:Int} (hR:RowsOk rows F L) (hH:4≤H∧H≤200) (f:Nat):0≤(Tt rows H f).cost∧(Tt rows H f).cost≤2000000000000*1000000:=by
 have hok:=zkJ (R:=Rp rows H) (K:=Kp rows H) (n:=rows.length) (zng hR hH) rows.length f
 obtain ⟨a,b,_⟩:=hok
 have hn:=hR.n
 refine ⟨a,?_⟩
 show (Bf (Rp rows H) (Kp rows H) rows.length rows.length f).cost≤_
 omega
theorem zrJ {l:Gapi_Layout} (h:zkq l=true):4≤l.Height∧l.Height≤200:=by
 unfold zkq at h
 simp only [Bool.and_eq_true,decide_eq_true_eq] at h
 omega
theorem zwk (l:Gapi_Layout) (p:Gpoem_Poem) (hv:∀ v∈p.told_lines,OkV v) (hl:p.told_lines.length≤512) (hst:Stp 0 p.told_lines):zfC p l=if zkq l=true then some (some (znL l p.told_lines),0) else some (none,2):=by
 unfold zfC
 refine zaM (zvf l) ?_
 cases hm:zkq l with
 | false=>exact zaz rfl rfl
 | true =>
  rw [if_pos rfl]
  have hR:=zn3 hm p.told_lines hv hl hst
  have hH:=zrJ hm
  have hn:=hR.n
  have c1:=zj8 hm p.told_lines hv
  have c2:=zrW hR hH 0
  refine zay rfl (zbE (zaM (zsN l hm p l.Height hv hl hst) (zaM (zsL hR hH) (zbm ?_ ?_))))
  ·show I64 (zgu l p.told_lines+(Tt (zdf l 0 p.told_lines) l.Height 0).cost)
   exact ⟨by omega,by omega⟩
  ·have hr:=zk3 (R:=Rp (zdf l 0 p.told_lines) l.Height) (K:=Kp (zdf l 0 p.told_lines) l.Height) (n:=(zdf l 0 p.told_lines).length) (zng hR hH) (zoq hH) (zdf l 0 p.told_lines).length 0 (Nat.zero_le _) (by omega)
   have hlen:(zkG (zdf l 0 p.told_lines) l.Height).length≤(zdf l 0 p.told_lines).length:=by
    have key:∀ (ts:List Nat) (f:Nat),zrs (Rp (zdf l 0 p.told_lines) l.Height) (zdf l 0 p.told_lines).length f ts→f+ts.length≤(zdf l 0 p.told_lines).length:=by
     intro ts
     induction ts with
     | nil=>intro f h; have:f=_:=h; simp; omega
     | cons t ts ih=>intro f h; obtain ⟨a,b,_,d⟩:=h; have:=ih t d; rw [List.length_cons]; omega
    have h9:=key _ _ hr
    have h8:(zkG (zdf l 0 p.told_lines) l.Height).length≤(zdf l 0 p.told_lines).length:=by rw [Nat.zero_add] at h9; exact h9
    exact h8
   exact zpk hn (zgu l p.told_lines) (Tt (zdf l 0 p.told_lines) l.Height 0).cost l.Height _ _ _ _ (fun (b3:List (List Gapi_Row)) (b4:Int)=>some ((some (⟨l.Width,l.Height,l.Turn,l.Every,b3,b4⟩:Gpage_Book)),0)) (zkG (zdf l 0 p.told_lines) l.Height) (zkG (zdf l 0 p.told_lines) l.Height) [] 0 zbW [] rfl hr (zb5 (n:=(zkG (zdf l 0 p.told_lines) l.Height).length) (by omega)) (Nat.le_refl _) rfl
theorem zsz {U:List UInt8} {e:Gapi_Spot} (h:rd U=.error e):e.Err=3:=by
 have key:∀ (xs:List (Nat×List UInt8)) (st:RS),zgB st xs=.error e→e.Err=3:=by
  intro xs
  induction xs with
  | nil=>intro st h; cases h
  | cons x xs ih =>
   intro st h
   unfold zgB at h
   cases hs:zfL st x with
   | ok s1=>rw [hs] at h; exact ih s1 h
   | error e' =>
    rw [hs] at h
    have:e'=e:=by cases h; rfl
    subst this
    unfold zfL at hs
    split at hs
    ·cases hs
    split at hs
    ·cases hs; rfl
    split at hs
    ·cases hs
    split at hs
    ·cases hs; rfl
    ·cases hs
 unfold rd at h
 split at h
 ·cases h; rfl
 ·exact key _ _ h
structure PgOk (vs:List Gapi_Verse):Prop where
 ok:∀ v∈vs,OkV v
 len:vs.length≤60
 stp:Stp 0 vs
 sz:∀ v∈vs,v.Text.size≤200
theorem zqN (vs:List Gapi_Verse) (b:Bool) (hl:vs.length≤60) (j:Option ((Option Gpage_Book)×(List Gapi_Verse)×Bool×Bool)):∀ (d i m:Nat),i+d=vs.length→d<m→zaF (fun _=>none) (zdc (vs,b) j) m (i:Int)=if (vs.drop i).all (fun v=>decide (v.Text.size≤200))=true then j else some (none,([]:List Gapi_Verse),false,true):=by
 intro d
 induction d with
 | zero =>
  intro i m hi hm
  obtain ⟨m,rfl⟩:∃ q,m=q+1:=⟨m - 1,by omega⟩
  rw [zcv]
  generalize zaF (fun _=>none) (zdc (vs,b) j) m=ag
  unfold zdc
  refine zay (decide_eq_false (by show ¬ (i:Int)<(vs.length:Int); omega)) ?_
  rw [List.drop_of_length_le (by omega)]; rfl
 | succ d ih =>
  intro i m hi hm
  obtain ⟨m,rfl⟩:∃ q,m=q+1:=⟨m - 1,by omega⟩
  rw [zcv]
  have ih':=ih (i+1) m (by omega) (by omega)
  rw [show ((i+1:Nat):Int)=(i:Int)+1 by omega] at ih'
  generalize zaF (fun _=>none) (zdc (vs,b) j) m=ag at ih' ⊢
  have hv:vs[i]?=some vs[i]:=List.getElem?_eq_getElem (by omega)
  unfold zdc
  refine zaz (decide_eq_true (by show (i:Int)<(vs.length:Int); omega)) (zaM (zch hv) ?_)
  rw [List.drop_eq_getElem_cons (show i<vs.length by omega),List.all_cons]
  by_cases h:vs[i].Text.size≤200
  ·refine zay (decide_eq_false (by omega)) (zbm ⟨by omega,by omega⟩ ?_)
   rw [decide_eq_true h,Bool.true_and]; exact ih'
  ·rw [decide_eq_false h,Bool.false_and,if_neg (by decide)]
   exact zaz (decide_eq_true (by omega)) rfl
theorem zpm (T:List UInt8) (l:Gapi_Layout):zdC (mkB T) l=some (none,([]:List Gapi_Verse),false,true) ∨
  ∃ p t z,OkP p t z∧zkq l=true∧PgOk p.told_lines∧zeC (mkB T)=some (some p,(⟨0,0⟩:Gapi_Spot))∧zdC (mkB T) l=some (some (znL l p.told_lines),p.told_lines,true,true):=by
 have hr:=zpw T
 have hp:=ztX T
 cases hrd:rd T with
 | error e =>
  rw [hrd] at hr
  refine .inl ?_
  unfold zdC zd4
  have he:=zsz hrd
  exact zaM (zaM hr rfl) (zaz (by show (!((e.Err:Int)==0))=true; rw [he]; rfl) rfl)
 | ok st =>
  rw [hrd] at hr hp
  have hp:zeC (mkB T)=some (some (⟨mkB st.t,st.vs,ziu 0 st.stz,mkB T⟩:Gpoem_Poem),(⟨0,0⟩:Gapi_Spot)):=hp
  have hok:=(zu9 hrd).1.ok (mkB T)
  generalize hP:(⟨mkB st.t,st.vs,ziu 0 st.stz,mkB T⟩:Gpoem_Poem)=p at hp hok
  have hvs:p.told_lines=st.vs:=by rw [← hP]
  have hV:zd4 (mkB T)=some (p.told_lines,true):=by unfold zd4; rw [hvs]; exact zaM hr rfl
  have hov:=hok.okV
  have hst:=hok.stp
  have hSet:=fun h=>zwk l p hov h hst
  by_cases h60:p.told_lines.length≤60
  ·have hloop:=zqN p.told_lines true h60
   cases hall:p.told_lines.all (fun v=>decide (v.Text.size≤200)) with
   | false =>
    refine .inl ?_
    unfold zdC
    refine zaM hV (zay rfl (zay (decide_eq_false (by show ¬ (60:Int)<(p.told_lines.length:Int); omega)) (zbE ?_)))
    refine (hloop _ p.told_lines.length 0 zbW (by omega) (zb5 (by omega))).trans ?_
    rw [List.drop_zero,hall]; rfl
   | true =>
    have run:∀ x,(zal (zfC p l) fun (r3:((Option Gpage_Book)×Int))=>zal (ze9 l) fun (r4:Bool)=>zaw (!r4) (zaw (r3.1.isNone) (some (none,([]:List Gapi_Verse),false,(r3.2:Int)==2)) (some (none,([]:List Gapi_Verse),false,false))) (zaw (!r3.1.isNone) (some (r3.1,p.told_lines,true,(r3.2:Int)==0)) (some (r3.1,p.told_lines,true,false))))=x→zdC (mkB T) l=x:=by
     intro x hx
     unfold zdC
     refine zaM hV (zay rfl (zay (decide_eq_false (by show ¬ (60:Int)<(p.told_lines.length:Int); omega)) (zbE ?_)))
     refine (hloop _ p.told_lines.length 0 zbW (by omega) (zb5 (by omega))).trans ?_
     rw [List.drop_zero,hall,if_pos rfl]
     exact zaM hp (zay rfl (zay rfl (zaM rfl hx)))
    have hS:=hSet (by omega)
    cases hm:zkq l with
    | false =>
     rw [hm,if_neg (by decide)] at hS
     exact .inl (run _ (zaM hS (zaM (zrH l) (by rw [hm]; exact zaz rfl (zaz rfl rfl)))))
    | true =>
     rw [hm,if_pos rfl] at hS
     refine .inr ⟨p,st.t,st.stz,hok,rfl,⟨hov,h60,hst,fun v hv => ?_⟩,hp,run _ (zaM hS (zaM (zrH l) (by rw [hm]; exact zay rfl (zaz rfl rfl))))⟩
     have:=List.all_eq_true.1 hall v hv
     exact of_decide_eq_true this
  ·refine .inl ?_
   unfold zdC
   exact zaM hV (zay rfl (zaz (decide_eq_true (by show (60:Int)<(p.told_lines.length:Int); omega)) rfl))
end Go.Proofs.YtbempdelckaccaaDoor

namespace Go.Proofs.YtbempdelckaccaaDoor
open Go.RowKit Go.Lib
set_option linter.unusedVariables false
set_option linter.unusedSimpArgs false
def zcc (l1:Gapi_Layout) (cuts1:List Int) (j1:(List Gapi_Row)→Int→Int→Option Bool) (r3:((List Gapi_Row)×Int)) (ag1:Int→Int→Int→Option Bool) (from3:Int) (sum4:Int) (i3:Int):Option Bool :=
zaw (decide ((i3:Int)≤(cuts1.length:Int))) (
zbl (fun (j2:Int→Int→Option Bool) =>
zbl (fun (j3:Int→Option Bool) =>
zaw (decide ((i3:Int)<(cuts1.length:Int))) (
zal (zbF cuts1 i3) fun (q1:Int) =>
j3 q1
) (
j3 (r3.1.length:Int)
)
) (fun (to1:Int) =>
zbl (fun (j4:Bool→Bool→Option Bool) =>
zaw (decide ((to1:Int)≤from3)) (
j2 from3 sum4
) (
zaw (decide (((r3.1.length:Int):Int)<to1)) (
j2 from3 sum4
) (
zaw (decide ((i3:Int)<(cuts1.length:Int))) (
zaw ((to1:Int)==(r3.1.length:Int)) (
j2 from3 sum4
) (
j4 true ((to1:Int)==(r3.1.length:Int))
)
) (
j4 false false
)
)
)
) (fun (x1:Bool) (x2:Bool) =>
grd (0≤(from3:Int)∧(from3:Int)≤to1∧(to1:Int)≤(r3.1.length:Int)) <|
zal (zeJ (zjp r3.1 from3 to1)) fun (r4:Int) =>
zaw (decide ((l1.Height:Int)<r4)) (
some true
) (
zbl (fun (j5:Int→Option Bool) =>
zaw (decide ((to1:Int)<(r3.1.length:Int))) (
grd (I64 (l1.Height - r4)) <|
grd (I64 (l1.Height - r4)) <|
grd (I64 ((l1.Height - r4)*(l1.Height - r4))) <|
zal (zfa r3.1 to1) fun (r5:Int) =>
grd (I64 (((l1.Height - r4)*(l1.Height - r4))+r5)) <|
grd (I64 (sum4+(((l1.Height - r4)*(l1.Height - r4))+r5))) <|
j5 (sum4+(((l1.Height - r4)*(l1.Height - r4))+r5))
) (
j5 sum4
)
) (fun (sum6:Int) =>
j2 to1 sum6
)
)
)
)
) (fun (from4:Int) (sum5:Int) =>
grd (I64 (i3+1)) <|
ag1 from4 sum5 (i3+1)
)
) (
j1 r3.1 r3.2 sum4
)
def zeW (text1:ByteArray) (l1:Gapi_Layout) (cuts1:List Int):Option Bool :=
zal (zfZ) fun (r1:Bool) =>
zaw (!r1) (
some false
) (
zaw (decide ((1200:Int)<(text1.size:Int))) (
some true
) (
zal (zdC text1 l1) fun (r2:((Option Gpage_Book)×(List Gapi_Verse)×Bool×Bool)) =>
zaw (!r2.2.2.2) (
some r2.2.2.2
) (
zaw (!r2.2.2.1) (
some r2.2.2.2
) (
zbl (fun (j1:(List Gapi_Row)→Int→Int→Option Bool) =>
zal (zfn r2.2.1 l1) fun (r3:((List Gapi_Row)×Int)) =>
zaF (fun _ _ _=>none) (zcc l1 cuts1 j1 r3) zbW 0 0 0
) (fun (rows1:List Gapi_Row) (n1:Int) (sum1:Int) =>
zal (r2.1) fun (p1:Gpage_Book) =>
zal (zdY p1) fun (r6:Int) =>
grd (I64 (n1+sum1)) <|
zaw (decide ((r6:Int)≤(n1+sum1))) (
zal (zdM p1) fun (r7:Int) =>
some ((((rows1.length:Int):Int)==0)==((r7:Int)==0))
) (
some false
)
)
)
)
)
)
theorem zi8 {text1:ByteArray} {l1:Gapi_Layout} {vvcuts1 vcuts1:Value} {Lcuts1:List Int} {kcuts1:Nat} {cuts1:List Int} (hwcuts1:Vw vvcuts1 Lcuts1 1 kcuts1 vcuts1 cuts1) {r:Bool} (h:zeW text1 l1 cuts1=some r):FnR Tryd.prog 3 [.string text1,.agg (zr0 l1).toArray,vcuts1] [zhS (znE (.i64)) 1 vvcuts1 kcuts1 Lcuts1] [] (fun _:Unit=>(.bool r)) (fun _=>[]):=by
 unfold zeW at h
 refine FnR.intro Tryd.func3 rfl Tryd.ntmps3 (by simp) ?_
 intro w0 K hrd
 refine zyG ?_
 refine zdQ rfl dc rfl (fun b1 => ?_)
 refine zyR 1 rfl (zyN (zaJ (zyG ?_)))
 obtain ⟨r1,hq1,h⟩:=zbg h
 refine zbq (v:=.bool r1) (vs:=[]) rfl dc rfl rfl rfl zwF (zlH hq1) (zdU rfl dc rfl zcy (zyN ?_))
 refine zyB rfl h (fun h => ?_) (fun h => ?_)
 ·
  refine zyG (zyR 1 rfl (zyN (zaI (zau ?_))))
  cases h
  exact zaK (rs:=[.tmp 6]) () (.inl rfl) Tryd.results3 (.cons (.tmp rfl) .nil) rfl Splits.nil
 refine zas (zaL (zaJ (zyG (zyR 1 rfl (zb6 rfl dc rfl Tryd.underlying9 (zaT rfl zcA (zyN ?_)))))))
 refine zyB rfl h (fun h => ?_) (fun h => ?_)
 ·
  refine zyG (zyR 1 rfl (zyN (zaI (zau ?_))))
  cases h
  exact zaK (rs:=[.tmp 6]) () (.inl rfl) Tryd.results3 (.cons (.tmp rfl) .nil) rfl Splits.nil
 refine zas (zaL (zyG (zyR 1 rfl (zba (k:=0) (cs:=(zr0 l1)) ziv rfl dc rfl rfl rfl rfl ?_))))
 obtain ⟨r2,hq2,h⟩:=zbg h
 refine zea (vs:=[.string text1,.agg (zr0 l1).toArray]) rfl dc rfl rfl rfl zwE (zmN (l1:=l1) hq2) Splits.nil ?_
 rintro ⟨v1,v2⟩
 refine zbL (k:=2) rfl (fun hd1 he1 => ?_)
 subst he1
 refine zyR 1 rfl (zaU rfl dc rfl rfl (zaU rfl dc rfl rfl (zaU rfl dc rfl rfl (zaU rfl dc rfl rfl (zyR 4 rfl (zyN (zaJ (zyG ?_))))))))
 refine zyR 1 rfl (zdU rfl dc rfl zcy (zyR 1 rfl ?_))
 refine zyS (s:=33) rfl h (fun h => ?_) (fun h => ?_)
 ·
  refine zyR 3 rfl (zyN (za7 rfl (zyG (zyR 2 rfl (zyN (zaI (zau ?_)))))))
  cases h
  exact zaK (rs:=[.tmp 6]) () (.inl rfl) Tryd.results3 (.cons (.tmp rfl) .nil) rfl Splits.nil
 refine zyR 1 rfl (zdU rfl dc rfl zcy (zyR 1 rfl (zyN ?_)))
 refine zyB rfl h (fun h => ?_) (fun h => ?_)
 ·
  refine zyG (zyR 2 rfl (zyN (zaI (zau ?_))))
  cases h
  exact zaK (rs:=[.tmp 6]) () (.inl rfl) Tryd.results3 (.cons (.tmp rfl) .nil) rfl Splits.nil
 refine zas (zaL ?_)
 obtain ⟨j1,hj1,h⟩:=zbK h
 refine zaX (β:=(List Gapi_Row)×Int×Int×Hd) 2 rfl (fun b=>j1 b.1 b.2.1 b.2.2.1=some r) (fun b=>[]) (fun b=>[(7,v1),(11,b.2.2.2.v),(12,zI b.2.1),(14,zI b.2.2.1)]) (fun b=>[zi7 zbc zbb 69 v1 r2.1,zv1 b.2.2.2.v b.1]) (fun cut => ?_) ?_
 ·
  refine zyG (zyR 1 rfl (zba (k:=0) (cs:=(zr0 l1)) ziv rfl dc rfl rfl rfl rfl ?_))
  refine zhb (k:=2) rfl (fun hw1 => ?_)
  obtain ⟨r3,hq3,h⟩:=zbg h
  refine zhc (vs:=[hd1.v,.agg (zr0 l1).toArray]) hrd rfl dc rfl rfl rfl zwD (zlA (l1:=l1) hw1 hq3) Splits.nil (.own (As:=[zv7 hd1.v r2.2.1]) (zae [2] (by kernel_rfl) rfl) (fun _ _ h=>zgb zdu (sepL.one1.1 h)) .nil) ?_
  rintro v3
  refine zbL (k:=3) rfl (fun hd3 he2 => ?_)
  subst he2
  refine zyR 1 rfl (zaU rfl dc rfl rfl (zaU rfl dc rfl rfl (zyR 2 rfl (zyH (zyR 2 rfl (zyN (cut ?_)))))))
  refine zyG (zyR 1 rfl (zyN (zaE ?_)))
  refine zbn (β:=Nat×Int×Int×Int) (fun b=>zaF (fun _ _ _=>none) (zcc l1 cuts1 j1 r3) b.1 b.2.1 b.2.2.1 b.2.2.2=some r) (fun b=>[]) (fun b=>[(2,vcuts1),(4,zP b1),(7,v1),(11,hd3.v),(12,zI r3.2),(13,zI b.2.1),(14,zI b.2.2.1),(15,zI b.2.2.2)]) (fun b=>[cells b1 (zr0 l1) 23,zi7 zbc zbb 69 v1 r2.1,zv1 hd3.v r3.1]) (fun b=>b.1) (zbW,0,0,0) h rfl (za0 rfl) (zae [0,1,3] kr rfl) ?_
  rintro ⟨n2,from3,sum4,i3⟩ h
  cases n2 with
  | zero=>exact zdG h
  | succ n2 =>
   obtain ⟨ag1,hag1⟩:∃ ag,ag=zaF (fun _ _ _=>none) (zcc l1 cuts1 j1 r3) n2:=⟨_,rfl⟩
   have h:zcc l1 cuts1 j1 r3 ag1 from3 sum4 i3=some r:=by rw [hag1]; exact h
   unfold zcc at h
   refine zaJ (zyG (zyR 2 rfl (zdy hwcuts1 rfl dc rfl Tryd.underlying24 (zaT rfl zc6 (zyN ?_)))))
   refine zyB rfl h (fun h => ?_) (fun h => ?_)
   ·
    refine zas (zaL ?_)
    obtain ⟨j2,hj2,h⟩:=zbK h
    refine zaX (β:=Int×Int) 0 rfl (fun b=>j2 b.1 b.2=some r) (fun b=>[]) (fun b=>[(2,vcuts1),(4,zP b1),(7,v1),(11,hd3.v),(12,zI r3.2),(13,zI b.1),(14,zI b.2),(15,zI i3)]) (fun b=>[cells b1 (zr0 l1) 23,zi7 zbc zbb 69 v1 r2.1,zv1 hd3.v r3.1]) (fun cut => ?_) ?_
    ·
     refine cut (zaE ?_)
     obtain ⟨j3,hj3,h⟩:=zbK h
     refine zaX (β:=Int) 1 rfl (fun b=>j3 b=some r) (fun b=>[]) (fun b=>[(2,vcuts1),(4,zP b1),(7,v1),(11,hd3.v),(12,zI r3.2),(13,zI from3),(14,zI sum4),(15,zI i3),(16,zI b)]) (fun b=>[cells b1 (zr0 l1) 23,zi7 zbc zbb 69 v1 r2.1,zv1 hd3.v r3.1]) (fun cut => ?_) ?_
     ·
      refine zyG (zyR 1 rfl (zbd (k:=2) rfl dc rfl rfl Tryd.underlying30 (zyR 1 rfl (zyN (cut (zyG (zyR 2 rfl (zdy hwcuts1 rfl dc rfl Tryd.underlying24 (zaT rfl zbf ?_)))))))))
      refine zyN ?_
      refine zyB rfl h (fun h => ?_) (fun h => ?_)
      ·
       refine zax (zyR 2 rfl ?_)
       obtain ⟨q1,hq4,h⟩:=zbg h
       refine za8 hwcuts1 hq4 Tryd.underlying24 zde rfl dc rfl rfl rfl (zci (n:=kcuts1+(i3:Int).toNat) (j:=0) (i:=0) (q:=q1) hrd rfl (by omega) zbh rfl dc rfl (Vw.get hwcuts1 hq4) rfl rfl (zyR 1 rfl (zaR ?_)))
       exact zak q1 h rfl (za0 rfl) (zae [0,1,2] kr rfl)
      refine zas ?_
      exact zak (r3.1.length:Int) h rfl (za0 rfl) (zae [0,1,2] kr rfl)
     rintro to1 h
     rw [hj3] at h
     obtain ⟨j4,hj4,h⟩:=zbK h
     refine zaX (β:=Bool×Bool) 0 rfl (fun b=>j4 b.1 b.2=some r) (fun b=>[]) (fun b=>[(2,vcuts1),(4,zP b1),(7,v1),(11,hd3.v),(12,zI r3.2),(13,zI from3),(14,zI sum4),(15,zI i3),(16,zI to1),(64,zI to1),(65,hd3.v),(66,zI (r3.1.length:Int)),(67,.bool (decide (((r3.1.length:Int):Int)<to1))),(70,zI i3),(71,vcuts1),(72,zI (cuts1.length:Int)),(73,.bool (decide ((i3:Int)<(cuts1.length:Int)))),(74,.bool b.1),(79,.bool b.2)]) (fun b=>[cells b1 (zr0 l1) 23,zi7 zbc zbb 69 v1 r2.1,zv1 hd3.v r3.1]) (fun cut => ?_) ?_
     ·
      refine cut (zyG (zyR 2 rfl (zaT rfl zc6 (zyR 1 rfl ?_))))
      refine zyS (s:=63) rfl h (fun h => ?_) (fun h => ?_)
      ·
       refine zyR 14 rfl ?_
       refine zyR 3 rfl (zyN (za7 rfl (za2 (zam (zav ?_)))))
       exact zak (from3,sum4) h rfl (za0 rfl) (zae [0,1,2] kr rfl)
      refine zyR 2 rfl (zbd (k:=2) rfl dc rfl rfl Tryd.underlying30 (zaT rfl zcA (zyR 2 rfl ?_)))
      refine zyS (s:=69) rfl h (fun h => ?_) (fun h => ?_)
      ·
       refine zyR 11 rfl (zyN (za7 rfl ?_))
       refine za2 (zam (zav ?_))
       exact zak (from3,sum4) h rfl (za0 rfl) (zae [0,1,2] kr rfl)
      refine zyR 2 rfl (zdy hwcuts1 rfl dc rfl Tryd.underlying24 (zaT rfl zbf (zyR 1 rfl ?_)))
      refine zyS (s:=74) rfl h (fun h => ?_) (fun h => ?_)
      ·
       refine zyR 2 rfl (zbd (k:=2) rfl dc rfl rfl Tryd.underlying30 (zaT rfl zaP (zyR 2 rfl (zyN ?_))))
       refine zyB rfl h (fun h => ?_) (fun h => ?_)
       ·
        refine za2 (zam (zav ?_))
        exact zak (from3,sum4) h rfl (za0 rfl) (zae [0,1,2] kr rfl)
       refine zas ?_
       exact zak (true,(to1:Int)==(r3.1.length:Int)) h rfl (za0 rfl) (zae [0,1,2] kr rfl)
      refine zyR 6 rfl (zyN (zaN rfl (zas ?_)))
      exact zak (false,false) h rfl (za0 rfl) (zae [0,1,2] kr rfl)
     rintro ⟨x1,x2⟩ h
     rw [hj4] at h
     refine zyG (zyR 3 rfl ?_)
     refine zhb (k:=2) rfl (fun hw2 => ?_)
     obtain ⟨hg1,h⟩:=zbk h
     obtain ⟨v4,hv1,hs1⟩:=zlp (lo:=some (zI from3)) (hi:=some (zI to1)) hw2 Tryd.underlying30 zfX (.inr rfl) (.inr rfl) hg1
     refine zdx rfl dc rfl rfl rfl hs1 ?_
     obtain ⟨r4,hq5,h⟩:=zbg h
     refine zco (v:=zI r4) (vs:=[v4]) hrd rfl dc rfl rfl rfl zwC (zlC hv1 hq5) (.own (As:=[zv1 hd3.v r3.1]) (zae [2] (by kernel_rfl) rfl) (fun _ _ h=>zoy zbQ (sepL.one1.1 h)) .nil) ?_
     refine zyR 1 rfl (zyN (zaJ (zyG (zyR 1 rfl (zab zgR rfl dc rfl (show _=1 from rfl) (zar (k:=0) zbh rfl dc rfl rfl rfl (zaT rfl zcA (zyN ?_))))))))
     refine zyB rfl h (fun h => ?_) (fun h => ?_)
     ·
      refine zyG (zyR 1 rfl (zyN (zaI (zau (zaD (zau (zau (zaD (zau ?_)))))))))
      cases h
      exact zaK (rs:=[.tmp 6]) () (.inl rfl) Tryd.results3 (.cons (.tmp rfl) .nil) rfl Splits.nil
     refine zas (zaL ?_)
     obtain ⟨j5,hj5,h⟩:=zbK h
     refine zaX (β:=Int) 0 rfl (fun b=>j5 b=some r) (fun b=>[]) (fun b=>[(2,vcuts1),(4,zP b1),(7,v1),(11,hd3.v),(12,zI r3.2),(14,zI b),(15,zI i3),(16,zI to1),(64,zI to1),(65,hd3.v),(66,zI (r3.1.length:Int)),(67,.bool (decide (((r3.1.length:Int):Int)<to1))),(70,zI i3),(71,vcuts1),(72,zI (cuts1.length:Int)),(73,.bool (decide ((i3:Int)<(cuts1.length:Int)))),(74,.bool x1),(79,.bool x2)]) (fun b=>[cells b1 (zr0 l1) 23,zi7 zbc zbb 69 v1 r2.1,zv1 hd3.v r3.1]) (fun cut => ?_) ?_
     ·
      refine cut (zyG (zyR 2 rfl (zbd (k:=2) rfl dc rfl rfl Tryd.underlying30 (zaT rfl zbf (zyN ?_)))))
      refine zyB rfl h (fun h => ?_) (fun h => ?_)
      ·
       obtain ⟨hg2,h⟩:=zbk h
       obtain ⟨hg3,h⟩:=zbk h
       obtain ⟨hg4,h⟩:=zbk h
       obtain ⟨r5,hq6,h⟩:=zbg h
       obtain ⟨hg5,h⟩:=zbk h
       obtain ⟨hg6,h⟩:=zbk h
       refine zbu 14 [(0,94,zI sum4),(1,95,.pointer (some ⟨b1,1,none⟩)),(2,96,zI l1.Height),(3,97,zI r4),(4,98,zI (l1.Height - r4)),(5,99,.pointer (some ⟨b1,1,none⟩)),(6,100,zI l1.Height),(7,101,zI r4),(8,102,zI (l1.Height - r4)),(9,103,zI ((l1.Height - r4)*(l1.Height - r4))),(10,104,hd3.v),(11,105,zI to1),(12,106,zI r5),(13,107,zI (((l1.Height - r4)*(l1.Height - r4))+r5))] mixed kr kr dc (by rfl) kr kr (zyP 1 0 rfl (zad ?_ (zad ?_ (zyP 1 3 rfl (zad ?_ (zad ?_ (zad ?_ (zyP 1 7 rfl (zad ?_ (zad ?_ (zyP 2 10 rfl (zad ?_ (zad ?_ DrawPre.nil))))))))))))) ?_
       · exact fun D n d c u i=>zab zgR rfl dc (za9 (by rfl) rfl) (show _=1 from rfl) (zaf 1 u i rfl)
       · exact fun D n d c u i=>zar (k:=0) zbh rfl dc (zaa (m:=1) u rfl (d 1 dc)) rfl rfl (zaf 2 u i rfl)
       · exact fun D n d c u i=>zbM rfl dc (zaa (m:=2) u rfl (d 2 dc)) (zaa (m:=3) u rfl (d 3 dc)) (zbj (r:=l1.Height - r4) (IntWalk.i64_in _ hg2)) (zaf 4 u i rfl)
       · exact fun D n d c u i=>zab zgR rfl dc (za9 (by rfl) rfl) (show _=1 from rfl) (zaf 5 u i rfl)
       · exact fun D n d c u i=>zar (k:=0) zbh rfl dc (zaa (m:=5) u rfl (d 5 dc)) rfl rfl (zaf 6 u i rfl)
       · exact fun D n d c u i=>zbM rfl dc (zaa (m:=6) u rfl (d 6 dc)) (zaa (m:=7) u rfl (d 7 dc)) (zbj (r:=l1.Height - r4) (IntWalk.i64_in _ hg3)) (zaf 8 u i rfl)
       · exact fun D n d c u i=>zbM rfl dc (zaa (m:=4) u rfl (d 4 dc)) (zaa (m:=8) u rfl (d 8 dc)) (zl6 (r:=(l1.Height - r4)*(l1.Height - r4)) (IntWalk.i64_in _ hg4)) (zaf 9 u i rfl)
       ·
        intro D hn hd hcl hu hi
        refine zhb (k:=2) rfl (fun hw3 => ?_)
        refine zco (v:=zI r5) (vs:=[hd3.v,zI to1]) hrd rfl dc rfl (evL.cons (zaa (m:=10) hu rfl (hd 10 dc)) (evL.cons (zaa (m:=11) hu rfl (hd 11 dc)) evL.nil)) rfl zwB (zmB hw3 hq6) (.own (As:=[zv1 hd3.v r3.1]) (zae [2] (by kernel_rfl) rfl) (fun _ _ h=>zgb zbQ (sepL.one1.1 h)) .nil) ?_
        exact zaf 12 hu hi rfl
       · exact fun D n d c u i=>zbM rfl dc (zaa (m:=9) u rfl (d 9 dc)) (zaa (m:=12) u rfl (d 12 dc)) (zaQ (r:=((l1.Height - r4)*(l1.Height - r4))+r5) (IntWalk.i64_in _ hg5)) (zaf 13 u i rfl)
       refine zaT rfl (zaQ (r:=sum4+(((l1.Height - r4)*(l1.Height - r4))+r5)) (IntWalk.i64_in _ hg6)) (zyR 1 rfl (zaR ?_))
       exact zak (sum4+(((l1.Height - r4)*(l1.Height - r4))+r5)) h rfl (za0 rfl) (zae [0,1,2] kr rfl)
      refine zas ?_
      exact zak sum4 h rfl (za0 rfl) (zae [0,1,2] kr rfl)
     rintro sum6 h
     rw [hj5] at h
     refine zax (zyR 2 rfl (zaR (zag ?_)))
     exact zak (to1,sum6) h rfl (za0 rfl) (zae [0,1,2] kr rfl)
    rintro ⟨from4,sum5⟩ h
    rw [hj2] at h
    refine zax (zyR 1 rfl ?_)
    obtain ⟨hg7,h⟩:=zbk h
    refine zaT rfl (zaQ (r:=i3+1) (IntWalk.i64_in _ hg7)) (zyR 1 rfl (zaR ?_))
    subst hag1
    exact za4 (n2,from4,sum5,i3+1) h (Nat.lt_succ_self _) rfl (za0 rfl) (zae [0,1,2] kr rfl)
   refine za2 (zam (zam (zav ?_)))
   exact zak (r3.1,r3.2,sum4,hd3) h rfl (za0 rfl) (zae [1,2] kr rfl)
 rintro ⟨rows1,n1,sum1,hd2⟩ h
 rw [hj1] at h
 refine zyG (zyR 1 rfl ?_)
 obtain ⟨p1,hq7,h⟩:=zbg h
 refine znQ (As:=[zi7 zbc zbb 69 v1 r2.1]) (zae [0] kr rfl) (zg0 hq7) ?_
 rintro ⟨b2,hd4⟩ hv2
 subst hv2
 obtain ⟨r6,hq8,h⟩:=zbg h
 refine zco (v:=zI r6) (vs:=[zP b2]) hrd rfl dc rfl rfl rfl zvV (ziz (bb1:=b2) (b1:=p1) (b1_h0:=hd4) hq8) (.own (zae [2] (by kernel_rfl) rfl) (fun _ _ h=>sepL.one1.1 h) (.own (zae [3] (by kernel_rfl) rfl) (fun _ _ h=>sepL.one1.1 h) .nil)) ?_
 refine zyR 2 rfl ?_
 obtain ⟨hg8,h⟩:=zbk h
 refine zaT rfl (zaQ (r:=n1+sum1) (IntWalk.i64_in _ hg8)) (zaT rfl zc6 (zyR 1 rfl ?_))
 refine zyS (s:=116) rfl h (fun h => ?_) (fun h => ?_)
 ·
  refine zyR 1 rfl (zbd (k:=1) rfl dc rfl rfl Tryd.underlying30 (zaT rfl zaP (zyR 1 rfl ?_)))
  obtain ⟨r7,hq9,h⟩:=zbg h
  refine zco (v:=zI r7) (vs:=[zP b2]) hrd rfl dc rfl rfl rfl zvU (zh0 (bb1:=b2) (b1:=p1) (b1_h0:=hd4) hq9) (.own (zae [2] (by kernel_rfl) rfl) (fun _ _ h=>sepL.one1.1 h) (.own (zae [3] (by kernel_rfl) rfl) (fun _ _ h=>sepL.one1.1 h) .nil)) ?_
  refine zaT rfl zaP (zaT rfl (znM Tryd.underlying4) (zyR 2 rfl (zyN (zaI ?_))))
  cases h
  exact zaK (rs:=[.tmp 6]) () (.inl rfl) Tryd.results3 (.cons (.tmp rfl) .nil) rfl Splits.nil
 refine zyR 9 rfl (zyN (zaI ?_))
 cases h
 exact zaK (rs:=[.tmp 6]) () (.inl rfl) Tryd.results3 (.cons (.tmp rfl) .nil) rfl Splits.nil
end Go.Proofs.YtbempdelckaccaaDoor

namespace Go.Proofs.YtbempdelckaccaaDoor
open Go.RowKit Go.Lib
set_option linter.unusedVariables false
set_option linter.unusedSimpArgs false
theorem zpB (l:Gapi_Layout) (cuts:List Int) (hc:cuts.length≤140737488355328) {rows:List Gapi_Row} {F L:List Int} (hR:RowsOk rows F L) (hH:4≤l.Height∧l.Height≤200) (c:Int) (j:(List Gapi_Row)→Int→Int→Option Bool) (hj:∀ sum,(Tt rows l.Height 0).cost≤sum→0≤sum∧sum≤2000000000000*1000000→j rows c sum=some true) :
  ∀ (d i m:Nat) (f:Nat) (sum:Int),i+d=cuts.length+1→d<m→f≤rows.length→(f=rows.length→f=0∨i=cuts.length+1)→(i=cuts.length+1→f=rows.length)→0≤sum∧sum≤2000000000000*f→(Tt rows l.Height 0).cost≤sum+(Tt rows l.Height f).cost →
  zaF (fun _ _ _=>none) (zcc l cuts j (rows,c)) m (f:Int) sum (i:Int)=some true:=by
 have hn:=hR.n
 intro d
 induction d with
 | zero =>
  intro i m f sum hi hm hf h1 h2 hs hcost
  obtain ⟨m,rfl⟩:∃ q,m=q+1:=⟨m - 1,by omega⟩
  rw [zcv]
  generalize zaF (fun _ _ _=>none) (zcc l cuts j (rows,c)) m=ag
  unfold zcc
  refine zay (decide_eq_false (by omega)) (hj sum ?_ ⟨hs.1,by omega⟩)
  have e:f=rows.length:=h2 (by omega)
  have:(Tt rows l.Height rows.length).cost=0:=by
   show (BB _ _ _ _).cost=0
   rw [zwu]; rfl
  rw [e,this] at hcost
  omega
 | succ d ih =>
  intro i m f sum hi hm hf h1 h2 hs hcost
  obtain ⟨m,rfl⟩:∃ q,m=q+1:=⟨m - 1,by omega⟩
  rw [zcv]
  have ih':=fun f sum=>ih (i+1) m f sum (by omega) (by omega)
  rw [show ((i+1:Nat):Int)=(i:Int)+1 by omega] at ih'
  generalize zaF (fun _ _ _=>none) (zcc l cuts j (rows,c)) m=ag at ih' ⊢
  have skip:(i=cuts.length→f=rows.length)→(grd (I64 ((i:Int)+1))<|ag (f:Int) sum ((i:Int)+1))=some true:=fun he =>
   zbm ⟨by omega,by omega⟩ (ih' f sum hf (fun e=>by rcases h1 e with h | h <;> omega) (fun e=>he (by omega)) hs hcost)
  have take:∀ (t:Nat),f<t→t≤rows.length→(t=rows.length↔i=cuts.length)→(grd (0≤(f:Int)∧(f:Int)≤(t:Int)∧(t:Int)≤(rows.length:Int))<|zal (zeJ (zjp rows (f:Int) (t:Int))) fun (r4:Int)=>zaw (decide ((l.Height:Int)<r4)) (some true) (zbl (fun (j5:Int→Option Bool)=>zaw (decide ((t:Int)<(rows.length:Int))) (grd (I64 (l.Height - r4))<|grd (I64 (l.Height - r4))<|grd (I64 ((l.Height - r4)*(l.Height - r4)))<|zal (zfa rows (t:Int)) fun (r5:Int)=>grd (I64 (((l.Height - r4)*(l.Height - r4))+r5))<|grd (I64 (sum+(((l.Height - r4)*(l.Height - r4))+r5)))<|j5 (sum+(((l.Height - r4)*(l.Height - r4))+r5))) (j5 sum)) (fun (sum6:Int)=>grd (I64 ((i:Int)+1))<|ag (t:Int) sum6 ((i:Int)+1))))=some true:=by
   intro t t1 t2 t3
   have hhr:=zlJ hR t1 t2
   refine zbm ⟨by omega,by omega,by omega⟩ (zaM (zsy hR f t t1 t2) ?_)
   by_cases hb:l.Height<zdZ rows f t
   ·exact zaz (decide_eq_true hb) rfl
   ·refine zay (decide_eq_false hb) (zbE ?_)
    have hRt:Rp rows l.Height f t=true:=decide_eq_true (by omega)
    have hmin:=zuD (zng hR hH) (zoq hH) t1 t2 hRt
    by_cases ht:t<rows.length
    ·have hsq:=zpf hR hH t1 t2 (by omega)
     have hcs:=zl2 rows t
     have hkp:Kp rows l.Height f t=(l.Height - zdZ rows f t)*(l.Height - zdZ rows f t)+zoj rows t:=if_pos ⟨t1,ht,by omega⟩
     rw [if_pos ht,hkp] at hmin
     have hmin:(Tt rows l.Height f).cost≤(l.Height - zdZ rows f t)*(l.Height - zdZ rows f t)+zoj rows t+(Tt rows l.Height t).cost:=hmin
     refine zaz (decide_eq_true (by omega)) (zbm ⟨by omega,by omega⟩ (zbm ⟨by omega,by omega⟩ (zbm ⟨by omega,by omega⟩ (zaM (ztY rows hn t (by omega) ht) (zbm ⟨by omega,by omega⟩ (zbm ⟨by omega,by omega⟩ (zbm ⟨by omega,by omega⟩ ?_)))))))
     exact ih' t _ t2 (fun e=>by omega) (fun e=>by omega) ⟨by omega,by omega⟩ (by omega)
    ·rw [if_neg ht] at hmin
     have hmin:(Tt rows l.Height f).cost≤0+(Tt rows l.Height t).cost:=hmin
     refine zay (decide_eq_false (by omega)) (zbm ⟨by omega,by omega⟩ ?_)
     exact ih' t sum t2 (fun e=>.inr (by have:=t3.1 e; omega)) (fun e=>t3.2 (by omega)) ⟨by omega,by omega⟩ (by omega)
  unfold zcc
  refine zaz (decide_eq_true (by omega)) (zbE (zbE ?_))
  by_cases hl:i<cuts.length
  ·have hx:cuts[i]?=some cuts[i]:=List.getElem?_eq_getElem hl
   generalize cuts[i]=q at hx
   refine zaz (decide_eq_true (by omega)) (zaM (zch hx) (zbE ?_))
   by_cases a1:q≤(f:Int)
   ·exact zaz (decide_eq_true a1) (skip (fun e=>by omega))
   refine zay (decide_eq_false a1) ?_
   by_cases a2:(rows.length:Int)<q
   ·exact zaz (decide_eq_true a2) (skip (fun e=>by omega))
   refine zay (decide_eq_false a2) (zaz (decide_eq_true (by omega)) ?_)
   by_cases a3:q=(rows.length:Int)
   ·exact zaz (zfV a3) (skip (fun e=>by omega))
   ·refine zay (zfW a3) ?_
    have:=take q.toNat (by omega) (by omega) (by omega)
    rw [Int.toNat_of_nonneg (by omega)] at this
    exact this
  ·refine zay (decide_eq_false (by omega)) (zbE ?_)
   by_cases a1:(rows.length:Int)≤(f:Int)
   ·exact zaz (decide_eq_true a1) (skip (fun e=>by omega))
   refine zay (decide_eq_false a1) (zay (decide_eq_false (by omega)) (zay (decide_eq_false (by omega)) ?_))
   exact take rows.length (by omega) (Nat.le_refl _) (by omega)
theorem zpF (T:List UInt8) (l:Gapi_Layout) (cuts:List Int) (hc:cuts.length≤140737488355328):zeW (mkB T) l cuts=some true:=by
 unfold zeW
 refine zaM zua (zay rfl ?_)
 by_cases h1:(1200:Int)<((mkB T).size:Int)
 ·exact zaz (decide_eq_true h1) rfl
 refine zay (decide_eq_false h1) ?_
 rcases zpm T l with hs | ⟨p,t,z,hok,hm,hpg,hp,hs⟩
 ·exact zaM hs (zay rfl (zaz rfl rfl))
 ·have hR:=zn3 hm p.told_lines hpg.ok (by have:=hpg.len; omega) hpg.stp
  have hH:=zrJ hm
  have hn:=hR.n
  have c1:=zj8 hm p.told_lines hpg.ok
  have c2:=zrW hR hH 0
  have hln:=hpg.len
  refine zaM hs (zay rfl (zay rfl (zbE (zaM (zsE l hm p.told_lines hpg.ok (by omega)) ?_))))
  have key:=zpB l cuts hc hR hH (zgu l p.told_lines) (fun (rows1:List Gapi_Row) (n1:Int) (sum1:Int)=>zal ((some (znL l p.told_lines):Option Gpage_Book)) fun (p1:Gpage_Book)=>zal (zdY p1) fun (r6:Int)=>grd (I64 (n1+sum1))<|zaw (decide ((r6:Int)≤(n1+sum1))) (zal (zdM p1) fun (r7:Int)=>some ((((rows1.length:Int):Int)==0)==((r7:Int)==0))) (some false)) (fun sum hsum hrg => ?_) (cuts.length+1) 0 zbW 0 0 (by omega) (zb5 (n:=cuts.length+1) (by omega)) (Nat.zero_le _) (fun e=>.inl rfl) (fun e=>by omega) ⟨Int.le_refl _,by omega⟩ (by rw [Int.zero_add]; exact Int.le_refl _)
  ·exact key
  ·refine zaM rfl (zaM (show zdY (znL l p.told_lines)=some (zgu l p.told_lines+(Tt (zdf l 0 p.told_lines) l.Height 0).cost) from rfl) (zbm ⟨by omega,by omega⟩ (zaz (decide_eq_true (by omega)) (zaM (show zdM (znL l p.told_lines)=some ((znL l p.told_lines).pages.length:Int) from rfl) ?_))))
   have hlen:(znL l p.told_lines).pages.length=(zkG (zdf l 0 p.told_lines) l.Height).length:=zkY _ _ _
   rw [hlen]
   have e0:(zdf l 0 p.told_lines).length=0↔(zkG (zdf l 0 p.told_lines) l.Height).length=0:=by
    show _↔(zm1 _ _ (zdf l 0 p.told_lines).length 0).length=0
    cases hL:(zdf l 0 p.told_lines).length with
    | zero=>exact ⟨fun _=>rfl,fun _=>rfl⟩
    | succ n=>unfold zm1; rw [if_pos (by omega)]; simp
   refine congrArg some ?_
   by_cases e:(zdf l 0 p.told_lines).length=0
   ·rw [e0.1 e,e]; rfl
   ·rw [zfW (show ¬ ((zdf l 0 p.told_lines).length:Int)=0 by omega),zfW (show ¬ ((zkG (zdf l 0 p.told_lines) l.Height).length:Int)=0 from fun h=>e (e0.2 (by omega)))]; rfl
theorem pageCut_any (s:ByteArray) (l:Gapi_Layout) (hd:Hd) (zs:List Int) {vv:Value} {k:Nat} {L:List Int} (w:World) (hs:s.size≤140737488351232) (hw:Vw vv L 1 k hd.v zs) (hr:(zhS (znE .i64) 1 vv k L).P (fun b=>b<w.heap.size) w) (hc:zs.length≤140737488355328) :
  Calls Tryd.prog 3 #[.string s,.agg #[.int .i64 l.Width,.int .i64 l.Height,.int .i64 l.Turn,.int .i64 l.Every],hd.v] w fun e w'=>e=.returned (.bool true)∧Below w.heap.size w w' :=
 FnR.p (zi8 hw (by obtain ⟨T,rfl⟩:=zt9 s; exact zpF T l zs hc)) w (fun A hA=>by
  rcases List.mem_singleton.1 hA with rfl
  exact ⟨_,hr,fun _ _ h=>h⟩)
end Go.Proofs.YtbempdelckaccaaDoor
