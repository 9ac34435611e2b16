/-
  Texts laid together: LcB, LcC, LcS, LcE, Ka, Kb, Qm, Kc, Kd, Ke, LcU, LcF, Kg. Nothing is assumed.
-/
import Derived.Test.YtifpjbgnikjglaaDoorCollateOrder3
import Derived.Test.YtifpjbgnikjglaaDoorCollateOrder2
set_option maxRecDepth 100000
set_option maxHeartbeats 4000000
namespace Go.Proofs.YtifpjbgnikjglaaDoor
open Go.RowKit Go.Lib
open Tryd
set_option linter.unusedVariables false
set_option linter.unusedSimpArgs false
def zcz (r1:zBA) (x1:zam) (ag1:zBA→Option zBA) (b8:zBA):Option zBA := zak (zdp x1) fun (r3:Bool) => zar (r3) ( grd (I32 x1.Rune) <| grd (b8.size+(Utf8.encode (zbe x1.Rune)).size≤140737488355328) <| ag1 (b8++(Utf8.encode (zbe x1.Rune)))
) ( grd (I64 (x1.At+x1.Width)) <| grd (0≤(x1.At:Int)∧(x1.At:Int)≤(x1.At+x1.Width)∧(x1.At+x1.Width:Int)≤(r1.size:Int)) <| grd (b8.size+(zcn r1 x1.At (x1.At+x1.Width)).size≤140737488355328) <| ag1 (b8++(zcn r1 x1.At (x1.At+x1.Width)))
)
def zev (s1:zBA):Option zBA := zbx (fun (j1:zBA→Option zBA) => zak (ze3 s1) fun (r1:zBA) => zak (zdz r1) fun (r2:zBA) => zak (zcx r2) fun (its1:(List zam)) => zbx (fun (dn1:zBA→Option zBA) => zcF dn1 (zcz r1) its1 ByteArray.empty
) (fun (b8:zBA) => j1 b8
)
) (fun (b2:zBA) => some b2
)
theorem zj1 {s1:zBA} {r:zBA} (h:zev s1=some r):FnP prog 84 [.string s1] (.string r):=by
 unfold zev at h
 refine FnP.intro func84 rfl ntmps84 (by simp) ?_
 intro w0 K
 refine zgo ?_
 obtain ⟨j1,hj1,h⟩:=zbP h
 refine za0 (β:=zBA×Nat×Value×(List Nat)) 3 rfl (fun b=>j1 b.1=some r) (fun b=>zfe b.2.2.2) (fun b=>[(3,zP b.2.1)]) (fun b=>[cells b.2.1 [b.2.2.1] 43,byt 5 b.2.2.1 b.1,zfF ((b.2.2.2:List Nat).map zfp)]) (fun cut => ?_) ?_
 ·
  refine zyG ?_
  refine zdX rfl dc rfl (fun b3 => ?_)
  refine zyR 1 rfl (zyH (zal (k:=1) zeV rfl dc rfl rfl rfl ?_))
  obtain ⟨r1,hq1,h⟩:=zbA h
  refine zaO (v:=.string r1) (vs:=[.string s1]) rfl dc rfl rfl rfl zyc (ziM hq1) ?_
  refine zaP (k:=1) (l':=[.string r1]) zjC rfl rfl rfl rfl rfl (fun _ _=>rfl) rfl ?_
  refine zyH ?_
  refine za3 zwP rfl dc (fun b4 => ?_)
  refine zyN (cut (zyG (zal (k:=1) zeV rfl dc rfl rfl rfl ?_)))
  obtain ⟨r2,hq2,h⟩:=zbA h
  refine zb9 (vs:=[.string r1]) rfl dc rfl rfl rfl zrI (zem hq2) Splits.nil ?_
  rintro b5
  refine zyN (zaz ?_)
  obtain ⟨its1,hq3,h⟩:=zbA h
  refine zhH (e:=5) ?_
  obtain ⟨dn1,hdn1,h⟩:=zbP h
  refine zg9 (α:=zam) (β:=zBA×Value) (γ:=Unit) (δ:=Nat) (ps:=[9]) Ro.nil rfl zrH (zdq hq3) (fun pre b=>∀ post,its1=pre++post→zcF dn1 (zcz r1) post b.1=some r) (fun pre b=>[cells b3 [.string r1] 9,cells b4 [b.2] 43,byt 5 b.2 b.1]) (fun c pre g=>False) (fun c pre g=>[]) (fun pre x b j=>[(1,zP b3),(2,.string (⟨#[]⟩:zBA)),(3,zP b4),(8,.func (.func 71) #[] #[zP b5]),(4,zP j)]) (fun pre x b j=>[cells b3 [.string r1] 9,cells b4 [b.2] 43,byt 5 b.2 b.1,cells j (zr0 x) 95]) (ByteArray.empty,(.slice none 0 0)) (fun post e=>by rw [List.nil_append] at e; subst e; exact h) (zaa [1,2,4] kr rfl) ⟨.inl ⟨3,rfl⟩,trivial⟩ (fun _=>rfl) dc ?_ ?_ ?_ ?_
  ·
   rintro lp rc pre x1 post ⟨b8,v4⟩ w1 K1 hxs1 hext hro hinv
   refine zap ?_
   refine za3 zko rfl dc (fun b9 => ?_)
   refine za2 (k:=3) (vs:=(zr0 x1)) (l':=(zr0 x1)) zfL rfl rfl rfl rfl rfl (show _≤_ by simp) rfl rfl ?_
   refine zaD ?_
   exact fun a w ha hw=>⟨b9,(za4 rfl) _ _ _ ha,hw.weaken (zaa [0,1,2,3] kr rfl)⟩
  ·
   rintro lp rc pre x1 post1 ⟨b8,v4⟩ jb1 w1 K1 hxs1 hext hro hinv
   have h:=hinv (x1::post1) hxs1
   obtain ⟨ag1,hag1⟩:∃ ag,ag=zcF dn1 (zcz r1) post1:=⟨_,rfl⟩
   have h:zcz r1 x1 ag1 b8=some r:=by have h2:=h; rw [zco,← hag1] at h2; exact h2
   unfold zcz at h
   refine zaz (zyG (zbW (k:=3) (cs:=(zr0 x1)) zgX rfl dc rfl rfl rfl rfl ?_))
   obtain ⟨r3,hq4,h⟩:=zbA h
   refine zaO (v:=.bool r3) (vs:=[.agg (zr0 x1).toArray]) rfl dc rfl rfl rfl zwa (zgN (p1:=x1) hq4) (zyN ?_)
   refine zyB rfl h (fun h => ?_) (fun h => ?_)
   ·
    obtain ⟨hg1,h⟩:=zbR h
    obtain ⟨hg2,h⟩:=zbR h
    refine zdd 5 [(0,12,v4),(1,13,.pointer (some ⟨jb1,2,none⟩)),(2,14,.int .i32 x1.Rune),(3,15,.int .i32 (zbe x1.Rune)),(4,16,.string (Utf8.encode (zbe x1.Rune)))] mixed kr kr dc (by rfl) kr kr (zad ?_ (zad ?_ (zad ?_ (zad ?_ (zad ?_ DrawPre.nil))))) ?_
    · exact fun D n d c u i=>zal (k:=1) zmk rfl dc (za8 (by rfl) rfl) rfl rfl (zaJ 0 u i)
    · exact fun D n d c u i=>zaf zgx rfl dc (za8 (by rfl) rfl) (show _=2 from rfl) (zaJ 1 u i)
    · exact fun D n d c u i=>zal (k:=3) zfn rfl dc (zaX 1 u d) rfl rfl (zaJ 2 u i)
    · exact fun D n d c u i=>zaO (v:=.int .i32 (zbe x1.Rune)) (vs:=[.int .i32 x1.Rune]) rfl dc rfl (evL.cons (zaX 2 u d) evL.nil) rfl zs6 (zdD fun w=>zhr x1.Rune w hg1.1 hg1.2) (zaJ 3 u i)
    · exact fun D n d c u i=>zcD rfl dc (zaX 3 u d) (zc6 underlying21 underlying9) (zaJ 4 u i)
    refine zdY (k:=2) underlying43 underlying9 znY rfl dc rfl rfl rfl hg2 (fun v5 => ?_)
    refine zaP (k:=1) (l':=[v5]) zm6 rfl rfl rfl rfl rfl (fun _ h=>zkE h (k:=2) rfl) rfl ?_
    refine zaD (zae ?_)
    exact zcJ (b8++(Utf8.encode (zbe x1.Rune)),v5) (fun post2 e2=>by have e9:=zcd hxs1 e2; subst e9; subst hag1; exact h) (zaa [0,1,2] kr rfl)
   obtain ⟨hg3,h⟩:=zbR h
   obtain ⟨hg4,h⟩:=zbR h
   obtain ⟨hg5,h⟩:=zbR h
   refine zdd 10 [(0,18,v4),(1,19,.string r1),(2,20,zP jb1),(3,21,zI x1.At),(4,22,zP jb1),(5,23,zI x1.At),(6,24,.pointer (some ⟨jb1,1,none⟩)),(7,25,zI x1.Width),(8,26,zI (x1.At+x1.Width)),(9,27,.string (zcn r1 x1.At (x1.At+x1.Width)))] mixed kr kr dc (by rfl) kr kr (zad ?_ (zad ?_ (zad ?_ (zad ?_ (zad ?_ (zad ?_ (zad ?_ (zad ?_ (zad ?_ (zad ?_ DrawPre.nil)))))))))) ?_
   · exact fun D n d c u i=>zal (k:=1) zmk rfl dc (za8 (by rfl) rfl) rfl rfl (zaJ 0 u i)
   · exact fun D n d c u i=>zal (k:=0) zeV rfl dc (za8 (by rfl) rfl) rfl rfl (zaJ 1 u i)
   · exact fun D n d c u i=>zaf zdJ rfl dc (za8 (by rfl) rfl) (show _=0 from rfl) (zaJ 2 u i)
   · exact fun D n d c u i=>zal (k:=3) zdE rfl dc (zaX 2 u d) rfl rfl (zaJ 3 u i)
   · exact fun D n d c u i=>zaf zdJ rfl dc (za8 (by rfl) rfl) (show _=0 from rfl) (zaJ 4 u i)
   · exact fun D n d c u i=>zal (k:=3) zdE rfl dc (zaX 4 u d) rfl rfl (zaJ 5 u i)
   · exact fun D n d c u i=>zaf zg1 rfl dc (za8 (by rfl) rfl) (show _=1 from rfl) (zaJ 6 u i)
   · exact fun D n d c u i=>zal (k:=3) zdE rfl dc (zaX 6 u d) rfl rfl (zaJ 7 u i)
   · exact fun D n d c u i=>zhG rfl dc (zaX 5 u d) (zaX 7 u d) (zbc (r:=x1.At+x1.Width) (IntWalk.i64_in _ hg3)) (zaJ 8 u i)
   · exact fun D n d c u i=>zb7 rfl dc (zaX 1 u d) (evO.some (zaX 3 u d)) (evO.some (zaX 8 u d)) (za6 (i:=x1.At) (j:=x1.At+x1.Width) underlying9 (.inr rfl) (.inr rfl) hg4) (zaJ 9 u i)
   refine zdY (k:=2) underlying43 underlying9 znY rfl dc rfl rfl rfl hg5 (fun v6 => ?_)
   refine zaP (k:=1) (l':=[v6]) zm6 rfl rfl rfl rfl rfl (fun _ h=>zkE h (k:=2) rfl) rfl ?_
   refine zaD (zae ?_)
   exact zcJ (b8++(zcn r1 x1.At (x1.At+x1.Width)),v6) (fun post2 e2=>by have e9:=zcd hxs1 e2; subst e9; subst hag1; exact h) (zaa [0,1,2] kr rfl)
  ·
   rintro dm1 ⟨b8,v4⟩ hinv
   have h:dn1 b8=some r:=hinv [] (List.append_nil _).symm
   rw [hdn1] at h
   show TX _ _ _ _ _ _ _ [zfF ((([]:List Nat):List Nat).map zfp),emp,emp,cells b5 [.string r2] 9,emp,cells b3 [.string r1] 9,cells b4 [v4] 43,byt 5 v4 b8,zfp dm1]
   refine zey (k:=8) (j:=0) rfl rfl dc ?_
   refine zae ?_
   exact zah (b8,b4,v4,dm1::([]:List Nat)) h rfl (za4 rfl) (zaa [6,7,0] kr rfl)
  rintro dm1 c pre x1 post g hxs hX
  exact (show False from hX).elim
 rintro ⟨b2,b1,v1,ds1⟩ h
 rw [hj1] at h
 refine zyG (zal (k:=0) zmk rfl dc rfl rfl rfl (zfD (k:=1) rfl dc rfl rfl underlying43 underlying5 underlying9 (zyR 1 rfl (zyN (zaA ?_)))))
 cases h
 exact zfJ (rs:=[.tmp 2]) ds1 () (.inl rfl) (zcR (k:=2) rfl) results84 (.cons (.tmp rfl) .nil) rfl Splits.nil
def zcQ (ek1:Int→Option zBA) (x1:zam) (ag1:Int→Option zBA) (n3:Int):Option zBA := grd (I64 (n3+1)) <| zar (decide ((8:Int)<(n3+1))) ( ek1 (n3+1)
) ( zak (zdp x1) fun (r3:Bool) => zar (!r3) ( zar (((n3+1):Int)==1) ( ek1 (n3+1)
) ( zak (zdB x1) fun (r4:Bool) => zar (!r4) ( ek1 (n3+1)
) ( ag1 (n3+1)
)
)
) ( ag1 (n3+1)
)
)
def zdM (s1:zBA):Option zBA := zbx (fun (j1:zBA→Option zBA) => zak (zev s1) fun (r1:zBA) => zak (zdz r1) fun (r2:zBA) => zak (zcx r2) fun (its1:(List zam)) => zbx (fun (ek1:Int→Option zBA) => zbx (fun (dn1:Int→Option zBA) => zcF dn1 (zcQ ek1) its1 0
) (fun (n3:Int) => j1 r1
)
) (fun (n4:Int) => some (⟨#[]⟩:zBA)
)
) (fun (s2:zBA) => some s2
)
theorem zj0 {s1:zBA} {r:zBA} (h:zdM s1=some r):FnP prog 64 [.string s1] (.string r):=by
 unfold zdM at h
 refine FnP.intro func64 rfl ntmps64 (by simp) ?_
 intro w0 K
 refine zgo ?_
 obtain ⟨j1,hj1,h⟩:=zbP h
 refine za0 (β:=zBA×Nat×(List Nat)) 3 rfl (fun b=>j1 b.1=some r) (fun b=>zfe b.2.2) (fun b=>[(0,.string b.1),(2,zP b.2.1)]) (fun b=>[cells b.2.1 [.string ByteArray.empty] 9,zfF ((b.2.2:List Nat).map zfp)]) (fun cut => ?_) ?_
 ·
  refine zyG ?_
  refine za3 zx8 rfl dc (fun b2 => ?_)
  refine zyH (zyR 1 rfl ?_)
  obtain ⟨r1,hq1,h⟩:=zbA h
  refine zaO (v:=.string r1) (vs:=[.string s1]) rfl dc rfl rfl rfl zxp (zj1 hq1) (zyR 1 rfl (zyH ?_))
  refine za3 zvt rfl dc (fun b3 => ?_)
  refine zaP (k:=2) (l':=[zI 0]) zh3 rfl rfl rfl rfl rfl (fun _ _=>rfl) rfl ?_
  refine zyN (cut (zyG (zyR 1 rfl ?_)))
  obtain ⟨r2,hq2,h⟩:=zbA h
  refine zb9 (vs:=[.string r1]) rfl dc rfl rfl rfl zrI (zem hq2) Splits.nil ?_
  rintro b4
  refine zyN (zaz ?_)
  obtain ⟨its1,hq3,h⟩:=zbA h
  obtain ⟨ek1,hek1,h⟩:=zbP h
  obtain ⟨dn1,hdn1,h⟩:=zbP h
  refine zg9 (α:=zam) (β:=Int) (γ:=Int) (δ:=Nat) (ps:=[9]) Ro.nil rfl zrH (zdq hq3) (fun pre b=>∀ post,its1=pre++post→zcF dn1 (zcQ ek1) post b=some r) (fun pre b=>[cells b2 [.string ByteArray.empty] 9,cells b3 [zI b] 3]) (fun c pre g=>(fun g=>c=.ret∧ek1 g=some r) g) (fun c pre g=>(fun g=>[cells b2 [.string (⟨#[]⟩:zBA)] 9,cells b3 [zI g] 3]) g) (fun pre x b j=>[(0,.string r1),(2,zP b2),(3,zP b3),(8,.func (.func 71) #[] #[zP b4]),(4,zP j)]) (fun pre x b j=>[cells b2 [.string ByteArray.empty] 9,cells b3 [zI b] 3,cells j (zr0 x) 95]) 0 (fun post e=>by rw [List.nil_append] at e; subst e; exact h) (zaa [1,2] kr rfl) ⟨.inl ⟨3,rfl⟩,trivial⟩ (fun _=>rfl) dc ?_ ?_ ?_ ?_
  ·
   rintro lp rc pre x1 post n3 w1 K1 hxs1 hext hro hinv
   refine zap ?_
   refine za3 zko rfl dc (fun b5 => ?_)
   refine za2 (k:=2) (vs:=(zr0 x1)) (l':=(zr0 x1)) zfL rfl rfl rfl rfl rfl (show _≤_ by simp) rfl rfl ?_
   refine zaD ?_
   exact fun a w ha hw=>⟨b5,(za4 rfl) _ _ _ ha,hw.weaken (zaa [0,1,2] kr rfl)⟩
  ·
   rintro lp rc pre x1 post1 n3 jb1 w1 K1 hxs1 hext hro hinv
   have h:=hinv (x1::post1) hxs1
   obtain ⟨ag1,hag1⟩:∃ ag,ag=zcF dn1 (zcQ ek1) post1:=⟨_,rfl⟩
   have h:zcQ ek1 x1 ag1 n3=some r:=by have h2:=h; rw [zco,← hag1] at h2; exact h2
   unfold zcQ at h
   refine zaz (zyG (zal (k:=1) zdE rfl dc rfl rfl rfl ?_))
   obtain ⟨hg1,h⟩:=zbR h
   refine zaR rfl (zbc (r:=n3+1) (IntWalk.i64_in _ hg1)) ?_
   refine zaP (k:=1) (l':=[zI (n3+1)]) zh3 rfl rfl rfl rfl rfl (fun _ _=>rfl) rfl ?_
   refine zyH (zal (k:=1) zdE rfl dc rfl rfl rfl (zaR rfl zeg (zyR 1 rfl ?_)))
   refine zyS (s:=14) rfl h (fun h => ?_) (fun h => ?_)
   ·
    refine zyR 13 rfl (zaD ?_)
    refine zaF (zbC rfl (zyG ?_))
    refine zaP (k:=0) (l':=[.string (⟨#[]⟩:zBA)]) zjC rfl rfl rfl rfl rfl (fun _ _=>rfl) rfl ?_
    refine zyN (zaA (zan ?_))
    exact zbU (n3+1) (show _∧_ from ⟨rfl,h⟩) (zaa [0,1] kr rfl)
   refine zbW (k:=2) (cs:=(zr0 x1)) zgX rfl dc rfl rfl rfl rfl ?_
   obtain ⟨r3,hq4,h⟩:=zbA h
   refine zaO (v:=.bool r3) (vs:=[.agg (zr0 x1).toArray]) rfl dc rfl rfl rfl zwa (zgN (p1:=x1) hq4) (zg7 rfl dc rfl ze7 (zyR 1 rfl ?_))
   refine zyS (s:=18) rfl h (fun h => ?_) (fun h => ?_)
   ·
    refine zal (k:=1) zdE rfl dc rfl rfl rfl (zaR rfl za9 (zyR 1 rfl ?_))
    refine zyS (s:=21) rfl h (fun h => ?_) (fun h => ?_)
    ·
     refine zyR 6 rfl (zyN (zbC rfl (zyG ?_)))
     refine zaP (k:=0) (l':=[.string (⟨#[]⟩:zBA)]) zjC rfl rfl rfl rfl rfl (fun _ _=>rfl) rfl ?_
     refine zyN (zaA (zan ?_))
     exact zbU (n3+1) (show _∧_ from ⟨rfl,h⟩) (zaa [0,1] kr rfl)
    refine zbW (k:=2) (cs:=(zr0 x1)) zgX rfl dc rfl rfl rfl rfl ?_
    obtain ⟨r4,hq5,h⟩:=zbA h
    refine zaO (v:=.bool r4) (vs:=[.agg (zr0 x1).toArray]) rfl dc rfl rfl rfl zwe (zhC (p1:=x1) hq5) (zg7 rfl dc rfl ze7 (zyR 3 rfl (zyN ?_)))
    refine zyB rfl h (fun h => ?_) (fun h => ?_)
    ·
     refine zyG ?_
     refine zaP (k:=0) (l':=[.string (⟨#[]⟩:zBA)]) zjC rfl rfl rfl rfl rfl (fun _ _=>rfl) rfl ?_
     refine zyN (zaA (zan ?_))
     exact zbU (n3+1) (show _∧_ from ⟨rfl,h⟩) (zaa [0,1] kr rfl)
    refine zao (zae ?_)
    exact zcJ (n3+1) (fun post2 e2=>by have e9:=zcd hxs1 e2; subst e9; subst hag1; exact h) (zaa [0,1] kr rfl)
   refine zyR 9 rfl (zyN (zaQ rfl (zao (zae ?_))))
   exact zcJ (n3+1) (fun post2 e2=>by have e9:=zcd hxs1 e2; subst e9; subst hag1; exact h) (zaa [0,1] kr rfl)
  ·
   rintro dm1 n3 hinv
   have h:dn1 n3=some r:=hinv [] (List.append_nil _).symm
   rw [hdn1] at h
   show TX _ _ _ _ _ _ _ [zfF ((([]:List Nat):List Nat).map zfp),emp,emp,cells b4 [.string r2] 9,cells b2 [.string ByteArray.empty] 9,cells b3 [zI n3] 3,zfp dm1]
   refine zey (k:=6) (j:=0) rfl rfl dc ?_
   refine zae ?_
   exact zah (r1,b2,dm1::([]:List Nat)) h rfl (za4 rfl) (zaa [4,0] kr rfl)
  rintro dm1 c pre x1 post g hxs hX
  obtain ⟨rfl,h⟩:=(show _∧_ from hX)
  generalize g=n4 at *
  rw [hek1] at h
  show TC _ _ _ _ _ _ _ _ _ [zfF ((([]:List Nat):List Nat).map zfp),emp,emp,cells b4 [.string r2] 9,cells b2 [.string (⟨#[]⟩:zBA)] 9,cells b3 [zI n4] 3,zfp dm1]
  refine zil (k:=6) (j:=0) rfl rfl dc ?_
  refine zaA (zan (zaj ?_))
  cases h
  exact zfJ (rs:=[.cell 2 9]) (dm1::([]:List Nat)) () (.inl rfl) (zcR (k:=0) rfl) results64 (.cons (.cell zeV (k:=4) rfl rfl) .nil) rfl Splits.nil
 rintro ⟨s2,b1,ds1⟩ h
 rw [hj1] at h
 refine zyG (zyR 1 rfl ?_)
 refine zaP (k:=0) (l':=[.string s2]) zjC rfl rfl rfl rfl rfl (fun _ _=>rfl) rfl ?_
 refine zyN (zaA ?_)
 cases h
 exact zfJ (rs:=[.cell 2 9]) ds1 () (.inl rfl) (zcR (k:=1) rfl) results64 (.cons (.cell zeV (k:=0) rfl rfl) .nil) rfl Splits.nil
def zbH (o1:zac) (ag1:(List (zBA×Int))→Int→Option zac) (m3:List (zBA×Int)) (x3:Int):Option zac := zar (decide ((x3:Int)<(o1.units.length:Int))) ( zak (zea o1.units x3) fun (q1:zBA) => grd (I64 (x3+1)) <| ag1 (zgF q1 x3 m3) (x3+1)
) ( some (⟨o1.units,m3,o1.fors,o1.skips,o1.lines⟩:zac)
)
def zct (o1:zac):Option zac := zaW (fun _ _=>none) (zbH o1) zcy o1.place 0
theorem zfk {bo1:Nat} {o1:zac} {o1_h0 o1_h1 o1_h2 o1_h3 o1_h4:Hd} {r:zac} (h:zct o1=some r):Fn prog 61 [zP bo1] [cells bo1 [o1_h0.v,.map (some (za7 o1_h1)),.map (some (za7 o1_h2)),.map (some (za7 o1_h3)),o1_h4.v] 79,zv0 o1_h0.v o1.units,zbO (fun n:zBA=>Value.string n) (fun n:Int=>Value.int .i64 n) (za7 o1_h1) o1.place,zcB (za7 o1_h2) o1.fors,zbO (fun n:zBA=>Value.string n) (fun n:Bool=>Value.bool n) (za7 o1_h3) o1.skips,zv0 o1_h4.v o1.lines] (fun b:Hd×Hd×Hd×Hd×Hd=>.tuple #[]) (fun b=>[cells bo1 [b.1.v,.map (some (za7 b.2.1)),.map (some (za7 b.2.2.1)),.map (some (za7 b.2.2.2.1)),b.2.2.2.2.v] 79,zv0 b.1.v r.units,zbO (fun n:zBA=>Value.string n) (fun n:Int=>Value.int .i64 n) (za7 b.2.1) r.place,zcB (za7 b.2.2.1) r.fors,zbO (fun n:zBA=>Value.string n) (fun n:Bool=>Value.bool n) (za7 b.2.2.2.1) r.skips,zv0 b.2.2.2.2.v r.lines]):=by
 unfold zct at h
 refine Fn.intro func61 rfl ntmps61 (by simp) ?_
 intro w0 K
 refine zyG (zyR 1 rfl (za5 rfl dc rfl (zaf zjk rfl dc rfl (show _=0 from rfl) (zal (k:=0) zn8 rfl dc rfl rfl rfl (zdy (k:=1) rfl dc rfl rfl underlying38 (zyR 1 rfl (zyN (zaz ?_))))))))
 refine zbN (β:=Nat×(List (zBA×Int))×Int) (fun b=>zaW (fun _ _=>none) (zbH o1) b.1 b.2.1 b.2.2=some r) (fun b=>[]) (fun b=>[(0,zP bo1),(7,o1_h0.v),(8,zI (o1.units.length:Int)),(9,zI b.2.2)]) (fun b=>[cells bo1 [o1_h0.v,.map (some (za7 o1_h1)),.map (some (za7 o1_h2)),.map (some (za7 o1_h3)),o1_h4.v] 79,zv0 o1_h0.v o1.units,zbO (fun n:zBA=>Value.string n) (fun n:Int=>Value.int .i64 n) (za7 o1_h1) b.2.1,zcB (za7 o1_h2) o1.fors,zbO (fun n:zBA=>Value.string n) (fun n:Bool=>Value.bool n) (za7 o1_h3) o1.skips,zv0 o1_h4.v o1.lines]) (fun b=>b.1) (zcy,o1.place,0) h rfl (za4 rfl) (zaa [0,1,2,3,4,5] kr rfl) ?_
 rintro ⟨n1,m3,x3⟩ h
 cases n1 with
 | zero=>exact zeq h
 | succ n1 =>
  obtain ⟨ag1,hag1⟩:∃ ag,ag=zaW (fun _ _=>none) (zbH o1) n1:=⟨_,rfl⟩
  have h:zbH o1 ag1 m3 x3=some r:=by rw [hag1]; exact h
  unfold zbH at h
  refine zyG (zaR rfl zbk (zyN (zaL ?_)))
  refine zyB rfl h (fun h => ?_) (fun h => ?_)
  ·
   refine zao (zaF (zaL (zaz (zyG (zyR 1 rfl ?_)))))
   obtain ⟨q1,hq1,h⟩:=zbA h
   refine zbm (k:=1) hq1 underlying38 zjC rfl dc rfl rfl rfl rfl (zcO (i:=(x3:Int).toNat) (j:=0) (k:=1) (q:=q1) zeV zc0 rfl dc rfl rfl (zcg hq1) rfl dc rfl (zyR 2 rfl (zyN (zap (zyR 1 rfl (za5 rfl dc rfl (zaf zjj rfl dc rfl (show _=1 from rfl) (zal (k:=0) zpM rfl dc rfl rfl rfl (zyR 2 rfl ?_)))))))))
   refine zfC (k:=2) (ek:=(fun n:zBA=>Value.string n)) (ev':=(fun n:Int=>Value.int .i64 n)) (kk:=q1) (vv:=x3) (zcM underlying9) underlying75 rfl rfl rfl rfl rfl ?_
   refine zaD (zae (zaF (zap ?_)))
   obtain ⟨hg1,h⟩:=zbR h
   refine zaR rfl (zbc (r:=x3+1) (IntWalk.i64_in _ hg1)) (zyR 1 rfl (zaD ?_))
   subst hag1
   exact zbr (n1,zgF q1 x3 m3,x3+1) h (Nat.lt_succ_self _) rfl (za4 rfl) (zaa [0,1,2,3,4,5] kr rfl)
  refine zbz (zaq (zaq (zaG ?_)))
  cases h
  exact zcj (rs:=[]) (o1_h0,o1_h1,o1_h2,o1_h3,o1_h4) (.inr rfl) results61 .nil rfl (zaa [0,1,2,3,4,5] kr rfl)
def zdu (o1:zac) (u1:zBA):Option Bool := zar ((zbJ u1 o1.place).isSome) ( some true
) ( some ((zbJ u1 o1.fors).isSome)
)
theorem zie {bo1:Nat} {o1:zac} {o1_h0 o1_h1 o1_h2 o1_h3 o1_h4:Hd} {u1:zBA} {r:Bool} (h:zdu o1 u1=some r):FnR prog 66 [zP bo1,.string u1] [cells bo1 [o1_h0.v,.map (some (za7 o1_h1)),.map (some (za7 o1_h2)),.map (some (za7 o1_h3)),o1_h4.v] 79,zv0 o1_h0.v o1.units,zbO (fun n:zBA=>Value.string n) (fun n:Int=>Value.int .i64 n) (za7 o1_h1) o1.place,zcB (za7 o1_h2) o1.fors,zbO (fun n:zBA=>Value.string n) (fun n:Bool=>Value.bool n) (za7 o1_h3) o1.skips,zv0 o1_h4.v o1.lines] [] (fun _:Unit=>(.bool r)) (fun _=>[]):=by
 unfold zdu at h
 refine FnR.intro func66 rfl ntmps66 (by simp) ?_
 intro w0 K hrd
 refine zyG (zyR 1 rfl (zyH (zyR 1 rfl (za5 rfl dc rfl (zaf zjj rfl dc rfl (show _=1 from rfl) (zdx (i:=0) hrd rfl zpM rfl dc rfl rfl (zyR 1 rfl ?_)))))))
 refine zfN (k:=2) (ek:=(fun n:zBA=>Value.string n)) (ev':=(fun n:Int=>Value.int .i64 n)) (kk:=u1) (z0:=0) (zcM underlying9) underlying75 kr rfl dc rfl rfl hrd rfl ?_
 refine zyR 1 rfl (zaH rfl dc rfl rfl (zaH rfl dc rfl rfl (zyR 2 rfl (zyH (zyR 1 rfl (za5 rfl dc rfl (zaf zou rfl dc rfl (show _=2 from rfl) (zdx (i:=0) hrd rfl zt6 rfl dc rfl rfl (zyR 1 rfl ?_)))))))))
 refine zoM (i:=3) (kk:=u1) underlying9 underlying76 kr rfl dc rfl rfl hrd rfl (fun hd1 hx1 => ?_)
 refine zyR 1 rfl (zaH rfl dc rfl rfl (zaH rfl dc rfl rfl (zyR 2 rfl (zyH (zyR 2 rfl ?_)))))
 refine zyS (s:=28) rfl h (fun h => ?_) (fun h => ?_)
 ·
  refine zyR 3 rfl (zyN (zaA ?_))
  cases h
  exact zaS 4 results66
 refine zyR 3 rfl (zyN (zaA ?_))
 cases h
 exact zaS 4 results66
def zec (j1:(List zBA)→Option zac) (ag1:(List zBA)→Int→Option zac) (o4:List zBA) (r3:Int):Option zac := zar (decide ((r3:Int)<1120)) ( zbx (fun (j2:(List zBA)→Option zac) => grd (I32 r3) <| zar (zi8 r3) ( zak (zhy r3) fun (r4:(List Int)) => zar (((r4.length:Int):Int)==1) ( zak (zet r3) fun (r5:zBA) => zar (decide (r5=Utf8.encode r3)) ( grd (o4.length+1≤2147483648) <| j2 (o4++[Utf8.encode r3])
) ( j2 o4
)
) ( j2 o4
)
) ( j2 o4
)
) (fun (o5:List zBA) => grd (I32 (r3+1)) <| ag1 o5 (r3+1)
)
) ( j1 o4
)
def zdO  : Option zac := zbx (fun (j1:(List zBA)→Option zac) => zaW (fun _ _=>none) (zec j1) zcy ([]:List zBA) 97
) (fun (o1:List zBA) => zak (zct (⟨o1,([]:List (zBA×Int)),([]:List (zBA×List zBA)),([]:List (zBA×Bool)),([]:List zBA)⟩:zac)) fun (r6:zac) => some r6
)
theorem zj4  {r:zac} (h:zdO=some r):Fn prog 35 [] [] (fun b:Nat×Hd×Hd×Hd×Hd×Hd=>zP b.1) (fun b=>[cells b.1 [b.2.1.v,.map (some (za7 b.2.2.1)),.map (some (za7 b.2.2.2.1)),.map (some (za7 b.2.2.2.2.1)),b.2.2.2.2.2.v] 79,zv0 b.2.1.v r.units,zbO (fun n:zBA=>Value.string n) (fun n:Int=>Value.int .i64 n) (za7 b.2.2.1) r.place,zcB (za7 b.2.2.2.1) r.fors,zbO (fun n:zBA=>Value.string n) (fun n:Bool=>Value.bool n) (za7 b.2.2.2.2.1) r.skips,zv0 b.2.2.2.2.2.v r.lines]):=by
 unfold zdO at h
 refine Fn.intro func35 rfl ntmps35 (by simp) ?_
 intro w0 K
 obtain ⟨j1,hj1,h⟩:=zbP h
 refine za0 (β:=(List zBA)×Nat×Hd×Nat×Nat×Nat) 2 rfl (fun b=>j1 b.1=some r) (fun b=>[]) (fun b=>[(1,zP b.2.1)]) (fun b=>[cells b.2.1 [b.2.2.1.v,.map (some b.2.2.2.1),.map (some b.2.2.2.2.1),.map (some b.2.2.2.2.2),.slice none 0 0] 79,zv0 b.2.2.1.v b.1,zbO (fun n:zBA=>Value.string n) (fun n:Int=>Value.int .i64 n) b.2.2.2.1 ([]:List (zBA×Int)),zcB b.2.2.2.2.1 ([]:List (zBA×List zBA)),zbO (fun n:zBA=>Value.string n) (fun n:Bool=>Value.bool n) b.2.2.2.2.2 ([]:List (zBA×Bool))]) (fun cut => ?_) ?_
 ·
  refine zyG (zyR 1 rfl (zyH ?_))
  refine zgU (fun n:zBA=>Value.string n) (fun n:Int=>Value.int .i64 n) rfl dc (fun b5 => ?_)
  refine zgU (fun s:zBA=>Value.string s) fsV rfl dc (fun b6 => ?_)
  refine zk8 (As:=[zbO (fun s:zBA=>Value.string s) fsV b6 []]) (zaa [1] kr rfl) (znW (b:=b6)) (fun _ _ => ?_)
  refine zgU (fun n:zBA=>Value.string n) (fun n:Bool=>Value.bool n) rfl dc (fun b7 => ?_)
  refine zci (v:=.agg #[.slice none 0 0,.map (some b5),.map (some b6),.map (some b7),.slice none 0 0]) (ps:=[(1,.tmp 3),(2,.tmp 4),(3,.tmp 5)]) rfl dc rfl (fun _=>by kernel_rfl) ?_
  refine zdX rfl dc rfl (fun b8 => ?_)
  refine zyR 1 rfl (zyN (cut (zyG (zyR 1 rfl (zyN (zaz (zfE (enc:=zhf) (e:=9) (size:=1) ?_)))))))
  refine zbN (β:=Nat×(List zBA)×Int×Hd) (fun b=>zaW (fun _ _=>none) (zec j1) b.1 b.2.1 b.2.2.1=some r) (fun b=>[]) (fun b=>[(1,zP b8),(2,.int .i32 b.2.2.1)]) (fun b=>[cells b8 [b.2.2.2.v,.map (some b5),.map (some b6),.map (some b7),.slice none 0 0] 79,zv0 b.2.2.2.v b.2.1,zbO (fun n:zBA=>Value.string n) (fun n:Int=>Value.int .i64 n) b5 ([]:List (zBA×Int)),zcB b6 ([]:List (zBA×List zBA)),zbO (fun n:zBA=>Value.string n) (fun n:Bool=>Value.bool n) b7 ([]:List (zBA×Bool))]) (fun b=>b.1) (zcy,([]:List zBA),97,Hd.nil) h rfl (za4 rfl) (zaa [4,5,0,2,3] kr rfl) ?_
  rintro ⟨n1,o4,r3,hd4⟩ h
  cases n1 with
  | zero=>exact zeq h
  | succ n1 =>
   obtain ⟨ag1,hag1⟩:∃ ag,ag=zaW (fun _ _=>none) (zec j1) n1:=⟨_,rfl⟩
   have h:zec j1 ag1 o4 r3=some r:=by rw [hag1]; exact h
   unfold zec at h
   refine zaL (zyG (zyR 1 rfl (zaR rfl zbk (zyN ?_))))
   refine zyB rfl h (fun h => ?_) (fun h => ?_)
   ·
    refine zao (zaF ?_)
    obtain ⟨j2,hj2,h⟩:=zbP h
    refine za0 (β:=(List zBA)×Hd) 0 rfl (fun b=>j2 b.1=some r) (fun b=>[]) (fun b=>[(1,zP b8),(2,.int .i32 r3)]) (fun b=>[cells b8 [b.2.v,.map (some b5),.map (some b6),.map (some b7),.slice none 0 0] 79,zv0 b.2.v b.1,zbO (fun n:zBA=>Value.string n) (fun n:Int=>Value.int .i64 n) b5 ([]:List (zBA×Int)),zcB b6 ([]:List (zBA×List zBA)),zbO (fun n:zBA=>Value.string n) (fun n:Bool=>Value.bool n) b7 ([]:List (zBA×Bool))]) (fun cut => ?_) ?_
    ·
     refine cut (zaz (zyG (zyR 1 rfl ?_)))
     obtain ⟨hg1,h⟩:=zbR h
     refine zaO (v:=.bool (zi8 r3)) (vs:=[.int .i32 r3]) rfl dc rfl rfl rfl zxH (zdD fun w=>zis r3 w hg1.1 hg1.2) ?_
     refine zyR 1 rfl ?_
     refine zyS (s:=14) rfl h (fun h => ?_) (fun h => ?_)
     ·
      refine zyR 1 rfl ?_
      obtain ⟨r4,hq1,h⟩:=zbA h
      refine zb9 (vs:=[.int .i32 r3]) rfl dc rfl rfl rfl zxG (zmA hq1) Splits.nil ?_
      rintro v1
      refine zcl (k:=5) rfl (fun hd6 he1 => ?_)
      subst he1
      refine zdy (k:=5) rfl dc rfl rfl underlying30 (zaR rfl za9 (zyR 2 rfl ?_))
      refine zyS (s:=20) rfl h (fun h => ?_) (fun h => ?_)
      ·
       refine zyR 1 rfl ?_
       obtain ⟨r5,hq2,h⟩:=zbA h
       refine zaO (v:=.string r5) (vs:=[.int .i32 r3]) rfl dc rfl rfl rfl zwd (zhd hq2) (zyR 1 rfl (zcD rfl dc rfl (zc6 underlying21 underlying9) (zaR rfl zeH (zyR 1 rfl (zyN ?_)))))
       refine zyB rfl h (fun h => ?_) (fun h => ?_)
       ·
        refine zap (zyR 2 rfl (za5 rfl dc rfl (zaf zjk rfl dc rfl (show _=0 from rfl) (zal (k:=0) zn8 rfl dc rfl rfl rfl (zyR 1 rfl (zcD rfl dc rfl (zc6 underlying21 underlying9) ?_))))))
        refine zaT (cs:=[.string (Utf8.encode r3)]) (te:=9) (ps:=[(0,.tmp 33)]) rfl dc rfl (fun _=>by kernel_rfl) (fun b9 => ?_)
        obtain ⟨hg2,h⟩:=zbR h
        refine zb3 (k:=1) (k2:=6) (ys:=[Utf8.encode r3]) underlying38 zwj zc0 zkh rfl dc rfl rfl rfl rfl rfl rfl hg2 (fun v2 => ?_)
        refine zcl (k:=1) rfl (fun hd7 he2 => ?_)
        subst he2
        refine za5 rfl dc rfl (zaf zjk rfl dc rfl (show _=0 from rfl) ?_)
        refine zaP (k:=0) (l':=[hd7.v,.map (some b5),.map (some b6),.map (some b7),.slice none 0 0]) zsB rfl rfl rfl rfl rfl (fun _ _=>rfl) rfl ?_
        refine zaD (zae ?_)
        exact zah (o4++[Utf8.encode r3],hd7) h rfl (za4 rfl) (zaa [0,1,2,3,4] kr rfl)
       refine zao (zae ?_)
       exact zah (o4,hd4) h rfl (za4 rfl) (zaa [0,1,2,3,4] kr rfl)
      refine zyR 6 rfl (zyN (zaQ rfl (zao (zae ?_))))
      exact zah (o4,hd4) h rfl (za4 rfl) (zaa [0,1,2,3,4] kr rfl)
     refine zyR 12 rfl (zyN ?_)
     refine zaQ rfl (zao (zae ?_))
     exact zah (o4,hd4) h rfl (za4 rfl) (zaa [0,1,2,3,4] kr rfl)
    rintro ⟨o5,hd5⟩ h
    rw [hj2] at h
    refine zap (zyR 1 rfl ?_)
    obtain ⟨hg3,h⟩:=zbR h
    refine zaR rfl (zbc (r:=r3+1) (IntWalk.i32_in _ hg3)) (zyR 1 rfl (zaD ?_))
    subst hag1
    exact zbr (n1,o5,r3+1,hd5) h (Nat.lt_succ_self _) rfl (za4 rfl) (zaa [0,1,2,3,4] kr rfl)
   refine zbz (zaq (zaq (zaG ?_)))
   exact zah (o4,b8,hd4,b5,b6,b7) h rfl (za4 rfl) (zaa [0,1,2,3,4] kr rfl)
 rintro ⟨o1,b1,hd1,b2,b3,b4⟩ h
 rw [hj1] at h
 refine zyG (zyR 1 rfl (zgT (enc:=zhf) (e:=9) (size:=1) ?_))
 obtain ⟨r6,hq3,h⟩:=zbA h
 refine zb9 (vs:=[zP b1]) rfl dc rfl rfl rfl zwc (zfk (bo1:=b1) (o1:=(⟨o1,([]:List (zBA×Int)),([]:List (zBA×List zBA)),([]:List (zBA×Bool)),([]:List zBA)⟩:zac)) (o1_h0:=hd1) (o1_h1:=(⟨some ⟨b2,0,none⟩,0,0⟩:Hd)) (o1_h2:=(⟨some ⟨b3,0,none⟩,0,0⟩:Hd)) (o1_h3:=(⟨some ⟨b4,0,none⟩,0,0⟩:Hd)) (o1_h4:=Hd.nil) hq3) (zaa [0,1,2,3,4,5] kr rfl) ?_
 rintro ⟨hd8,hd9,hd10,hd11,hd12⟩
 refine zcu (L':=[cells b1 [hd8.v,.map (some (za7 hd9)),.map (some (za7 hd10)),.map (some (za7 hd11)),hd12.v] 79,zv0 hd8.v r6.units,zbO (fun n:zBA=>Value.string n) (fun n:Int=>Value.int .i64 n) (za7 hd9) r6.place,zcB (za7 hd10) r6.fors,zbO (fun n:zBA=>Value.string n) (fun n:Bool=>Value.bool n) (za7 hd11) r6.skips,zv0 hd12.v r6.lines]) (zaa [6,7,8,9,10,11] kr rfl) ?_
 refine zyH (zyR 2 rfl (zyN (zaA ?_)))
 cases h
 exact zcj (rs:=[.tmp 0]) (b1,hd8,hd9,hd10,hd11,hd12) (.inl rfl) results35 (.cons (.tmp rfl) .nil) rfl (zaa [0,1,2,3,4,5] kr rfl)
def zc4 (j2:Option (List zBA)) (ag1:zBA→Option (List zBA)) (x3:zBA):Option (List zBA) := zar (decide ((0:Int)<(x3.size:Int))) ( grd (False) <| grd (0≤(0:Int)∧(0:Int)≤0∧(0:Int)≤(x3.size:Int)) <| zoF (zcn x3 0 0) <| grd (0≤(0:Int)∧(0:Int)≤(x3.size:Int)∧((x3.size:Int):Int)≤(x3.size:Int)) <| ag1 (zcn x3 0 (x3.size:Int))
) ( j2
)
def zbY (c0:zBA) (c2:Int) (j3:zBA→Option (List zBA)) (ag2:zBA→Option (List zBA)) (x7:zBA):Option (List zBA) := grd (c0=⟨#[10]⟩) <| zar (decide (((Lib.indexByte x7.data.toList 10):Int)<0)) ( j3 x7
) ( grd (I64 ((Lib.indexByte x7.data.toList 10)+c2)) <| grd (0≤(0:Int)∧(0:Int)≤((Lib.indexByte x7.data.toList 10)+c2)∧((Lib.indexByte x7.data.toList 10)+c2:Int)≤(x7.size:Int)) <| zoF (zcn x7 0 ((Lib.indexByte x7.data.toList 10)+c2)) <| grd (I64 ((Lib.indexByte x7.data.toList 10)+(c0.size:Int))) <| grd (0≤((Lib.indexByte x7.data.toList 10)+(c0.size:Int):Int)∧((Lib.indexByte x7.data.toList 10)+(c0.size:Int):Int)≤(x7.size:Int)∧((x7.size:Int):Int)≤(x7.size:Int)) <| ag2 (zcn x7 ((Lib.indexByte x7.data.toList 10)+(c0.size:Int)) (x7.size:Int))
)
def zdF (c0:zBA) (c1:zBA) (c2:Int):Option (List zBA) := zbx (fun (j1:Option (List zBA)) => zar (((c0.size:Int):Int)==0) ( zbx (fun (j2:Option (List zBA)) => zaW (fun _=>none) (zc4 j2) zcy c1
) ( some []
)
) ( j1
)
) ( zbx (fun (j3:zBA→Option (List zBA)) => zaW (fun _=>none) (zbY c0 c2 j3) zcy c1
) (fun (x4:zBA) => zoF x4 <| some []
)
)
theorem zhh {b_c0:Nat} {c0:zBA} {b_c1:Nat} {c1:zBA} {b_c2:Nat} {c2:Int} {xs:(List zBA)} (h:zdF c0 c1 c2=some xs):ItrM prog 81 [zP b_c0,zP b_c1,zP b_c2] (fun q:zBA=>[.string q]) xs [cells b_c0 [.string c0] 9,cells b_c1 [.string c1] 9,cells b_c2 [zI c2] 3]:=by
 unfold zdF at h
 refine ItrM.intro func81 rfl ntmps81 (by simp) ?_
 intro l w0 K I X  hy
 obtain ⟨r0,hx0⟩:∃ r,xs=[]++r:=⟨xs,rfl⟩
 have hr0:xs=r0:=hx0
 rw [hr0] at h
 obtain ⟨j1,hj1,h⟩:=zbP h
 refine za0 (β:=Unit) 0 rfl (fun b=>j1=some r0) (fun b=>[]) (fun b=>[(0,.func (.yield l) #[] #[]),(1,zP b_c0),(2,zP b_c1),(3,zP b_c2)]) (fun b=>[I ([]:List zBA),cells b_c0 [.string c0] 9,cells b_c1 [.string c1] 9,cells b_c2 [zI c2] 3]) (fun cut => ?_) ?_
 ·
  refine cut (zyG (zal (k:=1) zeV rfl dc rfl rfl rfl (zcI rfl dc rfl underlying9 (zaR rfl za9 (zyN ?_)))))
  refine zyB rfl h (fun h => ?_) (fun h => ?_)
  ·
   obtain ⟨j2,hj2,h⟩:=zbP h
   refine za0 (β:=(List zBA)×(List zBA)) 0 rfl (fun b=>j2=some b.2∧xs=b.1++b.2) (fun b=>[]) (fun b=>[]) (fun b=>[I b.1]) (fun cut => ?_) ?_
   ·
    refine cut (zaz ?_)
    refine zbN (β:=Nat×zBA×(List zBA)×(List zBA)) (fun b=>zaW (fun _=>none) (zc4 j2) b.1 b.2.1=some b.2.2.2∧xs=b.2.2.1++b.2.2.2) (fun b=>[]) (fun b=>[(0,.func (.yield l) #[] #[]),(2,zP b_c1)]) (fun b=>[I b.2.2.1,cells b_c1 [.string b.2.1] 9]) (fun b=>b.1) (zcy,c1,([]:List zBA),r0) ⟨h,hx0⟩ rfl (za4 rfl) (zaa [0,2] kr rfl) ?_
    rintro ⟨n1,x3,acc4,rr4⟩ ⟨h,hx4⟩
    cases n1 with
    | zero=>exact zeq h
    | succ n1 =>
     obtain ⟨ag1,hag1⟩:∃ ag,ag=zaW (fun _=>none) (zc4 j2) n1:=⟨_,rfl⟩
     have h:zc4 j2 ag1 x3=some rr4:=by rw [hag1]; exact h
     unfold zc4 at h
     refine zaL (zyG (zal (k:=1) zeV rfl dc rfl rfl rfl (zcI rfl dc rfl underlying9 (zaR rfl zeg (zyN ?_)))))
     refine zyB rfl h (fun h => ?_) (fun h => ?_)
     ·
      refine zao (zaF (zaz (zyG (zal (k:=1) zeV rfl dc rfl rfl rfl ?_))))
      obtain ⟨hg1,h⟩:=zbR h
      refine zaO (v:=.tuple #[.int .i32 0,zI 0]) (vs:=[.string x3]) rfl dc rfl rfl rfl zxr (hg1).elim (zyR 1 rfl (zaH rfl dc rfl rfl (zaH rfl dc rfl rfl (zyR 2 rfl (zyN (zaL (zyG (zyR 1 rfl (zal (k:=1) zeV rfl dc rfl rfl rfl (zyR 1 rfl ?_))))))))))
      obtain ⟨hg2,h⟩:=zbR h
      refine zb7 rfl dc rfl rfl rfl (za6 (i:=0) (j:=0) underlying9 (.inl ⟨rfl,rfl⟩) (.inr rfl) hg2) ?_
      obtain ⟨rr5,hr1,h⟩:=zql h
      have hx5:xs=acc4++(zcn x3 0 0)::rr5:=by rw [hx4,hr1]
      refine zhR hy rfl dc rfl hx5 rfl (k:=0) rfl ?_ ?_
      ·
       have hx6:xs=(acc4++[zcn x3 0 0])++rr5:=by rw [hx5]; simp
       refine zg7 rfl dc rfl ze7 (zyN (zaQ rfl (zao (zaF (zap (zal (k:=1) zeV rfl dc rfl rfl rfl (zyR 1 rfl ?_)))))))
       obtain ⟨hg3,h⟩:=zbR h
       refine zb7 rfl dc rfl rfl rfl (za6 (i:=0) (j:=(x3.size:Int)) underlying9 (.inr rfl) (.inl ⟨rfl,rfl⟩) hg3) ?_
       refine zaP (k:=1) (l':=[.string (zcn x3 0 (x3.size:Int))]) zjC rfl rfl rfl rfl rfl (fun _ _=>rfl) rfl ?_
       refine zaD (zae ?_)
       subst hag1
       exact zbr (n1,zcn x3 0 (x3.size:Int),acc4++[zcn x3 0 0],rr5) ⟨h,hx6⟩ (Nat.lt_succ_self _) rfl (za4 rfl) (zaa [0,1] kr rfl)
      refine zg7 rfl dc rfl ze7 (zyN (zbC rfl (zaA (zaj (zan (zaj (zan (zaj (zaj ?_)))))))))
      exact zjy (ds:=[]) acc4 (zcn x3 0 0) rr5 hx5 (.inl rfl) Splits.nil results81 (zaa [0] kr rfl)
     refine zbz (zaq (zaq (zaG ?_)))
     exact zah (acc4,rr4) ⟨h,hx4⟩ rfl (zmV) (zaa [0] kr rfl)
   rintro ⟨acc1,rr1⟩ ⟨h,hx1⟩
   rw [hj2] at h
   refine zaA (zaj ?_)
   cases h
   exact zk6 (ds:=[]) (.inl rfl) Splits.nil results81 (congrArg I (hx1.trans (List.append_nil _))) (zaa [0] kr rfl)
  refine zao ?_
  exact zah () h rfl (za4 rfl) (zaa [0,1,2,3] kr rfl)
 rintro _ h
 rw [hj1] at h
 obtain ⟨j3,hj3,h⟩:=zbP h
 refine za0 (β:=zBA×(List zBA)×(List zBA)) 0 rfl (fun b=>j3 b.1=some b.2.2∧xs=b.2.1++b.2.2) (fun b=>[]) (fun b=>[(0,.func (.yield l) #[] #[]),(2,zP b_c1)]) (fun b=>[I b.2.1,cells b_c1 [.string b.1] 9]) (fun cut => ?_) ?_
 ·
  refine cut (zaz ?_)
  refine zbN (β:=Nat×zBA×(List zBA)×(List zBA)) (fun b=>zaW (fun _=>none) (zbY c0 c2 j3) b.1 b.2.1=some b.2.2.2∧xs=b.2.2.1++b.2.2.2) (fun b=>[]) (fun b=>[(0,.func (.yield l) #[] #[]),(1,zP b_c0),(2,zP b_c1),(3,zP b_c2)]) (fun b=>[I b.2.2.1,cells b_c0 [.string c0] 9,cells b_c1 [.string b.2.1] 9,cells b_c2 [zI c2] 3]) (fun b=>b.1) (zcy,c1,([]:List zBA),r0) ⟨h,hx0⟩ rfl (za4 rfl) (zaa [0,1,2,3] kr rfl) ?_
  rintro ⟨n2,x7,acc8,rr9⟩ ⟨h,hx10⟩
  cases n2 with
  | zero=>exact zeq h
  | succ n2 =>
   obtain ⟨ag2,hag2⟩:∃ ag,ag=zaW (fun _=>none) (zbY c0 c2 j3) n2:=⟨_,rfl⟩
   have h:zbY c0 c2 j3 ag2 x7=some rr9:=by rw [hag2]; exact h
   unfold zbY at h
   refine zaz (zyG (zal (k:=2) zeV rfl dc rfl rfl rfl (zal (k:=1) zeV rfl dc rfl rfl rfl ?_)))
   obtain ⟨hg4,h⟩:=zbR h
   refine zaO (v:=zI (Lib.indexByte x7.data.toList 10)) (vs:=[.string x7,.string c0]) rfl dc rfl rfl rfl zxq (zuq x7 hg4) (zyR 1 rfl (zyN (zaL (zyG (zyR 1 rfl (zaR rfl zbk (zyN ?_)))))))
   refine zyB rfl h (fun h => ?_) (fun h => ?_)
   ·
    refine zbz (zaq (zhQ dc (zaq (zaG ?_))))
    exact zah (x7,acc8,rr9) ⟨h,hx10⟩ rfl (za4 rfl) (zaa [0,2] kr rfl)
   refine zao (zaF (zyG (zal (k:=2) zeV rfl dc rfl rfl rfl (zyR 1 rfl (zal (k:=3) zdE rfl dc rfl rfl rfl ?_)))))
   obtain ⟨hg5,h⟩:=zbR h
   refine zaR rfl (zbc (r:=(Lib.indexByte x7.data.toList 10)+c2) (IntWalk.i64_in _ hg5)) ?_
   obtain ⟨hg6,h⟩:=zbR h
   refine zb7 rfl dc rfl rfl rfl (za6 (i:=0) (j:=(Lib.indexByte x7.data.toList 10)+c2) underlying9 (.inl ⟨rfl,rfl⟩) (.inr rfl) hg6) (zyR 1 rfl (zyN (zaL (zyG (zyR 2 rfl ?_)))))
   obtain ⟨rr10,hr2,h⟩:=zql h
   have hx11:xs=acc8++(zcn x7 0 ((Lib.indexByte x7.data.toList 10)+c2))::rr10:=by rw [hx10,hr2]
   refine zhR hy rfl dc rfl hx11 rfl (k:=0) rfl ?_ ?_
   ·
    have hx12:xs=(acc8++[zcn x7 0 ((Lib.indexByte x7.data.toList 10)+c2)])++rr10:=by rw [hx11]; simp
    refine zg7 rfl dc rfl ze7 (zyN (zaQ rfl (zao (zaF (zap (zal (k:=2) zeV rfl dc rfl rfl rfl (zyR 1 rfl (zal (k:=1) zeV rfl dc rfl rfl rfl (zcI rfl dc rfl underlying9 ?_)))))))))
    obtain ⟨hg7,h⟩:=zbR h
    refine zaR rfl (zbc (r:=(Lib.indexByte x7.data.toList 10)+(c0.size:Int)) (IntWalk.i64_in _ hg7)) ?_
    obtain ⟨hg8,h⟩:=zbR h
    refine zb7 rfl dc rfl rfl rfl (za6 (i:=(Lib.indexByte x7.data.toList 10)+(c0.size:Int)) (j:=(x7.size:Int)) underlying9 (.inr rfl) (.inl ⟨rfl,rfl⟩) hg8) ?_
    refine zaP (k:=2) (l':=[.string (zcn x7 ((Lib.indexByte x7.data.toList 10)+(c0.size:Int)) (x7.size:Int))]) zjC rfl rfl rfl rfl rfl (fun _ _=>rfl) rfl ?_
    refine zaD (zae ?_)
    subst hag2
    exact zbr (n2,zcn x7 ((Lib.indexByte x7.data.toList 10)+(c0.size:Int)) (x7.size:Int),acc8++[zcn x7 0 ((Lib.indexByte x7.data.toList 10)+c2)],rr10) ⟨h,hx12⟩ (Nat.lt_succ_self _) rfl (za4 rfl) (zaa [0,1,2,3] kr rfl)
   refine zg7 rfl dc rfl ze7 (zyN (zbC rfl (zaA (zaj (zan (zaj (zan (zaj ?_))))))))
   exact zjy (ds:=[]) acc8 (zcn x7 0 ((Lib.indexByte x7.data.toList 10)+c2)) rr10 hx11 (.inl rfl) Splits.nil results81 (zaa [0] kr rfl)
 rintro ⟨x4,acc5,rr6⟩ ⟨h,hx7⟩
 rw [hj3] at h
 refine zap (zyR 1 rfl (zal (k:=1) zeV rfl dc rfl rfl rfl ?_))
 obtain ⟨rr11,hr3,h⟩:=zql h
 have hx13:xs=acc5++x4::rr11:=by rw [hx7,hr3]
 refine zhR hy rfl dc rfl hx13 rfl (k:=0) rfl ?_ ?_
 ·
  have hx14:xs=(acc5++[x4])++rr11:=by rw [hx13]; simp
  refine zaD ?_
  cases h
  exact zk6 (ds:=[]) (.inr rfl) Splits.nil results81 (congrArg I (hx14.trans (List.append_nil _))) (zaa [0] kr rfl)
 refine zaD ?_
 exact zjy (ds:=[]) acc5 x4 rr11 hx13 (.inr rfl) Splits.nil results81 (zaa [0] kr rfl)
def zfa (s1:zBA) (sep1:zBA) (sepSave1:Int):Option (zBA×zBA×Int) := some (sep1,s1,sepSave1)
theorem zh4 {s1:zBA} {sep1:zBA} {sepSave1:Int} {r:(zBA×zBA×Int)} (h:zfa s1 sep1 sepSave1=some r):Fn prog 62 [.string s1,.string sep1,zI sepSave1] [] (fun b:Nat×Nat×Nat=>.func (.func 81) #[] #[zP b.1,zP b.2.1,zP b.2.2]) (fun b=>[cells b.1 [.string r.1] 9,cells b.2.1 [.string r.2.1] 9,cells b.2.2 [zI r.2.2] 3]):=by
 unfold zfa at h
 refine Fn.intro func62 rfl ntmps62 (by simp) ?_
 intro w0 K
 refine zyG ?_
 refine zdX rfl dc rfl (fun b1 => ?_)
 refine zdX rfl dc rfl (fun b2 => ?_)
 refine zdX rfl dc rfl (fun b3 => ?_)
 refine zyR 1 rfl (zyH (zf8 (x1:=[]) (x2:=[.tmp 4,.tmp 3,.tmp 5]) rfl dc rfl rfl (zyR 1 rfl (zyN (zaA ?_)))))
 cases h
 exact zcj (rs:=[.tmp 6]) (b2,b1,b3) (.inl rfl) results62 (.cons (.tmp rfl) .nil) rfl (zaa [1,0,2] kr rfl)
def zfb (s1:zBA) (sep1:zBA):Option (zBA×zBA×Int) := zak (zfa s1 sep1 0) fun (r1:(zBA×zBA×Int)) => some (r1.1,r1.2.1,r1.2.2)
theorem zh5 {s1:zBA} {sep1:zBA} {r:(zBA×zBA×Int)} (h:zfb s1 sep1=some r):Fn prog 36 [.string s1,.string sep1] [] (fun b:Nat×Nat×Nat=>.func (.func 81) #[] #[zP b.1,zP b.2.1,zP b.2.2]) (fun b=>[cells b.1 [.string r.1] 9,cells b.2.1 [.string r.2.1] 9,cells b.2.2 [zI r.2.2] 3]):=by
 unfold zfb at h
 refine Fn.intro func36 rfl ntmps36 (by simp) ?_
 intro w0 K
 refine zyG (zyR 1 rfl (zyH (zyR 2 rfl ?_)))
 obtain ⟨r1,hq1,h⟩:=zbA h
 refine zb9 (vs:=[.string s1,.string sep1,zI 0]) rfl dc rfl rfl rfl zxF (zh4 hq1) Splits.nil ?_
 rintro ⟨b1,b2,b3⟩
 refine zyR 1 rfl (zyN (zaA ?_))
 cases h
 exact zcj (rs:=[.tmp 4]) (b1,b2,b3) (.inl rfl) results36 (.cons (.tmp rfl) .nil) rfl (zaa [0,1,2] kr rfl)
def zaN (x1:zam) (ag1:(List zam)→Option (List zam)) (s5:List zam):Option (List zam) := grd (s5.length+1≤2147483648) <| ag1 (s5++[x1])
def zbn (xseq10:zBA):Option (List zam) := zbx (fun (j1:(List zam)→Option (List zam)) => zak (zcx xseq10) fun (its1:(List zam)) => zbx (fun (dn1:(List zam)→Option (List zam)) => zcF dn1 (zaN) its1 ([]:List zam)
) (fun (s5:List zam) => j1 s5
)
) (fun (s2:List zam) => some s2
)
theorem zdS {bseq10:Nat} {xseq10:zBA} {r:(List zam)} (h:zbn xseq10=some r):Fn prog 92 [.slice none 0 0,.func (.func 71) #[] #[zP bseq10]] [cells bseq10 [.string xseq10] 9] (fun v0:Value=>v0) (fun v0=>[cells bseq10 [.string xseq10] 9,zv5 v0 r]):=by
 unfold zbn at h
 refine Fn.intro func92 rfl ntmps92 (by simp) ?_
 intro w0 K
 refine zgo ?_
 obtain ⟨j1,hj1,h⟩:=zbP h
 refine za0 (β:=(List zam)×Nat×Value×(List Nat)) 1 rfl (fun b=>j1 b.1=some r) (fun b=>zfe b.2.2.2) (fun b=>[(2,zP b.2.1)]) (fun b=>[cells bseq10 [.string xseq10] 9,cells b.2.1 [b.2.2.1] 103,zv5 b.2.2.1 b.1,zfF ((b.2.2.2:List Nat).map zfp)]) (fun cut => ?_) ?_
 ·
  refine zyG ?_
  refine zva (fun _ _=>rfl) rfl dc rfl (fun b2 => ?_)
  refine zyR 1 rfl (zyN (cut (zyG (zyR 1 rfl (zyN (zaz ?_))))))
  obtain ⟨its1,hq1,h⟩:=zbA h
  refine zfE (enc:=zbK) (e:=95) (size:=4) ?_
  obtain ⟨dn1,hdn1,h⟩:=zbP h
  refine zg9 (α:=zam) (β:=(List zam)×Value) (γ:=Unit) (δ:=Nat) (ps:=[7]) Ro.nil rfl zrH (zdq hq1) (fun pre b=>∀ post,its1=pre++post→zcF dn1 (zaN) post b.1=some r) (fun pre b=>[cells b2 [b.2] 103,zv5 b.2 b.1]) (fun c pre g=>False) (fun c pre g=>[]) (fun pre x b j=>[(2,zP b2),(4,.slice none 0 0),(6,.func (.func 71) #[] #[zP bseq10]),(5,zP j)]) (fun pre x b j=>[cells b2 [b.2] 103,zv5 b.2 b.1,cells j (zr0 x) 95]) (([]:List zam),(.slice none 0 0)) (fun post e=>by rw [List.nil_append] at e; subst e; exact h) (zaa [2,3] kr rfl) ⟨.inl ⟨0,rfl⟩,trivial⟩ (fun _=>rfl) dc ?_ ?_ ?_ ?_
  ·
   rintro lp rc pre x1 post ⟨s5,v4⟩ w1 K1 hxs1 hext hro hinv
   refine zap ?_
   refine za3 zko rfl dc (fun b3 => ?_)
   refine za2 (k:=2) (vs:=(zr0 x1)) (l':=(zr0 x1)) zfL rfl rfl rfl rfl rfl (show _≤_ by simp) rfl rfl ?_
   refine zaD ?_
   exact fun a w ha hw=>⟨b3,(za4 rfl) _ _ _ ha,hw.weaken (zaa [0,1,2] kr rfl)⟩
  ·
   rintro lp rc pre x1 post1 ⟨s5,v4⟩ jb1 w1 K1 hxs1 hext hro hinv
   have h:=hinv (x1::post1) hxs1
   obtain ⟨ag1,hag1⟩:∃ ag,ag=zcF dn1 (zaN) post1:=⟨_,rfl⟩
   have h:zaN x1 ag1 s5=some r:=by have h2:=h; rw [zco,← hag1] at h2; exact h2
   unfold zaN at h
   refine zaz (zap (zal (k:=0) ztx rfl dc rfl rfl rfl (zbW (k:=2) (cs:=(zr0 x1)) zgX rfl dc rfl rfl rfl rfl ?_)))
   refine zaT (cs:=(zr0 x1)) (te:=95) (ps:=[(0,.tmp 9)]) rfl dc rfl (fun _=>by kernel_rfl) (fun b4 => ?_)
   obtain ⟨hg1,h⟩:=zbR h
   refine zb3 (k:=1) (k2:=3) (ys:=[x1]) underlying103 zx1 zgj ziR rfl dc rfl rfl rfl rfl rfl rfl hg1 (fun v5 => ?_)
   refine zaP (k:=0) (l':=[v5]) zvH rfl rfl rfl rfl rfl (fun _ h=>zuf h (k:=1) rfl) rfl ?_
   refine zaD (zae ?_)
   exact zcJ (s5++[x1],v5) (fun post2 e2=>by have e9:=zcd hxs1 e2; subst e9; subst hag1; exact h) (zaa [0,1] kr rfl)
  ·
   rintro dm1 ⟨s5,v4⟩ hinv
   have h:dn1 s5=some r:=hinv [] (List.append_nil _).symm
   rw [hdn1] at h
   show TX _ _ _ _ _ _ _ [cells bseq10 [.string xseq10] 9,zfF ((([]:List Nat):List Nat).map zfp),emp,emp,cells b2 [v4] 103,zv5 v4 s5,zfp dm1]
   refine zey (k:=6) (j:=1) rfl rfl dc ?_
   refine zae ?_
   exact zah (s5,b2,v4,dm1::([]:List Nat)) h rfl (za4 rfl) (zaa [0,4,5,1] kr rfl)
  rintro dm1 c pre x1 post g hxs hX
  exact (show False from hX).elim
 rintro ⟨s2,b1,v1,ds1⟩ h
 rw [hj1] at h
 refine zyG (zal (k:=1) ztx rfl dc rfl rfl rfl (zyR 1 rfl (zyN (zaA ?_))))
 cases h
 exact zfJ (rs:=[.tmp 4]) ds1 v1 (.inl rfl) (zcR (k:=3) rfl) results92 (.cons (.tmp rfl) .nil) rfl (zaa [0,2] kr rfl)
def zdv (xseq10:zBA):Option (List zam) := zak (zbn xseq10) fun (r1:(List zam)) => some r1
theorem zhk {bseq10:Nat} {xseq10:zBA} {r:(List zam)} (h:zdv xseq10=some r):Fn prog 76 [.func (.func 71) #[] #[zP bseq10]] [cells bseq10 [.string xseq10] 9] (fun v0:Value=>v0) (fun v0=>[cells bseq10 [.string xseq10] 9,zv5 v0 r]):=by
 unfold zdv at h
 refine Fn.intro func76 rfl ntmps76 (by simp) ?_
 intro w0 K
 refine zyG (zyR 1 rfl (zyH (zyR 1 rfl ?_)))
 obtain ⟨r1,hq1,h⟩:=zbA h
 refine zb9 (vs:=[.slice none 0 0,.func (.func 71) #[] #[zP bseq10]]) rfl dc rfl rfl rfl zxm (zdS (bseq10:=bseq10) hq1) (zaa [0] kr rfl) ?_
 rintro v1
 refine zyR 1 rfl (zyN (zaA ?_))
 cases h
 exact zcj (rs:=[.tmp 2]) v1 (.inl rfl) results76 (.cons (.tmp rfl) .nil) rfl (zaa [1,2] kr rfl)
def zdg (vals1:List Int) (j1:Option Int) (ag1:Int→Option Int) (x3:Int):Option Int := zar (decide ((x3:Int)<(vals1.length:Int))) ( zak (zea vals1 x3) fun (q1:Int) => zar ((q1:Int) != 0) ( some q1
) ( grd (I64 (x3+1)) <| ag1 (x3+1)
)
) ( j1
)
def zfl (vals1:List Int):Option Int := zbx (fun (j1:Option Int) => zaW (fun _=>none) (zdg vals1 j1) zcy 0
) ( some 0
)
theorem zlu {vvvals1 vvals1:Value} {Lvals1:List Int} {kvals1:Nat} {vals1:List Int} (hwvals1:Vw vvvals1 Lvals1 1 kvals1 vvals1 vals1) {r:Int} (h:zfl vals1=some r):FnR prog 53 [vvals1] [zeW (zkV (.i64)) 1 vvvals1 kvals1 Lvals1] [] (fun _:Unit=>(zI r)) (fun _=>[]):=by
 unfold zfl at h
 refine FnR.intro func53 rfl ntmps53 (by simp) ?_
 intro w0 K hrd
 obtain ⟨j1,hj1,h⟩:=zbP h
 refine za0 (β:=Unit) 2 rfl (fun b=>j1=some r) (fun b=>[]) (fun b=>[(3,zI 0)]) (fun b=>[]) (fun cut => ?_) ?_
 ·
  refine zyG (zyR 1 rfl (zyH (zyR 1 rfl (zyN (cut (zyG (zyR 1 rfl ?_)))))))
  refine zcm hwvals1 rfl dc rfl underlying128 (zyR 1 rfl (zyN (zaz ?_)))
  refine zbN (β:=Nat×Int) (fun b=>zaW (fun _=>none) (zdg vals1 j1) b.1 b.2=some r) (fun b=>[]) (fun b=>[(3,zI 0),(6,vvals1),(7,zI (vals1.length:Int)),(8,zI b.2)]) (fun b=>[]) (fun b=>b.1) (zcy,0) h rfl (za4 rfl) Splits.nil ?_
  rintro ⟨n1,x3⟩ h
  cases n1 with
  | zero=>exact zeq h
  | succ n1 =>
   obtain ⟨ag1,hag1⟩:∃ ag,ag=zaW (fun _=>none) (zdg vals1 j1) n1:=⟨_,rfl⟩
   have h:zdg vals1 j1 ag1 x3=some r:=by rw [hag1]; exact h
   unfold zdg at h
   refine zyG (zaR rfl zbk (zyN (zaL ?_)))
   refine zyB rfl h (fun h => ?_) (fun h => ?_)
   ·
    refine zao (zaF (zaL (zaz (zyG ?_))))
    obtain ⟨q1,hq1,h⟩:=zbA h
    refine zbf hwvals1 hq1 underlying128 zh3 rfl dc rfl rfl rfl (zcq (n:=kvals1+(x3:Int).toNat) (j:=0) (i:=0) (q:=q1) hrd rfl (by omega) zdE rfl dc rfl (Vw.get hwvals1 hq1) rfl rfl (zyR 1 rfl (zyH (zyR 2 rfl (zaR rfl zdR (zyN ?_))))))
    refine zyB rfl h (fun h => ?_) (fun h => ?_)
    ·
     refine zyG (zyR 2 rfl (zyN (zaA (zan (zaj (zaj (zan (zaj ?_))))))))
     cases h
     exact zaS 2 results53
    refine zao (zae (zaF (zap ?_)))
    obtain ⟨hg1,h⟩:=zbR h
    refine zaR rfl (zbc (r:=x3+1) (IntWalk.i64_in _ hg1)) (zyR 1 rfl (zaD ?_))
    subst hag1
    exact zbr (n1,x3+1) h (Nat.lt_succ_self _) rfl (za4 rfl) Splits.nil
   refine zbz (zaq (zaq (zaG ?_)))
   exact zah () h rfl (za4 rfl) Splits.nil
 rintro _ h
 rw [hj1] at h
 refine zyG (zyR 2 rfl (zyN (zaA ?_)))
 cases h
 exact zaS 2 results53
def zed (x1:Int):Option Bool := some ((x1:Int) != x1)
theorem zgP {x1:Int} {r:Bool} (h:zed x1=some r):FnP prog 78 [zI x1] (.bool r):=by
 unfold zed at h
 refine FnP.intro func78 rfl ntmps78 (by simp) ?_
 intro w0 K
 refine zyG (zyR 1 rfl (zyH (zyR 2 rfl (zaR rfl zdR (zyR 1 rfl (zyN (zaA ?_)))))))
 cases h
 exact zaS 2 results78
def zei (x1:Int) (y1:Int):Option Int := zak (zed x1) fun (r1:Bool) => zak (zed y1) fun (r2:Bool) => zar (r1) ( zar (r2) ( some 0
) ( some (-1)
)
) ( zar (r2) ( some 1
) ( zar (decide ((x1:Int)<y1)) ( some (-1)
) ( zar (decide ((y1:Int)<x1)) ( some 1
) ( some 0
)
)
)
)
theorem zif {x1:Int} {y1:Int} {r:Int} (h:zei x1 y1=some r):FnP prog 55 [zI x1,zI y1] (zI r):=by
 unfold zei at h
 refine FnP.intro func55 rfl ntmps55 (by simp) ?_
 intro w0 K
 refine zyG (zyR 1 rfl (zyH (zyR 1 rfl ?_)))
 obtain ⟨r1,hq1,h⟩:=zbA h
 refine zaO (v:=.bool r1) (vs:=[zI x1]) rfl dc rfl rfl rfl zwb (zgP hq1) (zyR 1 rfl (zyH (zyR 1 rfl ?_)))
 obtain ⟨r2,hq2,h⟩:=zbA h
 refine zaO (v:=.bool r2) (vs:=[zI y1]) rfl dc rfl rfl rfl zwb (zgP hq2) (zyR 1 rfl (zyN (zaL (zyG (zyR 1 rfl (zyN ?_))))))
 refine zyB rfl h (fun h => ?_) (fun h => ?_)
 ·
  refine zaL (zyG (zyR 1 rfl (zyN ?_)))
  refine zyB rfl h (fun h => ?_) (fun h => ?_)
  ·
   refine zyG (zyR 1 rfl (zyN (zaA (zaj (zaj ?_)))))
   cases h
   exact zaS 4 results55
  refine zao (zaF (zyG (zyR 1 rfl (zyN (zaA (zaj ?_))))))
  cases h
  exact zaS 4 results55
 refine zao (zaF (zaL (zyG (zyR 1 rfl (zyN ?_)))))
 refine zyB rfl h (fun h => ?_) (fun h => ?_)
 ·
  refine zyG (zyR 1 rfl (zyN (zaA (zaj ?_))))
  cases h
  exact zaS 4 results55
 refine zao (zaF (zaL (zyG (zyR 2 rfl (zaR rfl zbk (zyN ?_))))))
 refine zyB rfl h (fun h => ?_) (fun h => ?_)
 ·
  refine zyG (zyR 1 rfl (zyN (zaA (zaj ?_))))
  cases h
  exact zaS 4 results55
 refine zao (zaF (zaL (zyG (zyR 2 rfl (zaR rfl zeg (zyN ?_))))))
 refine zyB rfl h (fun h => ?_) (fun h => ?_)
 ·
  refine zyG (zyR 1 rfl (zyN (zaA (zaj ?_))))
  cases h
  exact zaS 4 results55
 refine zao (zaF (zyG (zyR 1 rfl (zyN (zaA ?_)))))
 cases h
 exact zaS 4 results55
def zbg (o1:zac) (s1:zBA) (ek1:Int→Int→Int→Option Int) (x1:zam) (ag1:Int→Int→Bool→Option Int) (from4:Int) (to4:Int) (open3:Bool):Option Int := grd (I32 x1.Rune) <| zar (decide ((from4:Int)<0)) ( zar (((zbD x1.Broken x1.Rune):Int)==1) ( grd (I64 (x1.At+x1.Width)) <| ag1 x1.At (x1.At+x1.Width) open3
) ( zar (decide ((from4:Int)<0)) ( ag1 from4 to4 open3
) ( zar (open3) ( zar (((zbD x1.Broken x1.Rune):Int)==1) ( grd (I64 (x1.At+x1.Width)) <| ag1 from4 (x1.At+x1.Width) open3
) ( zar (((zbD x1.Broken x1.Rune):Int)==2) ( grd (I64 (x1.At+x1.Width)) <| ag1 from4 (x1.At+x1.Width) open3
) ( zar (((zbD x1.Broken x1.Rune):Int)==1) ( grd (0≤(from4:Int)∧(from4:Int)≤to4∧(to4:Int)≤(s1.size:Int)) <| zak (zcC (zcn s1 from4 to4)) fun (r2:zBA) => zar (((zbJ r2 o1.skips).getD false)) ( ek1 to4 from4 to4
) ( ek1 0 from4 to4
)
) ( zar (((zbD x1.Broken x1.Rune):Int)==3) ( grd (0≤(from4:Int)∧(from4:Int)≤to4∧(to4:Int)≤(s1.size:Int)) <| zak (zcC (zcn s1 from4 to4)) fun (r3:zBA) => zar (((zbJ r3 o1.skips).getD false)) ( ek1 to4 from4 to4
) ( ek1 0 from4 to4
)
) ( ag1 from4 to4 false
)
)
)
)
) ( zar (((zbD x1.Broken x1.Rune):Int)==1) ( grd (0≤(from4:Int)∧(from4:Int)≤to4∧(to4:Int)≤(s1.size:Int)) <| zak (zcC (zcn s1 from4 to4)) fun (r4:zBA) => zar (((zbJ r4 o1.skips).getD false)) ( ek1 to4 from4 to4
) ( ek1 0 from4 to4
)
) ( zar (((zbD x1.Broken x1.Rune):Int)==3) ( grd (0≤(from4:Int)∧(from4:Int)≤to4∧(to4:Int)≤(s1.size:Int)) <| zak (zcC (zcn s1 from4 to4)) fun (r5:zBA) => zar (((zbJ r5 o1.skips).getD false)) ( ek1 to4 from4 to4
) ( ek1 0 from4 to4
)
) ( ag1 from4 to4 false
)
)
)
)
)
) ( zar (decide ((from4:Int)<0)) ( ag1 from4 to4 open3
) ( zar (open3) ( zar (((zbD x1.Broken x1.Rune):Int)==1) ( grd (I64 (x1.At+x1.Width)) <| ag1 from4 (x1.At+x1.Width) open3
) ( zar (((zbD x1.Broken x1.Rune):Int)==2) ( grd (I64 (x1.At+x1.Width)) <| ag1 from4 (x1.At+x1.Width) open3
) ( zar (((zbD x1.Broken x1.Rune):Int)==1) ( grd (0≤(from4:Int)∧(from4:Int)≤to4∧(to4:Int)≤(s1.size:Int)) <| zak (zcC (zcn s1 from4 to4)) fun (r6:zBA) => zar (((zbJ r6 o1.skips).getD false)) ( ek1 to4 from4 to4
) ( ek1 0 from4 to4
)
) ( zar (((zbD x1.Broken x1.Rune):Int)==3) ( grd (0≤(from4:Int)∧(from4:Int)≤to4∧(to4:Int)≤(s1.size:Int)) <| zak (zcC (zcn s1 from4 to4)) fun (r7:zBA) => zar (((zbJ r7 o1.skips).getD false)) ( ek1 to4 from4 to4
) ( ek1 0 from4 to4
)
) ( ag1 from4 to4 false
)
)
)
)
) ( zar (((zbD x1.Broken x1.Rune):Int)==1) ( grd (0≤(from4:Int)∧(from4:Int)≤to4∧(to4:Int)≤(s1.size:Int)) <| zak (zcC (zcn s1 from4 to4)) fun (r8:zBA) => zar (((zbJ r8 o1.skips).getD false)) ( ek1 to4 from4 to4
) ( ek1 0 from4 to4
)
) ( zar (((zbD x1.Broken x1.Rune):Int)==3) ( grd (0≤(from4:Int)∧(from4:Int)≤to4∧(to4:Int)≤(s1.size:Int)) <| zak (zcC (zcn s1 from4 to4)) fun (r9:zBA) => zar (((zbJ r9 o1.skips).getD false)) ( ek1 to4 from4 to4
) ( ek1 0 from4 to4
)
) ( ag1 from4 to4 false
)
)
)
)
)
def zcU (o1:zac) (s1:zBA):Option Int := zbx (fun (j1:Option Int) => zak (zdz s1) fun (r1:zBA) => zak (zcx r1) fun (its1:(List zam)) => zbx (fun (ek1:Int→Int→Int→Option Int) => zbx (fun (dn1:Int→Int→Bool→Option Int) => zcF dn1 (zbg o1 s1 ek1) its1 (-1) 0 true
) (fun (from4:Int) (to4:Int) (open3:Bool) => j1
)
) (fun (x2:Int) (from5:Int) (to5:Int) => some x2
)
) ( some 0
)
theorem zg4 {bo1:Nat} {o1:zac} {o1_h0 o1_h1 o1_h2 o1_h3 o1_h4:Hd} {s1:zBA} {r:Int} (h:zcU o1 s1=some r):FnR prog 47 [zP bo1,.string s1] [cells bo1 [o1_h0.v,.map (some (za7 o1_h1)),.map (some (za7 o1_h2)),.map (some (za7 o1_h3)),o1_h4.v] 79,zv0 o1_h0.v o1.units,zbO (fun n:zBA=>Value.string n) (fun n:Int=>Value.int .i64 n) (za7 o1_h1) o1.place,zcB (za7 o1_h2) o1.fors,zbO (fun n:zBA=>Value.string n) (fun n:Bool=>Value.bool n) (za7 o1_h3) o1.skips,zv0 o1_h4.v o1.lines] [] (fun _:Unit=>(zI r)) (fun _=>[]):=by
 unfold zcU at h
 refine FnR.intro func47 rfl ntmps47 (by simp) ?_
 intro w0 K hrd
 refine zgo ?_
 obtain ⟨j1,hj1,h⟩:=zbP h
 refine za0 (β:=Nat×(List Nat)) 3 rfl (fun b=>j1=some r) (fun b=>zfe b.2) (fun b=>[(4,zP b.1)]) (fun b=>[cells b.1 [zI 0] 3,zfF ((b.2:List Nat).map zfp)]) (fun cut => ?_) ?_
 ·
  refine zyG ?_
  refine zdX rfl dc rfl (fun b2 => ?_)
  refine zdX rfl dc rfl (fun b3 => ?_)
  refine za3 zvt rfl dc (fun b4 => ?_)
  refine zyH ?_
  refine za3 zvt rfl dc (fun b5 => ?_)
  refine za3 zvt rfl dc (fun b6 => ?_)
  refine zaP (k:=4) (l':=[zI (-1)]) zh3 rfl rfl rfl rfl rfl (fun _ _=>rfl) rfl ?_
  refine zaP (k:=5) (l':=[zI 0]) zh3 rfl rfl rfl rfl rfl (fun _ _=>rfl) rfl ?_
  refine zyH ?_
  refine za3 zwQ rfl dc (fun b7 => ?_)
  refine zaP (k:=6) (l':=[.bool true]) zqP rfl rfl rfl rfl rfl (fun _ _=>rfl) rfl ?_
  refine zyN (cut (zyG (zal (k:=2) zeV rfl dc rfl rfl rfl ?_)))
  obtain ⟨r1,hq1,h⟩:=zbA h
  refine zb9 (vs:=[.string s1]) rfl dc rfl rfl rfl zrI (zem hq1) Splits.nil ?_
  rintro b8
  refine zcu (L':=[zfF ((([]:List Nat):List Nat).map zfp),cells b2 [zP bo1] 23,cells b3 [.string s1] 9,cells b4 [zI 0] 3,cells b5 [zI (-1)] 3,cells b6 [zI 0] 3,cells b7 [.bool true] 4,cells b8 [.string r1] 9]) (zaa [0,1,2,3,4,5,6,7] kr rfl) (zyN (zaz ?_))
  obtain ⟨its1,hq2,h⟩:=zbA h
  obtain ⟨ek1,hek1,h⟩:=zbP h
  obtain ⟨dn1,hdn1,h⟩:=zbP h
  refine zg9 (α:=zam) (β:=Int×Int×Bool) (γ:=(Int×Int×Int)) (δ:=Nat) (ps:=[12]) Ro.nil rfl zrH (zdq hq2) (fun pre b=>∀ post,its1=pre++post→zcF dn1 (zbg o1 s1 ek1) post b.1 b.2.1 b.2.2=some r) (fun pre b=>[cells b2 [zP bo1] 23,cells b3 [.string s1] 9,cells b4 [zI 0] 3,cells b5 [zI b.1] 3,cells b6 [zI b.2.1] 3,cells b7 [.bool b.2.2] 4]) (fun c pre g=>(fun g=>c=.ret∧ek1 g.1 g.2.1 g.2.2=some r) g) (fun c pre g=>(fun g=>[cells b2 [zP bo1] 23,cells b3 [.string s1] 9,cells b4 [zI g.1] 3,cells b5 [zI g.2.1] 3,cells b6 [zI g.2.2] 3,cells b7 [.bool false] 4]) g) (fun pre x b j=>[(2,zP b2),(3,zP b3),(4,zP b4),(5,zP b5),(6,zP b6),(7,zP b7),(11,.func (.func 71) #[] #[zP b8]),(8,zP j)]) (fun pre x b j=>[cells b2 [zP bo1] 23,cells b3 [.string s1] 9,cells b4 [zI 0] 3,cells b5 [zI b.1] 3,cells b6 [zI b.2.1] 3,cells b7 [.bool b.2.2] 4,cells j (zr0 x) 95]) ((-1),0,true) (fun post e=>by rw [List.nil_append] at e; subst e; exact h) (zaa [1,2,3,4,5,6] kr rfl) ⟨.inl ⟨7,rfl⟩,trivial⟩ (fun _=>rfl) dc ?_ ?_ ?_ ?_
  ·
   rintro lp rc pre x1 post ⟨from4,to4,open3⟩ w1 K1 hxs1 hext hro hinv
   have hrd:=hrd.ext hext
   refine zap ?_
   refine za3 zko rfl dc (fun b9 => ?_)
   refine za2 (k:=6) (vs:=(zr0 x1)) (l':=(zr0 x1)) zfL rfl rfl rfl rfl rfl (show _≤_ by simp) rfl rfl ?_
   refine zaD ?_
   exact fun a w ha hw=>⟨b9,(za4 rfl) _ _ _ ha,hw.weaken (zaa [0,1,2,3,4,5,6] kr rfl)⟩
  ·
   rintro lp rc pre x1 post1 ⟨from4,to4,open3⟩ jb1 w1 K1 hxs1 hext hro hinv
   have hrd:=hrd.ext hext
   have h:=hinv (x1::post1) hxs1
   obtain ⟨ag1,hag1⟩:∃ ag,ag=zcF dn1 (zbg o1 s1 ek1) post1:=⟨_,rfl⟩
   have h:zbg o1 s1 ek1 x1 ag1 from4 to4 open3=some r:=by have h2:=h; rw [zco,← hag1] at h2; exact h2
   unfold zbg at h
   refine zaz (zyG (zbW (k:=6) (cs:=(zr0 x1)) zgX rfl dc rfl rfl rfl rfl ?_))
   obtain ⟨hg1,h⟩:=zbR h
   refine zaO (v:=zI (zbD x1.Broken x1.Rune)) (vs:=[.agg (zr0 x1).toArray]) rfl dc rfl rfl rfl zqi (zvi x1.At x1.Width x1.Rune x1.Broken hg1.1 hg1.2) (zyR 1 rfl (zyN (zaz (zyG (zal (k:=3) zdE rfl dc rfl rfl rfl (zaR rfl zbk (zyR 1 rfl ?_)))))))
   refine zyS (s:=35) rfl h (fun h => ?_) (fun h => ?_)
   ·
    refine zyR 1 rfl (zaR rfl za9 (zyR 2 rfl (zyN ?_)))
    refine zyB rfl h (fun h => ?_) (fun h => ?_)
    ·
     obtain ⟨hg2,h⟩:=zbR h
     refine zmU (β:=Unit) 8 7 _ [(0,39,zP jb1),(1,40,zI x1.At),(2,41,zP jb1),(3,42,zI x1.At),(4,43,.pointer (some ⟨jb1,1,none⟩)),(5,44,zI x1.Width),(6,45,zI (x1.At+x1.Width))] (fun _b=>[]) (fun _b=>[cells b2 [zP bo1] 23,cells b3 [.string s1] 9,cells b4 [zI 0] 3,cells b5 [zI x1.At] 3,cells b6 [zI to4] 3,cells b7 [.bool open3] 4,cells jb1 (zr0 x1) 95]) mixed kr kr rfl dc dc (by rfl) kr kr (zaK ?_ (zaK ?_ (zaK ?_ (zaK ?_ (zaK ?_ (zaK ?_ (zaK ?_ (zeK DrawPreX.nil)))))))) (fun _b=>(zaK ?_ (zaK ?_ (zaK ?_ (zaK ?_ (zaK ?_ (zaK ?_ (zaK ?_ (zeK DrawPreX.nil))))))))) ?_ ?_
     · exact fun D n d c u i=>zaf zdJ rfl dc (za8 (by rfl) rfl) (show _=0 from rfl) (zaJ 0 u i)
     · exact fun D n d c u i=>zal (k:=6) zdE rfl dc (zaX 0 u d) rfl rfl (zaJ 1 u i)
     · exact fun D n d c u i=>zaf zdJ rfl dc (za8 (by rfl) rfl) (show _=0 from rfl) (zaJ 2 u i)
     · exact fun D n d c u i=>zal (k:=6) zdE rfl dc (zaX 2 u d) rfl rfl (zaJ 3 u i)
     · exact fun D n d c u i=>zaf zg1 rfl dc (za8 (by rfl) rfl) (show _=1 from rfl) (zaJ 4 u i)
     · exact fun D n d c u i=>zal (k:=6) zdE rfl dc (zaX 4 u d) rfl rfl (zaJ 5 u i)
     · exact fun D n d c u i=>zhG rfl dc (zaX 3 u d) (zaX 5 u d) (zbc (r:=x1.At+x1.Width) (IntWalk.i64_in _ hg2)) (zaJ 6 u i)
     · exact fun D n d c u i=>zaf zdJ rfl dc (za8 (by rfl) rfl) (show _=0 from rfl) (zaJ 0 u i)
     · exact fun D n d c u i=>zal (k:=6) zdE rfl dc (zaX 0 u d) rfl rfl (zaJ 1 u i)
     · exact fun D n d c u i=>zaf zdJ rfl dc (za8 (by rfl) rfl) (show _=0 from rfl) (zaJ 2 u i)
     · exact fun D n d c u i=>zal (k:=6) zdE rfl dc (zaX 2 u d) rfl rfl (zaJ 3 u i)
     · exact fun D n d c u i=>zaf zg1 rfl dc (za8 (by rfl) rfl) (show _=1 from rfl) (zaJ 4 u i)
     · exact fun D n d c u i=>zal (k:=6) zdE rfl dc (zaX 4 u d) rfl rfl (zaJ 5 u i)
     · exact fun D n d c u i=>zhG rfl dc (zaX 3 u d) (zaX 5 u d) (zbc (r:=x1.At+x1.Width) (IntWalk.i64_in _ hg2)) (zaJ 6 u i)
     ·
      intro D hn hd hcl
      refine zaP (k:=3) (l':=[zI x1.At]) zh3 rfl (za8 (by rfl) rfl) (zdK (m:=1) kr rfl (hd 1 dc)) rfl rfl (fun _ _=>rfl) rfl ?_
      exact fun a w ha hw=>⟨(),ha,hw⟩
     intro _b
     refine zaP (k:=4) (l':=[zI (x1.At+x1.Width)]) zh3 rfl rfl rfl rfl rfl (fun _ _=>rfl) rfl ?_
     refine zaD (zae (zae ?_))
     exact zcJ (x1.At,x1.At+x1.Width,open3) (fun post2 e2=>by have e9:=zcd hxs1 e2; subst e9; subst hag1; exact h) (zaa [0,1,2,3,4,5] kr rfl)
    refine zyG (zal (k:=3) zdE rfl dc rfl rfl rfl (zaR rfl zbk (zyR 1 rfl (zyN ?_))))
    refine zyB rfl h (fun h => ?_) (fun h => ?_)
    ·
     refine zao (zae (zae ?_))
     exact zcJ (from4,to4,open3) (fun post2 e2=>by have e9:=zcd hxs1 e2; subst e9; subst hag1; exact h) (zaa [0,1,2,3,4,5] kr rfl)
    refine zyG (zal (k:=5) zvh rfl dc rfl rfl rfl (zyR 1 rfl ?_))
    refine zyS (s:=51) rfl h (fun h => ?_) (fun h => ?_)
    ·
     refine zyR 1 rfl (zaR rfl za9 (zyR 1 rfl ?_))
     refine zyS (s:=54) rfl h (fun h => ?_) (fun h => ?_)
     ·
      refine zyR 5 rfl (zyN (zbC rfl (zap (zaf zdJ rfl dc rfl (show _=0 from rfl) (zal (k:=6) zdE rfl dc rfl rfl rfl (zaf zg1 rfl dc rfl (show _=1 from rfl) (zal (k:=6) zdE rfl dc rfl rfl rfl ?_)))))))
      obtain ⟨hg3,h⟩:=zbR h
      refine zaR rfl (zbc (r:=x1.At+x1.Width) (IntWalk.i64_in _ hg3)) ?_
      refine zaP (k:=4) (l':=[zI (x1.At+x1.Width)]) zh3 rfl rfl rfl rfl rfl (fun _ _=>rfl) rfl ?_
      refine zaD (zae (zae ?_))
      exact zcJ (from4,x1.At+x1.Width,open3) (fun post2 e2=>by have e9:=zcd hxs1 e2; subst e9; subst hag1; exact h) (zaa [0,1,2,3,4,5] kr rfl)
     refine zyR 1 rfl (zaR rfl za9 (zyR 3 rfl (zyN ?_)))
     refine zyB rfl h (fun h => ?_) (fun h => ?_)
     ·
      refine zap (zaf zdJ rfl dc rfl (show _=0 from rfl) (zal (k:=6) zdE rfl dc rfl rfl rfl (zaf zg1 rfl dc rfl (show _=1 from rfl) (zal (k:=6) zdE rfl dc rfl rfl rfl ?_))))
      obtain ⟨hg4,h⟩:=zbR h
      refine zaR rfl (zbc (r:=x1.At+x1.Width) (IntWalk.i64_in _ hg4)) ?_
      refine zaP (k:=4) (l':=[zI (x1.At+x1.Width)]) zh3 rfl rfl rfl rfl rfl (fun _ _=>rfl) rfl ?_
      refine zaD (zae (zae ?_))
      exact zcJ (from4,x1.At+x1.Width,open3) (fun post2 e2=>by have e9:=zcd hxs1 e2; subst e9; subst hag1; exact h) (zaa [0,1,2,3,4,5] kr rfl)
     refine zyG ?_
     refine zaP (k:=5) (l':=[.bool false]) zqP rfl rfl rfl rfl rfl (fun _ _=>rfl) rfl ?_
     refine zyH (zyR 1 rfl (zaR rfl za9 (zyR 1 rfl ?_)))
     refine zyS (s:=17) rfl h (fun h => ?_) (fun h => ?_)
     ·
      refine zyR 3 rfl (zyN (zbC rfl (zaL (zaL ?_))))
      obtain ⟨hg5,h⟩:=zbR h
      obtain ⟨r2,hq3,h⟩:=zbA h
      refine zdd 9 [(0,21,zP bo1),(1,22,zP bo1),(2,23,.pointer (some ⟨bo1,3,none⟩)),(3,24,.map (some (za7 o1_h3))),(4,25,.string s1),(5,26,zI from4),(6,27,zI to4),(7,28,.string (zcn s1 from4 to4)),(8,29,.string r2)] mixed kr kr dc (by rfl) kr kr (zad ?_ (zad ?_ (zad ?_ (zad ?_ (zad ?_ (zad ?_ (zad ?_ (zad ?_ (zad ?_ DrawPre.nil))))))))) ?_
      · exact fun D n d c u i=>zal (k:=0) zi9 rfl dc (za8 (by rfl) rfl) rfl rfl (zaJ 0 u i)
      · exact fun D n d c u i=>za5 rfl dc (zaX 0 u d) (zaJ 1 u i)
      · exact fun D n d c u i=>zaf zgy rfl dc (zaX 1 u d) (show _=3 from rfl) (zaJ 2 u i)
      · exact fun D n d c u i=>zdx (i:=0) hrd rfl zlg rfl dc (zaX 2 u d) rfl (zaJ 3 u i)
      · exact fun D n d c u i=>zal (k:=1) zeV rfl dc (za8 (by rfl) rfl) rfl rfl (zaJ 4 u i)
      · exact fun D n d c u i=>zal (k:=3) zdE rfl dc (za8 (by rfl) rfl) rfl rfl (zaJ 5 u i)
      · exact fun D n d c u i=>zal (k:=4) zdE rfl dc (za8 (by rfl) rfl) rfl rfl (zaJ 6 u i)
      · exact fun D n d c u i=>zb7 rfl dc (zaX 4 u d) (evO.some (zaX 5 u d)) (evO.some (zaX 6 u d)) (za6 (i:=from4) (j:=to4) underlying9 (.inr rfl) (.inr rfl) hg5) (zaJ 7 u i)
      · exact fun D n d c u i=>zaO (v:=.string r2) (vs:=[.string (zcn s1 from4 to4)]) rfl dc rfl (evL.cons (zaX 7 u d) evL.nil) rfl zlq (zdf hq3) (zaJ 8 u i)
      refine zdw (k:=4) (ek:=(fun n:zBA=>Value.string n)) (ev':=(fun n:Bool=>Value.bool n)) (kk:=r2) (z0:=false) (zcM underlying9) underlying77 kr rfl dc rfl rfl hrd rfl ?_
      refine zyN ?_
      refine zyB rfl h (fun h => ?_) (fun h => ?_)
      ·
       refine zyG (zal (k:=4) zdE rfl dc rfl rfl rfl ?_)
       refine zaP (k:=2) (l':=[zI to4]) zh3 rfl rfl rfl rfl rfl (fun _ _=>rfl) rfl ?_
       refine zyN (zaA (zaj (zan (zan ?_))))
       exact zbU (to4,from4,to4) (show _∧_ from ⟨rfl,h⟩) (zaa [0,1,2,3,4,5] kr rfl)
      refine zao (zaF (zyG ?_))
      refine zaP (k:=2) (l':=[zI 0]) zh3 rfl rfl rfl rfl rfl (fun _ _=>rfl) rfl ?_
      refine zyN (zaA (zan (zan ?_)))
      exact zbU (0,from4,to4) (show _∧_ from ⟨rfl,h⟩) (zaa [0,1,2,3,4,5] kr rfl)
     refine zyR 1 rfl (zaR rfl za9 (zyR 1 rfl (zyN ?_)))
     refine zyB rfl h (fun h => ?_) (fun h => ?_)
     ·
      refine zaL (zaL ?_)
      obtain ⟨hg6,h⟩:=zbR h
      obtain ⟨r3,hq4,h⟩:=zbA h
      refine zdd 9 [(0,21,zP bo1),(1,22,zP bo1),(2,23,.pointer (some ⟨bo1,3,none⟩)),(3,24,.map (some (za7 o1_h3))),(4,25,.string s1),(5,26,zI from4),(6,27,zI to4),(7,28,.string (zcn s1 from4 to4)),(8,29,.string r3)] mixed kr kr dc (by rfl) kr kr (zad ?_ (zad ?_ (zad ?_ (zad ?_ (zad ?_ (zad ?_ (zad ?_ (zad ?_ (zad ?_ DrawPre.nil))))))))) ?_
      · exact fun D n d c u i=>zal (k:=0) zi9 rfl dc (za8 (by rfl) rfl) rfl rfl (zaJ 0 u i)
      · exact fun D n d c u i=>za5 rfl dc (zaX 0 u d) (zaJ 1 u i)
      · exact fun D n d c u i=>zaf zgy rfl dc (zaX 1 u d) (show _=3 from rfl) (zaJ 2 u i)
      · exact fun D n d c u i=>zdx (i:=0) hrd rfl zlg rfl dc (zaX 2 u d) rfl (zaJ 3 u i)
      · exact fun D n d c u i=>zal (k:=1) zeV rfl dc (za8 (by rfl) rfl) rfl rfl (zaJ 4 u i)
      · exact fun D n d c u i=>zal (k:=3) zdE rfl dc (za8 (by rfl) rfl) rfl rfl (zaJ 5 u i)
      · exact fun D n d c u i=>zal (k:=4) zdE rfl dc (za8 (by rfl) rfl) rfl rfl (zaJ 6 u i)
      · exact fun D n d c u i=>zb7 rfl dc (zaX 4 u d) (evO.some (zaX 5 u d)) (evO.some (zaX 6 u d)) (za6 (i:=from4) (j:=to4) underlying9 (.inr rfl) (.inr rfl) hg6) (zaJ 7 u i)
      · exact fun D n d c u i=>zaO (v:=.string r3) (vs:=[.string (zcn s1 from4 to4)]) rfl dc rfl (evL.cons (zaX 7 u d) evL.nil) rfl zlq (zdf hq4) (zaJ 8 u i)
      refine zdw (k:=4) (ek:=(fun n:zBA=>Value.string n)) (ev':=(fun n:Bool=>Value.bool n)) (kk:=r3) (z0:=false) (zcM underlying9) underlying77 kr rfl dc rfl rfl hrd rfl ?_
      refine zyN ?_
      refine zyB rfl h (fun h => ?_) (fun h => ?_)
      ·
       refine zyG (zal (k:=4) zdE rfl dc rfl rfl rfl ?_)
       refine zaP (k:=2) (l':=[zI to4]) zh3 rfl rfl rfl rfl rfl (fun _ _=>rfl) rfl ?_
       refine zyN (zaA (zaj (zan (zan ?_))))
       exact zbU (to4,from4,to4) (show _∧_ from ⟨rfl,h⟩) (zaa [0,1,2,3,4,5] kr rfl)
      refine zao (zaF (zyG ?_))
      refine zaP (k:=2) (l':=[zI 0]) zh3 rfl rfl rfl rfl rfl (fun _ _=>rfl) rfl ?_
      refine zyN (zaA (zan (zan ?_)))
      exact zbU (0,from4,to4) (show _∧_ from ⟨rfl,h⟩) (zaa [0,1,2,3,4,5] kr rfl)
     refine zao (zae (zae ?_))
     exact zcJ (from4,to4,false) (fun post2 e2=>by have e9:=zcd hxs1 e2; subst e9; subst hag1; exact h) (zaa [0,1,2,3,4,5] kr rfl)
    refine zyR 8 rfl (zyN (zaQ rfl (zyG ?_)))
    refine zaP (k:=5) (l':=[.bool false]) zqP rfl rfl rfl rfl rfl (fun _ _=>rfl) rfl ?_
    refine zyH (zyR 1 rfl (zaR rfl za9 (zyR 1 rfl ?_)))
    refine zyS (s:=17) rfl h (fun h => ?_) (fun h => ?_)
    ·
     refine zyR 3 rfl (zyN (zbC rfl (zaL (zaL ?_))))
     obtain ⟨hg7,h⟩:=zbR h
     obtain ⟨r4,hq5,h⟩:=zbA h
     refine zdd 9 [(0,21,zP bo1),(1,22,zP bo1),(2,23,.pointer (some ⟨bo1,3,none⟩)),(3,24,.map (some (za7 o1_h3))),(4,25,.string s1),(5,26,zI from4),(6,27,zI to4),(7,28,.string (zcn s1 from4 to4)),(8,29,.string r4)] mixed kr kr dc (by rfl) kr kr (zad ?_ (zad ?_ (zad ?_ (zad ?_ (zad ?_ (zad ?_ (zad ?_ (zad ?_ (zad ?_ DrawPre.nil))))))))) ?_
     · exact fun D n d c u i=>zal (k:=0) zi9 rfl dc (za8 (by rfl) rfl) rfl rfl (zaJ 0 u i)
     · exact fun D n d c u i=>za5 rfl dc (zaX 0 u d) (zaJ 1 u i)
     · exact fun D n d c u i=>zaf zgy rfl dc (zaX 1 u d) (show _=3 from rfl) (zaJ 2 u i)
     · exact fun D n d c u i=>zdx (i:=0) hrd rfl zlg rfl dc (zaX 2 u d) rfl (zaJ 3 u i)
     · exact fun D n d c u i=>zal (k:=1) zeV rfl dc (za8 (by rfl) rfl) rfl rfl (zaJ 4 u i)
     · exact fun D n d c u i=>zal (k:=3) zdE rfl dc (za8 (by rfl) rfl) rfl rfl (zaJ 5 u i)
     · exact fun D n d c u i=>zal (k:=4) zdE rfl dc (za8 (by rfl) rfl) rfl rfl (zaJ 6 u i)
     · exact fun D n d c u i=>zb7 rfl dc (zaX 4 u d) (evO.some (zaX 5 u d)) (evO.some (zaX 6 u d)) (za6 (i:=from4) (j:=to4) underlying9 (.inr rfl) (.inr rfl) hg7) (zaJ 7 u i)
     · exact fun D n d c u i=>zaO (v:=.string r4) (vs:=[.string (zcn s1 from4 to4)]) rfl dc rfl (evL.cons (zaX 7 u d) evL.nil) rfl zlq (zdf hq5) (zaJ 8 u i)
     refine zdw (k:=4) (ek:=(fun n:zBA=>Value.string n)) (ev':=(fun n:Bool=>Value.bool n)) (kk:=r4) (z0:=false) (zcM underlying9) underlying77 kr rfl dc rfl rfl hrd rfl ?_
     refine zyN ?_
     refine zyB rfl h (fun h => ?_) (fun h => ?_)
     ·
      refine zyG (zal (k:=4) zdE rfl dc rfl rfl rfl ?_)
      refine zaP (k:=2) (l':=[zI to4]) zh3 rfl rfl rfl rfl rfl (fun _ _=>rfl) rfl ?_
      refine zyN (zaA (zaj (zan (zan ?_))))
      exact zbU (to4,from4,to4) (show _∧_ from ⟨rfl,h⟩) (zaa [0,1,2,3,4,5] kr rfl)
     refine zao (zaF (zyG ?_))
     refine zaP (k:=2) (l':=[zI 0]) zh3 rfl rfl rfl rfl rfl (fun _ _=>rfl) rfl ?_
     refine zyN (zaA (zan (zan ?_)))
     exact zbU (0,from4,to4) (show _∧_ from ⟨rfl,h⟩) (zaa [0,1,2,3,4,5] kr rfl)
    refine zyR 1 rfl (zaR rfl za9 (zyR 1 rfl (zyN ?_)))
    refine zyB rfl h (fun h => ?_) (fun h => ?_)
    ·
     refine zaL (zaL ?_)
     obtain ⟨hg8,h⟩:=zbR h
     obtain ⟨r5,hq6,h⟩:=zbA h
     refine zdd 9 [(0,21,zP bo1),(1,22,zP bo1),(2,23,.pointer (some ⟨bo1,3,none⟩)),(3,24,.map (some (za7 o1_h3))),(4,25,.string s1),(5,26,zI from4),(6,27,zI to4),(7,28,.string (zcn s1 from4 to4)),(8,29,.string r5)] mixed kr kr dc (by rfl) kr kr (zad ?_ (zad ?_ (zad ?_ (zad ?_ (zad ?_ (zad ?_ (zad ?_ (zad ?_ (zad ?_ DrawPre.nil))))))))) ?_
     · exact fun D n d c u i=>zal (k:=0) zi9 rfl dc (za8 (by rfl) rfl) rfl rfl (zaJ 0 u i)
     · exact fun D n d c u i=>za5 rfl dc (zaX 0 u d) (zaJ 1 u i)
     · exact fun D n d c u i=>zaf zgy rfl dc (zaX 1 u d) (show _=3 from rfl) (zaJ 2 u i)
     · exact fun D n d c u i=>zdx (i:=0) hrd rfl zlg rfl dc (zaX 2 u d) rfl (zaJ 3 u i)
     · exact fun D n d c u i=>zal (k:=1) zeV rfl dc (za8 (by rfl) rfl) rfl rfl (zaJ 4 u i)
     · exact fun D n d c u i=>zal (k:=3) zdE rfl dc (za8 (by rfl) rfl) rfl rfl (zaJ 5 u i)
     · exact fun D n d c u i=>zal (k:=4) zdE rfl dc (za8 (by rfl) rfl) rfl rfl (zaJ 6 u i)
     · exact fun D n d c u i=>zb7 rfl dc (zaX 4 u d) (evO.some (zaX 5 u d)) (evO.some (zaX 6 u d)) (za6 (i:=from4) (j:=to4) underlying9 (.inr rfl) (.inr rfl) hg8) (zaJ 7 u i)
     · exact fun D n d c u i=>zaO (v:=.string r5) (vs:=[.string (zcn s1 from4 to4)]) rfl dc rfl (evL.cons (zaX 7 u d) evL.nil) rfl zlq (zdf hq6) (zaJ 8 u i)
     refine zdw (k:=4) (ek:=(fun n:zBA=>Value.string n)) (ev':=(fun n:Bool=>Value.bool n)) (kk:=r5) (z0:=false) (zcM underlying9) underlying77 kr rfl dc rfl rfl hrd rfl ?_
     refine zyN ?_
     refine zyB rfl h (fun h => ?_) (fun h => ?_)
     ·
      refine zyG (zal (k:=4) zdE rfl dc rfl rfl rfl ?_)
      refine zaP (k:=2) (l':=[zI to4]) zh3 rfl rfl rfl rfl rfl (fun _ _=>rfl) rfl ?_
      refine zyN (zaA (zaj (zan (zan ?_))))
      exact zbU (to4,from4,to4) (show _∧_ from ⟨rfl,h⟩) (zaa [0,1,2,3,4,5] kr rfl)
     refine zao (zaF (zyG ?_))
     refine zaP (k:=2) (l':=[zI 0]) zh3 rfl rfl rfl rfl rfl (fun _ _=>rfl) rfl ?_
     refine zyN (zaA (zan (zan ?_)))
     exact zbU (0,from4,to4) (show _∧_ from ⟨rfl,h⟩) (zaa [0,1,2,3,4,5] kr rfl)
    refine zao (zae (zae ?_))
    exact zcJ (from4,to4,false) (fun post2 e2=>by have e9:=zcd hxs1 e2; subst e9; subst hag1; exact h) (zaa [0,1,2,3,4,5] kr rfl)
   refine zyR 4 rfl (zyN (zaQ rfl (zyG (zal (k:=3) zdE rfl dc rfl rfl rfl (zaR rfl zbk (zyR 1 rfl (zyN ?_)))))))
   refine zyB rfl h (fun h => ?_) (fun h => ?_)
   ·
    refine zao (zae (zae ?_))
    exact zcJ (from4,to4,open3) (fun post2 e2=>by have e9:=zcd hxs1 e2; subst e9; subst hag1; exact h) (zaa [0,1,2,3,4,5] kr rfl)
   refine zyG (zal (k:=5) zvh rfl dc rfl rfl rfl (zyR 1 rfl ?_))
   refine zyS (s:=51) rfl h (fun h => ?_) (fun h => ?_)
   ·
    refine zyR 1 rfl (zaR rfl za9 (zyR 1 rfl ?_))
    refine zyS (s:=54) rfl h (fun h => ?_) (fun h => ?_)
    ·
     refine zyR 5 rfl (zyN (zbC rfl (zap (zaf zdJ rfl dc rfl (show _=0 from rfl) (zal (k:=6) zdE rfl dc rfl rfl rfl (zaf zg1 rfl dc rfl (show _=1 from rfl) (zal (k:=6) zdE rfl dc rfl rfl rfl ?_)))))))
     obtain ⟨hg9,h⟩:=zbR h
     refine zaR rfl (zbc (r:=x1.At+x1.Width) (IntWalk.i64_in _ hg9)) ?_
     refine zaP (k:=4) (l':=[zI (x1.At+x1.Width)]) zh3 rfl rfl rfl rfl rfl (fun _ _=>rfl) rfl ?_
     refine zaD (zae (zae ?_))
     exact zcJ (from4,x1.At+x1.Width,open3) (fun post2 e2=>by have e9:=zcd hxs1 e2; subst e9; subst hag1; exact h) (zaa [0,1,2,3,4,5] kr rfl)
    refine zyR 1 rfl (zaR rfl za9 (zyR 3 rfl (zyN ?_)))
    refine zyB rfl h (fun h => ?_) (fun h => ?_)
    ·
     refine zap (zaf zdJ rfl dc rfl (show _=0 from rfl) (zal (k:=6) zdE rfl dc rfl rfl rfl (zaf zg1 rfl dc rfl (show _=1 from rfl) (zal (k:=6) zdE rfl dc rfl rfl rfl ?_))))
     obtain ⟨hg10,h⟩:=zbR h
     refine zaR rfl (zbc (r:=x1.At+x1.Width) (IntWalk.i64_in _ hg10)) ?_
     refine zaP (k:=4) (l':=[zI (x1.At+x1.Width)]) zh3 rfl rfl rfl rfl rfl (fun _ _=>rfl) rfl ?_
     refine zaD (zae (zae ?_))
     exact zcJ (from4,x1.At+x1.Width,open3) (fun post2 e2=>by have e9:=zcd hxs1 e2; subst e9; subst hag1; exact h) (zaa [0,1,2,3,4,5] kr rfl)
    refine zyG ?_
    refine zaP (k:=5) (l':=[.bool false]) zqP rfl rfl rfl rfl rfl (fun _ _=>rfl) rfl ?_
    refine zyH (zyR 1 rfl (zaR rfl za9 (zyR 1 rfl ?_)))
    refine zyS (s:=17) rfl h (fun h => ?_) (fun h => ?_)
    ·
     refine zyR 3 rfl (zyN (zbC rfl (zaL (zaL ?_))))
     obtain ⟨hg11,h⟩:=zbR h
     obtain ⟨r6,hq7,h⟩:=zbA h
     refine zdd 9 [(0,21,zP bo1),(1,22,zP bo1),(2,23,.pointer (some ⟨bo1,3,none⟩)),(3,24,.map (some (za7 o1_h3))),(4,25,.string s1),(5,26,zI from4),(6,27,zI to4),(7,28,.string (zcn s1 from4 to4)),(8,29,.string r6)] mixed kr kr dc (by rfl) kr kr (zad ?_ (zad ?_ (zad ?_ (zad ?_ (zad ?_ (zad ?_ (zad ?_ (zad ?_ (zad ?_ DrawPre.nil))))))))) ?_
     · exact fun D n d c u i=>zal (k:=0) zi9 rfl dc (za8 (by rfl) rfl) rfl rfl (zaJ 0 u i)
     · exact fun D n d c u i=>za5 rfl dc (zaX 0 u d) (zaJ 1 u i)
     · exact fun D n d c u i=>zaf zgy rfl dc (zaX 1 u d) (show _=3 from rfl) (zaJ 2 u i)
     · exact fun D n d c u i=>zdx (i:=0) hrd rfl zlg rfl dc (zaX 2 u d) rfl (zaJ 3 u i)
     · exact fun D n d c u i=>zal (k:=1) zeV rfl dc (za8 (by rfl) rfl) rfl rfl (zaJ 4 u i)
     · exact fun D n d c u i=>zal (k:=3) zdE rfl dc (za8 (by rfl) rfl) rfl rfl (zaJ 5 u i)
     · exact fun D n d c u i=>zal (k:=4) zdE rfl dc (za8 (by rfl) rfl) rfl rfl (zaJ 6 u i)
     · exact fun D n d c u i=>zb7 rfl dc (zaX 4 u d) (evO.some (zaX 5 u d)) (evO.some (zaX 6 u d)) (za6 (i:=from4) (j:=to4) underlying9 (.inr rfl) (.inr rfl) hg11) (zaJ 7 u i)
     · exact fun D n d c u i=>zaO (v:=.string r6) (vs:=[.string (zcn s1 from4 to4)]) rfl dc rfl (evL.cons (zaX 7 u d) evL.nil) rfl zlq (zdf hq7) (zaJ 8 u i)
     refine zdw (k:=4) (ek:=(fun n:zBA=>Value.string n)) (ev':=(fun n:Bool=>Value.bool n)) (kk:=r6) (z0:=false) (zcM underlying9) underlying77 kr rfl dc rfl rfl hrd rfl ?_
     refine zyN ?_
     refine zyB rfl h (fun h => ?_) (fun h => ?_)
     ·
      refine zyG (zal (k:=4) zdE rfl dc rfl rfl rfl ?_)
      refine zaP (k:=2) (l':=[zI to4]) zh3 rfl rfl rfl rfl rfl (fun _ _=>rfl) rfl ?_
      refine zyN (zaA (zaj (zan (zan ?_))))
      exact zbU (to4,from4,to4) (show _∧_ from ⟨rfl,h⟩) (zaa [0,1,2,3,4,5] kr rfl)
     refine zao (zaF (zyG ?_))
     refine zaP (k:=2) (l':=[zI 0]) zh3 rfl rfl rfl rfl rfl (fun _ _=>rfl) rfl ?_
     refine zyN (zaA (zan (zan ?_)))
     exact zbU (0,from4,to4) (show _∧_ from ⟨rfl,h⟩) (zaa [0,1,2,3,4,5] kr rfl)
    refine zyR 1 rfl (zaR rfl za9 (zyR 1 rfl (zyN ?_)))
    refine zyB rfl h (fun h => ?_) (fun h => ?_)
    ·
     refine zaL (zaL ?_)
     obtain ⟨hg12,h⟩:=zbR h
     obtain ⟨r7,hq8,h⟩:=zbA h
     refine zdd 9 [(0,21,zP bo1),(1,22,zP bo1),(2,23,.pointer (some ⟨bo1,3,none⟩)),(3,24,.map (some (za7 o1_h3))),(4,25,.string s1),(5,26,zI from4),(6,27,zI to4),(7,28,.string (zcn s1 from4 to4)),(8,29,.string r7)] mixed kr kr dc (by rfl) kr kr (zad ?_ (zad ?_ (zad ?_ (zad ?_ (zad ?_ (zad ?_ (zad ?_ (zad ?_ (zad ?_ DrawPre.nil))))))))) ?_
     · exact fun D n d c u i=>zal (k:=0) zi9 rfl dc (za8 (by rfl) rfl) rfl rfl (zaJ 0 u i)
     · exact fun D n d c u i=>za5 rfl dc (zaX 0 u d) (zaJ 1 u i)
     · exact fun D n d c u i=>zaf zgy rfl dc (zaX 1 u d) (show _=3 from rfl) (zaJ 2 u i)
     · exact fun D n d c u i=>zdx (i:=0) hrd rfl zlg rfl dc (zaX 2 u d) rfl (zaJ 3 u i)
     · exact fun D n d c u i=>zal (k:=1) zeV rfl dc (za8 (by rfl) rfl) rfl rfl (zaJ 4 u i)
     · exact fun D n d c u i=>zal (k:=3) zdE rfl dc (za8 (by rfl) rfl) rfl rfl (zaJ 5 u i)
     · exact fun D n d c u i=>zal (k:=4) zdE rfl dc (za8 (by rfl) rfl) rfl rfl (zaJ 6 u i)
     · exact fun D n d c u i=>zb7 rfl dc (zaX 4 u d) (evO.some (zaX 5 u d)) (evO.some (zaX 6 u d)) (za6 (i:=from4) (j:=to4) underlying9 (.inr rfl) (.inr rfl) hg12) (zaJ 7 u i)
     · exact fun D n d c u i=>zaO (v:=.string r7) (vs:=[.string (zcn s1 from4 to4)]) rfl dc rfl (evL.cons (zaX 7 u d) evL.nil) rfl zlq (zdf hq8) (zaJ 8 u i)
     refine zdw (k:=4) (ek:=(fun n:zBA=>Value.string n)) (ev':=(fun n:Bool=>Value.bool n)) (kk:=r7) (z0:=false) (zcM underlying9) underlying77 kr rfl dc rfl rfl hrd rfl ?_
     refine zyN ?_
     refine zyB rfl h (fun h => ?_) (fun h => ?_)
     ·
      refine zyG (zal (k:=4) zdE rfl dc rfl rfl rfl ?_)
      refine zaP (k:=2) (l':=[zI to4]) zh3 rfl rfl rfl rfl rfl (fun _ _=>rfl) rfl ?_
      refine zyN (zaA (zaj (zan (zan ?_))))
      exact zbU (to4,from4,to4) (show _∧_ from ⟨rfl,h⟩) (zaa [0,1,2,3,4,5] kr rfl)
     refine zao (zaF (zyG ?_))
     refine zaP (k:=2) (l':=[zI 0]) zh3 rfl rfl rfl rfl rfl (fun _ _=>rfl) rfl ?_
     refine zyN (zaA (zan (zan ?_)))
     exact zbU (0,from4,to4) (show _∧_ from ⟨rfl,h⟩) (zaa [0,1,2,3,4,5] kr rfl)
    refine zao (zae (zae ?_))
    exact zcJ (from4,to4,false) (fun post2 e2=>by have e9:=zcd hxs1 e2; subst e9; subst hag1; exact h) (zaa [0,1,2,3,4,5] kr rfl)
   refine zyR 8 rfl (zyN (zaQ rfl (zyG ?_)))
   refine zaP (k:=5) (l':=[.bool false]) zqP rfl rfl rfl rfl rfl (fun _ _=>rfl) rfl ?_
   refine zyH (zyR 1 rfl (zaR rfl za9 (zyR 1 rfl ?_)))
   refine zyS (s:=17) rfl h (fun h => ?_) (fun h => ?_)
   ·
    refine zyR 3 rfl (zyN (zbC rfl (zaL (zaL ?_))))
    obtain ⟨hg13,h⟩:=zbR h
    obtain ⟨r8,hq9,h⟩:=zbA h
    refine zdd 9 [(0,21,zP bo1),(1,22,zP bo1),(2,23,.pointer (some ⟨bo1,3,none⟩)),(3,24,.map (some (za7 o1_h3))),(4,25,.string s1),(5,26,zI from4),(6,27,zI to4),(7,28,.string (zcn s1 from4 to4)),(8,29,.string r8)] mixed kr kr dc (by rfl) kr kr (zad ?_ (zad ?_ (zad ?_ (zad ?_ (zad ?_ (zad ?_ (zad ?_ (zad ?_ (zad ?_ DrawPre.nil))))))))) ?_
    · exact fun D n d c u i=>zal (k:=0) zi9 rfl dc (za8 (by rfl) rfl) rfl rfl (zaJ 0 u i)
    · exact fun D n d c u i=>za5 rfl dc (zaX 0 u d) (zaJ 1 u i)
    · exact fun D n d c u i=>zaf zgy rfl dc (zaX 1 u d) (show _=3 from rfl) (zaJ 2 u i)
    · exact fun D n d c u i=>zdx (i:=0) hrd rfl zlg rfl dc (zaX 2 u d) rfl (zaJ 3 u i)
    · exact fun D n d c u i=>zal (k:=1) zeV rfl dc (za8 (by rfl) rfl) rfl rfl (zaJ 4 u i)
    · exact fun D n d c u i=>zal (k:=3) zdE rfl dc (za8 (by rfl) rfl) rfl rfl (zaJ 5 u i)
    · exact fun D n d c u i=>zal (k:=4) zdE rfl dc (za8 (by rfl) rfl) rfl rfl (zaJ 6 u i)
    · exact fun D n d c u i=>zb7 rfl dc (zaX 4 u d) (evO.some (zaX 5 u d)) (evO.some (zaX 6 u d)) (za6 (i:=from4) (j:=to4) underlying9 (.inr rfl) (.inr rfl) hg13) (zaJ 7 u i)
    · exact fun D n d c u i=>zaO (v:=.string r8) (vs:=[.string (zcn s1 from4 to4)]) rfl dc rfl (evL.cons (zaX 7 u d) evL.nil) rfl zlq (zdf hq9) (zaJ 8 u i)
    refine zdw (k:=4) (ek:=(fun n:zBA=>Value.string n)) (ev':=(fun n:Bool=>Value.bool n)) (kk:=r8) (z0:=false) (zcM underlying9) underlying77 kr rfl dc rfl rfl hrd rfl ?_
    refine zyN ?_
    refine zyB rfl h (fun h => ?_) (fun h => ?_)
    ·
     refine zyG (zal (k:=4) zdE rfl dc rfl rfl rfl ?_)
     refine zaP (k:=2) (l':=[zI to4]) zh3 rfl rfl rfl rfl rfl (fun _ _=>rfl) rfl ?_
     refine zyN (zaA (zaj (zan (zan ?_))))
     exact zbU (to4,from4,to4) (show _∧_ from ⟨rfl,h⟩) (zaa [0,1,2,3,4,5] kr rfl)
    refine zao (zaF (zyG ?_))
    refine zaP (k:=2) (l':=[zI 0]) zh3 rfl rfl rfl rfl rfl (fun _ _=>rfl) rfl ?_
    refine zyN (zaA (zan (zan ?_)))
    exact zbU (0,from4,to4) (show _∧_ from ⟨rfl,h⟩) (zaa [0,1,2,3,4,5] kr rfl)
   refine zyR 1 rfl (zaR rfl za9 (zyR 1 rfl (zyN ?_)))
   refine zyB rfl h (fun h => ?_) (fun h => ?_)
   ·
    refine zaL (zaL ?_)
    obtain ⟨hg14,h⟩:=zbR h
    obtain ⟨r9,hq10,h⟩:=zbA h
    refine zdd 9 [(0,21,zP bo1),(1,22,zP bo1),(2,23,.pointer (some ⟨bo1,3,none⟩)),(3,24,.map (some (za7 o1_h3))),(4,25,.string s1),(5,26,zI from4),(6,27,zI to4),(7,28,.string (zcn s1 from4 to4)),(8,29,.string r9)] mixed kr kr dc (by rfl) kr kr (zad ?_ (zad ?_ (zad ?_ (zad ?_ (zad ?_ (zad ?_ (zad ?_ (zad ?_ (zad ?_ DrawPre.nil))))))))) ?_
    · exact fun D n d c u i=>zal (k:=0) zi9 rfl dc (za8 (by rfl) rfl) rfl rfl (zaJ 0 u i)
    · exact fun D n d c u i=>za5 rfl dc (zaX 0 u d) (zaJ 1 u i)
    · exact fun D n d c u i=>zaf zgy rfl dc (zaX 1 u d) (show _=3 from rfl) (zaJ 2 u i)
    · exact fun D n d c u i=>zdx (i:=0) hrd rfl zlg rfl dc (zaX 2 u d) rfl (zaJ 3 u i)
    · exact fun D n d c u i=>zal (k:=1) zeV rfl dc (za8 (by rfl) rfl) rfl rfl (zaJ 4 u i)
    · exact fun D n d c u i=>zal (k:=3) zdE rfl dc (za8 (by rfl) rfl) rfl rfl (zaJ 5 u i)
    · exact fun D n d c u i=>zal (k:=4) zdE rfl dc (za8 (by rfl) rfl) rfl rfl (zaJ 6 u i)
    · exact fun D n d c u i=>zb7 rfl dc (zaX 4 u d) (evO.some (zaX 5 u d)) (evO.some (zaX 6 u d)) (za6 (i:=from4) (j:=to4) underlying9 (.inr rfl) (.inr rfl) hg14) (zaJ 7 u i)
    · exact fun D n d c u i=>zaO (v:=.string r9) (vs:=[.string (zcn s1 from4 to4)]) rfl dc rfl (evL.cons (zaX 7 u d) evL.nil) rfl zlq (zdf hq10) (zaJ 8 u i)
    refine zdw (k:=4) (ek:=(fun n:zBA=>Value.string n)) (ev':=(fun n:Bool=>Value.bool n)) (kk:=r9) (z0:=false) (zcM underlying9) underlying77 kr rfl dc rfl rfl hrd rfl ?_
    refine zyN ?_
    refine zyB rfl h (fun h => ?_) (fun h => ?_)
    ·
     refine zyG (zal (k:=4) zdE rfl dc rfl rfl rfl ?_)
     refine zaP (k:=2) (l':=[zI to4]) zh3 rfl rfl rfl rfl rfl (fun _ _=>rfl) rfl ?_
     refine zyN (zaA (zaj (zan (zan ?_))))
     exact zbU (to4,from4,to4) (show _∧_ from ⟨rfl,h⟩) (zaa [0,1,2,3,4,5] kr rfl)
    refine zao (zaF (zyG ?_))
    refine zaP (k:=2) (l':=[zI 0]) zh3 rfl rfl rfl rfl rfl (fun _ _=>rfl) rfl ?_
    refine zyN (zaA (zan (zan ?_)))
    exact zbU (0,from4,to4) (show _∧_ from ⟨rfl,h⟩) (zaa [0,1,2,3,4,5] kr rfl)
   refine zao (zae (zae ?_))
   exact zcJ (from4,to4,false) (fun post2 e2=>by have e9:=zcd hxs1 e2; subst e9; subst hag1; exact h) (zaa [0,1,2,3,4,5] kr rfl)
  ·
   rintro dm1 ⟨from4,to4,open3⟩ hinv
   have h:dn1 from4 to4 open3=some r:=hinv [] (List.append_nil _).symm
   rw [hdn1] at h
   show TX _ _ _ _ _ _ _ [zfF ((([]:List Nat):List Nat).map zfp),emp,emp,emp,emp,emp,emp,cells b8 [.string r1] 9,cells b2 [zP bo1] 23,cells b3 [.string s1] 9,cells b4 [zI 0] 3,cells b5 [zI from4] 3,cells b6 [zI to4] 3,cells b7 [.bool open3] 4,zfp dm1]
   refine zey (k:=14) (j:=0) rfl rfl dc ?_
   refine zae ?_
   exact zah (b4,dm1::([]:List Nat)) h rfl (za4 rfl) (zaa [10,0] kr rfl)
  rintro dm1 c pre x1 post g hxs hX
  obtain ⟨rfl,h⟩:=(show _∧_ from hX)
  obtain ⟨x2,from5,to5⟩:=g
  rw [hek1] at h
  show TC _ _ _ _ _ _ _ _ _ [zfF ((([]:List Nat):List Nat).map zfp),emp,emp,emp,emp,emp,emp,cells b8 [.string r1] 9,cells b2 [zP bo1] 23,cells b3 [.string s1] 9,cells b4 [zI x2] 3,cells b5 [zI from5] 3,cells b6 [zI to5] 3,cells b7 [.bool false] 4,zfp dm1]
  refine zil (k:=14) (j:=0) rfl rfl dc ?_
  refine zaA (zan (zaj ?_))
  cases h
  exact zfJ (rs:=[.cell 4 3]) (dm1::([]:List Nat)) () (.inl rfl) (zcR (k:=0) rfl) results47 (.cons (.cell zdE (k:=10) rfl rfl) .nil) rfl Splits.nil
 rintro ⟨b1,ds1⟩ h
 rw [hj1] at h
 refine zyG ?_
 refine zaP (k:=0) (l':=[zI 0]) zh3 rfl rfl rfl rfl rfl (fun _ _=>rfl) rfl ?_
 refine zyN (zaA ?_)
 cases h
 exact zfJ (rs:=[.cell 4 3]) ds1 () (.inl rfl) (zcR (k:=1) rfl) results47 (.cons (.cell zdE (k:=0) rfl rfl) .nil) rfl Splits.nil
def zeb (s1:zBA):Option (List zam) := zak (zdz s1) fun (r1:zBA) => zak (zdv r1) fun (r2:(List zam)) => some r2
theorem zju {s1:zBA} {r:(List zam)} (h:zeb s1=some r):Fn prog 49 [.string s1] [] (fun v0:Value=>v0) (fun v0=>[zv5 v0 r]):=by
 unfold zeb at h
 refine Fn.intro func49 rfl ntmps49 (by simp) ?_
 intro w0 K
 refine zyG (zyR 1 rfl (zyH (zyR 1 rfl ?_)))
 obtain ⟨r1,hq1,h⟩:=zbA h
 refine zb9 (vs:=[.string s1]) rfl dc rfl rfl rfl zrI (zem hq1) Splits.nil ?_
 rintro b1
 obtain ⟨r2,hq2,h⟩:=zbA h
 refine zb9 (vs:=[.func (.func 71) #[] #[zP b1]]) rfl dc rfl rfl rfl zxv (zhk (bseq10:=b1) hq2) (zaa [0] kr rfl) ?_
 rintro v1
 refine zyR 1 rfl (zyN (zaA ?_))
 cases h
 exact zcj (rs:=[.tmp 2]) v1 (.inl rfl) results49 (.cons (.tmp rfl) .nil) rfl (zaa [2] kr rfl)
def zbQ (o1:zac) (l1:List zam) (j1:Int→Nat→(List zBA)→Option (Int×(List zBA))) (ag1:Int→zBA→Nat→(List zBA)→Int→Option (Int×(List zBA))) (best4:Int) (form3:zBA) (kd4:Nat) (places4:List zBA) (x3:Int):Option (Int×(List zBA)) := zar (decide ((x3:Int)<((zhi l1 0 (min (l1.length:Int) 8)).length:Int))) ( zbx (fun (j2:Int→zBA→Nat→(List zBA)→Option (Int×(List zBA))) => zak (zea (zhi l1 0 (min (l1.length:Int) 8)) x3) fun (q1:zam) => zar (q1.Broken) ( j1 best4 kd4 places4
) ( grd (I32 q1.Rune) <| grd (form3.size+(Utf8.encode (zbe q1.Rune)).size≤9223372036854775807) <| zar ((zbJ (form3++(Utf8.encode (zbe q1.Rune))) o1.place).isSome) ( grd (I64 (x3+1)) <| j2 (x3+1) (form3++(Utf8.encode (zbe q1.Rune))) 1 ([form3++(Utf8.encode (zbe q1.Rune))]:List zBA)
) ( zar ((zbJ (form3++(Utf8.encode (zbe q1.Rune))) o1.fors).isSome) ( grd (I64 (x3+1)) <| zak ((zbJ (form3++(Utf8.encode (zbe q1.Rune))) o1.fors)) fun (xs1:List zBA) => j2 (x3+1) (form3++(Utf8.encode (zbe q1.Rune))) 2 xs1
) ( j2 best4 (form3++(Utf8.encode (zbe q1.Rune))) kd4 places4
)
)
)
) (fun (best5:Int) (form4:zBA) (kd5:Nat) (places5:List zBA) => grd (I64 (x3+1)) <| ag1 best5 form4 kd5 places5 (x3+1)
)
) ( j1 best4 kd4 places4
)
def zbB (j3:(List zBA)→Option (Int×(List zBA))) (r1:zBA) (ag2:(List zBA)→Nat→Option (Int×(List zBA))) (places9:List zBA) (m3:Nat):Option (Int×(List zBA)) := zar (decide (m3<(pcs r1.data.toList).length)) ( zak ((pcs r1.data.toList)[m3]?) fun (p1:Pc) => grd (places9.length+1≤2147483648) <| ag2 (places9++[Utf8.encode (p1.r:Int)]) (m3+1)
) ( j3 places9
)
def zc7 (o1:zac) (l1:List zam):Option (Int×(List zBA)) := zbx (fun (j1:Int→Nat→(List zBA)→Option (Int×(List zBA))) => grd (0≤(0:Int)∧(0:Int)≤(min (l1.length:Int) 8)∧(min (l1.length:Int) 8:Int)≤(l1.length:Int)) <| zaW (fun _ _ _ _ _=>none) (zbQ o1 l1 j1) zcy 0 (⟨#[]⟩:zBA) 0 ([]:List zBA) 0
) (fun (best1:Int) (kd1:Nat) (places1:List zBA) => zar (decide ((0:Int)<best1)) ( some (best1,places1)
) ( zbx (fun (j3:(List zBA)→Option (Int×(List zBA))) => grd (kd1=0) <| zak (zea l1 0) fun (q2:zam) => grd (I32 q2.Rune) <| zak (zet (zbe q2.Rune)) fun (r1:zBA) => zaW (fun _ _=>none) (zbB j3 r1) zcy ([]:List zBA) 0
) (fun (places6:List zBA) => some (1,places6)
)
)
)
theorem zhj {bo1:Nat} {o1:zac} {o1_h0 o1_h1 o1_h2 o1_h3 o1_h4:Hd} {vvl1 vl1:Value} {Ll1:List zam} {kl1:Nat} {l1:List zam} (hwl1:Vw vvl1 Ll1 4 kl1 vl1 l1) {r:(Int×(List zBA))} (h:zc7 o1 l1=some r):FnD prog 51 [zP bo1,vl1] [cells bo1 [o1_h0.v,.map (some (za7 o1_h1)),.map (some (za7 o1_h2)),.map (some (za7 o1_h3)),o1_h4.v] 79,zv0 o1_h0.v o1.units,zbO (fun n:zBA=>Value.string n) (fun n:Int=>Value.int .i64 n) (za7 o1_h1) o1.place,zcB (za7 o1_h2) o1.fors,zbO (fun n:zBA=>Value.string n) (fun n:Bool=>Value.bool n) (za7 o1_h3) o1.skips,zv0 o1_h4.v o1.lines,zeW zbK 4 vvl1 kl1 Ll1] (fun v0:Hd=>.tuple #[zI r.1,v0.v]) (fun v0=>[zmn zhf 1 v0 r.2]):=by
 unfold zc7 at h
 refine FnD.intro func51 rfl ntmps51 (by simp) ?_
 intro w0 K hrd
 obtain ⟨Lf,hLf,hrd⟩:=hrd.fors (i:=3) rfl
 replace hrd:Rd _ _ [cells bo1 [o1_h0.v,.map (some (za7 o1_h1)),.map (some (za7 o1_h2)),.map (some (za7 o1_h3)),o1_h4.v] 79,zv0 o1_h0.v o1.units,zbO (fun n:zBA=>Value.string n) (fun n:Int=>Value.int .i64 n) (za7 o1_h1) o1.place,zcB (za7 o1_h2) o1.fors,zbO (fun n:zBA=>Value.string n) (fun n:Bool=>Value.bool n) (za7 o1_h3) o1.skips,zv0 o1_h4.v o1.lines,zeW zbK 4 vvl1 kl1 Ll1,fsM (za7 o1_h2) Lf,fsO Lf]:=hrd
 obtain ⟨j1,hj1,h⟩:=zbP h
 refine za0 (β:=Int×Nat×(List zBA)×Hd) 3 rfl (fun b=>j1 b.1 b.2.1 b.2.2.1=some r∧Rov b.2.1 b.2.2.2 b.2.2.1 Lf) (fun b=>[]) (fun b=>[(1,vl1),(6,zI b.1),(8,b.2.2.2.v)]) (fun b=>[rdX b.2.1 b.2.2.2 b.2.2.1,zom w0 K]) (fun cut => ?_) ?_
 ·
  refine zyG (zyR 2 rfl (zyH (zyR 2 rfl (zyH ?_))))
  refine zyR 1 rfl (zgT (enc:=zhf) (e:=9) (size:=1) (zl3 (k:=1) rfl (zqz 9) ?_))
  refine zyN (cut (zyG (zyR 2 rfl (zcm hwl1 rfl dc rfl underlying103 (zse rfl dc rfl rfl ?_)))))
  obtain ⟨hg1,h⟩:=zbR h
  obtain ⟨v1,hv1,hs1⟩:=zit (lo:=none) (hi:=some (zI (min (l1.length:Int) 8))) hwl1 underlying103 zfL (.inl ⟨rfl,rfl⟩) (.inr rfl) hg1
  refine zb7 rfl dc rfl rfl rfl hs1 (zcm hv1 rfl dc rfl underlying103 (zyR 1 rfl (zyN (zaz ?_))))
  refine zbN (β:=Nat×Int×zBA×Nat×(List zBA)×Int×Hd) (fun b=>zaW (fun _ _ _ _ _=>none) (zbQ o1 l1 j1) b.1 b.2.1 b.2.2.1 b.2.2.2.1 b.2.2.2.2.1 b.2.2.2.2.2.1=some r∧Rov b.2.2.2.1 b.2.2.2.2.2.2 b.2.2.2.2.1 Lf) (fun b=>[]) (fun b=>[(0,zP bo1),(1,vl1),(6,zI b.2.1),(7,.string b.2.2.1),(8,b.2.2.2.2.2.2.v),(21,v1),(22,zI ((zhi l1 0 (min (l1.length:Int) 8)).length:Int)),(23,zI b.2.2.2.2.2.1)]) (fun b=>[rdX b.2.2.2.1 b.2.2.2.2.2.2 b.2.2.2.2.1,zom w0 K]) (fun b=>b.1) (zcy,0,(⟨#[]⟩:zBA),0,([]:List zBA),0,Hd.nil) ⟨h,Rov.nil⟩ rfl (za4 rfl) (zaa [1,0] kr rfl) ?_
  rintro ⟨n1,best4,form3,kd4,places4,x3,hd4⟩ ⟨h,hx4⟩
  cases n1 with
  | zero=>exact zeq h
  | succ n1 =>
   obtain ⟨ag1,hag1⟩:∃ ag,ag=zaW (fun _ _ _ _ _=>none) (zbQ o1 l1 j1) n1:=⟨_,rfl⟩
   have h:zbQ o1 l1 j1 ag1 best4 form3 kd4 places4 x3=some r:=by rw [hag1]; exact h
   unfold zbQ at h
   refine zyG (zaR rfl zbk (zyN (zaL ?_)))
   refine zyB rfl h (fun h => ?_) (fun h => ?_)
   ·
    refine zao (zaF ?_)
    obtain ⟨j2,hj2,h⟩:=zbP h
    refine za0 (β:=Int×zBA×Nat×(List zBA)×Hd) 0 rfl (fun b=>j2 b.1 b.2.1 b.2.2.1 b.2.2.2.1=some r∧Rov b.2.2.1 b.2.2.2.2 b.2.2.2.1 Lf) (fun b=>[]) (fun b=>[(0,zP bo1),(1,vl1),(6,zI b.1),(7,.string b.2.1),(8,b.2.2.2.2.v),(21,v1),(22,zI ((zhi l1 0 (min (l1.length:Int) 8)).length:Int)),(23,zI x3)]) (fun b=>[rdX b.2.2.1 b.2.2.2.2 b.2.2.2.1,zom w0 K]) (fun cut => ?_) ?_
    ·
     refine cut (zaz (zyG (zyR 1 rfl ?_)))
     obtain ⟨q1,hq1,h⟩:=zbA h
     refine zbf hv1 hq1 underlying103 zfL rfl dc rfl rfl rfl (zcA (m:=kl1+(0:Int).toNat+(x3:Int).toNat) (j:=0) (i:=6) (q:=q1) (cs:=(zr0 q1)) hrd rfl (by omega) zgX rfl dc rfl (Vw.get hv1 hq1) rfl rfl rfl ?_)
     refine za3 zko rfl dc (fun b1 => ?_)
     refine zyR 1 rfl (za2 (k:=2) (vs:=(zr0 q1)) (l':=(zr0 q1)) zfL rfl rfl rfl rfl rfl (show _≤_ by simp) rfl rfl ?_)
     refine zyN (zaL (zyG (zaf zot rfl dc rfl (show _=3 from rfl) (zal (k:=2) zvh rfl dc rfl rfl rfl (zyN ?_)))))
     refine zyB rfl h (fun h => ?_) (fun h => ?_)
     ·
      refine zbz (zaq (zhQ dc (zaq (zaq (zaG ?_)))))
      exact zah (best4,kd4,places4,hd4) ⟨h,hx4⟩ rfl (za4 rfl) (zaa [0,1] kr rfl)
     refine zao (zaF (zyG (zyR 1 rfl (zaf zgx rfl dc rfl (show _=2 from rfl) (zal (k:=2) zfn rfl dc rfl rfl rfl ?_)))))
     obtain ⟨hg2,h⟩:=zbR h
     refine zaO (v:=.int .i32 (zbe q1.Rune)) (vs:=[.int .i32 q1.Rune]) rfl dc rfl rfl rfl zs6 (zdD fun w=>zhr q1.Rune w hg2.1 hg2.2) ?_
     refine zcD rfl dc rfl (zc6 underlying21 underlying9) ?_
     obtain ⟨hg3,h⟩:=zbR h
     refine zaR rfl (zfA hg3) (zyR 1 rfl (zyH (zyR 1 rfl (za5 rfl dc rfl (zaf zjj rfl dc rfl (show _=1 from rfl) (zdx (i:=0) hrd rfl zpM rfl dc rfl rfl (zyR 1 rfl ?_)))))))
     refine zfN (k:=2) (ek:=(fun n:zBA=>Value.string n)) (ev':=(fun n:Int=>Value.int .i64 n)) (kk:=form3++(Utf8.encode (zbe q1.Rune))) (z0:=0) (zcM underlying9) underlying75 kr rfl dc rfl rfl hrd rfl ?_
     refine zyR 1 rfl (zaH rfl dc rfl rfl (zaH rfl dc rfl rfl (zyR 2 rfl (zyH (zyR 1 rfl (zyN ?_))))))
     refine zyB rfl h (fun h => ?_) (fun h => ?_)
     ·
      refine zap (zyR 1 rfl ?_)
      obtain ⟨hg4,h⟩:=zbR h
      refine zaR rfl (zbc (r:=x3+1) (IntWalk.i64_in _ hg4)) (zyR 1 rfl ?_)
      refine zaT (cs:=[.string (form3++(Utf8.encode (zbe q1.Rune)))]) (te:=9) (ps:=[(0,.tmp 48)]) rfl dc rfl (fun _=>by kernel_rfl) (fun b2 => ?_)
      refine zyR 2 rfl (zgm ([form3++(Utf8.encode (zbe q1.Rune))]:List zBA) (k:=3) rfl zc0 rfl (show 1≤maxLen by decide) ?_)
      refine zl3 (k:=3) rfl (zqy (hd:=(⟨some ⟨b2,0,none⟩,1,1⟩:Hd))) ?_
      refine zaD (zae ?_)
      exact zah (x3+1,form3++(Utf8.encode (zbe q1.Rune)),1,([form3++(Utf8.encode (zbe q1.Rune))]:List zBA),(⟨some ⟨b2,0,none⟩,1,1⟩:Hd)) ⟨h,Rov.own⟩ rfl (za4 rfl) (zaa [3,1] kr rfl)
     refine zyG (zyR 1 rfl (za5 rfl dc rfl (zaf zou rfl dc rfl (show _=2 from rfl) (zdx (i:=0) hrd rfl zt6 rfl dc rfl rfl (zyR 1 rfl ?_)))))
     refine zsf (i:=7) (kk:=(form3++(Utf8.encode (zbe q1.Rune)))) hLf underlying9 underlying76 kr rfl dc rfl rfl hrd rfl (fun hd6 hx6 => ?_)
     refine zyR 1 rfl (zaH rfl dc rfl rfl (zaH rfl dc rfl rfl (zyR 2 rfl (zyH (zyR 1 rfl (zyN ?_))))))
     refine zyB rfl h (fun h => ?_) (fun h => ?_)
     ·
      refine zap (zyR 1 rfl ?_)
      obtain ⟨hg5,h⟩:=zbR h
      refine zaR rfl (zbc (r:=x3+1) (IntWalk.i64_in _ hg5)) (zyR 3 rfl ?_)
      obtain ⟨xs1,hq2,h⟩:=zbA h
      refine zu8 ?_
      refine zl3 (k:=3) rfl (zqA (hd:=hd6) (xs:=xs1)) ?_
      refine zaD (zae ?_)
      exact zah (x3+1,form3++(Utf8.encode (zbe q1.Rune)),2,xs1,hd6) ⟨h,(Rov.map (hx6 xs1 hq2))⟩ rfl (za4 rfl) (zaa [3,1] kr rfl)
     refine zao (zae ?_)
     exact zah (best4,form3++(Utf8.encode (zbe q1.Rune)),kd4,places4,hd4) ⟨h,hx4⟩ rfl (za4 rfl) (zaa [0,1] kr rfl)
    rintro ⟨best5,form4,kd5,places5,hd5⟩ ⟨h,hx5⟩
    rw [hj2] at h
    refine zap ?_
    obtain ⟨hg6,h⟩:=zbR h
    refine zaR rfl (zbc (r:=x3+1) (IntWalk.i64_in _ hg6)) (zyR 1 rfl (zaD ?_))
    subst hag1
    exact zbr (n1,best5,form4,kd5,places5,x3+1,hd5) ⟨h,hx5⟩ (Nat.lt_succ_self _) rfl (za4 rfl) (zaa [0,1] kr rfl)
   refine zbz (zaq (zaq (zaG ?_)))
   exact zah (best4,kd4,places4,hd4) ⟨h,hx4⟩ rfl (za4 rfl) (zaa [0,1] kr rfl)
 rintro ⟨best1,kd1,places1,hd1⟩ ⟨h,hx1⟩
 rw [hj1] at h
 refine zaL (zyG (zyR 1 rfl (zaR rfl zeg (zyN ?_))))
 refine zyB rfl h (fun h => ?_) (fun h => ?_)
 ·
  refine zyG (zyR 4 rfl (zyN (zaA (zaj ?_))))
  cases h
  exact zsb (rs:=[.tmp 4,.tmp 5]) hd1 hrd (.inl rfl) results51 (.cons (.tmp rfl) (.cons (.tmp rfl) .nil)) rfl (zaa [1,0] kr rfl) (zt8 hx1 (i:=8) rfl)
 refine zao (zaF ?_)
 obtain ⟨j3,hj3,h⟩:=zbP h
 refine za0 (β:=(List zBA)×Hd) 0 rfl (fun b=>j3 b.1=some r) (fun b=>[]) (fun b=>[(8,b.2.v)]) (fun b=>[zv0 b.2.v b.1,zom w0 K]) (fun cut => ?_) ?_
 ·
  refine cut (zaL ?_)
  obtain ⟨hg7,h⟩:=zbR h
  have hkp:=h
  obtain ⟨rfl,rfl⟩:=hx1.1 hg7
  have h:=hkp
  refine zap (zyR 1 rfl ?_)
  obtain ⟨q2,hq3,h⟩:=zbA h
  refine zbf hwl1 hq3 underlying103 zfL rfl dc rfl rfl rfl (zaf zgx rfl dc rfl (show _=(kl1+(0:Int).toNat)*4+2 from rfl) (zcq (n:=kl1+(0:Int).toNat) (j:=2) (i:=6) (q:=q2) hrd rfl (by omega) zfn rfl dc rfl (Vw.get hwl1 hq3) rfl rfl ?_))
  obtain ⟨hg8,h⟩:=zbR h
  refine zaO (v:=.int .i32 (zbe q2.Rune)) (vs:=[.int .i32 q2.Rune]) rfl dc rfl rfl rfl zs6 (zdD fun w=>zhr q2.Rune w hg8.1 hg8.2) ?_
  obtain ⟨r1,hq4,h⟩:=zbA h
  refine zaO (v:=.string r1) (vs:=[.int .i32 (zbe q2.Rune)]) rfl dc rfl rfl rfl zwd (zhd hq4) ?_
  refine zfx underlying9 rfl dc rfl (fun b3 => ?_)
  refine zyN (zaz (zfE (enc:=zhf) (e:=9) (size:=1) ?_))
  refine zbN (β:=Nat×(List zBA)×Nat×Hd) (fun b=>zaW (fun _ _=>none) (zbB j3 r1) b.1 b.2.1 b.2.2.1=some r) (fun b=>[]) (fun b=>[(8,b.2.2.2.v),(74,zP b3)]) (fun b=>[zv0 b.2.2.2.v b.2.1,obj b3 (.stringIter r1 (zgr r1 b.2.2.1)),zom w0 K]) (fun b=>b.1) (zcy,([]:List zBA),0,Hd.nil) (by exact h) rfl (za4 rfl) (zaa [3,2,1] kr rfl) ?_
  rintro ⟨n2,places9,m3,hd10⟩ h
  cases n2 with
  | zero=>exact zeq h
  | succ n2 =>
   obtain ⟨ag2,hag2⟩:∃ ag,ag=zaW (fun _ _=>none) (zbB j3 r1) n2:=⟨_,rfl⟩
   have h:zbB j3 r1 ag2 places9 m3=some r:=by rw [hag2]; exact h
   unfold zbB at h
   refine zyG ?_
   refine zfy (b:=decide (m3<(pcs r1.data.toList).length)) (fun hb6 => ?_) (fun hb6 => ?_)
   ·
    have h:=zlr hb6 h
    obtain ⟨p1,hq5,h⟩:=zbA h
    refine zfQ (k:=1) (m:=m3) (p:=p1) rfl dc rfl rfl hq5 (zaH rfl dc rfl rfl (zyN (zaL (zbC rfl (zao (zaF (zaz (zyG (zaH rfl dc rfl rfl (zyR 1 rfl (zaD ?_)))))))))))
    refine zaF (zap (zyR 2 rfl (zcD rfl dc rfl (zc6 underlying21 underlying9) ?_)))
    refine zaT (cs:=[.string (Utf8.encode (p1.r:Int))]) (te:=9) (ps:=[(0,.tmp 80)]) rfl dc rfl (fun _=>by kernel_rfl) (fun b4 => ?_)
    obtain ⟨hg9,h⟩:=zbR h
    refine zb3 (k:=0) (k2:=3) (ys:=[Utf8.encode (p1.r:Int)]) underlying38 zwj zc0 zkh rfl dc rfl rfl rfl rfl rfl rfl hg9 (fun v2 => ?_)
    refine zcl (k:=0) rfl (fun hd11 he1 => ?_)
    subst he1
    refine zyR 1 rfl (zaD (zae ?_))
    subst hag2
    exact zbr (n2,places9++[Utf8.encode (p1.r:Int)],m3+1,hd11) h (Nat.lt_succ_self _) rfl (za4 rfl) (zaa [0,1,2] kr rfl)
   have h:=zls hb6 h
   refine zfR (k:=1) (m:=m3) rfl dc rfl rfl (Nat.le_of_not_lt (of_decide_eq_false hb6)) (zaH rfl dc rfl rfl (zyN (zaL (zaQ rfl (zbz (zaq (zaq (zaG ?_))))))))
   exact zah (places9,hd10) h rfl (za4 rfl) (zaa [0,2] kr rfl)
 rintro ⟨places6,hd7⟩ h
 rw [hj3] at h
 refine zyG (zyR 3 rfl (zyN (zaA ?_)))
 cases h
 exact zsb (rs:=[.tmp 4,.tmp 5]) hd7 hrd (.inl rfl) results51 (.cons (.tmp rfl) (.cons (.tmp rfl) .nil)) rfl (zaa [1,0] kr rfl) (ztY (e:=9) (hd:=hd7) (xs:=places6))
def zbG (e1:zab) (c0:Bool) (c1:List zab):Option (Bool×(List zab)) := zbx (fun (j1:(List zab)→Option (Bool×(List zab))) => zar (c0) ( zar (decide ((0:Int)<(c1.length:Int))) ( grd (c1.length+1≤2147483648) <| j1 (c1++[(⟨1,0,ByteArray.empty,ByteArray.empty,0⟩:zab)])
) ( j1 c1
)
) ( j1 c1
)
) (fun (l1:List zab) => grd (l1.length+1≤2147483648) <| some (false,l1++[e1])
)
theorem zdm {e1:zab} {bc0:Nat} {c0:Bool} {bc1:Nat} {c1:List zab} {c1_h0:Hd} {r:(Bool×(List zab))} (h:zbG e1 c0 c1=some r):Fn prog 48 [.agg (zr1 e1).toArray,zP bc0,zP bc1] [cells bc0 [.bool c0] 4,cells bc1 [c1_h0.v] 62,zv2 c1_h0.v c1] (fun v0:Hd=>.tuple #[]) (fun v0=>[cells bc0 [.bool r.1] 4,cells bc1 [v0.v] 62,zv2 v0.v r.2]):=by
 unfold zbG at h
 refine Fn.intro func48 rfl ntmps48 (by simp) ?_
 intro w0 K
 obtain ⟨j1,hj1,h⟩:=zbP h
 refine za0 (β:=(List zab)×Hd×Nat) 1 rfl (fun b=>j1 b.1=some r) (fun b=>[]) (fun b=>[(1,zP bc0),(2,zP bc1),(3,zP b.2.2)]) (fun b=>[cells bc1 [b.2.1.v] 62,zv2 b.2.1.v b.1,cells bc0 [.bool c0] 4,cells b.2.2 (zr1 e1) 66]) (fun cut => ?_) ?_
 ·
  refine zyG ?_
  refine zdX rfl dc rfl (fun b2 => ?_)
  refine zyN (cut (zyG (zal (k:=0) zvh rfl dc rfl rfl rfl (zyR 1 rfl ?_))))
  refine zyS (s:=5) rfl h (fun h => ?_) (fun h => ?_)
  ·
   refine zal (k:=1) zpN rfl dc rfl rfl rfl (zdy (k:=2) rfl dc rfl rfl underlying62 (zaR rfl zeg (zyR 1 rfl (zyN ?_))))
   refine zyB rfl h (fun h => ?_) (fun h => ?_)
   ·
    refine zap (zal (k:=1) zpN rfl dc rfl rfl rfl ?_)
    refine zci (v:=.agg #[zI 1,zI 0,.string ByteArray.empty,.string ByteArray.empty,zI 0]) (ps:=[(0,.const (zI 1))]) rfl dc rfl (fun _=>by kernel_rfl) ?_
    refine zaT (cs:=[zI 1,zI 0,.string ByteArray.empty,.string ByteArray.empty,zI 0]) (te:=66) (ps:=[(0,.tmp 11)]) rfl dc rfl (fun _=>by kernel_rfl) (fun b3 => ?_)
    obtain ⟨hg1,h⟩:=zbR h
    refine zb3 (k:=2) (k2:=4) (ys:=[(⟨1,0,ByteArray.empty,ByteArray.empty,0⟩:zab)]) underlying62 zwk za1 ze5 rfl dc rfl rfl rfl rfl rfl rfl hg1 (fun v1 => ?_)
    refine zcl (k:=2) rfl (fun hd2 he1 => ?_)
    subst he1
    refine zaP (k:=1) (l':=[hd2.v]) zvB rfl rfl rfl rfl rfl (fun _ _=>rfl) rfl ?_
    refine zaD ?_
    exact zah (c1++[(⟨1,0,ByteArray.empty,ByteArray.empty,0⟩:zab)],hd2,b2) h rfl (za4 rfl) (zaa [1,2,0,3] kr rfl)
   refine zao ?_
   exact zah (c1,c1_h0,b2) h rfl (za4 rfl) (zaa [1,2,0,3] kr rfl)
  refine zyR 4 rfl (zyN (zaQ rfl (zao ?_)))
  exact zah (c1,c1_h0,b2) h rfl (za4 rfl) (zaa [1,2,0,3] kr rfl)
 rintro ⟨l1,hd1,b1⟩ h
 rw [hj1] at h
 refine zyG ?_
 refine zaP (k:=2) (l':=[.bool false]) zqP rfl rfl rfl rfl rfl (fun _ _=>rfl) rfl ?_
 refine zyN (zap (zal (k:=0) zpN rfl dc rfl rfl rfl (zbW (k:=3) (cs:=(zr1 e1)) zho rfl dc rfl rfl rfl rfl ?_)))
 refine zaT (cs:=(zr1 e1)) (te:=66) (ps:=[(0,.tmp 15)]) rfl dc rfl (fun _=>by kernel_rfl) (fun b4 => ?_)
 obtain ⟨hg2,h⟩:=zbR h
 refine zb3 (k:=1) (k2:=4) (ys:=[e1]) underlying62 zwk za1 ze5 rfl dc rfl rfl rfl rfl rfl rfl hg2 (fun v2 => ?_)
 refine zcl (k:=1) rfl (fun hd3 he2 => ?_)
 subst he2
 refine zaP (k:=0) (l':=[hd3.v]) zvB rfl rfl rfl rfl rfl (fun _ _=>rfl) rfl ?_
 refine zaD ?_
 cases h
 exact zcj (rs:=[]) hd3 (.inr rfl) results48 .nil rfl (zaa [2,0,1] kr rfl)
def zbi (l3:List zam) (r4:(Int×(List zBA))) (j3:Int→Option (List zab)) (ag2:Int→Int→Option (List zab)) (great4:Int) (x3:Int):Option (List zab) := zar (decide ((x3:Int)<((zhi l3 0 r4.1).length:Int))) ( zbx (fun (j4:Int→Option (List zab)) => zak (zea (zhi l3 0 r4.1) x3) fun (q2:zam) => grd (I32 q2.Rune) <| zar (great q2.Rune) ( j4 1
) ( j4 great4
)
) (fun (great5:Int) => grd (I64 (x3+1)) <| ag2 great5 (x3+1)
)
) ( j3 great4
)
def zbu (l3:List zam) (j5:Int→zBA→Option (List zab)) (ag3:Int→zBA→Option (List zab)) (n7:Int) (marks4:zBA):Option (List zab) := zar (decide ((n7:Int)<(l3.length:Int))) ( zak (zea l3 n7) fun (q3:zam) => zak (zdB q3) fun (r5:Bool) => zar (r5) ( zak (zea l3 n7) fun (q4:zam) => grd (marks4.size+(Utf8.encode q4.Rune).size≤9223372036854775807) <| grd (I64 (n7+1)) <| ag3 (n7+1) (marks4++(Utf8.encode q4.Rune))
) ( j5 n7 marks4
)
) ( j5 n7 marks4
)
def zbh (o1:zac) (r4:(Int×(List zBA))) (great1:Int) (j6:(List zab)→Bool→Option (List zab)) (ag4:(List zab)→Bool→Int→Option (List zab)) (out9:List zab) (space8:Bool) (x6:Int):Option (List zab) := zar (decide ((x6:Int)<(r4.2.length:Int))) ( zak (zea r4.2 x6) fun (q5:zBA) => zak (zbG (⟨3,((zbJ q5 o1.place).getD 0),ByteArray.empty,ByteArray.empty,great1⟩:zab) space8 out9) fun (r6:(Bool×(List zab))) => grd (I64 (x6+1)) <| ag4 r6.2 r6.1 (x6+1)
) ( j6 out9 space8
)
def zbt (l3:List zam) (j7:Int→Option (List zab)) (ag5:Int→Option (List zab)) (n13:Int):Option (List zab) := zar (decide ((n13:Int)<(l3.length:Int))) ( zak (zea l3 n13) fun (q7:zam) => grd (I32 q7.Rune) <| zar (((zbD q7.Broken q7.Rune):Int)==3) ( grd (I64 (n13+1)) <| ag5 (n13+1)
) ( j7 n13
)
) ( j7 n13
)
def zbs (j8:zBA→Option (List zab)) (ag6:zBA→Option (List zab)) (digits4:zBA):Option (List zab) := zar (decide ((0:Int)<(digits4.size:Int))) ( zak (zln digits4 0) fun (c1:Int) => zar ((c1:Int)==48) ( grd (0≤(1:Int)∧(1:Int)≤(digits4.size:Int)∧((digits4.size:Int):Int)≤(digits4.size:Int)) <| ag6 (zcn digits4 1 (digits4.size:Int))
) ( j8 digits4
)
) ( j8 digits4
)
def zbv (o1:zac) (j1:(List zab)→Option (List zab)) (r1:zBA) (r2:Int) (ag1:(List zab)→Bool→(List zam)→Option (List zab)) (out4:List zab) (space3:Bool) (l3:List zam):Option (List zab) := zar (decide ((0:Int)<(l3.length:Int))) ( zbx (fun (j2:(List zab)→Bool→Int→Option (List zab)) => zak (zea l3 0) fun (q1:zam) => grd (I32 q1.Rune) <| zar (((zbD q1.Broken q1.Rune):Int)==1) ( zak (zc7 o1 l3) fun (r4:(Int×(List zBA))) => zbx (fun (j3:Int→Option (List zab)) => grd (0≤(0:Int)∧(0:Int)≤r4.1∧(r4.1:Int)≤(l3.length:Int)) <| zaW (fun _ _=>none) (zbi l3 r4 j3) zcy 0 0
) (fun (great1:Int) => zbx (fun (j5:Int→zBA→Option (List zab)) => zaW (fun _ _=>none) (zbu l3 j5) zcy r4.1 (⟨#[]⟩:zBA)
) (fun (n4:Int) (marks1:zBA) => zbx (fun (j6:(List zab)→Bool→Option (List zab)) => zaW (fun _ _ _=>none) (zbh o1 r4 great1 j6) zcy out4 space3 0
) (fun (out6:List zab) (space5:Bool) => grd (I64 ((out6.length:Int) - 1)) <| zak (zea out6 ((out6.length:Int) - 1)) fun (q6:zab) => j2 (out6.set ((out6.length:Int) - 1:Int).toNat (⟨q6.sort,q6.place,q6.digits,marks1,q6.great⟩:zab)) space5 n4
)
)
)
) ( zar (((zbD q1.Broken q1.Rune):Int)==3) ( zbx (fun (j7:Int→Option (List zab)) => zaW (fun _=>none) (zbt l3 j7) zcy 1
) (fun (n10:Int) => zbx (fun (j8:zBA→Option (List zab)) => grd (I64 (q1.At+n10)) <| grd (0≤(q1.At:Int)∧(q1.At:Int)≤(q1.At+n10)∧(q1.At+n10:Int)≤((zcn r1 r2 (r1.size:Int)).size:Int)) <| zaW (fun _=>none) (zbs j8) zcy (zcn (zcn r1 r2 (r1.size:Int)) q1.At (q1.At+n10))
) (fun (digits1:zBA) => zak (zbG (⟨2,0,digits1,ByteArray.empty,0⟩:zab) space3 out4) fun (r7:(Bool×(List zab))) => j2 r7.2 r7.1 n10
)
)
) ( zbx (fun (j9:Bool→Option (List zab)) => zar (((zbD q1.Broken q1.Rune):Int)==5) ( j9 (((zbD q1.Broken q1.Rune):Int)==5)
) ( zar (((zbD q1.Broken q1.Rune):Int)==4) ( j9 (((zbD q1.Broken q1.Rune):Int)==4)
) ( j9 (((zbD q1.Broken q1.Rune):Int)==6)
)
)
) (fun (x7:Bool) => zar (x7) ( j2 out4 true 1
) ( zar (((zbD q1.Broken q1.Rune):Int)==11) ( zak (zln (zcn r1 r2 (r1.size:Int)) q1.At) fun (c2:Int) => grd (I64 c2) <| zak (zbG (⟨4,c2,ByteArray.empty,ByteArray.empty,0⟩:zab) space3 out4) fun (r8:(Bool×(List zab))) => j2 r8.2 r8.1 1
) ( j2 out4 space3 1
)
)
)
)
)
) (fun (out5:List zab) (space4:Bool) (n2:Int) => grd (0≤(n2:Int)∧(n2:Int)≤(l3.length:Int)∧((l3.length:Int):Int)≤(l3.length:Int)) <| ag1 out5 space4 (zhi l3 n2 (l3.length:Int))
)
) ( j1 out4
)
def zbE (o1:zac) (t1:zBA):Option (List zab) := zbx (fun (j1:(List zab)→Option (List zab)) => zak (ze3 t1) fun (r1:zBA) => zak (zcU o1 r1) fun (r2:Int) => grd (0≤(r2:Int)∧(r2:Int)≤(r1.size:Int)∧((r1.size:Int):Int)≤(r1.size:Int)) <| zak (zeb (zcn r1 r2 (r1.size:Int))) fun (r3:(List zam)) => zaW (fun _ _ _=>none) (zbv o1 j1 r1 r2) zcy ([]:List zab) false r3
) (fun (out1:List zab) => some out1
)
theorem zc1 {bo1:Nat} {o1:zac} {o1_h0 o1_h1 o1_h2 o1_h3 o1_h4:Hd} {t1:zBA} {r:(List zab)} (h:zbE o1 t1=some r):FnR prog 25 [zP bo1,.string t1] [cells bo1 [o1_h0.v,.map (some (za7 o1_h1)),.map (some (za7 o1_h2)),.map (some (za7 o1_h3)),o1_h4.v] 79,zv0 o1_h0.v o1.units,zbO (fun n:zBA=>Value.string n) (fun n:Int=>Value.int .i64 n) (za7 o1_h1) o1.place,zcB (za7 o1_h2) o1.fors,zbO (fun n:zBA=>Value.string n) (fun n:Bool=>Value.bool n) (za7 o1_h3) o1.skips,zv0 o1_h4.v o1.lines] [] (fun v0:Value=>v0) (fun v0=>[zv2 v0 r]):=by
 unfold zbE at h
 refine FnR.intro func25 rfl ntmps25 (by simp) ?_
 intro w0 K hrd
 obtain ⟨j1,hj1,h⟩:=zbP h
 refine za0 (β:=(List zab)×Nat×Hd) 6 rfl (fun b=>j1 b.1=some r) (fun b=>[]) (fun b=>[(6,zP b.2.1)]) (fun b=>[cells b.2.1 [b.2.2.v] 62,zv2 b.2.2.v b.1]) (fun cut => ?_) ?_
 ·
  refine zyG (zyR 1 rfl (zyH (zyR 1 rfl ?_)))
  obtain ⟨r1,hq1,h⟩:=zbA h
  refine zaO (v:=.string r1) (vs:=[.string t1]) rfl dc rfl rfl rfl zyc (ziM hq1) (zyR 1 rfl (zyH (zyR 3 rfl ?_)))
  obtain ⟨r2,hq2,h⟩:=zbA h
  refine zee (v:=zI r2) (vs:=[zP bo1,.string r1]) hrd rfl dc rfl rfl rfl zxM (zg4 (bo1:=bo1) (o1:=o1) (o1_h0:=o1_h0) (o1_h1:=o1_h1) (o1_h2:=o1_h2) (o1_h3:=o1_h3) (o1_h4:=o1_h4) hq2) (.ro 0 rfl (.ro 1 rfl (.ro 2 rfl (.ro 3 rfl (.ro 4 rfl (.ro 5 rfl .nil)))))) ?_
  obtain ⟨hg1,h⟩:=zbR h
  refine zb7 rfl dc rfl rfl rfl (za6 (i:=r2) (j:=(r1.size:Int)) underlying9 (.inr rfl) (.inl ⟨rfl,rfl⟩) hg1) (zyR 1 rfl (zyH ?_))
  refine za3 zwM rfl dc (fun b2 => ?_)
  refine zyH ?_
  refine za3 zwQ rfl dc (fun b3 => ?_)
  refine zaP (k:=1) (l':=[.bool false]) zqP rfl rfl rfl rfl rfl (fun _ _=>rfl) rfl ?_
  refine zyH (zf8 (x1:=[]) (x2:=[.tmp 7,.tmp 6]) rfl dc rfl rfl (zyR 1 rfl (zyN (cut (zyG (zyR 1 rfl ?_))))))
  obtain ⟨r3,hq3,h⟩:=zbA h
  refine zb9 (vs:=[.string (zcn r1 r2 (r1.size:Int))]) rfl dc rfl rfl rfl zxL (zju hq3) Splits.nil ?_
  rintro v1
  refine zcl (k:=2) rfl (fun hd2 he1 => ?_)
  subst he1
  refine zyR 1 rfl ?_
  refine zej (k:=2) rfl (fun hw1 => ?_)
  refine zsg (B:=zeW zbK 4 hd2.v 0 r3) (As:=[zv5 hd2.v r3]) (zaa [2] kr rfl) (fun _ _ h=>zd9 zgj (sepL.one1.1 h)) hrd ?_
  intro wf1 Kf1 hxf1 hrd
  replace hrd:Rd _ _ [cells bo1 [o1_h0.v,.map (some (za7 o1_h1)),.map (some (za7 o1_h2)),.map (some (za7 o1_h3)),o1_h4.v] 79,zv0 o1_h0.v o1.units,zbO (fun n:zBA=>Value.string n) (fun n:Int=>Value.int .i64 n) (za7 o1_h1) o1.place,zcB (za7 o1_h2) o1.fors,zbO (fun n:zBA=>Value.string n) (fun n:Bool=>Value.bool n) (za7 o1_h3) o1.skips,zv0 o1_h4.v o1.lines,zeW zbK 4 hd2.v 0 r3]:=hrd
  refine zyN (zaz (zfE (enc:=zbo) (e:=66) (size:=5) ?_))
  refine zbN (β:=Nat×(List zab)×Bool×(List zam)×Hd×Value×Nat) (fun b=>zaW (fun _ _ _=>none) (zbv o1 j1 r1 r2) b.1 b.2.1 b.2.2.1 b.2.2.2.1=some r∧Vw hd2.v r3 4 b.2.2.2.2.2.2 b.2.2.2.2.2.1 b.2.2.2.1) (fun b=>[]) (fun b=>[(0,zP bo1),(5,.string (zcn r1 r2 (r1.size:Int))),(6,zP b2),(7,zP b3),(8,.func (.func 48) #[] #[zP b3,zP b2]),(9,b.2.2.2.2.2.1)]) (fun b=>[cells b2 [b.2.2.2.2.1.v] 62,zv2 b.2.2.2.2.1.v b.2.1,cells b3 [.bool b.2.2.1] 4]) (fun b=>b.1) (zcy,([]:List zab),false,r3,Hd.nil,hd2.v,0) ⟨h,hw1⟩ rfl (za4 rfl) (zaa [0,3,1] kr rfl) ?_
  rintro ⟨n1,out4,space3,l3,hd5,v4,at3⟩ ⟨h,hw4⟩
  cases n1 with
  | zero=>exact zeq h
  | succ n1 =>
   obtain ⟨ag1,hag1⟩:∃ ag,ag=zaW (fun _ _ _=>none) (zbv o1 j1 r1 r2) n1:=⟨_,rfl⟩
   have h:zbv o1 j1 r1 r2 ag1 out4 space3 l3=some r:=by rw [hag1]; exact h
   unfold zbv at h
   refine zaL (zyG (zyR 1 rfl (zcm hw4 rfl dc rfl underlying103 (zaR rfl zeg (zyN ?_)))))
   refine zyB rfl h (fun h => ?_) (fun h => ?_)
   ·
    refine zao (zaF (zaz ?_))
    obtain ⟨j2,hj2,h⟩:=zbP h
    refine za0 (β:=(List zab)×Bool×Int×Hd) 2 rfl (fun b=>j2 b.1 b.2.1 b.2.2.1=some r) (fun b=>[]) (fun b=>[(0,zP bo1),(5,.string (zcn r1 r2 (r1.size:Int))),(6,zP b2),(7,zP b3),(8,.func (.func 48) #[] #[zP b3,zP b2]),(9,v4),(11,zI b.2.2.1)]) (fun b=>[cells b2 [b.2.2.2.v] 62,zv2 b.2.2.2.v b.1,cells b3 [.bool b.2.1] 4]) (fun cut => ?_) ?_
    ·
     refine zyG (zyR 1 rfl ?_)
     obtain ⟨q1,hq4,h⟩:=zbA h
     refine zbf hw4 hq4 underlying103 zfL rfl dc rfl rfl rfl (zcA (m:=at3+(0:Int).toNat) (j:=0) (i:=6) (q:=q1) (cs:=(zr0 q1)) hrd rfl (by omega) zgX rfl dc rfl (Vw.get hw4 hq4) rfl rfl rfl ?_)
     refine za3 zko rfl dc (fun b4 => ?_)
     refine za2 (k:=3) (vs:=(zr0 q1)) (l':=(zr0 q1)) zfL rfl rfl rfl rfl rfl (show _≤_ by simp) rfl rfl ?_
     refine zyH (zyR 1 rfl (zyN (cut (zyG (zbW (k:=3) (cs:=(zr0 q1)) zgX rfl dc rfl rfl rfl rfl ?_)))))
     obtain ⟨hg2,h⟩:=zbR h
     refine zaO (v:=zI (zbD q1.Broken q1.Rune)) (vs:=[.agg (zr0 q1).toArray]) rfl dc rfl rfl rfl zqi (zvi q1.At q1.Width q1.Rune q1.Broken hg2.1 hg2.2) (zyN (zaz (zyG (zaR rfl za9 (zyR 1 rfl (zyN ?_))))))
     refine zyB rfl h (fun h => ?_) (fun h => ?_)
     ·
      refine zyG (zyR 1 rfl (zyH (zyR 2 rfl ?_)))
      have hrd:Rd _ _ [cells bo1 [o1_h0.v,.map (some (za7 o1_h1)),.map (some (za7 o1_h2)),.map (some (za7 o1_h3)),o1_h4.v] 79,zv0 o1_h0.v o1.units,zbO (fun n:zBA=>Value.string n) (fun n:Int=>Value.int .i64 n) (za7 o1_h1) o1.place,zcB (za7 o1_h2) o1.fors,zbO (fun n:zBA=>Value.string n) (fun n:Bool=>Value.bool n) (za7 o1_h3) o1.skips,zv0 o1_h4.v o1.lines,zeW zbK 4 hd2.v 0 r3,zeW zbK 4 hd2.v at3 r3]:=hrd.up0 (i:=6) rfl
      obtain ⟨r4,hq5,h⟩:=zbA h
      refine ztl (vs:=[zP bo1,v4]) hrd rfl dc rfl rfl rfl zxK (zhj (bo1:=bo1) (o1:=o1) (o1_h0:=o1_h0) (o1_h1:=o1_h1) (o1_h2:=o1_h2) (o1_h3:=o1_h3) (o1_h4:=o1_h4) hw4 hq5) (.ro 0 rfl (.ro 1 rfl (.ro 2 rfl (.ro 3 rfl (.ro 4 rfl (.ro 5 rfl (.ro 7 rfl .nil))))))) ?_
      intro hd7 wf2 Kf2 hxf2 hrd
      replace hrd:Rd _ _ [cells bo1 [o1_h0.v,.map (some (za7 o1_h1)),.map (some (za7 o1_h2)),.map (some (za7 o1_h3)),o1_h4.v] 79,zv0 o1_h0.v o1.units,zbO (fun n:zBA=>Value.string n) (fun n:Int=>Value.int .i64 n) (za7 o1_h1) o1.place,zcB (za7 o1_h2) o1.fors,zbO (fun n:zBA=>Value.string n) (fun n:Bool=>Value.bool n) (za7 o1_h3) o1.skips,zv0 o1_h4.v o1.lines,zeW zbK 4 hd2.v 0 r3,zeW zbK 4 hd2.v at3 r3,zmn zhf 1 hd7 r4.2]:=hrd
      obtain ⟨vv1,k1,L1,hV1,hrd⟩:=hrd.openSl (i:=8) rfl
      replace hrd:Rd _ _ [cells bo1 [o1_h0.v,.map (some (za7 o1_h1)),.map (some (za7 o1_h2)),.map (some (za7 o1_h3)),o1_h4.v] 79,zv0 o1_h0.v o1.units,zbO (fun n:zBA=>Value.string n) (fun n:Int=>Value.int .i64 n) (za7 o1_h1) o1.place,zcB (za7 o1_h2) o1.fors,zbO (fun n:zBA=>Value.string n) (fun n:Bool=>Value.bool n) (za7 o1_h3) o1.skips,zv0 o1_h4.v o1.lines,zeW zbK 4 hd2.v 0 r3,zeW zbK 4 hd2.v at3 r3,zmn zhf 1 hd7 r4.2,zeW zhf 1 vv1 k1 L1]:=hrd
      refine zyR 1 rfl (zaH rfl dc rfl rfl (zaH rfl dc rfl rfl (zyR 2 rfl (zyN ?_))))
      obtain ⟨j3,hj3,h⟩:=zbP h
      refine za0 (β:=Int) 1 rfl (fun b=>j3 b=some r) (fun b=>[]) (fun b=>[(0,zP bo1),(5,.string (zcn r1 r2 (r1.size:Int))),(6,zP b2),(7,zP b3),(8,.func (.func 48) #[] #[zP b3,zP b2]),(9,v4),(11,zI r4.1),(12,hd7.v),(13,zI b)]) (fun b=>[cells b2 [hd5.v] 62,zv2 hd5.v out4,cells b3 [.bool space3] 4]) (fun cut => ?_) ?_
      ·
       refine zyG (zyR 1 rfl (zyN (cut (zyG (zyR 2 rfl ?_)))))
       obtain ⟨hg3,h⟩:=zbR h
       obtain ⟨v5,hv1,hs1⟩:=zit (lo:=none) (hi:=some (zI r4.1)) hw4 underlying103 zfL (.inl ⟨rfl,rfl⟩) (.inr rfl) hg3
       refine zb7 rfl dc rfl rfl rfl hs1 (zcm hv1 rfl dc rfl underlying103 (zyR 1 rfl (zyN (zaz ?_))))
       refine zbN (β:=Nat×Int×Int) (fun b=>zaW (fun _ _=>none) (zbi l3 r4 j3) b.1 b.2.1 b.2.2=some r) (fun b=>[]) (fun b=>[(0,zP bo1),(5,.string (zcn r1 r2 (r1.size:Int))),(6,zP b2),(7,zP b3),(8,.func (.func 48) #[] #[zP b3,zP b2]),(9,v4),(11,zI r4.1),(12,hd7.v),(13,zI b.2.1),(48,v5),(49,zI ((zhi l3 0 r4.1).length:Int)),(50,zI b.2.2)]) (fun b=>[cells b2 [hd5.v] 62,zv2 hd5.v out4,cells b3 [.bool space3] 4]) (fun b=>b.1) (zcy,0,0) h rfl (za4 rfl) (zaa [0,1,2] kr rfl) ?_
       rintro ⟨n3,great4,x3⟩ h
       cases n3 with
       | zero=>exact zeq h
       | succ n3 =>
        obtain ⟨ag2,hag2⟩:∃ ag,ag=zaW (fun _ _=>none) (zbi l3 r4 j3) n3:=⟨_,rfl⟩
        have h:zbi l3 r4 j3 ag2 great4 x3=some r:=by rw [hag2]; exact h
        unfold zbi at h
        refine zyG (zaR rfl zbk (zyN (zaL ?_)))
        refine zyB rfl h (fun h => ?_) (fun h => ?_)
        ·
         refine zao (zaF ?_)
         obtain ⟨j4,hj4,h⟩:=zbP h
         refine za0 (β:=Int) 0 rfl (fun b=>j4 b=some r) (fun b=>[]) (fun b=>[(0,zP bo1),(5,.string (zcn r1 r2 (r1.size:Int))),(6,zP b2),(7,zP b3),(8,.func (.func 48) #[] #[zP b3,zP b2]),(9,v4),(11,zI r4.1),(12,hd7.v),(13,zI b),(48,v5),(49,zI ((zhi l3 0 r4.1).length:Int)),(50,zI x3)]) (fun b=>[cells b2 [hd5.v] 62,zv2 hd5.v out4,cells b3 [.bool space3] 4]) (fun cut => ?_) ?_
         ·
          refine cut (zaz (zyG ?_))
          obtain ⟨q2,hq6,h⟩:=zbA h
          refine zbf hv1 hq6 underlying103 zfL rfl dc rfl rfl rfl (zcA (m:=at3+(0:Int).toNat+(x3:Int).toNat) (j:=0) (i:=6) (q:=q2) (cs:=(zr0 q2)) hrd rfl (by omega) zgX rfl dc rfl (Vw.get hv1 hq6) rfl rfl rfl ?_)
          refine za3 zko rfl dc (fun b5 => ?_)
          refine za2 (k:=3) (vs:=(zr0 q2)) (l':=(zr0 q2)) zfL rfl rfl rfl rfl rfl (show _≤_ by simp) rfl rfl ?_
          refine zyH (zaf zgx rfl dc rfl (show _=2 from rfl) (zal (k:=3) zfn rfl dc rfl rfl rfl ?_))
          obtain ⟨hg4,h⟩:=zbR h
          refine zaO (v:=.bool (great q2.Rune)) (vs:=[.int .i32 q2.Rune]) rfl dc rfl rfl rfl zxU (zdD fun w=>zht q2.Rune w hg4.1 hg4.2) ?_
          refine zyN ?_
          refine zyB rfl h (fun h => ?_) (fun h => ?_)
          ·
           refine zap (zyR 1 rfl (zaD (zae ?_)))
           exact zah 1 h rfl (za4 rfl) (zaa [0,1,2] kr rfl)
          refine zao (zae ?_)
          exact zah great4 h rfl (za4 rfl) (zaa [0,1,2] kr rfl)
         rintro great5 h
         rw [hj4] at h
         refine zap ?_
         obtain ⟨hg5,h⟩:=zbR h
         refine zaR rfl (zbc (r:=x3+1) (IntWalk.i64_in _ hg5)) (zyR 1 rfl (zaD ?_))
         subst hag2
         exact zbr (n3,great5,x3+1) h (Nat.lt_succ_self _) rfl (za4 rfl) (zaa [0,1,2] kr rfl)
        refine zbz (zaq (zaq (zaG ?_)))
        exact zah great4 h rfl (za4 rfl) (zaa [0,1,2] kr rfl)
      rintro great1 h
      rw [hj3] at h
      obtain ⟨j5,hj5,h⟩:=zbP h
      refine za0 (β:=Int×zBA) 1 rfl (fun b=>j5 b.1 b.2=some r) (fun b=>[]) (fun b=>[(0,zP bo1),(5,.string (zcn r1 r2 (r1.size:Int))),(6,zP b2),(7,zP b3),(8,.func (.func 48) #[] #[zP b3,zP b2]),(9,v4),(11,zI b.1),(12,hd7.v),(13,zI great1),(16,.string b.2)]) (fun b=>[cells b2 [hd5.v] 62,zv2 hd5.v out4,cells b3 [.bool space3] 4]) (fun cut => ?_) ?_
      ·
       refine zyG (zyR 1 rfl (zyN (cut (zaz ?_))))
       refine zbN (β:=Nat×Int×zBA) (fun b=>zaW (fun _ _=>none) (zbu l3 j5) b.1 b.2.1 b.2.2=some r) (fun b=>[]) (fun b=>[(0,zP bo1),(5,.string (zcn r1 r2 (r1.size:Int))),(6,zP b2),(7,zP b3),(8,.func (.func 48) #[] #[zP b3,zP b2]),(9,v4),(11,zI b.2.1),(12,hd7.v),(13,zI great1),(16,.string b.2.2)]) (fun b=>[cells b2 [hd5.v] 62,zv2 hd5.v out4,cells b3 [.bool space3] 4]) (fun b=>b.1) (zcy,r4.1,(⟨#[]⟩:zBA)) (by exact h) rfl (za4 rfl) (zaa [0,1,2] kr rfl) ?_
       rintro ⟨n8,n7,marks4⟩ h
       cases n8 with
       | zero=>exact zeq h
       | succ n8 =>
        obtain ⟨ag3,hag3⟩:∃ ag,ag=zaW (fun _ _=>none) (zbu l3 j5) n8:=⟨_,rfl⟩
        have h:zbu l3 j5 ag3 n7 marks4=some r:=by rw [hag3]; exact h
        unfold zbu at h
        refine zaL (zyG (zyR 2 rfl (zcm hw4 rfl dc rfl underlying103 (zaR rfl zbk (zyR 1 rfl ?_)))))
        refine zyS (s:=62) rfl h (fun h => ?_) (fun h => ?_)
        ·
         refine zyR 2 rfl ?_
         obtain ⟨q3,hq7,h⟩:=zbA h
         refine zbf hw4 hq7 underlying103 zfL rfl dc rfl rfl rfl (zcA (m:=at3+(n7:Int).toNat) (j:=0) (i:=6) (q:=q3) (cs:=(zr0 q3)) hrd rfl (by omega) zgX rfl dc rfl (Vw.get hw4 hq7) rfl rfl rfl ?_)
         obtain ⟨r5,hq8,h⟩:=zbA h
         refine zaO (v:=.bool r5) (vs:=[.agg (zr0 q3).toArray]) rfl dc rfl rfl rfl zwe (zhC (p1:=q3) hq8) (zyR 1 rfl (zyN ?_))
         refine zyB rfl h (fun h => ?_) (fun h => ?_)
         ·
          refine zao (zaF (zaz (zyG (zyR 3 rfl ?_))))
          obtain ⟨q4,hq9,h⟩:=zbA h
          refine zbf hw4 hq9 underlying103 zfL rfl dc rfl rfl rfl (zaf zgx rfl dc rfl (show _=(at3+(n7:Int).toNat)*4+2 from rfl) (zcq (n:=at3+(n7:Int).toNat) (j:=2) (i:=6) (q:=q4) hrd rfl (by omega) zfn rfl dc rfl (Vw.get hw4 hq9) rfl rfl (zcD rfl dc rfl (zc6 underlying21 underlying9) ?_)))
          obtain ⟨hg6,h⟩:=zbR h
          refine zaR rfl (zfA hg6) (zyR 1 rfl (zyN (zap (zyR 1 rfl ?_))))
          obtain ⟨hg7,h⟩:=zbR h
          refine zaR rfl (zbc (r:=n7+1) (IntWalk.i64_in _ hg7)) (zyR 1 rfl (zaD (zae ?_)))
          subst hag3
          exact zbr (n8,n7+1,marks4++(Utf8.encode q4.Rune)) h (Nat.lt_succ_self _) rfl (za4 rfl) (zaa [0,1,2] kr rfl)
         refine zbz (zaq (zaq (zaG ?_)))
         exact zah (n7,marks4) h rfl (za4 rfl) (zaa [0,1,2] kr rfl)
        refine zyR 6 rfl (zyN (zaQ rfl (zbz (zaq (zaq (zaG ?_))))))
        exact zah (n7,marks4) h rfl (za4 rfl) (zaa [0,1,2] kr rfl)
      rintro ⟨n4,marks1⟩ h
      rw [hj5] at h
      obtain ⟨j6,hj6,h⟩:=zbP h
      refine za0 (β:=(List zab)×Bool×Hd) 0 rfl (fun b=>j6 b.1 b.2.1=some r) (fun b=>[]) (fun b=>[(0,zP bo1),(5,.string (zcn r1 r2 (r1.size:Int))),(6,zP b2),(7,zP b3),(8,.func (.func 48) #[] #[zP b3,zP b2]),(9,v4),(11,zI n4),(16,.string marks1)]) (fun b=>[cells b2 [b.2.2.v] 62,zv2 b.2.2.v b.1,cells b3 [.bool b.2.1] 4]) (fun cut => ?_) ?_
      ·
       refine cut (zyG (zyR 1 rfl (zcm hV1 rfl dc rfl underlying38 (zyR 1 rfl (zyN (zaz ?_))))))
       refine zbN (β:=Nat×(List zab)×Bool×Int×Hd) (fun b=>zaW (fun _ _ _=>none) (zbh o1 r4 great1 j6) b.1 b.2.1 b.2.2.1 b.2.2.2.1=some r) (fun b=>[]) (fun b=>[(0,zP bo1),(5,.string (zcn r1 r2 (r1.size:Int))),(6,zP b2),(7,zP b3),(8,.func (.func 48) #[] #[zP b3,zP b2]),(9,v4),(11,zI n4),(13,zI great1),(16,.string marks1),(79,hd7.v),(80,zI (r4.2.length:Int)),(81,zI b.2.2.2.1)]) (fun b=>[cells b2 [b.2.2.2.2.v] 62,zv2 b.2.2.2.2.v b.2.1,cells b3 [.bool b.2.2.1] 4]) (fun b=>b.1) (zcy,out4,space3,0,hd5) h rfl (za4 rfl) (zaa [0,1,2] kr rfl) ?_
       rintro ⟨n9,out9,space8,x6,hd11⟩ h
       cases n9 with
       | zero=>exact zeq h
       | succ n9 =>
        obtain ⟨ag4,hag4⟩:∃ ag,ag=zaW (fun _ _ _=>none) (zbh o1 r4 great1 j6) n9:=⟨_,rfl⟩
        have h:zbh o1 r4 great1 j6 ag4 out9 space8 x6=some r:=by rw [hag4]; exact h
        unfold zbh at h
        refine zyG (zaR rfl zbk (zyN (zaL ?_)))
        refine zyB rfl h (fun h => ?_) (fun h => ?_)
        ·
         refine zao (zaF (zaL (zaz (zyG ?_))))
         obtain ⟨q5,hq10,h⟩:=zbA h
         refine zbf hV1 hq10 underlying38 zjC rfl dc rfl rfl rfl (zcq (n:=k1+(x6:Int).toNat) (j:=0) (i:=9) (q:=q5) hrd rfl (by omega) zeV rfl dc rfl (Vw.get hV1 hq10) rfl rfl (zyR 1 rfl (zyN (zap (zyR 2 rfl (za5 rfl dc rfl (zaf zjj rfl dc rfl (show _=1 from rfl) (zdx (i:=0) hrd rfl zpM rfl dc rfl rfl (zyR 1 rfl ?_)))))))))
         refine zdw (k:=2) (ek:=(fun n:zBA=>Value.string n)) (ev':=(fun n:Int=>Value.int .i64 n)) (kk:=q5) (z0:=0) (zcM underlying9) underlying75 kr rfl dc rfl rfl hrd rfl ?_
         refine zyR 1 rfl ?_
         refine zci (v:=.agg #[zI 3,zI ((zbJ q5 o1.place).getD 0),.string ByteArray.empty,.string ByteArray.empty,zI great1]) (ps:=[(0,.const (zI 3)),(1,.tmp 91),(4,.tmp 92)]) rfl dc rfl (fun _=>by kernel_rfl) ?_
         obtain ⟨r6,hq11,h⟩:=zbA h
         refine zb9 (vs:=[.agg #[zI 3,zI ((zbJ q5 o1.place).getD 0),.string ByteArray.empty,.string ByteArray.empty,zI great1]]) rfl dc rfl rfl rfl zuy (zdm (e1:=(⟨3,((zbJ q5 o1.place).getD 0),ByteArray.empty,ByteArray.empty,great1⟩:zab)) (bc0:=b3) (c0:=space8) (bc1:=b2) (c1:=out9) (c1_h0:=hd11) hq11) (zaa [2,0,1] kr rfl) ?_
         rintro hd12
         refine zcu (L':=[cells b2 [hd12.v] 62,zv2 hd12.v r6.2,cells b3 [.bool r6.1] 4]) (zaa [4,5,3] kr rfl) (zaD (zae (zaF (zap ?_))))
         obtain ⟨hg8,h⟩:=zbR h
         refine zaR rfl (zbc (r:=x6+1) (IntWalk.i64_in _ hg8)) (zyR 1 rfl (zaD ?_))
         subst hag4
         exact zbr (n9,r6.2,r6.1,x6+1,hd12) h (Nat.lt_succ_self _) rfl (za4 rfl) (zaa [0,1,2] kr rfl)
        refine zbz (zaq (zaq (zaG ?_)))
        exact zah (out9,space8,hd11) h rfl (za4 rfl) (zaa [0,1,2] kr rfl)
      rintro ⟨out6,space5,hd8⟩ h
      rw [hj6] at h
      refine zap (zal (k:=0) zpN rfl dc rfl rfl rfl (zal (k:=0) zpN rfl dc rfl rfl rfl (zdy (k:=1) rfl dc rfl rfl underlying62 ?_)))
      obtain ⟨hg9,h⟩:=zbR h
      refine zaR rfl (zg6 (r:=(out6.length:Int) - 1) (IntWalk.i64_in _ hg9)) (zyR 1 rfl ?_)
      obtain ⟨q6,hq12,h⟩:=zbA h
      refine zbm (k:=1) hq12 underlying62 zgq rfl dc rfl rfl rfl rfl (zaf zmC rfl dc rfl (show _=(((out6.length:Int) - 1:Int).toNat)*5+3 from rfl) ?_)
      refine zf6 (i:=((out6.length:Int) - 1:Int).toNat) (j:=3) (k:=1) (q:=q6) (q':=(⟨q6.sort,q6.place,q6.digits,marks1,q6.great⟩:zab)) zjC za1 rfl rfl rfl rfl (zcg hq12) rfl dc rfl (fun _ _=>rfl) ?_
      refine zaD (zae (zr9 hxf2 ?_))
      exact zah (out6.set ((out6.length:Int) - 1:Int).toNat (⟨q6.sort,q6.place,q6.digits,marks1,q6.great⟩:zab),space5,n4,hd8) h rfl (za4 rfl) (zaa [0,1,2] kr rfl)
     refine zyG (zaR rfl za9 (zyR 1 rfl (zyN ?_)))
     refine zyB rfl h (fun h => ?_) (fun h => ?_)
     ·
      obtain ⟨j7,hj7,h⟩:=zbP h
      refine za0 (β:=Int) 0 rfl (fun b=>j7 b=some r) (fun b=>[]) (fun b=>[(0,zP bo1),(5,.string (zcn r1 r2 (r1.size:Int))),(6,zP b2),(7,zP b3),(8,.func (.func 48) #[] #[zP b3,zP b2]),(9,v4),(10,zP b4),(11,zI b)]) (fun b=>[cells b2 [hd5.v] 62,zv2 hd5.v out4,cells b3 [.bool space3] 4,cells b4 (zr0 q1) 95]) (fun cut => ?_) ?_
      ·
       refine cut (zaz ?_)
       refine zbN (β:=Nat×Int) (fun b=>zaW (fun _=>none) (zbt l3 j7) b.1 b.2=some r) (fun b=>[]) (fun b=>[(0,zP bo1),(5,.string (zcn r1 r2 (r1.size:Int))),(6,zP b2),(7,zP b3),(8,.func (.func 48) #[] #[zP b3,zP b2]),(9,v4),(10,zP b4),(11,zI b.2)]) (fun b=>[cells b2 [hd5.v] 62,zv2 hd5.v out4,cells b3 [.bool space3] 4,cells b4 (zr0 q1) 95]) (fun b=>b.1) (zcy,1) h rfl (za4 rfl) (zaa [0,1,2,3] kr rfl) ?_
       rintro ⟨n14,n13⟩ h
       cases n14 with
       | zero=>exact zeq h
       | succ n14 =>
        obtain ⟨ag5,hag5⟩:∃ ag,ag=zaW (fun _=>none) (zbt l3 j7) n14:=⟨_,rfl⟩
        have h:zbt l3 j7 ag5 n13=some r:=by rw [hag5]; exact h
        unfold zbt at h
        refine zaL (zyG (zyR 2 rfl (zcm hw4 rfl dc rfl underlying103 (zaR rfl zbk (zyR 1 rfl ?_)))))
        refine zyS (s:=109) rfl h (fun h => ?_) (fun h => ?_)
        ·
         refine zyR 2 rfl ?_
         obtain ⟨q7,hq13,h⟩:=zbA h
         refine zbf hw4 hq13 underlying103 zfL rfl dc rfl rfl rfl (zcA (m:=at3+(n13:Int).toNat) (j:=0) (i:=6) (q:=q7) (cs:=(zr0 q7)) hrd rfl (by omega) zgX rfl dc rfl (Vw.get hw4 hq13) rfl rfl rfl ?_)
         obtain ⟨hg10,h⟩:=zbR h
         refine zaO (v:=zI (zbD q7.Broken q7.Rune)) (vs:=[.agg (zr0 q7).toArray]) rfl dc rfl rfl rfl zqi (zvi q7.At q7.Width q7.Rune q7.Broken hg10.1 hg10.2) (zaR rfl za9 (zyR 1 rfl (zyN ?_)))
         refine zyB rfl h (fun h => ?_) (fun h => ?_)
         ·
          refine zao (zaF (zaz (zap (zyR 1 rfl ?_))))
          obtain ⟨hg11,h⟩:=zbR h
          refine zaR rfl (zbc (r:=n13+1) (IntWalk.i64_in _ hg11)) (zyR 1 rfl (zaD (zae ?_)))
          subst hag5
          exact zbr (n14,n13+1) h (Nat.lt_succ_self _) rfl (za4 rfl) (zaa [0,1,2,3] kr rfl)
         refine zbz (zaq (zaq (zaG ?_)))
         exact zah n13 h rfl (za4 rfl) (zaa [0,1,2,3] kr rfl)
        refine zyR 7 rfl (zyN (zaQ rfl (zbz (zaq (zaq (zaG ?_))))))
        exact zah n13 h rfl (za4 rfl) (zaa [0,1,2,3] kr rfl)
      rintro n10 h
      rw [hj7] at h
      obtain ⟨j8,hj8,h⟩:=zbP h
      refine za0 (β:=zBA) 1 rfl (fun b=>j8 b=some r) (fun b=>[]) (fun b=>[(0,zP bo1),(5,.string (zcn r1 r2 (r1.size:Int))),(6,zP b2),(7,zP b3),(8,.func (.func 48) #[] #[zP b3,zP b2]),(9,v4),(11,zI n10),(19,.string b)]) (fun b=>[cells b2 [hd5.v] 62,zv2 hd5.v out4,cells b3 [.bool space3] 4]) (fun cut => ?_) ?_
      ·
       refine zyG (zyR 1 rfl (zaf zdJ rfl dc rfl (show _=0 from rfl) (zal (k:=3) zdE rfl dc rfl rfl rfl (zaf zdJ rfl dc rfl (show _=0 from rfl) (zal (k:=3) zdE rfl dc rfl rfl rfl (zyR 1 rfl ?_))))))
       obtain ⟨hg12,h⟩:=zbR h
       refine zaR rfl (zbc (r:=q1.At+n10) (IntWalk.i64_in _ hg12)) ?_
       obtain ⟨hg13,h⟩:=zbR h
       refine zb7 rfl dc rfl rfl rfl (za6 (i:=q1.At) (j:=q1.At+n10) underlying9 (.inr rfl) (.inr rfl) hg13) (zyR 1 rfl (zyN (cut (zaz ?_))))
       refine zbN (β:=Nat×zBA) (fun b=>zaW (fun _=>none) (zbs j8) b.1 b.2=some r) (fun b=>[]) (fun b=>[(0,zP bo1),(5,.string (zcn r1 r2 (r1.size:Int))),(6,zP b2),(7,zP b3),(8,.func (.func 48) #[] #[zP b3,zP b2]),(9,v4),(11,zI n10),(19,.string b.2)]) (fun b=>[cells b2 [hd5.v] 62,zv2 hd5.v out4,cells b3 [.bool space3] 4]) (fun b=>b.1) (zcy,zcn (zcn r1 r2 (r1.size:Int)) q1.At (q1.At+n10)) h rfl (za4 rfl) (zaa [0,1,2] kr rfl) ?_
       rintro ⟨n15,digits4⟩ h
       cases n15 with
       | zero=>exact zeq h
       | succ n15 =>
        obtain ⟨ag6,hag6⟩:∃ ag,ag=zaW (fun _=>none) (zbs j8) n15:=⟨_,rfl⟩
        have h:zbs j8 ag6 digits4=some r:=by rw [hag6]; exact h
        unfold zbs at h
        refine zaL (zyG (zyR 1 rfl (zcI rfl dc rfl underlying9 (zaR rfl zeg (zyR 1 rfl ?_)))))
        refine zyS (s:=130) rfl h (fun h => ?_) (fun h => ?_)
        ·
         refine zyR 1 rfl ?_
         obtain ⟨c1,hq14,h⟩:=zbA h
         refine zfB rfl dc rfl rfl (zfh underlying9 hq14) (zaR rfl za9 (zyR 1 rfl (zyN ?_)))
         refine zyB rfl h (fun h => ?_) (fun h => ?_)
         ·
          refine zao (zaF (zaz (zap (zyR 1 rfl ?_))))
          obtain ⟨hg14,h⟩:=zbR h
          refine zb7 rfl dc rfl rfl rfl (za6 (i:=1) (j:=(digits4.size:Int)) underlying9 (.inr rfl) (.inl ⟨rfl,rfl⟩) hg14) (zyR 1 rfl (zaD (zae ?_)))
          subst hag6
          exact zbr (n15,zcn digits4 1 (digits4.size:Int)) h (Nat.lt_succ_self _) rfl (za4 rfl) (zaa [0,1,2] kr rfl)
         refine zbz (zaq (zaq (zaG ?_)))
         exact zah digits4 h rfl (za4 rfl) (zaa [0,1,2] kr rfl)
        refine zyR 4 rfl (zyN (zaQ rfl (zbz (zaq (zaq (zaG ?_))))))
        exact zah digits4 h rfl (za4 rfl) (zaa [0,1,2] kr rfl)
      rintro digits1 h
      rw [hj8] at h
      refine zap (zyR 2 rfl ?_)
      refine zci (v:=.agg #[zI 2,zI 0,.string digits1,.string ByteArray.empty,zI 0]) (ps:=[(0,.const (zI 2)),(2,.tmp 138)]) rfl dc rfl (fun _=>by kernel_rfl) ?_
      obtain ⟨r7,hq15,h⟩:=zbA h
      refine zb9 (vs:=[.agg #[zI 2,zI 0,.string digits1,.string ByteArray.empty,zI 0]]) rfl dc rfl rfl rfl zuy (zdm (e1:=(⟨2,0,digits1,ByteArray.empty,0⟩:zab)) (bc0:=b3) (c0:=space3) (bc1:=b2) (c1:=out4) (c1_h0:=hd5) hq15) (zaa [2,0,1] kr rfl) ?_
      rintro hd13
      refine zcu (L':=[cells b2 [hd13.v] 62,zv2 hd13.v r7.2,cells b3 [.bool r7.1] 4]) (zaa [4,5,3] kr rfl) (zaD (zae ?_))
      exact zah (r7.2,r7.1,n10,hd13) h rfl (za4 rfl) (zaa [0,1,2] kr rfl)
     obtain ⟨j9,hj9,h⟩:=zbP h
     refine za0 (β:=Bool) 0 rfl (fun b=>j9 b=some r) (fun b=>[]) (fun b=>[(0,zP bo1),(5,.string (zcn r1 r2 (r1.size:Int))),(6,zP b2),(7,zP b3),(8,.func (.func 48) #[] #[zP b3,zP b2]),(9,v4),(10,zP b4),(11,zI 1),(37,zI (zbD q1.Broken q1.Rune)),(141,.bool b)]) (fun b=>[cells b2 [hd5.v] 62,zv2 hd5.v out4,cells b3 [.bool space3] 4,cells b4 (zr0 q1) 95]) (fun cut => ?_) ?_
     ·
      refine cut (zyG (zaR rfl za9 (zyR 1 rfl (zyN ?_))))
      refine zyB rfl h (fun h => ?_) (fun h => ?_)
      ·
       refine zao ?_
       exact zah (((zbD q1.Broken q1.Rune):Int)==5) h rfl (za4 rfl) (zaa [0,1,2,3] kr rfl)
      refine zyG (zaR rfl za9 (zyR 1 rfl (zyN ?_)))
      refine zyB rfl h (fun h => ?_) (fun h => ?_)
      ·
       refine zao ?_
       exact zah (((zbD q1.Broken q1.Rune):Int)==4) h rfl (za4 rfl) (zaa [0,1,2,3] kr rfl)
      refine zap (zaR rfl za9 (zyR 1 rfl (zaD ?_)))
      exact zah (((zbD q1.Broken q1.Rune):Int)==6) h rfl (za4 rfl) (zaa [0,1,2,3] kr rfl)
     rintro x7 h
     rw [hj9] at h
     refine zyB rfl h (fun h => ?_) (fun h => ?_)
     ·
      refine zap ?_
      refine zaP (k:=2) (l':=[.bool true]) zqP rfl rfl rfl rfl rfl (fun _ _=>rfl) rfl ?_
      refine zaD (zae ?_)
      exact zah (out4,true,1,hd5) h rfl (za4 rfl) (zaa [0,1,2] kr rfl)
     refine zyG (zaR rfl za9 (zyR 1 rfl (zyN ?_)))
     refine zyB rfl h (fun h => ?_) (fun h => ?_)
     ·
      refine zap (zyR 2 rfl (zaf zdJ rfl dc rfl (show _=0 from rfl) (zal (k:=3) zdE rfl dc rfl rfl rfl ?_)))
      obtain ⟨c2,hq16,h⟩:=zbA h
      refine zfB rfl dc rfl rfl (zfh underlying9 hq16) ?_
      obtain ⟨hg15,h⟩:=zbR h
      refine zcD rfl dc rfl (zpk (r:=c2) underlying5 underlying3 (IntWalk.i64_in _ hg15)) ?_
      refine zci (v:=.agg #[zI 4,zI c2,.string ByteArray.empty,.string ByteArray.empty,zI 0]) (ps:=[(0,.const (zI 4)),(1,.tmp 152)]) rfl dc rfl (fun _=>by kernel_rfl) ?_
      obtain ⟨r8,hq17,h⟩:=zbA h
      refine zb9 (vs:=[.agg #[zI 4,zI c2,.string ByteArray.empty,.string ByteArray.empty,zI 0]]) rfl dc rfl rfl rfl zuy (zdm (e1:=(⟨4,c2,ByteArray.empty,ByteArray.empty,0⟩:zab)) (bc0:=b3) (c0:=space3) (bc1:=b2) (c1:=out4) (c1_h0:=hd5) hq17) (zaa [2,0,1] kr rfl) ?_
      rintro hd14
      refine zcu (L':=[cells b2 [hd14.v] 62,zv2 hd14.v r8.2,cells b3 [.bool r8.1] 4,cells b4 (zr0 q1) 95]) (zaa [5,6,4,3] kr rfl) (zaD (zae ?_))
      exact zah (r8.2,r8.1,1,hd14) h rfl (za4 rfl) (zaa [0,1,2] kr rfl)
     refine zao (zae ?_)
     exact zah (out4,space3,1,hd5) h rfl (za4 rfl) (zaa [0,1,2] kr rfl)
    rintro ⟨out5,space4,n2,hd6⟩ h
    rw [hj2] at h
    refine zap (zyR 2 rfl ?_)
    obtain ⟨hg16,h⟩:=zbR h
    obtain ⟨v6,hv2,hs2⟩:=zit (lo:=some (zI n2)) (hi:=none) hw4 underlying103 zfL (.inr rfl) (.inl ⟨rfl,rfl⟩) hg16
    refine zb7 rfl dc rfl rfl rfl hs2 (zyR 1 rfl (zaD (zae ?_)))
    subst hag1
    exact zbr (n1,out5,space4,zhi l3 n2 (l3.length:Int),hd6,v6,at3+(n2:Int).toNat) ⟨h,hv2⟩ (Nat.lt_succ_self _) rfl (za4 rfl) (zaa [0,1,2] kr rfl)
   refine zbz (zaq (zaq (zaG (zr9 hxf1 ?_))))
   exact zah (out4,b2,hd5) h rfl (za4 rfl) (zaa [0,1] kr rfl)
 rintro ⟨out1,b1,hd1⟩ h
 rw [hj1] at h
 refine zyG (zal (k:=0) zpN rfl dc rfl rfl rfl (zyR 1 rfl (zyN (zaA ?_))))
 cases h
 exact zcj (rs:=[.tmp 4]) hd1.v (.inl rfl) results25 (.cons (.tmp rfl) .nil) rfl (zaa [1] kr rfl)
abbrev Tk:=Int×zBA
def tkT (t:Tok):Tk:=(if t.broken then -1 else (t.r:Int),⟨t.bs.toArray⟩)
def kT (x:Tk):Int:=if x.1<0 then 11 else kind x.1
def zgv (x:Tk):Bool:=zaY x.1
def zje (x:Tk):Bool:=mrk x.1
def zi5 (x:Tk):Bool:=decide (48≤x.1∧x.1≤57)
def zns (x:Tk):Bool:=zgv x||zje x
def zj5 (l:List Tk):zBA:=J (·.2) l
abbrev El:=zab
structure zmX where
 p:zBA→Option Int
 f:zBA→Option (List zBA)
 s:zBA→Bool
def zn4 (l:List Tk):List Tk:=(l.dropWhile fun x=>!zgv x).dropWhile zns
def zjW (l:List Tk):List Tk:=(l.dropWhile fun x=>!zgv x).takeWhile zns
def znh (o:zmX) (l:List Tk):Nat :=
 if (zn4 l).any (fun x=>zgv x||zi5 x)&&o.s (zgb (zj5 (zjW l))) then (l.takeWhile fun x=>!zgv x).length+(zjW l).length else 0
def zqR (o:zmX) (a:zBA×Nat×Option (Nat×List zBA)) (x:Tk):zBA×Nat×Option (Nat×List zBA) :=
 let f:=a.1++Utf8.encode (zbe x.1)
 (f,a.2.1+1,if (o.p f).isSome then some (a.2.1+1,[f]) else match o.f f with | some xs=>some (a.2.1+1,xs) | none=>a.2.2)
def zrV (l:List Tk):List Tk:=(l.take 8).takeWhile fun x=>!decide (x.1<0)
def zqr (o:zmX) (l:List Tk):Option (Nat×List zBA):=((zrV l).foldl (zqR o) (ByteArray.empty,0,none)).2.2
def zh9 (r:Int):List zBA:=(zef (zgb (Utf8.encode (zbe r)))).map Utf8.encode
def zfd (o:zmX) (x:Tk) (l:List Tk):Nat×List zBA:=(zqr o (x::l)).getD (1,zh9 x.1)
def elU (o:zmX) (g:Int) (u:zBA):El:=⟨3,(o.p u).getD 0,ByteArray.empty,ByteArray.empty,g⟩
def zqW (m:zBA):List El→List El
 | []=>[]
 | [e]=>[⟨e.sort,e.place,e.digits,m,e.great⟩]
 | e::e'::es=>e::zqW m (e'::es)
def zjM (l:List Tk):Int:=if l.any (fun x=>great x.1) then 1 else 0
def zgg (l:List Tk):zBA:=J (fun x=>Utf8.encode x.1) l
def zqQ:List UInt8→List UInt8:=List.dropWhile (· == 48)
def zvj (l:List Tk):zBA:=⟨(zqQ (zj5 l).data.toList).toArray⟩
def zih (o:zmX) (x:Tk) (l:List Tk):Nat×Option (List El) :=
 if kT x=1 then
  let m:=zfd o x l
  let ms:=((x::l).drop m.1).takeWhile zje
  (m.1+ms.length,some (zqW (zgg ms) (m.2.map (elU o (zjM ((x::l).take m.1))))))
 else if kT x=3 then (1+(l.takeWhile zi5).length,some [⟨2,0,zvj (x::l.takeWhile zi5),ByteArray.empty,0⟩])
 else if kT x=5∨kT x=4∨kT x=6 then (1,none)
 else if kT x=11 then (1,some [⟨4,zge x.2,ByteArray.empty,ByteArray.empty,0⟩])
 else (1,some [])
def ziY (o:zmX):Nat→List Tk→List (Option (List El))
 | 0,_=>[]
 | _+1,[]=>[]
 | n+1,x::l=>(zih o x l).2::ziY o n ((x::l).drop (zih o x l).1)
def zwC:El:=⟨1,0,ByteArray.empty,ByteArray.empty,0⟩
def asm:List (Option (List El))→List El→Bool→List El
 | [],out,_=>out
 | none::cs,out,_=>asm cs out true
 | some []::cs,out,sp=>asm cs out sp
 | some (e::es)::cs,out,sp=>asm cs (out++(if sp&&!out.isEmpty then [zwC] else [])++e::es) false
def zlW (o:zmX) (l:List Tk):List El:=asm (ziY o l.length (l.drop (znh o l))) [] false
def zks (t:zBA):List Tok:=zek (zdh t).data.toList
def zlf (t:zBA):List Tk:=(zks t).map tkT
def zeO (o:zac):zmX:=⟨fun u=>zbJ u o.place,fun u=>zbJ u o.fors,fun f=>(zbJ f o.skips).getD false⟩
def pT (i:Nat) (t:Tok):zam:=⟨(i:Int),(t.bs.length:Int),(t.r:Int),t.broken⟩
def pL:Nat→List Tok→List zam
 | _,[]=>[]
 | i,t::ts=>pT i t::pL (i+t.bs.length) ts
theorem zo2:∀ (ts:List Tok) (i:Nat),(place i ts).map pcG=pL i ts
 | [],_=>rfl
 | t::ts,i=>by
  show pcG ⟨i,t.bs.length,t.r⟩::(place (i+t.bs.length) ts).map pcG=_
  rw [zo2 ts]; rfl
theorem zlN (l:List UInt8):(pcs l).map pcG=pL 0 (zek l):=by
 show (zd1 0 l).map pcG=_
 rw [zng,zo2]
theorem zgG:∀ (ts:List Tok) (i:Nat),(pL i ts).length=ts.length
 | [],_=>rfl
 | t::ts,i=>by rw [pL,List.length_cons,List.length_cons,zgG ts]
theorem zsZ (ts:List Tok) (n:Nat):(zb8 (ts.take n)).length+(zb8 (ts.drop n)).length=(zb8 ts).length:=by
 rw [← List.length_append,← zby,List.take_append_drop]
theorem zq9:∀ (n:Nat) (ts:List Tok) (i:Nat),(pL i ts).drop n=pL (i+(zb8 (ts.take n)).length) (ts.drop n)
 | 0,ts,i=>by simp [zb8]
 | n+1,[],i=>by simp [pL,zb8]
 | n+1,t::ts,i=>by
  rw [pL,List.drop_succ_cons,zq9 n ts,List.take_succ_cons,zcG,List.length_append,List.drop_succ_cons,Nat.add_assoc]
theorem ziy:∀ (ts:List Tok) (i k:Nat) (t:Tok),ts[k]?=some t→(pL i ts)[k]?=some (pT (i+(zb8 (ts.take k)).length) t)
 | [],_,_,_,h=>by simp at h
 | t'::ts,i,0,t,h=>by simp at h; subst h; simp [pL,zb8]
 | t'::ts,i,k+1,t,h=>by
  rw [pL,List.getElem?_cons_succ,ziy ts _ k t (by simpa using h),List.take_succ_cons,zcG,List.length_append,Nat.add_assoc]
theorem ze9 {t:Tok} (h:zfo t):I32 (t.r:Int):=by
 rcases h with h | h
 ·obtain ⟨h,_⟩:=h
  exact ⟨by omega,by omega⟩
 ·unfold Tok.broken at h
  simp at h
  exact ⟨by omega,by omega⟩
theorem zjK (t:Tok):zbD t.broken (t.r:Int)=kT (tkT t):=by
 have h1:∀ r:Int,kT (r,(⟨t.bs.toArray⟩:zBA))=if r<0 then 11 else kind r:=fun r=>rfl
 unfold tkT
 cases hb:t.broken with
 | true=>rw [if_pos rfl,h1,if_pos (by omega)]; rfl
 | false =>
  rw [if_neg (by simp),h1]
  have h2:¬ ((t.r:Int)<0):=by omega
  have h3:zbD false (t.r:Int)=kind (t.r:Int):=if_neg (by simp)
  rw [if_neg h2,h3]
theorem zgJ (x:Tk):((kT x:Int)==1)=zgv x:=by
 unfold kT zgv
 split
 ·rename_i h
  have:zaY x.1=false:=by
   cases hL:zaY x.1 with
   | false=>rfl
   | true=>have:=zcN _ hL; omega
  rw [this]; rfl
 ·exact zvY x.1
theorem zkI (x:Tk):((kT x:Int)==2)=zje x:=by
 unfold kT zje
 split
 ·have:mrk x.1=false:=by unfold mrk; exact decide_eq_false (by omega)
  rw [this]; rfl
 ·exact zvX x.1
theorem zxd (r:Int):((kind r:Int)==3)=decide (48≤r∧r≤57):=by
 by_cases h:48≤r∧r≤57
 ·have hl:zaY r=false:=by
   cases hL:zaY r with
   | false=>rfl
   | true =>
    unfold zaY great zi8 at hL
    simp only [Bool.or_eq_true,decide_eq_true_eq] at hL
    unfold zjN zjE at hL
    omega
  have:kind r=3:=by
   unfold kind znq
   rw [if_neg (by omega),hl]
   simp only [Bool.false_eq_true,if_false]
   rw [if_neg (by omega),if_pos h]
  rw [this,decide_eq_true h]; rfl
 ·rw [decide_eq_false h]
  have:kind r≠3:=by
   unfold kind znq
   intro hh
   repeat' split at hh
   all_goals first | omega | cases hh
  exact beq_eq_false_iff_ne.2 this
theorem zhK (x:Tk):((kT x:Int)==3)=zi5 x:=by
 unfold kT zi5
 split
 ·have:decide (48≤x.1∧x.1≤57)=false:=decide_eq_false (by omega)
  rw [this]; rfl
 ·exact zxd x.1
theorem zua (o:zac) (s:zBA) (ek:Int→Int→Int→Option Int) (x:zam) (ag:Int→Int→Bool→Option Int) (f t:Int) (op:Bool) (h32:I32 x.Rune) :
  zbg o s ek x ag f t op=zar (decide ((f:Int)<0)) (zar (((zbD x.Broken x.Rune):Int)==1) (grd (I64 (x.At+x.Width))<|ag x.At (x.At+x.Width) op) (ag f t op))
   (zar (op&&((((zbD x.Broken x.Rune):Int)==1)||(((zbD x.Broken x.Rune):Int)==2))) (grd (I64 (x.At+x.Width))<|ag f (x.At+x.Width) op)
    (zar ((((zbD x.Broken x.Rune):Int)==1)||(((zbD x.Broken x.Rune):Int)==3)) (grd (0≤(f:Int)∧(f:Int)≤t∧(t:Int)≤(s.size:Int))<|zak (zcC (zcn s f t)) fun (r2:zBA)=>zar (((zbJ r2 o.skips).getD false)) (ek t f t) (ek 0 f t)) (ag f t false))):=by
 unfold zbg
 rw [zrr h32]
 generalize (((zbD x.Broken x.Rune):Int)==1)=b1
 generalize (((zbD x.Broken x.Rune):Int)==2)=b2
 generalize (((zbD x.Broken x.Rune):Int)==3)=b3
 generalize decide ((f:Int)<0)=b0
 cases b0 <;> cases b1 <;> cases b2 <;> cases b3 <;> cases op <;> rfl
theorem zex (a b:zBA):(a++b).data.toList=a.data.toList++b.data.toList:=by simp
theorem zgR {a b:zBA} (h:a.data.toList=b.data.toList):a=b:=ByteArray.ext (Array.toList_inj.1 h)
theorem zkj:∀ ts:List Tok,(zj5 (ts.map tkT)).data.toList=zb8 ts
 | []=>rfl
 | t::ts=>by
  rw [List.map_cons,zcG,← zkj ts]
  show (J (·.2) (tkT t::ts.map tkT)).data.toList=_
  rw [zdU,zex]; rfl
theorem zid (s:zBA) (a b:Nat):(zcn s (a:Int) (b:Int)).data.toList=(s.data.toList.drop a).take (b - a):=by
 unfold zcn
 simp [ByteArray.data_extract]
theorem zoC {s:zBA} {A W Z:List Tok} (h:s.data.toList=zb8 (A++(W++Z))) {a b:Nat} (ha:a=(zb8 A).length) (hb:b=a+(zb8 W).length):zcn s (a:Int) (b:Int)=zj5 (W.map tkT):=by
 apply zgR
 rw [zid,zkj,h,zby,zby,ha,List.drop_left,hb,ha,Nat.add_sub_cancel_left,List.take_left]
theorem zb4 (s:zBA):s.size=s.data.toList.length:=by rw [Array.length_toList]; rfl
theorem zkW (s:zBA) (a b:Int):(zcn s a b).size≤s.size:=by
 unfold zcn
 rw [ByteArray.size_extract]
 omega
theorem zqO {α:Type} (p:α→Bool):∀ l:List α,l.take (l.takeWhile p).length=l.takeWhile p
 | []=>rfl
 | x::l=>by
  rw [List.takeWhile_cons]
  cases p x with
  | true=>simp only [if_true,List.length_cons,List.take_succ_cons]; rw [zqO p l]
  | false=>rfl
section
variable {o:zac} {s:zBA} {ek:Int→Int→Int→Option Int} {dn:Int→Int→Bool→Option Int} {Z:Option Int}
abbrev zpd (x:Tk):Bool:=zgv x||zi5 x
def zwn (o:zac) (s:zBA) (a b:Nat):Int:=if (zeO o).s (zgb (zcn s (a:Int) (b:Int))) then (b:Int) else 0
theorem ph3 (hz:∀ a b c,dn a b c=some 0) (he:∀ v a b,ek v a b=some v) (hs:s.size≤65536) {a b:Nat} (hab:a≤b) (hbs:b≤s.size):∀ (ts:List Tok) (i:Nat),(∀ t∈ts,zfo t) →
  zcF dn (zbg o s ek) (pL i ts) (a:Int) (b:Int) false=if (ts.map tkT).any zpd then some (zwn o s a b) else some 0
 | [],i,_=>hz _ _ _
 | t::ts,i,hok=>by
  have ih:=ph3 hz he hs hab hbs ts (i+t.bs.length) (fun x hx=>hok x (List.mem_cons_of_mem _ hx))
  rw [pL,zco,zua o s ek (pT i t) _ _ _ _ (ze9 (hok t (List.mem_cons_self ..)))]
  show zar (decide ((a:Int)<0)) _ _=_
  have hk:zbD (pT i t).Broken (pT i t).Rune=kT (tkT t):=zjK t
  rw [hk,zgJ,zkI,zhK,List.map_cons,List.any_cons]
  refine zaE (decide_eq_false (by omega)) (zaE (by simp) ?_)
  cases hb:(zgv (tkT t)||zi5 (tkT t)) with
  | false =>
   refine zaE rfl (ih.trans ?_)
   show _=if (zpd (tkT t)||_) then _ else _
   rw [show zpd (tkT t)=false from hb,Bool.false_or]
  | true =>
   refine zaI rfl (zcf (by omega) ?_)
   have:(zpd (tkT t)||(ts.map tkT).any zpd)=true:=by rw [show zpd (tkT t)=true from hb]; rfl
   rw [this,if_pos rfl]
   refine zaV (zpe _ (by have:=zkW s (a:Int) (b:Int); omega)) ?_
   unfold zwn
   show zar ((zeO o).s (zgb (zcn s (a:Int) (b:Int)))) _ _=_
   cases hq:(zeO o).s (zgb (zcn s (a:Int) (b:Int))) with
   | true=>exact zaI rfl (by rw [he,if_pos rfl])
   | false=>exact zaE rfl (by rw [he]; rfl)
theorem ph2 (hz:∀ a b c,dn a b c=some 0) (he:∀ v a b,ek v a b=some v) (hs:s.size≤65536) {a:Nat}:∀ (ts:List Tok) (i:Nat),(∀ t∈ts,zfo t)→a≤i→i+(zb8 ts).length=s.size →
  zcF dn (zbg o s ek) (pL i ts) (a:Int) (i:Int) true =
   if ((ts.map tkT).dropWhile zns).any zpd then some (zwn o s a (i+(zb8 (ts.takeWhile fun t=>zns (tkT t))).length)) else some 0
 | [],i,_,_,_=>hz _ _ _
 | t::ts,i,hok,hai,hsz=>by
  have hok':∀ x∈ts,zfo x:=fun x hx=>hok x (List.mem_cons_of_mem _ hx)
  rw [zcG,List.length_append] at hsz
  have ih:=ph2 hz he hs (a:=a) ts (i+t.bs.length) hok' (by omega) (by omega)
  rw [pL,zco,zua o s ek (pT i t) _ _ _ _ (ze9 (hok t (List.mem_cons_self ..)))]
  show zar (decide ((a:Int)<0)) _ _=_
  have hk:zbD (pT i t).Broken (pT i t).Rune=kT (tkT t):=zjK t
  rw [hk,zgJ,zkI,zhK,List.map_cons,List.takeWhile_cons,List.dropWhile_cons]
  refine zaE (decide_eq_false (by omega)) ?_
  cases hb:zns (tkT t) with
  | true =>
   refine zaI (by rw [show (zgv (tkT t)||zje (tkT t))=true from hb]; rfl) (zcf ⟨?_,?_⟩ ?_)
   ·show (-9223372036854775808:Int)≤(i:Int)+(t.bs.length:Int); omega
   ·show (i:Int)+(t.bs.length:Int)≤(9223372036854775807:Int); omega
   ·simp only [if_true]
    rw [zcG,List.length_append,← Nat.add_assoc]
    have e:(pT i t).At+(pT i t).Width=((i+t.bs.length:Nat):Int):=by show (i:Int)+(t.bs.length:Int)=_; push_cast; rfl
    rw [e]
    exact ih
  | false =>
   refine zaE (by rw [show (zgv (tkT t)||zje (tkT t))=false from hb]; rfl) ?_
   simp only [Bool.false_eq_true,if_false]
   rw [show zb8 []=([]:List UInt8) from rfl,List.length_nil,Nat.add_zero,List.any_cons]
   have hl:zgv (tkT t)=false:=by
    have:(zgv (tkT t)||zje (tkT t))=false:=hb
    revert this; cases zgv (tkT t) <;> simp
   cases hd:zi5 (tkT t) with
   | true =>
    refine zaI (by rw [hl]; rfl) (zcf (by omega) ?_)
    have:(zpd (tkT t)||(ts.map tkT).any zpd)=true:=by rw [show zpd (tkT t)=true by unfold zpd; rw [hd,Bool.or_true]]; rfl
    rw [this,if_pos rfl]
    refine zaV (zpe _ (by have:=zkW s (a:Int) (i:Int); omega)) ?_
    unfold zwn
    show zar ((zeO o).s (zgb (zcn s (a:Int) (i:Int)))) _ _=_
    cases hq:(zeO o).s (zgb (zcn s (a:Int) (i:Int))) with
    | true=>exact zaI rfl (by rw [he,if_pos rfl])
    | false=>exact zaE rfl (by rw [he]; rfl)
   | false =>
    refine zaE (by rw [hl]; rfl) ?_
    rw [show zpd (tkT t)=false by unfold zpd; rw [hd,hl]; rfl,Bool.false_or]
    exact ph3 hz he hs hai (by omega) ts _ hok'
def zrQ (o:zmX) (l:List Tk):Bool:=(zn4 l).any (fun x=>zgv x||zi5 x)&&o.s (zgb (zj5 (zjW l)))
def zwB (l:List Tk):Nat:=(l.takeWhile fun x=>!zgv x).length+(zjW l).length
theorem zsL (o:zmX) (l:List Tk):znh o l=if zrQ o l then zwB l else 0:=rfl
theorem ph1 (hz:∀ a b c,dn a b c=some 0) (he:∀ v a b,ek v a b=some v) (hs:s.size≤65536):∀ (ts A:List Tok),(∀ t∈ts,zfo t)→s.data.toList=zb8 (A++ts) →
  zcF dn (zbg o s ek) (pL (zb8 A).length ts) (-1) 0 true=some (if zrQ (zeO o) (ts.map tkT) then (((zb8 A).length+(zb8 (ts.take (zwB (ts.map tkT)))).length:Nat):Int) else 0)
 | [],A,_,_=>by
  rw [pL,zjb,hz]; rfl
 | t::ts,A,hok,hsz=>by
  have hok':∀ x∈ts,zfo x:=fun x hx=>hok x (List.mem_cons_of_mem _ hx)
  have hlen:(zb8 A).length+(t.bs.length+(zb8 ts).length)=s.size:=by rw [zb4,hsz,zby,zcG,List.length_append,List.length_append]
  rw [pL,zco,zua o s ek (pT _ t) _ _ _ _ (ze9 (hok t (List.mem_cons_self ..)))]
  have hk:∀ i,zbD (pT i t).Broken (pT i t).Rune=kT (tkT t):=fun _=>zjK t
  rw [hk,zgJ,zkI,zhK]
  refine zaI (by decide) ?_
  cases hl:zgv (tkT t) with
  | true =>
   refine zaI rfl (zcf ⟨?_,?_⟩ ?_)
   ·show (-9223372036854775808:Int)≤((zb8 A).length:Int)+(t.bs.length:Int); omega
   ·show ((zb8 A).length:Int)+(t.bs.length:Int)≤(9223372036854775807:Int); omega
   ·have e:(pT (zb8 A).length t).At+(pT (zb8 A).length t).Width=(((zb8 A).length+t.bs.length:Nat):Int):=by show ((zb8 A).length:Int)+(t.bs.length:Int)=_; push_cast; rfl
    rw [e]
    refine (ph2 (o:=o) (ek:=ek) hz he hs (a:=(zb8 A).length) ts ((zb8 A).length+t.bs.length) hok' (by omega) (by omega)).trans ?_
    have hd:((t::ts).map tkT).dropWhile (fun x=>!zgv x)=tkT t::ts.map tkT:=by rw [List.map_cons,List.dropWhile_cons,hl]; rfl
    have ht:((t::ts).map tkT).takeWhile (fun x=>!zgv x)=[]:=by rw [List.map_cons,List.takeWhile_cons,hl]; rfl
    have hm:zns (tkT t)=true:=by unfold zns; rw [hl]; rfl
    have e1:zn4 ((t::ts).map tkT)=(ts.map tkT).dropWhile zns:=by unfold zn4; rw [hd,List.dropWhile_cons,hm]; rfl
    have e2:zjW ((t::ts).map tkT)=((t::ts).takeWhile fun t=>zns (tkT t)).map tkT:=by
     unfold zjW; rw [hd,← List.map_cons,List.takeWhile_map]; rfl
    have e3:(t::ts).takeWhile (fun t=>zns (tkT t))=t::ts.takeWhile fun t=>zns (tkT t):=by rw [List.takeWhile_cons,hm]; rfl
    unfold zrQ zwB
    rw [e1,e2,ht]
    have hB:∀ W:List Tok,W=ts.takeWhile (fun t=>zns (tkT t))→zcn s (((zb8 A).length:Nat):Int) ((((zb8 A).length+t.bs.length)+(zb8 W).length:Nat):Int)=zj5 (((t::ts).takeWhile fun t=>zns (tkT t)).map tkT):=by
     intro W hW
     rw [e3,← hW]
     refine zoC (A:=A) (W:=t::W) (Z:=ts.dropWhile fun t=>zns (tkT t)) ?_ rfl (by rw [zcG,List.length_append]; omega)
     rw [hsz,List.cons_append,hW,List.takeWhile_append_dropWhile]
    cases hany:((ts.map tkT).dropWhile zns).any zpd with
    | false=>rfl
    | true =>
     rw [if_pos rfl,Bool.true_and]
     unfold zwn
     rw [hB _ rfl]
     cases hq:(zeO o).s (zgb (zj5 (((t::ts).takeWhile fun t=>zns (tkT t)).map tkT))) with
     | false=>rfl
     | true =>
      rw [if_pos rfl,if_pos rfl,List.length_nil,Nat.zero_add,List.length_map]
      rw [e3,List.length_cons,List.take_succ_cons,zcG,List.length_append,zqO,Nat.add_assoc]
  | false =>
   refine zaE rfl ?_
   have e:(zb8 A).length+t.bs.length=(zb8 (A++[t])).length:=by rw [zby,List.length_append]; simp [zb8]
   rw [e]
   refine (ph1 hz he hs ts (A++[t]) hok' (by rw [hsz,List.append_assoc]; rfl)).trans ?_
   have e1:zn4 ((t::ts).map tkT)=zn4 (ts.map tkT):=by unfold zn4; rw [List.map_cons,List.dropWhile_cons,hl]; rfl
   have e2:zjW ((t::ts).map tkT)=zjW (ts.map tkT):=by unfold zjW; rw [List.map_cons,List.dropWhile_cons,hl]; rfl
   have e3:(((t::ts).map tkT).takeWhile fun x=>!zgv x).length=((ts.map tkT).takeWhile fun x=>!zgv x).length+1:=by rw [List.map_cons,List.takeWhile_cons,hl]; rfl
   unfold zrQ zwB
   rw [e1,e2,e3,show ((ts.map tkT).takeWhile fun x=>!zgv x).length+1+(zjW (ts.map tkT)).length=(((ts.map tkT).takeWhile fun x=>!zgv x).length+(zjW (ts.map tkT)).length)+1 by omega,List.take_succ_cons,zcG,List.length_append,← e,Nat.add_assoc]
end
theorem zsJ (o:zac) (s:zBA) (hs:s.size≤65536):zcU o s=some ((zb8 ((zek s.data.toList).take (znh (zeO o) ((zek s.data.toList).map tkT)))).length:Int):=by
 unfold zcU
 refine zce (zaV (a:=s) rfl (zaV (zkC s (by omega)) (zce (zce ?_))))
 rw [zlN]
 refine (ph1 (o:=o) (s:=s) (fun _ _ _=>rfl) (fun _ _ _=>rfl) hs (zek s.data.toList) [] (zgp _) (by rw [List.nil_append,zgM])).trans ?_
 rw [zsL]
 cases zrQ (zeO o) ((zek s.data.toList).map tkT) with
 | true=>simp [zb8]
 | false=>simp [zb8]
theorem zx5:∀ n:Fin 256,zwF .u8 ((n.val:Nat):Int) 63=((n.val % 64:Nat):Int):=by decide +kernel
theorem zw6:∀ n:Fin 64,orI .u8 ((n.val:Nat):Int) 128=((n.val+128:Nat):Int):=by decide +kernel
theorem zw5:∀ n:Fin 32,orI .u8 192 ((n.val:Nat):Int)=((n.val+192:Nat):Int):=by decide +kernel
theorem zw4:∀ n:Fin 16,orI .u8 224 ((n.val:Nat):Int)=((n.val+224:Nat):Int):=by decide +kernel
theorem zw3:∀ n:Fin 8,orI .u8 240 ((n.val:Nat):Int)=((n.val+240:Nat):Int):=by decide +kernel
theorem zlx (n:Nat):IntKind.u8.wrap (n:Int)=((n % 256:Nat):Int):=by
 simp [IntKind.wrap,IntKind.bits,IntKind.signed]
theorem zpH (n:Nat):zca (n:Int)=some ((n % 64+128:Nat):Int):=by
 unfold zca
 rw [zlx]
 have h1:=zx5 ⟨n % 256,by omega⟩
 simp only at h1
 rw [h1]
 have h2:=zw6 ⟨n % 256 % 64,by omega⟩
 simp only at h2
 rw [h2,show n % 256 % 64=n % 64 by omega]
theorem zwV (n:Nat):zeh .i32 (n:Int) 6=((n / 64:Nat):Int):=by
 show Int.fdiv (n:Int) 64=_
 rw [Int.fdiv_eq_ediv_of_nonneg _ (by decide)]; omega
theorem zvI (n:Nat):zeh .i32 (n:Int) 12=((n / 4096:Nat):Int):=by
 show Int.fdiv (n:Int) 4096=_
 rw [Int.fdiv_eq_ediv_of_nonneg _ (by decide)]; omega
theorem zwW (n:Nat):zeh .i32 (n:Int) 18=((n / 262144:Nat):Int):=by
 show Int.fdiv (n:Int) 262144=_
 rw [Int.fdiv_eq_ediv_of_nonneg _ (by decide)]; omega
theorem zyb (n:Nat) (hv:n<55296∨(57343<n∧n≤1114111)):(zar (decide (((n:Int):Int)<128)) (grd (∀ x∈([IntKind.u8.wrap (n:Int)]:List Int),U8 x)<|some (zbl ([IntKind.u8.wrap (n:Int)]:List Int)))
  (zar (decide (((n:Int):Int)<2048)) (zak (zca (n:Int)) fun (r4:Int)=>grd (∀ x∈([orI .u8 192 (IntKind.u8.wrap (zeh .i32 (n:Int) 6)),r4]:List Int),U8 x)<|some (zbl ([orI .u8 192 (IntKind.u8.wrap (zeh .i32 (n:Int) 6)),r4]:List Int)))
  (zar (decide (((n:Int):Int)<65536)) (zak (zca (zeh .i32 (n:Int) 6)) fun (r5:Int)=>zak (zca (n:Int)) fun (r6:Int)=>grd (∀ x∈([orI .u8 224 (IntKind.u8.wrap (zeh .i32 (n:Int) 12)),r5,r6]:List Int),U8 x)<|some (zbl ([orI .u8 224 (IntKind.u8.wrap (zeh .i32 (n:Int) 12)),r5,r6]:List Int)))
  (zak (zca (zeh .i32 (n:Int) 12)) fun (r7:Int)=>zak (zca (zeh .i32 (n:Int) 6)) fun (r8:Int)=>zak (zca (n:Int)) fun (r9:Int)=>grd (∀ x∈([orI .u8 240 (IntKind.u8.wrap (zeh .i32 (n:Int) 18)),r7,r8,r9]:List Int),U8 x)<|some (zbl ([orI .u8 240 (IntKind.u8.wrap (zeh .i32 (n:Int) 18)),r7,r8,r9]:List Int))))))=some (Utf8.encode (n:Int)):=by
 have hw:encodeRune (n:Int)=(encodeRuneZ (n:Int)).map fun x=>x.toNat.toUInt8:=rfl
 rcases zjp n hv with ⟨h,e⟩ | ⟨h,h',e⟩ | ⟨h,h',e⟩ | ⟨h,h',e⟩
 ·refine zaI (decide_eq_true (by omega)) ?_
  rw [zlx]
  refine zcf (by intro x hx; simp only [List.mem_singleton] at hx; subst hx; exact ⟨by omega,by omega⟩) (congrArg some (zhP ?_))
  rw [zcV,hw,e,show n % 256=n by omega]
 ·refine zaE (decide_eq_false (by omega)) (zaI (decide_eq_true (by omega)) (zaV (zpH n) ?_))
  have h1:=zw5 ⟨n / 64,by omega⟩
  simp only at h1
  rw [zwV,zlx,show n / 64 % 256=n / 64 by omega,h1]
  refine zcf (by intro x hx; simp only [List.mem_cons,List.not_mem_nil,or_false] at hx; rcases hx with rfl | rfl <;> exact ⟨by omega,by omega⟩) (congrArg some (zhP ?_))
  rw [zcV,hw,e,show ((n / 64+192:Nat):Int)=192+(n:Int) / 64 by omega,show ((n % 64+128:Nat):Int)=128+(n:Int) % 64 by omega]
 ·refine zaE (decide_eq_false (by omega)) (zaE (decide_eq_false (by omega)) (zaI (decide_eq_true (by omega)) ?_))
  have h1:=zw4 ⟨n / 4096,by omega⟩
  simp only at h1
  rw [zwV,zvI,zlx,show n / 4096 % 256=n / 4096 by omega,h1]
  refine zaV (zpH _) (zaV (zpH _) ?_)
  refine zcf (by intro x hx; simp only [List.mem_cons,List.not_mem_nil,or_false] at hx; rcases hx with rfl | rfl | rfl <;> exact ⟨by omega,by omega⟩) (congrArg some (zhP ?_))
  rw [zcV,hw,e,show ((n / 4096+224:Nat):Int)=224+(n:Int) / 4096 by omega,show ((n / 64 % 64+128:Nat):Int)=128+(n:Int) / 64 % 64 by omega,show ((n % 64+128:Nat):Int)=128+(n:Int) % 64 by omega]
 ·refine zaE (decide_eq_false (by omega)) (zaE (decide_eq_false (by omega)) (zaE (decide_eq_false (by omega)) ?_))
  have h1:=zw3 ⟨n / 262144,by omega⟩
  simp only at h1
  rw [zwV,zvI,zwW,zlx,show n / 262144 % 256=n / 262144 by omega,h1]
  refine zaV (zpH _) (zaV (zpH _) (zaV (zpH _) ?_))
  refine zcf (by intro x hx; simp only [List.mem_cons,List.not_mem_nil,or_false] at hx; rcases hx with rfl | rfl | rfl | rfl <;> exact ⟨by omega,by omega⟩) (congrArg some (zhP ?_))
  rw [zcV,hw,e,show ((n / 262144+240:Nat):Int)=240+(n:Int) / 262144 by omega,show ((n / 4096 % 64+128:Nat):Int)=128+(n:Int) / 4096 % 64 by omega,show ((n / 64 % 64+128:Nat):Int)=128+(n:Int) / 64 % 64 by omega,show ((n % 64+128:Nat):Int)=128+(n:Int) % 64 by omega]
theorem zrF {r:Int} (h:¬ vr r):Utf8.encode r=Utf8.encode 65533:=by
 apply ByteArray.ext; apply Array.toList_inj.1
 rw [zcV,zcV]
 unfold encodeRune
 congr 1
 unfold vr at h
 unfold encodeRuneZ
 (repeat' split) <;> first | rfl | (exfalso; omega)
theorem zux (r:Int):zeQ r=some (Utf8.encode r):=by
 unfold zeQ
 refine zce ?_
 by_cases hv:vr r
 ·refine zaV (zq1 r hv) ?_
  have hpos:0<(Utf8.encode r).size:=by rw [zf1]; exact (zfz r).1
  refine zaE (by rw [beq_eq_false_iff_ne]; omega) ?_
  obtain ⟨n,rfl⟩:∃ n:Nat,r=n:=⟨r.toNat,by unfold vr at hv; omega⟩
  exact zyb n (by unfold vr at hv; omega)
 ·have hne:r≠65533:=by intro e; subst e; exact hv (by unfold vr; omega)
  have hl:Utf8.encode r=(⟨#[239,191,189]⟩:zBA):=by rw [zrF hv]; decide
  refine zaV (a:=0) ?_ (zaI rfl ?_)
  ·unfold zd0
   exact zce (zaI (bne_iff_ne.2 hne) (zaI (decide_eq_true hl) rfl))
  ·rw [zrF hv]; exact zyb 65533 (by omega)
theorem zqd (r:Int):zet r=some (zgb (Utf8.encode r)):=zaV (zux r) (zaV (zpe _ (by have:=zdk r; omega)) rfl)
section
variable {R X A:Type} {xs:List X}
theorem zw8 {F:(A→Nat→Option R)→A→Nat→Option R} {bot:A→Nat→Option R} {f:A→X→A} {J:A→Option R} (Inv:Nat→A→Prop)
  (hs:∀ ag k x a,xs[k]?=some x→Inv k a→F ag a k=ag (f a x) (k+1)) (hI:∀ k x a,xs[k]?=some x→Inv k a→Inv (k+1) (f a x))
  (he:∀ ag a,Inv xs.length a→F ag a xs.length=J a) {n:Nat} (hn:xs.length<n) {a:A} (h0:Inv 0 a):zaW bot F n a 0=J (xs.foldl f a):=by
 have key:∀ (n k:Nat) (a:A),k≤xs.length→xs.length - k<n→Inv k a→zaW bot F n a k=J ((xs.drop k).foldl f a):=by
  intro n
  induction n with
  | zero=>intro k a _ h; omega
  | succ n ih =>
   intro k a hk hn hi
   rw [zgt]
   by_cases h:k<xs.length
   ·have hx:xs[k]?=some xs[k]:=List.getElem?_eq_getElem h
    rw [hs _ k _ a hx hi,List.drop_eq_getElem_cons h,List.foldl_cons]
    exact ih (k+1) _ (by omega) (by omega) (hI k _ a hx hi)
   ·have:k=xs.length:=by omega
    subst this
    rw [he _ a hi,List.drop_length]; rfl
 have:=key n 0 a (Nat.zero_le _) (by omega) h0
 simpa using this
end
theorem zlT {α β:Type} (g:α→β):∀ (xs:List α) (a:List β),xs.foldl (fun a x=>a++[g x]) a=a++xs.map g
 | [],a=>by simp
 | x::xs,a=>by rw [List.foldl_cons,zlT g xs]; simp
theorem zoe:∀ (n:Nat) (ts:List Tok) (i:Nat),(pL i ts).take n=pL i (ts.take n)
 | 0,ts,i=>rfl
 | n+1,[],i=>rfl
 | n+1,t::ts,i=>by rw [pL,List.take_succ_cons,List.take_succ_cons,pL,zoe n ts]
theorem znF {α:Type} (l:List α) (n:Nat):zhi l 0 (n:Int)=l.take n:=by unfold zhi; simp
theorem zsA {α:Type} (l:List α) (n:Nat):l.take (min l.length n)=l.take n:=by
 rcases Nat.le_total l.length n with h | h
 ·rw [Nat.min_eq_left h,List.take_length,List.take_of_length_le h]
 ·rw [Nat.min_eq_right h]
def okB (x:Tk):Bool:=!decide (x.1<0)
theorem zug (t:Tok):okB (tkT t)=!t.broken:=by
 unfold okB tkT
 cases t.broken with
 | true=>rfl
 | false =>
  have:¬ (((t.r:Int),(⟨t.bs.toArray⟩:zBA)).1<0):=by show ¬ ((t.r:Int)<0); omega
  rw [if_neg (by simp),decide_eq_false this]
def zwG (b:Int) (k:Nat) (p:List zBA):Option (Nat×List zBA)→Prop
 | none=>b=0∧k=0∧p=[]
 | some (m,xs)=>b=(m:Int)∧0<m∧p=xs
theorem zuh (o:zac) (l1:List zam) (j1:Int→Nat→List zBA→Option (Int×List zBA)) (i:Nat) (TT:List Tok) (h8:TT.length≤8) (hc:zhi l1 0 (min (l1.length:Int) 8)=pL i TT) (hok:∀ t∈TT,zfo t) :
  ∀ (n:Nat) (B A:List Tok) (b:Int) (k:Nat) (p:List zBA) (f:zBA) (r:Option (Nat×List zBA)),TT=A++B→B.length<n→zwG b k p r→f.size≤4*A.length →
   ∃ b' k' p',zwG b' k' p' (((B.map tkT).takeWhile okB).foldl (zqR (zeO o)) (f,A.length,r)).2.2∧zaW (fun _ _ _ _ _=>none) (zbQ o l1 j1) n b f k p (A.length:Int)=j1 b' k' p':=by
 intro n
 induction n with
 | zero=>intro B A b k p f r _ h; omega
 | succ n ih =>
  intro B A b k p f r hT hn hr hf
  rw [zgt]
  generalize hag:zaW (fun _ _ _ _ _=>none) (zbQ o l1 j1) n=ag
  unfold zbQ
  rw [hc]
  have hlen:(pL i TT).length=A.length+B.length:=by rw [zgG,hT,List.length_append]
  cases B with
  | nil =>
   refine ⟨b,k,p,hr,zaE (decide_eq_false (by rw [hlen]; simp)) rfl⟩
  | cons t B =>
   have hget:TT[A.length]?=some t:=by rw [hT]; simp
   have hA:A.length<8:=by rw [hT,List.length_append,List.length_cons] at h8; omega
   have htok:=hok t (by rw [hT]; simp)
   have hT':TT=(A++[t])++B:=by rw [hT,List.append_assoc]; rfl
   have hl':(A++[t]).length=A.length+1:=by simp
   have hcast:(A.length:Int)+1=((A++[t]).length:Int):=by rw [hl']; push_cast; rfl
   rw [List.map_cons,List.takeWhile_cons,zug]
   cases hb:t.broken with
   | true =>
    refine ⟨b,k,p,hr,zaI (decide_eq_true (by rw [hlen]; simp; omega)) (zce (zaV (zdH (ziy _ _ _ _ hget)) (zaI hb rfl)))⟩
   | false =>
    simp only [Bool.not_false,if_true,List.foldl_cons]
    have e4:=zdk (zbe (t.r:Int))
    have hx:(tkT t).1=(t.r:Int):=by unfold tkT; rw [hb]; rfl
    have hst:zqR (zeO o) (f,A.length,r) (tkT t)=(f++Utf8.encode (zbe (t.r:Int)),A.length+1,if (zbJ (f++Utf8.encode (zbe (t.r:Int))) o.place).isSome then some (A.length+1,[f++Utf8.encode (zbe (t.r:Int))]) else match zbJ (f++Utf8.encode (zbe (t.r:Int))) o.fors with | some xs=>some (A.length+1,xs) | none=>r):=by
     unfold zqR; rw [hx]; rfl
    rw [hst]
    have hf':(f++Utf8.encode (zbe (t.r:Int))).size≤4*(A++[t]).length:=by rw [ByteArray.size_append,hl']; omega
    have hn':B.length<n:=by rw [List.length_cons] at hn; omega
    have fin:∀ (b':Int) (k':Nat) (p':List zBA) (r':Option (Nat×List zBA)),zwG b' k' p' r'→∃ b'' k'' p'',zwG b'' k'' p'' (((B.map tkT).takeWhile okB).foldl (zqR (zeO o)) (f++Utf8.encode (zbe (t.r:Int)),A.length+1,r')).2.2 ∧
      (grd (I64 ((A.length:Int)+1))<|ag b' (f++Utf8.encode (zbe (t.r:Int))) k' p' ((A.length:Int)+1))=j1 b'' k'' p'':=by
     intro b' k' p' r' hr'
     obtain ⟨b'',k'',p'',h1,h2⟩:=ih B (A++[t]) b' k' p' _ r' hT' hn' hr' hf'
     rw [hl'] at h1
     rw [← hcast,hag] at h2
     exact ⟨b'',k'',p'',h1,zcf ⟨by omega,by omega⟩ h2⟩
    have h64:I64 ((A.length:Int)+1):=⟨by omega,by omega⟩
    cases hp:(zbJ (f++Utf8.encode (zbe (t.r:Int))) o.place).isSome with
    | true =>
     obtain ⟨b'',k'',p'',h1,h2⟩:=fin ((A.length:Int)+1) 1 [f++Utf8.encode (zbe (t.r:Int))] (some (A.length+1,[f++Utf8.encode (zbe (t.r:Int))])) ⟨by push_cast; rfl,by omega,rfl⟩
     refine ⟨b'',k'',p'',h1,zaI (decide_eq_true (by rw [hlen]; simp; omega)) (zce (zaV (zdH (ziy _ _ _ _ hget)) (zaE hb (zcf (ze9 htok) (zcf (by show f.size+(Utf8.encode (zbe (t.r:Int))).size≤_; omega) (zaI hp (zcf h64 h2)))))))⟩
    | false =>
     simp only [Bool.false_eq_true,if_false]
     cases hq:zbJ (f++Utf8.encode (zbe (t.r:Int))) o.fors with
     | some xs =>
      obtain ⟨b'',k'',p'',h1,h2⟩:=fin ((A.length:Int)+1) 2 xs (some (A.length+1,xs)) ⟨by push_cast; rfl,by omega,rfl⟩
      refine ⟨b'',k'',p'',h1,zaI (decide_eq_true (by rw [hlen]; simp; omega)) (zce (zaV (zdH (ziy _ _ _ _ hget)) (zaE hb (zcf (ze9 htok) (zcf (by show f.size+(Utf8.encode (zbe (t.r:Int))).size≤_; omega) (zaE hp (zaI (by show (zbJ (f++Utf8.encode (zbe (t.r:Int))) o.fors).isSome=true; rw [hq]; rfl) (zcf h64 (zaV hq h2)))))))))⟩
     | none =>
      obtain ⟨b'',k'',p'',h1,h2⟩:=fin b k p r hr
      refine ⟨b'',k'',p'',h1,zaI (decide_eq_true (by rw [hlen]; simp; omega)) (zce (zaV (zdH (ziy _ _ _ _ hget)) (zaE hb (zcf (ze9 htok) (zcf (by show f.size+(Utf8.encode (zbe (t.r:Int))).size≤_; omega) (zaE hp (zaE (by show (zbJ (f++Utf8.encode (zbe (t.r:Int))) o.fors).isSome=false; rw [hq]; rfl) h2)))))))⟩
theorem J_w (f:Itm×List Itm→zBA):∀ {l:List (Itm×List Itm)},(∀ c∈l,(f c).size≤4*(zlP c).length)→(J f l).size≤4*(l.flatMap zlP).length
 | [],_=>Nat.zero_le _
 | c::l,h=>by
  have:=J_w f (l:=l) fun d hd=>h d (List.mem_cons_of_mem _ hd)
  have h1:=h c (List.mem_cons_self ..)
  rw [zdU,ByteArray.size_append,List.flatMap_cons,List.length_append]; omega
theorem zwo (s:zBA):((zjP s).flatMap zlP).length≤3*s.size:=by
 have h1:=zsN (apL (zgh s))
 have h2:=zr5 (zgh s)
 have h3:=zen s
 have h4:(zgh s).length=(pcs s.data.toList).length:=by unfold zgh; rw [List.length_map]
 show (ztB (apL (zgh s))).length≤_
 omega
theorem zmp (c:Itm×List Itm):(zlP c).length=1+c.2.length:=by
 unfold zlP; rw [List.length_cons,ziD]; omega
theorem zhv (s:zBA) (hs:s.size≤65536):(zgb s).size≤12*s.size∧(zdh s).size≤12*s.size∧(zwv s).size≤12*s.size∧(zvy s).size≤12*s.size:=by
 obtain ⟨hl,hc⟩:=zig hs
 have hw:=zwo s
 refine ⟨?_,?_,?_,?_⟩
 ·have:=J_w ziN (l:=zjP s) (fun c hcm=>by have:=zqf (hc c hcm).1; have:=zmp c; show (zny c.1).Text.size≤_; omega)
  unfold zgb; omega
 ·have:=J_w zgS (l:=zjP s) (fun c hcm=>by
   obtain ⟨h1,h2,_,h4⟩:=hc c hcm
   have:=zsl (fun x:Itm=>x.Text) 4 (l:=zlP c) (fun x hx=>by
    unfold zlP at hx
    rcases List.mem_cons.1 hx with rfl | hx
    ·exact ziA h1
    ·have hx':x∈c.2:=by
      unfold loI hiI at hx
      rw [List.mem_append,List.mem_filter,List.mem_filter] at hx
      rcases hx with hx | hx <;> exact hx.1
     exact ziA (h2 x hx').2)
   unfold zgS; omega)
  unfold zdh; omega
 ·have:=J_w (fun c:Itm×List Itm=>c.1.Text) (l:=zjP s) (fun c hcm=>by have:=ziA (hc c hcm).1; have:=zmp c; show c.1.Text.size≤_; omega)
  unfold zwv; omega
 ·have:=J_w tgC (l:=zjP s) (fun c hcm=>by
   obtain ⟨h1,h2,_,h4⟩:=hc c hcm
   have hh:=zol c.2
   have h5:=ziD c.2
   have h6:=zmp c
   rw [List.length_append] at h5
   unfold tgC
   split
   ·have:=zoU c.1.Rune ((loI c.2).map (·.Rune)) ((hiI c.2).map (·.Rune)) (by simp; omega) (by simp; omega)
    simp only [List.length_map] at this; omega
   ·have:=ziA h1; omega)
  unfold zvy; omega
theorem zoc (r:zBA) (hr:r.size≤1000) (J:List zBA→Option (Int×List zBA)):zaW (fun _ _=>none) (zbB J r) zcy [] 0=J ((zef r).map Utf8.encode):=by
 have hl:=zen r
 have:=zw8 (xs:=pcs r.data.toList) (F:=zbB J r) (bot:=fun _ _=>none) (f:=fun a (p:Pc)=>a++[Utf8.encode (p.r:Int)]) (J:=J) (fun k a=>a.length=k) (fun ag k x a hx hi=>by
   have hk:=(List.getElem?_eq_some_iff.1 hx).1
   unfold zbB
   exact zaI (decide_eq_true hk) (zaV hx (zcf (by omega) rfl))) (fun k x a _ hi=>by simp [hi]) (fun ag a _=>by unfold zbB; exact zaE (decide_eq_false (by omega)) rfl) (n:=zcy) (zeI (by omega)) (a:=[]) rfl
 refine this.trans ?_
 have e:(pcs r.data.toList).map (fun p=>Utf8.encode (p.r:Int))=(zef r).map Utf8.encode:=by
  unfold zef
  rw [List.map_map]
  exact List.map_congr_left fun p _=>by rw [Function.comp_apply]
 rw [zlT,List.nil_append,e]
theorem zuj (o:zac) (i:Nat) (t:Tok) (ts:List Tok) (hb:t.broken=false) (hok:∀ x∈t::ts,zfo x) (hl:(t::ts).length≤1000000000) :
  zc7 o (pL i (t::ts))=some (((zfd (zeO o) (tkT t) (ts.map tkT)).1:Int),(zfd (zeO o) (tkT t) (ts.map tkT)).2):=by
 unfold zc7
 have hmin:min ((pL i (t::ts)).length:Int) 8=((min (pL i (t::ts)).length 8:Nat):Int):=by omega
 have hcut:zhi (pL i (t::ts)) 0 (min ((pL i (t::ts)).length:Int) 8)=pL i ((t::ts).take 8):=by rw [hmin,znF,zsA,zoe]
 refine zce (zcf ⟨Int.le_refl _,by omega,by omega⟩ ?_)
 have hok8:∀ x∈(t::ts).take 8,zfo x:=fun x hx=>hok x (List.mem_of_mem_take hx)
 have hlt8:((t::ts).take 8).length≤8:=List.length_take_le _ _
 obtain ⟨b',k',p',h1,h2⟩:=zuh o (pL i (t::ts)) _ i ((t::ts).take 8) hlt8 hcut hok8 zcy ((t::ts).take 8) [] 0 0 [] ⟨#[]⟩ none rfl (by unfold zcy; omega) ⟨rfl,rfl,rfl⟩ (by decide)
 refine h2.trans ?_
 have hbest:(((((t::ts).take 8).map tkT).takeWhile okB).foldl (zqR (zeO o)) ((⟨#[]⟩:zBA),([]:List Tok).length,none)).2.2=zqr (zeO o) (tkT t::ts.map tkT):=by
  unfold zqr zrV
  rw [List.map_take]; rfl
 rw [hbest] at h1
 unfold zfd
 cases hB:zqr (zeO o) (tkT t::ts.map tkT) with
 | some mx =>
  rw [hB] at h1
  obtain ⟨rfl,h0,rfl⟩:=h1
  exact zaI (decide_eq_true (by omega)) rfl
 | none =>
  rw [hB] at h1
  obtain ⟨rfl,rfl,rfl⟩:=h1
  refine zaE (by decide) (zce (zcf rfl (zaV (a:=pT i t) rfl (zcf (ze9 (hok t (List.mem_cons_self ..))) ?_))))
  refine zaV (zqd (zbe (t.r:Int))) ?_
  have hx:(tkT t).1=(t.r:Int):=by unfold tkT; rw [hb]; rfl
  rw [zoc _ (by have h2:=zdk (zbe (t.r:Int)); have h3:=(zhv (Utf8.encode (zbe (t.r:Int))) (by omega)).1; omega),hx,Option.getD_none]
  unfold zh9
  generalize (zef (zgb (Utf8.encode (zbe (t.r:Int))))).map Utf8.encode=X
  rfl
theorem zq8 {r:Int} (h:zaY r=true):∃ b,zaY b=true∧zbJ b tabS=none∧zh9 r=(zef (zeL (zbe b))).map Utf8.encode:=by
 have hL:zaY (zbe r)=true:=by
  have h1:=zcN r h
  have key:((List.range 1120).all fun n=>!zaY (n:Int)||zaY (zbe (n:Int)))=true:=by decide +kernel
  have:=List.all_eq_true.1 key r.toNat (List.mem_range.2 (by omega))
  rw [show ((r.toNat:Nat):Int)=r by omega,h] at this
  simpa using this
 obtain ⟨b,ms,hp,hb,hn,hm,_⟩:=zep hL
 refine ⟨b,hb,hn,?_⟩
 unfold zh9
 have e:Utf8.encode (zbe r)=ze6 [zbe r]:=by rw [zh6,zdU,znT,ByteArray.append_empty]
 rw [e,zrx (by intro x hx; rw [List.mem_singleton.1 hx]; exact zfW hL),List.flatMap_cons,List.flatMap_nil,List.append_nil,hp,List.map_cons,zkZ (by exact hb)]
 have h1:(ms.map mkI).takeWhile isM=ms.map mkI:=zqK (fun x hx=>by obtain ⟨y,hy,rfl⟩:=List.mem_map.1 hx; exact hm y hy)
 have h2:(ms.map mkI).dropWhile isM=[]:=zrJ (fun x hx=>by obtain ⟨y,hy,rfl⟩:=List.mem_map.1 hx; exact hm y hy)
 rw [h1,h2,ztK,zdU,znT,ByteArray.append_empty,zrz (by exact hb)]
 rfl
theorem zq7 {r:Int} (h:zaY r=true):zh9 r≠[]∧(zh9 r).length≤4:=by
 obtain ⟨b,hb,hn,e⟩:=zq8 h
 rw [e]
 have h1:=(zqe hb).2.1
 have h2:=zh8 (zbe b)
 have h3:=zen (zeL (zbe b))
 refine ⟨by simpa using h1,?_⟩
 rw [List.length_map]
 unfold zef
 rw [List.length_map]; omega
def zjS (o:zmX):Prop:=∀ u xs,o.f u=some xs→xs≠[]∧xs.length≤4
theorem znJ (o:zmX) (ho:zjS o):∀ (l:List Tk) (a:zBA×Nat×Option (Nat×List zBA)),(∀ m xs,a.2.2=some (m,xs)→1≤m∧m≤a.2.1∧xs≠[]∧xs.length≤4) →
  (l.foldl (zqR o) a).2.1=a.2.1+l.length∧∀ m xs,(l.foldl (zqR o) a).2.2=some (m,xs)→1≤m∧m≤a.2.1+l.length∧xs≠[]∧xs.length≤4
 | [],a,h=>⟨rfl,h⟩
 | x::l,a,h=>by
  rw [List.foldl_cons,List.length_cons]
  have hs:(zqR o a x).2.1=a.2.1+1:=rfl
  obtain ⟨h1,h2⟩:=znJ o ho l (zqR o a x) (by
   intro m xs hm
   rw [hs]
   unfold zqR at hm
   simp only at hm
   split at hm
   ·injection hm with hm; injection hm with e1 e2; subst e1; subst e2; exact ⟨by omega,by omega,by simp,by simp⟩
   ·split at hm
    ·rename_i ys hy
     injection hm with hm; injection hm with e1 e2; subst e1; subst e2
     have:=ho _ _ hy
     exact ⟨by omega,by omega,this.1,this.2⟩
    ·have:=h m xs hm
     exact ⟨this.1,by omega,this.2.2⟩)
  rw [hs] at h1 h2
  exact ⟨by omega,fun m xs hm=>by have:=h2 m xs hm; exact ⟨this.1,by omega,this.2.2⟩⟩
theorem zo4 (o:zmX) (ho:zjS o) (x:Tk) (l:List Tk) (hx:zaY x.1=true):1≤(zfd o x l).1∧(zfd o x l).1≤(x::l).length∧(zfd o x l).2≠[]∧(zfd o x l).2.length≤4:=by
 unfold zfd
 cases hb:zqr o (x::l) with
 | none =>
  have:=zq7 hx
  rw [Option.getD_none]
  generalize zh9 x.1=X at this
  exact ⟨Nat.le_refl 1,by rw [List.length_cons]; omega,this.1,this.2⟩
 | some mx =>
  obtain ⟨m,xs⟩:=mx
  unfold zqr at hb
  have:=(znJ o ho (zrV (x::l)) (ByteArray.empty,0,none) (by intro m xs h; cases h)).2 m xs hb
  have hl:(zrV (x::l)).length≤(x::l).length:=by
   unfold zrV
   exact Nat.le_trans (List.takeWhile_sublist _).length_le (List.take_sublist _ _).length_le
  have h0:=this.2.1
  rw [Option.getD_some]
  have e0:((ByteArray.empty,0,none):zBA×Nat×Option (Nat×List zBA)).2.1=0:=rfl
  rw [e0] at h0
  exact ⟨this.1,by omega,this.2.2.1,this.2.2.2⟩
theorem zoY (m:zBA):∀ l:List El,(zqW m l).length=l.length
 | []=>rfl
 | [e]=>rfl
 | e::e'::es=>by rw [zqW,List.length_cons,zoY m (e'::es)]; rfl
theorem zna (m:zBA):∀ (l:List El) (e:El),zqW m (l++[e])=l++[⟨e.sort,e.place,e.digits,m,e.great⟩]
 | [],e=>rfl
 | [a],e=>rfl
 | a::b::l,e=>by
  have:=zna m (b::l) e
  simp only [List.cons_append] at this ⊢
  rw [zqW,this]
theorem ztg {New:List El} (h:New≠[]) (cs:List (Option (List El))) (out:List El) (sp:Bool):asm (some New::cs) out sp=asm cs (out++(if sp&&!out.isEmpty then [zwC] else [])++New) false:=by
 cases New with
 | nil=>exact absurd rfl h
 | cons e es=>rfl
def znX (sp:Bool) (out:List El):List El:=if sp&&!out.isEmpty then [zwC] else []
theorem ziK (sp:Bool) (out:List El):(znX sp out).length≤1:=by unfold znX; split <;> simp
theorem zt9 (e:El) (sp:Bool) (out:List El) (h:out.length≤2000000000):zbG e sp out=some (false,out++znX sp out++[e]):=by
 unfold zbG
 refine zce ?_
 have hfin:∀ l:List El,l.length≤2000000001→(grd (l.length+1≤2147483648)<|some (false,l++[e]))=some (false,l++[e]):=fun l hl=>zcf (by omega) rfl
 cases sp with
 | false =>
  refine zaE rfl ((hfin out (by omega)).trans ?_)
  unfold znX
  simp
 | true =>
  refine zaI rfl ?_
  cases out with
  | nil=>exact zaE rfl (hfin [] (by simp))
  | cons a out =>
   refine zaI (decide_eq_true (by rw [List.length_cons]; omega)) (zcf (by omega) ((hfin _ (by rw [List.length_append]; simp only [List.length_cons,List.length_nil] at h ⊢; omega)).trans ?_))
   rfl
theorem zp7 (l3:List zam) (r4:Int×List zBA) (J:Int→Option (List El)) (TT:List Tok) (i:Nat) (hc:zhi l3 0 r4.1=pL i TT) (hok:∀ t∈TT,zfo t) (hb:TT.length≤1000000000) (hn:∀ t∈TT,great (tkT t).1=great (t.r:Int)) :
  zaW (fun _ _=>none) (zbi l3 r4 J) zcy 0 0=J (zjM (TT.map tkT)):=by
 have hm:∀ (k:Nat) (x:zam),(pL i TT)[k]?=some x→I32 x.Rune∧k<TT.length:=fun k x hx=>by
  have hk:=(List.getElem?_eq_some_iff.1 hx).1
  rw [zgG] at hk
  have:=ziy TT i k TT[k] (List.getElem?_eq_getElem hk)
  rw [this] at hx
  injection hx with hx
  subst hx
  exact ⟨ze9 (hok _ (List.getElem_mem _)),hk⟩
 have:=zok (xs:=pL i TT) (F:=zbi l3 r4 J) (bot:=fun _ _=>none) (f:=fun (g:Int) (p:zam)=>if great p.Rune then 1 else g) (J:=J) (fun _ _=>True) (fun ag k x a hx hi=>by
   obtain ⟨h1,h2⟩:=hm k x hx
   unfold zbi
   rw [hc]
   refine zaI (zjU hx) (zce (zaV (zgH hx) (zcf h1 ?_)))
   cases hg:great x.Rune with
   | true=>exact zaI rfl (zcf (zfq (by omega)) rfl)
   | false=>exact zaE rfl (zcf (zfq (by omega)) rfl)) (fun _ _ _ _ _=>trivial) (fun ag a _=>by unfold zbi; rw [hc]; exact zaE zjV rfl) (n:=zcy) (by rw [zgG]; exact zeI (by omega)) (a:=0) trivial
 refine this.trans (congrArg J ?_)
 clear this hm
 have key:∀ (TT:List Tok) (i:Nat) (g:Int),(∀ t∈TT,great (tkT t).1=great (t.r:Int))→(pL i TT).foldl (fun (g:Int) (p:zam)=>if great p.Rune then 1 else g) g=if (TT.map tkT).any (fun x=>great x.1) then 1 else g:=by
  intro TT
  induction TT with
  | nil=>intro i g _; rfl
  | cons t TT ih =>
   intro i g h
   rw [pL,List.foldl_cons,ih _ _ (fun x hx=>h x (List.mem_cons_of_mem _ hx)),List.map_cons,List.any_cons,h t (List.mem_cons_self ..)]
   show (if _ then (1:Int) else if great (t.r:Int) then 1 else g)=_
   cases great (t.r:Int) <;> cases (TT.map tkT).any (fun x=>great x.1) <;> rfl
 exact key TT i 0 hn
theorem zsz {t:Tok} (h:zje (tkT t)=true):(tkT t).1=(t.r:Int)∧t.broken=false:=by
 unfold zje tkT at h
 unfold tkT
 cases hb:t.broken with
 | true=>rw [hb,if_pos rfl] at h; exact absurd h (show ¬ mrk (-1)=true by decide)
 | false=>exact ⟨rfl,rfl⟩
theorem zoj (i:Nat) (TT:List Tok) (J:Int→zBA→Option (List El)) (hok:∀ t∈TT,zfo t) (hl:TT.length≤1000000000):∀ (n:Nat) (B A:List Tok) (m:zBA),TT=A++B→B.length<n→m.size≤4*A.length →
  zaW (fun _ _=>none) (zbu (pL i TT) J) n (A.length:Int) m=J ((A.length:Int)+(((B.map tkT).takeWhile zje).length:Nat)) (m++zgg ((B.map tkT).takeWhile zje)):=by
 intro n
 induction n with
 | zero=>intro B A m _ h; omega
 | succ n ih =>
  intro B A m hT hn hm
  rw [zgt]
  generalize hag:zaW (fun _ _=>none) (zbu (pL i TT) J) n=ag
  unfold zbu
  have hlen:(pL i TT).length=A.length+B.length:=by rw [zgG,hT,List.length_append]
  cases B with
  | nil =>
   refine zaE (decide_eq_false (by rw [hlen]; simp)) ?_
   show J _ m=J _ (m++ByteArray.empty)
   rw [ByteArray.append_empty]; simp
  | cons t B =>
   have hget:TT[A.length]?=some t:=by rw [hT]; simp
   have htok:=hok t (by rw [hT]; simp)
   have hA:A.length≤1000000000:=by rw [hT,List.length_append] at hl; omega
   refine zaI (decide_eq_true (by rw [hlen]; simp; omega)) (zaV (zdH (ziy _ _ _ _ hget)) (zaV (a:=zje (tkT t)) ?_ ?_))
   ·unfold zdB
    refine zcf (ze9 htok) ?_
    show some ((zbD t.broken (t.r:Int):Int)==2)=_
    rw [zjK,zkI]
   ·rw [List.map_cons,List.takeWhile_cons]
    cases hk:zje (tkT t) with
    | false =>
     refine zaE rfl ?_
     show J _ m=J _ (m++ByteArray.empty)
     rw [ByteArray.append_empty]; simp
    | true =>
     have e4:=zdk (t.r:Int)
     refine zaI rfl (zaV (zdH (ziy _ _ _ _ hget)) (zcf (by show m.size+(Utf8.encode (t.r:Int)).size≤_; omega) (zcf ⟨by omega,by omega⟩ ?_)))
     have:=ih B (A++[t]) (m++Utf8.encode (t.r:Int)) (by rw [hT,List.append_assoc]; rfl) (by rw [List.length_cons] at hn; omega) (by rw [ByteArray.size_append,List.length_append]; simp; omega)
     rw [hag] at this
     have hcast:(A.length:Int)+1=((A++[t]).length:Int):=by simp
     rw [hcast]
     refine this.trans ?_
     simp only [if_true]
     unfold zgg
     rw [zdU,(zsz hk).1,ByteArray.append_assoc,List.length_cons,← hcast]
     congr 1
     push_cast; omega
theorem zq4 (o:zac) (r4:Int×List zBA) (g:Int) (J:List El→Bool→Option (List El)) (hl:r4.2.length≤4) (out:List El) (sp:Bool) (ho:out.length≤1999999000) :
  zaW (fun _ _ _=>none) (zbh o r4 g J) zcy out sp 0=if r4.2=[] then J out sp else J (out++znX sp out++r4.2.map (elU (zeO o) g)) false:=by
 have:=zxb (xs:=r4.2) (F:=zbh o r4 g J) (bot:=fun _ _ _=>none) (f:=fun (a:List El×Bool) u=>(a.1++znX a.2 a.1++[elU (zeO o) g u],false)) (J:=J) (fun k a=>a.1.length≤1999999000+2*k) (fun ag k x a hx hi=>by
   have hk:=zjG hx
   unfold zbh
   exact zaI (zjU hx) (zaV (zgH hx) (zaV (zt9 _ a.2 a.1 (by omega)) (zcf (zfq (by omega)) rfl)))) (fun k x a _ hi=>by
    have:=ziK a.2 a.1
    simp only [List.length_append,List.length_cons,List.length_nil]; omega) (fun ag a _=>by unfold zbh; exact zaE zjV rfl) (n:=zcy) (zeI (by omega)) (a:=(out,sp)) (by simpa using ho)
 refine this.trans ?_
 have g0:∀ l:List El,znX false l=[]:=fun _=>rfl
 have key:∀ (us:List zBA) (l:List El),us.foldl (fun (a:List El×Bool) u=>(a.1++znX a.2 a.1++[elU (zeO o) g u],false)) (l,false)=(l++us.map (elU (zeO o) g),false):=by
  intro us
  induction us with
  | nil=>intro l; simp
  | cons u us ih=>intro l; rw [List.foldl_cons]; simp only [g0,List.append_nil]; rw [ih]; simp
 cases hr:r4.2 with
 | nil=>rw [if_pos rfl]; rfl
 | cons u us =>
  rw [if_neg (by simp),List.foldl_cons,key]
  simp
theorem zoT {t:Tok} (h:0≤(tkT t).1):(tkT t).1=(t.r:Int)∧t.broken=false:=by
 unfold tkT at h ⊢
 cases hb:t.broken with
 | true=>rw [hb,if_pos rfl] at h; exact absurd h (by omega)
 | false=>exact ⟨rfl,rfl⟩
theorem znA {t:Tok} (hok:zfo t) (h:zi5 (tkT t)=true):t.bs.length=1:=by
 have h:=of_decide_eq_true h
 obtain ⟨h1,h2⟩:=zoT (t:=t) (by omega)
 rcases hok with hv | hb
 ·obtain ⟨_,hbs⟩:=hv
  rw [h1] at h
  rw [hbs,← zf1]
  have key:((List.range 58).all fun n=>decide ((Utf8.encode (n:Int)).size=1))=true:=by decide +kernel
  exact of_decide_eq_true (List.all_eq_true.1 key t.r (List.mem_range.2 (by omega)))
 ·rw [hb] at h2; cases h2
theorem zoz (i:Nat) (TT:List Tok) (J:Int→Option (List El)) (hok:∀ t∈TT,zfo t) (hl:TT.length≤1000000000):∀ (n:Nat) (B A:List Tok),TT=A++B→B.length<n →
  zaW (fun _=>none) (zbt (pL i TT) J) n (A.length:Int)=J ((A.length:Int)+(((B.map tkT).takeWhile zi5).length:Nat)):=by
 intro n
 induction n with
 | zero=>intro B A _ h; omega
 | succ n ih =>
  intro B A hT hn
  rw [zgt]
  generalize hag:zaW (fun _=>none) (zbt (pL i TT) J) n=ag
  unfold zbt
  have hlen:(pL i TT).length=A.length+B.length:=by rw [zgG,hT,List.length_append]
  cases B with
  | nil =>
   refine zaE (decide_eq_false (by rw [hlen]; simp)) ?_
   show J _=J _
   congr 1
  | cons t B =>
   have hget:TT[A.length]?=some t:=by rw [hT]; simp
   have htok:=hok t (by rw [hT]; simp)
   have hA:A.length≤1000000000:=by rw [hT,List.length_append] at hl; omega
   refine zaI (decide_eq_true (by rw [hlen]; simp; omega)) (zaV (zdH (ziy _ _ _ _ hget)) (zcf (ze9 htok) ?_))
   have hk:∀ i,zbD (pT i t).Broken (pT i t).Rune=kT (tkT t):=fun _=>zjK t
   rw [hk,zhK,List.map_cons,List.takeWhile_cons]
   cases hd:zi5 (tkT t) with
   | false =>
    refine zaE rfl ?_
    congr 1
   | true =>
    refine zaI rfl (zcf ⟨by omega,by omega⟩ ?_)
    have:=ih B (A++[t]) (by rw [hT,List.append_assoc]; rfl) (by rw [List.length_cons] at hn; omega)
    rw [hag] at this
    have hcast:(A.length:Int)+1=((A++[t]).length:Int):=by simp
    rw [hcast]
    refine this.trans ?_
    simp only [if_true]
    rw [List.length_cons,← hcast]
    congr 1
    push_cast; omega
theorem zpI (J:zBA→Option (List El)):∀ (n:Nat) (d:zBA),d.size<n→d.size≤1000000000→zaW (fun _=>none) (zbs J) n d=J ⟨(zqQ d.data.toList).toArray⟩:=by
 intro n
 induction n with
 | zero=>intro d h; omega
 | succ n ih =>
  intro d hn hb
  rw [zgt]
  generalize hag:zaW (fun _=>none) (zbs J) n=ag
  unfold zbs
  cases hd:d.data.toList with
  | nil =>
   have h0:d.size=0:=by rw [zb4,hd]; rfl
   refine zaE (decide_eq_false (by omega)) ?_
   have:d=⟨([]:List UInt8).toArray⟩:=zgR (by rw [hd])
   rw [this]; rfl
  | cons c l =>
   have h0:d.size=l.length+1:=by rw [zb4,hd]; rfl
   have hg:zln d 0=some (c.toNat:Int):=by
    unfold zln
    rw [if_pos (Int.le_refl 0)]
    have:d.data[(0:Int).toNat]?=some c:=by
     rw [← Array.getElem?_toList,hd]; rfl
    rw [this]; rfl
   refine zaI (decide_eq_true (by omega)) (zaV hg ?_)
   unfold zqQ
   rw [List.dropWhile_cons]
   have hc:(((c.toNat:Int):Int)==48)=(c==48):=by
    rw [Bool.eq_iff_iff,beq_iff_eq,beq_iff_eq]
    constructor
    ·intro h; exact UInt8.toNat_inj.1 (by show c.toNat=48; omega)
    ·intro h; subst h; rfl
   rw [hc]
   cases hz:(c==48) with
   | false =>
    refine zaE rfl ?_
    simp only [Bool.false_eq_true,if_false]
    rw [← hd]
   | true =>
    refine zaI rfl (zcf ⟨by omega,by omega,by omega⟩ ?_)
    have hcut:(zcn d 1 (d.size:Int)).data.toList=l:=by
     have:=zid d 1 d.size
     rw [hd,List.drop_succ_cons,List.drop_zero,h0,Nat.add_sub_cancel,List.take_length] at this
     rw [h0]; exact this
    have hs:(zcn d 1 (d.size:Int)).size=l.length:=by rw [zb4,hcut]
    have:=ih (zcn d 1 (d.size:Int)) (by omega) (by omega)
    rw [hag] at this
    rw [this,hcut]
    rfl
theorem zke (x:Tk):(kT x=1↔zgv x=true)∧(kT x=3↔zi5 x=true):=by
 constructor
 ·rw [← zgJ,beq_iff_eq]
 ·rw [← zhK,beq_iff_eq]
theorem zrg {t:Tok} (h:zgv (tkT t)=true):(tkT t).1=(t.r:Int)∧t.broken=false∧zaY (t.r:Int)=true:=by
 have h':zaY (tkT t).1=true:=h
 have:=zcN _ h'
 obtain ⟨h1,h2⟩:=zoT (t:=t) (by omega)
 rw [h1] at h'
 exact ⟨h1,h2,h'⟩
theorem zsV (t:Tok):great (tkT t).1=great (t.r:Int):=by
 unfold tkT
 cases hb:t.broken with
 | true =>
  rw [if_pos rfl]
  have:t.r=65533:=by unfold Tok.broken at hb; simp at hb; exact hb.1
  rw [this]; show great (-1)=great ((65533:Nat):Int); decide
 | false=>rfl
theorem zuT {S:zBA} {A ts:List Tok} {t:Tok} (hok:zfo t) (h:S.data.toList=zb8 (A++t::ts)):zln S ((zb8 A).length:Int)=some (zge (tkT t).2):=by
 have hne:=zuW hok
 cases hb:t.bs with
 | nil=>exact absurd hb hne
 | cons c l =>
  unfold zln
  rw [if_pos (by omega),Int.toNat_natCast]
  have h1:S.data.toList[(zb8 A).length]?=some c:=by
   rw [h,zby,zcG,hb]; simp
  have h2:S.data[(zb8 A).length]?=some c:=by rw [← Array.getElem?_toList]; exact h1
  rw [h2]
  unfold zge tkT
  rw [hb]; rfl
theorem zrM {α:Type} (l:List α) (c:Nat):zhi l (c:Int) (l.length:Int)=l.drop c:=by
 unfold zhi
 rw [Int.toNat_natCast,Int.toNat_natCast,List.take_of_length_le (by rw [List.length_drop]; exact Nat.le_refl _)]
theorem zxe {x:Tk} (h:zgv x=true):kT x=1:=(zke x).1.2 h
set_option maxHeartbeats 1000000 in
theorem zuK (o:zac) (ho:zjS (zeO o)) (r1:zBA) (r2:Int) (S:zBA) (hS:zcn r1 r2 (r1.size:Int)=S) (hSb:S.size≤1000000000) (J:List El→Option (List El)) :
  ∀ (n:Nat) (ts A:List Tok) (out:List El) (sp:Bool) (m:Nat),S.data.toList=zb8 (A++ts)→(∀ t∈ts,zfo t)→ts.length<n→ts.length≤m→out.length+6*ts.length≤1999999000 →
   zaW (fun _ _ _=>none) (zbv o J r1 r2) n out sp (pL (zb8 A).length ts)=J (asm (ziY (zeO o) m (ts.map tkT)) out sp):=by
 intro n
 induction n with
 | zero=>intro ts A out sp m _ _ h; omega
 | succ n ih =>
  intro ts A out sp m hd hok hn hm hb
  rw [zgt]
  generalize hag:zaW (fun _ _ _=>none) (zbv o J r1 r2) n=ag
  unfold zbv
  rw [hS]
  cases ts with
  | nil =>
   refine zaE (decide_eq_false (by rw [zgG]; simp)) ?_
   cases m <;> rfl
  | cons t ts =>
   obtain ⟨m,rfl⟩:∃ k,m=k+1:=⟨m - 1,by rw [List.length_cons] at hm; omega⟩
   have ht:=hok t (List.mem_cons_self ..)
   have hlenS:(zb8 A).length+(t.bs.length+(zb8 ts).length)=S.size:=by rw [zb4,hd,zby,zcG,List.length_append,List.length_append]
   have hl1:(t::ts).length≤1000000000:=by omega
   have fin:∀ (c:Nat) (New:Option (List El)) (out':List El) (sp':Bool),1≤c→c≤(t::ts).length→zih (zeO o) (tkT t) (ts.map tkT)=(c,New)→(∀ cs,asm (New::cs) out sp=asm cs out' sp')→out'.length≤out.length+5 →
     (grd (0≤(c:Int)∧(c:Int)≤((pL (zb8 A).length (t::ts)).length:Int)∧(((pL (zb8 A).length (t::ts)).length:Int):Int)≤((pL (zb8 A).length (t::ts)).length:Int))<|ag out' sp' (zhi (pL (zb8 A).length (t::ts)) (c:Int) ((pL (zb8 A).length (t::ts)).length:Int))) =
      J (asm (ziY (zeO o) (m+1) ((t::ts).map tkT)) out sp):=by
    intro c New out' sp' h1 h2 h3 h4 h5
    refine zcf ⟨by omega,by rw [zgG]; omega,Int.le_refl _⟩ ?_
    rw [zrM,zq9]
    have hA:(zb8 A).length+(zb8 ((t::ts).take c)).length=(zb8 (A++(t::ts).take c)).length:=by rw [zby,List.length_append]
    have hdl:((t::ts).drop c).length+c=(t::ts).length:=by rw [List.length_drop]; omega
    have:=ih ((t::ts).drop c) (A++(t::ts).take c) out' sp' m (by rw [hd,List.append_assoc,List.take_append_drop]) (fun x hx=>hok x (List.mem_of_mem_drop hx)) (by omega) (by omega) (by omega)
    rw [hag] at this
    rw [hA,this,List.map_cons]
    show _=J (asm ((zih (zeO o) (tkT t) (ts.map tkT)).2::ziY (zeO o) m ((tkT t::ts.map tkT).drop (zih (zeO o) (tkT t) (ts.map tkT)).1)) out sp)
    rw [h3,h4,← List.map_cons,List.map_drop]
   have hk:∀ i,zbD (pT i t).Broken (pT i t).Rune=kT (tkT t):=fun _=>zjK t
   refine zaI (decide_eq_true (by rw [zgG,List.length_cons]; omega)) (zce (zaV (a:=pT (zb8 A).length t) rfl (zcf (ze9 ht) ?_)))
   rw [hk,zgJ,zhK]
   cases hl:zgv (tkT t) with
   | true =>
    obtain ⟨hx1,hx2,hx3⟩:=zrg hl
    have hm4:=zo4 (zeO o) ho (tkT t) (ts.map tkT) hl
    have hch:zih (zeO o) (tkT t) (ts.map tkT)=((zfd (zeO o) (tkT t) (ts.map tkT)).1+(((tkT t::ts.map tkT).drop (zfd (zeO o) (tkT t) (ts.map tkT)).1).takeWhile zje).length,some (zqW (zgg (((tkT t::ts.map tkT).drop (zfd (zeO o) (tkT t) (ts.map tkT)).1).takeWhile zje)) ((zfd (zeO o) (tkT t) (ts.map tkT)).2.map (elU (zeO o) (zjM ((tkT t::ts.map tkT).take (zfd (zeO o) (tkT t) (ts.map tkT)).1)))))):=by
     unfold zih; rw [if_pos (zxe hl)]
    refine zaI rfl (zaV (zuj o (zb8 A).length t ts hx2 hok hl1) ?_)
    generalize hM:zfd (zeO o) (tkT t) (ts.map tkT)=M at hm4 hch ⊢
    rw [← List.map_cons,← List.map_drop,← List.map_take] at hch
    have hmn:M.1≤(t::ts).length:=by have:=hm4.2.1; rw [List.length_cons,List.length_map] at this; exact this
    refine zce (zcf ⟨Int.le_refl _,by show (0:Int)≤(M.1:Int); omega,by rw [zgG]; show (M.1:Int)≤_; omega⟩ ?_)
    refine (zp7 _ (((M.1:Nat):Int),M.2) _ ((t::ts).take M.1) (zb8 A).length (by show zhi _ 0 (M.1:Int)=_; rw [znF,zoe]) (fun x hx=>hok x (List.mem_of_mem_take hx)) (by rw [List.length_take]; omega) (fun x _=>zsV x)).trans ?_
    refine zce ?_
    have hml:=fun Jm=>zoj (zb8 A).length (t::ts) Jm hok hl1 zcy ((t::ts).drop M.1) ((t::ts).take M.1) ⟨#[]⟩ (List.take_append_drop _ _).symm (by rw [List.length_drop]; unfold zcy; omega) (by show 0≤_; omega)
    have hMl:((t::ts).take M.1).length=M.1:=by rw [List.length_take]; omega
    simp only [hMl] at hml
    refine (hml _).trans ?_
    rw [show (⟨#[]⟩:zBA)=ByteArray.empty from rfl,ByteArray.empty_append]
    refine zce ?_
    refine (zq4 o (((M.1:Nat):Int),M.2) _ _ hm4.2.2.2 out sp (by omega)).trans ?_
    rw [if_neg hm4.2.2.1]
    generalize hms:(((t::ts).drop M.1).map tkT).takeWhile zje=ms at hch ⊢
    generalize hgr:zjM (((t::ts).take M.1).map tkT)=gr at hch ⊢
    obtain ⟨us,u,hus⟩:∃ us u,M.2=us++[u]:=⟨M.2.dropLast,M.2.getLast hm4.2.2.1,(List.dropLast_concat_getLast hm4.2.2.1).symm⟩
    have hmap:M.2.map (elU (zeO o) gr)=us.map (elU (zeO o) gr)++[elU (zeO o) gr u]:=by rw [hus]; simp
    have hset:zqW (zgg ms) (M.2.map (elU (zeO o) gr))=us.map (elU (zeO o) gr)++[⟨3,((zeO o).p u).getD 0,ByteArray.empty,zgg ms,gr⟩]:=by rw [hmap,zna]; rfl
    have hul:us.length≤3:=by have:=hm4.2.2.2; rw [hus,List.length_append,List.length_cons,List.length_nil] at this; omega
    have hgl:=ziK sp out
    generalize hP:out++znX sp out++us.map (elU (zeO o) gr)=P at *
    have hPl:P.length≤out.length+4:=by rw [← hP]; simp only [List.length_append,List.length_map]; omega
    have hall:out++znX sp out++M.2.map (elU (zeO o) gr)=P++[elU (zeO o) gr u]:=by rw [hmap,← List.append_assoc,hP]
    rw [hall]
    have hlast:((P++[elU (zeO o) gr u]).length:Int) - 1=(P.length:Int):=by rw [List.length_append,List.length_cons,List.length_nil]; push_cast; omega
    rw [hlast]
    refine zcf ⟨by omega,by omega⟩ (zaV (zdH (show (P++[elU (zeO o) gr u])[P.length]?=some (elU (zeO o) gr u) by simp)) ?_)
    have hstt:(P++[elU (zeO o) gr u]).set ((P.length:Int)).toNat (⟨(elU (zeO o) gr u).sort,(elU (zeO o) gr u).place,(elU (zeO o) gr u).digits,zgg ms,(elU (zeO o) gr u).great⟩:El)=P++[⟨3,((zeO o).p u).getD 0,ByteArray.empty,zgg ms,gr⟩]:=by
     rw [Int.toNat_natCast,List.set_append_right _ _ (Nat.le_refl _),Nat.sub_self]; rfl
    have hmsl:ms.length+M.1≤(t::ts).length:=by
     rw [← hms]
     have:=(List.takeWhile_sublist zje (l:=((t::ts).drop M.1).map tkT)).length_le
     rw [List.length_map,List.length_drop] at this; omega
    have:=fin (M.1+ms.length) (some (zqW (zgg ms) (M.2.map (elU (zeO o) gr)))) (P++[⟨3,((zeO o).p u).getD 0,ByteArray.empty,zgg ms,gr⟩]) false (by omega) (by omega) hch (fun cs=>by
     rw [ztg (by rw [hset]; simp),hset,← List.append_assoc]
     show asm cs (out++znX sp out++us.map (elU (zeO o) gr)++_) false=_
     rw [hP]) (by rw [List.length_append,List.length_cons,List.length_nil]; omega)
    rw [hstt]
    have hcast:((M.1:Nat):Int)+((ms.length:Nat):Int)=((M.1+ms.length:Nat):Int):=by push_cast; rfl
    rw [hcast]
    exact this
   | false =>
    refine zaE rfl ?_
    have hk1:¬ kT (tkT t)=1:=fun h=>by have:=(zke (tkT t)).1.1 h; rw [hl] at this; cases this
    have hk3i:=(zke (tkT t)).2
    cases hdg:zi5 (tkT t) with
    | true =>
     have hk3:kT (tkT t)=3:=hk3i.2 hdg
     have hch:zih (zeO o) (tkT t) (ts.map tkT)=(1+((ts.map tkT).takeWhile zi5).length,some [⟨2,0,zvj (tkT t::(ts.map tkT).takeWhile zi5),ByteArray.empty,0⟩]):=by
      unfold zih; rw [if_neg hk1,if_pos hk3]
     refine zaI rfl (zce ?_)
     have hdl:=fun Jd=>zoz (zb8 A).length (t::ts) Jd hok hl1 zcy ts [t] rfl (by rw [List.length_cons] at hl1; unfold zcy; omega)
     have e1:(([t]:List Tok).length:Int)=1:=rfl
     simp only [e1] at hdl
     refine (hdl _).trans ?_
     have hW1:(ts.map tkT).takeWhile zi5=(ts.takeWhile fun x=>zi5 (tkT x)).map tkT:=by rw [List.takeWhile_map]; rfl
     rw [hW1,List.length_map] at hch ⊢
     generalize hW:(ts.takeWhile fun x=>zi5 (tkT x))=W at hch ⊢
     have hWl:W.length≤ts.length:=by rw [← hW]; exact (List.takeWhile_sublist _).length_le
     have hWd:∀ x∈t::W,x.bs.length=1:=by
      intro x hx
      rcases List.mem_cons.1 hx with rfl | hx
      ·exact znA ht hdg
      ·have hx2:x∈ts:=by rw [← hW] at hx; exact (List.takeWhile_sublist _).subset hx
       have hx3:zi5 (tkT x)=true:=by
        rw [← hW] at hx
        exact List.all_eq_true.1 (List.all_takeWhile (p:=fun x=>zi5 (tkT x)) (l:=ts)) x hx
       exact znA (hok x (List.mem_cons_of_mem _ hx2)) hx3
     have hfl:∀ l:List Tok,(∀ x∈l,x.bs.length=1)→(zb8 l).length=l.length:=by
      intro l
      induction l with
      | nil=>intro _; rfl
      | cons x l ihl=>intro h; rw [zcG,List.length_append,List.length_cons,h x (List.mem_cons_self ..),ihl (fun y hy=>h y (List.mem_cons_of_mem _ hy))]; omega
     have hfw:(zb8 (t::W)).length=1+W.length:=by rw [hfl _ hWd,List.length_cons]; omega
     have hspl:t::ts=(t::W)++ts.dropWhile fun x=>zi5 (tkT x):=by rw [List.cons_append,← hW,List.takeWhile_append_dropWhile]
     have hcut:zcn S ((zb8 A).length:Int) (((zb8 A).length+(1+W.length):Nat):Int)=zj5 ((t::W).map tkT) :=
      zoC (A:=A) (W:=t::W) (Z:=ts.dropWhile fun x=>zi5 (tkT x)) (by rw [hd,hspl]) rfl (by rw [hfw])
     have hle:(zb8 A).length+(1+W.length)≤S.size:=by
      rw [zb4,hd,hspl,zby,zby,List.length_append,List.length_append,hfw]; omega
     have hq:(pT (zb8 A).length t).At+(1+((W.length:Nat):Int))=(((zb8 A).length+(1+W.length):Nat):Int):=by
      show ((zb8 A).length:Int)+(1+((W.length:Nat):Int))=_
      push_cast; omega
     refine zce ?_
     rw [hq]
     refine zcf ⟨by omega,by omega⟩ (zcf ⟨by show (0:Int)≤((zb8 A).length:Int); omega,by show ((zb8 A).length:Int)≤_; omega,by omega⟩ ?_)
     have hcut':zcn S (pT (zb8 A).length t).At (((zb8 A).length+(1+W.length):Nat):Int)=zj5 ((t::W).map tkT):=hcut
     rw [hcut']
     have hcs:(zj5 ((t::W).map tkT)).size=1+W.length:=by rw [zb4,zkj,hfw]
     refine (zpI _ zcy (zj5 ((t::W).map tkT)) (by unfold zcy; omega) (by omega)).trans ?_
     refine zaV (zt9 _ sp out (by omega)) ?_
     have hgl:=ziK sp out
     have:=fin (1+W.length) (some [⟨2,0,zvj (tkT t::W.map tkT),ByteArray.empty,0⟩]) (out++znX sp out++[⟨2,0,zvj (tkT t::W.map tkT),ByteArray.empty,0⟩]) false (by omega) (by rw [List.length_cons]; omega) hch (fun cs=>rfl) (by simp only [List.length_append,List.length_cons,List.length_nil]; omega)
     have hcast:(1:Int)+((W.length:Nat):Int)=((1+W.length:Nat):Int):=by push_cast; rfl
     rw [hcast]
     exact this
    | false =>
     have hk3:¬ kT (tkT t)=3:=fun h=>by have:=hk3i.1 h; rw [hdg] at this; cases this
     refine zaE rfl ?_
     have hx7:∀ K:Bool→Option (List El),zbx (fun (j9:Bool→Option (List El))=>zar (((kT (tkT t)):Int)==5) (j9 (((kT (tkT t)):Int)==5)) (zar (((kT (tkT t)):Int)==4) (j9 (((kT (tkT t)):Int)==4)) (j9 (((kT (tkT t)):Int)==6)))) K=K (decide (kT (tkT t)=5∨kT (tkT t)=4∨kT (tkT t)=6)):=by
      intro K
      unfold zbx
      by_cases h5:kT (tkT t)=5
      ·rw [h5]; rfl
      ·by_cases h4:kT (tkT t)=4
       ·rw [h4]; rfl
       ·rw [beq_eq_false_iff_ne.2 h5,beq_eq_false_iff_ne.2 h4]
        by_cases h6:kT (tkT t)=6
        ·rw [h6]; rfl
        ·rw [beq_eq_false_iff_ne.2 h6,decide_eq_false (by simp [h5,h4,h6])]; rfl
     refine (hx7 _).trans ?_
     by_cases hsp:kT (tkT t)=5∨kT (tkT t)=4∨kT (tkT t)=6
     ·rw [decide_eq_true hsp]
      refine zaI rfl ?_
      exact fin 1 none out true (Nat.le_refl 1) (by rw [List.length_cons]; omega) (by unfold zih; rw [if_neg hk1,if_neg hk3,if_pos hsp]) (fun cs=>rfl) (by omega)
     ·rw [decide_eq_false hsp]
      refine zaE rfl ?_
      by_cases hbr:kT (tkT t)=11
      ·rw [beq_iff_eq.2 hbr]
       have hby:0≤zge (tkT t).2∧zge (tkT t).2≤255:=by unfold zge; have:=((tkT t).2.data.toList.headD 0).toNat_lt; omega
       refine zaI rfl (zaV (zuT ht hd) (zcf ⟨by omega,by omega⟩ (zaV (zt9 _ sp out (by omega)) ?_)))
       have hgl:=ziK sp out
       exact fin 1 (some [⟨4,zge (tkT t).2,ByteArray.empty,ByteArray.empty,0⟩]) (out++znX sp out++[⟨4,zge (tkT t).2,ByteArray.empty,ByteArray.empty,0⟩]) false (Nat.le_refl 1) (by rw [List.length_cons]; omega)
        (by unfold zih; rw [if_neg hk1,if_neg hk3,if_neg hsp,if_pos hbr]) (fun cs=>rfl) (by simp only [List.length_append,List.length_cons,List.length_nil]; omega)
      ·rw [beq_eq_false_iff_ne.2 hbr]
       refine zaE rfl ?_
       exact fin 1 (some []) out sp (Nat.le_refl 1) (by rw [List.length_cons]; omega) (by unfold zih; rw [if_neg hk1,if_neg hk3,if_neg hsp,if_neg hbr]) (fun cs=>rfl) (by omega)
theorem zrO (s:zBA) (hs:s.size≤1000000000):zeb s=some (pL 0 (zek s.data.toList)):=by
 unfold zeb
 refine zaV (a:=s) rfl (zaV (a:=pL 0 (zek s.data.toList)) ?_ rfl)
 unfold zdv
 refine zaV (a:=pL 0 (zek s.data.toList)) ?_ rfl
 unfold zbn
 refine zce (zaV (zkC s (by omega)) (zce ?_))
 rw [zlN]
 have hlen:(pL 0 (zek s.data.toList)).length≤s.size:=by
  rw [zgG]
  have:=zen s
  have e:(pcs s.data.toList).length=(zek s.data.toList).length:=by rw [← zgG (zek s.data.toList) 0,← zlN,List.length_map]
  omega
 have key:∀ (l acc:List zam),acc.length+l.length≤1000000000→zcF (fun s5=>(some s5:Option (List zam))) zaN l acc=some (acc++l):=by
  intro l
  induction l with
  | nil=>intro acc _; rw [zjb,List.append_nil]
  | cons x l ih =>
   intro acc h
   rw [List.length_cons] at h
   rw [zco]
   unfold zaN
   refine zcf (by omega) ?_
   have:=ih (acc++[x]) (by simp; omega)
   unfold zaN at this
   rw [this,List.append_assoc]; rfl
 have:=key (pL 0 (zek s.data.toList)) [] (by simp; omega)
 rw [List.nil_append] at this
 exact this
theorem zsK (o:zmX) (l:List Tk):znh o l≤l.length:=by
 unfold znh
 split
 ·unfold zjW
  have h1:=congrArg List.length (List.takeWhile_append_dropWhile (p:=fun x=>!zgv x) (l:=l))
  have h2:=congrArg List.length (List.takeWhile_append_dropWhile (p:=zns) (l:=l.dropWhile fun x=>!zgv x))
  rw [List.length_append] at h1 h2
  omega
 ·omega
theorem zj9 (s:zBA):(zek s.data.toList).length≤s.size:=by
 have h3:=zen s
 have e:(pcs s.data.toList).length=(zek s.data.toList).length:=by rw [← zgG (zek s.data.toList) 0,← zlN,List.length_map]
 omega
theorem zqk {s:zBA} {X Y:List UInt8} (h:s.data.toList=X++Y):(zcn s (X.length:Int) (s.size:Int)).data.toList=Y:=by
 rw [zid,h,List.drop_left,zb4,h,List.length_append,Nat.add_sub_cancel_left,List.take_length]
def Few (t:zBA):Prop:=t.size≤65536∧(zdh t).size≤65536
theorem zox {t:zBA} (h:t.size≤5000):Few t:=⟨by omega,by have:=(zhv t (by omega)).2.1; omega⟩
theorem zjq (o:zac) (ho:zjS (zeO o)) (t:zBA) (ht:Few t):zbE o t=some (zlW (zeO o) (zlf t)):=by
 obtain ⟨h0,h1⟩:=ht
 unfold zbE
 refine zce (zaV (zpu t h0) (zaV (zsJ o (zdh t) (by omega)) ?_))
 have hple:=zsK (zeO o) ((zek (zdh t).data.toList).map tkT)
 generalize hp:znh (zeO o) ((zek (zdh t).data.toList).map tkT)=p at hple ⊢
 have hcut:=zsZ (zek (zdh t).data.toList) p
 rw [zgM,← zb4] at hcut
 refine zcf ⟨by omega,by omega,Int.le_refl _⟩ ?_
 have hS:(zcn (zdh t) ((zb8 ((zek (zdh t).data.toList).take p)).length:Int) ((zdh t).size:Int)).data.toList=zb8 ((zek (zdh t).data.toList).drop p):=by
  exact zqk (by rw [← zby,List.take_append_drop,zgM])
 have hg:zek (zb8 ((zek (zdh t).data.toList).drop p))=(zek (zdh t).data.toList).drop p:=ziH (a:=(zek (zdh t).data.toList).take p) (by rw [List.take_append_drop]; exact znu _)
 generalize hSS:zcn (zdh t) ((zb8 ((zek (zdh t).data.toList).take p)).length:Int) ((zdh t).size:Int)=SS at hS ⊢
 have hSl:SS.size≤65536:=by rw [zb4,hS]; omega
 refine zaV (zrO SS (by omega)) ?_
 rw [hS,hg]
 have htl:=zj9 (zdh t)
 have:=zuK o ho (zdh t) ((zb8 ((zek (zdh t).data.toList).take p)).length:Int) SS hSS (by omega) some zcy ((zek (zdh t).data.toList).drop p) [] [] false (((zek (zdh t).data.toList).map tkT).length) (by rw [List.nil_append,hS]) (fun x hx=>zgp _ x (List.mem_of_mem_drop hx)) (by rw [List.length_drop]; unfold zcy; omega) (by rw [List.length_drop,List.length_map]; omega) (by rw [List.length_drop]; simp only [List.length_nil]; omega)
 refine this.trans ?_
 unfold zlW zlf zks
 rw [hp,List.map_drop]
def zcS (s1:zBA) (prefix1:zBA):Option Bool := zar (decide (((prefix1.size:Int):Int)≤(s1.size:Int))) ( grd (0≤(0:Int)∧(0:Int)≤(prefix1.size:Int)∧((prefix1.size:Int):Int)≤(s1.size:Int)) <| some (decide (zcn s1 0 (prefix1.size:Int)=prefix1))
) ( some false
)
theorem zfg {s1:zBA} {prefix1:zBA} {r:Bool} (h:zcS s1 prefix1=some r):FnP prog 104 [.string s1,.string prefix1] (.bool r):=by
 unfold zcS at h
 refine FnP.intro func104 rfl ntmps104 (by simp) ?_
 intro w0 K
 refine zyG (zyR 1 rfl (zyH (zyR 1 rfl (zcI rfl dc rfl underlying9 (zyR 1 rfl (zcI rfl dc rfl underlying9 (zaR rfl zbj (zyR 1 rfl ?_))))))))
 refine zyS (s:=10) rfl h (fun h => ?_) (fun h => ?_)
 ·
  refine zyR 2 rfl (zcI rfl dc rfl underlying9 ?_)
  obtain ⟨hg1,h⟩:=zbR h
  refine zb7 rfl dc rfl rfl rfl (za6 (i:=0) (j:=(prefix1.size:Int)) underlying9 (.inl ⟨rfl,rfl⟩) (.inr rfl) hg1) (zyR 1 rfl (zaR rfl zeH (zyR 2 rfl (zyN (zaA ?_)))))
  cases h
  exact zaS 4 results104
 refine zyR 8 rfl (zyN (zaA ?_))
 cases h
 exact zaS 4 results104
def zeU (s1:zBA) (prefix1:zBA):Option Bool := zak (zcS s1 prefix1) fun (r1:Bool) => some r1
theorem zhS {s1:zBA} {prefix1:zBA} {r:Bool} (h:zeU s1 prefix1=some r):FnP prog 98 [.string s1,.string prefix1] (.bool r):=by
 unfold zeU at h
 refine FnP.intro func98 rfl ntmps98 (by simp) ?_
 intro w0 K
 refine zyG (zyR 1 rfl (zyH (zyR 2 rfl ?_)))
 obtain ⟨r1,hq1,h⟩:=zbA h
 refine zaO (v:=.bool r1) (vs:=[.string s1,.string prefix1]) rfl dc rfl rfl rfl zwh (zfg hq1) (zyR 1 rfl (zyN (zaA ?_)))
 cases h
 exact zaS 4 results98
def zdQ (c0:zBA) (ag1:Nat→Option (List zam)) (m3:Nat):Option (List zam) := zar (decide (m3<(pcs c0.data.toList).length)) ( zak ((pcs c0.data.toList)[m3]?) fun (p1:Pc) => zbx (fun (j1:Int→Bool→Option (List zam)) => zar (((p1.r:Int):Int)==65533) ( grd (0≤((p1.i:Int):Int)∧((p1.i:Int):Int)≤(c0.size:Int)∧((c0.size:Int):Int)≤(c0.size:Int)) <| zak (zeU (zcn c0 (p1.i:Int) (c0.size:Int)) (⟨#[239,191,189]⟩:zBA)) fun (r1:Bool) => zar (!r1) ( j1 1 true
) ( j1 ((Utf8.encode (p1.r:Int)).size:Int) false
)
) ( j1 ((Utf8.encode (p1.r:Int)).size:Int) false
)
) (fun (p2:Int) (p3:Bool) => zoF (⟨(p1.i:Int),p2,(p1.r:Int),p3⟩:zam) <| ag1 (m3+1)
)
) ( some []
)
def zfI (c0:zBA):Option (List zam) := zaW (fun _=>none) (zdQ c0) zcy 0
theorem ziU {b_c0:Nat} {c0:zBA} {xs:(List zam)} (h:zfI c0=some xs):Itr prog 97 [zP b_c0] (fun q:zam=>[.agg (zr0 q).toArray]) xs [(b_c0,.cells #[.string c0] 9 (0,0))]:=by
 unfold zfI at h
 refine Itr.intro func97 rfl ntmps97 (by simp) ?_
 intro l w0 K I X hRo hy
 obtain ⟨r0,hx0⟩:∃ r,xs=[]++r:=⟨xs,rfl⟩
 have hr0:xs=r0:=hx0
 rw [hr0] at h
 refine zyG (zi2 (i:=0) hRo zeV rfl dc rfl rfl rfl ?_)
 refine zfx underlying9 rfl dc rfl (fun b1 => ?_)
 refine zyN (zaz ?_)
 refine zbN (β:=Nat×Nat×(List zam)×(List zam)) (fun b=>zaW (fun _=>none) (zdQ c0) b.1 b.2.1=some b.2.2.2∧xs=b.2.2.1++b.2.2.2) (fun b=>[]) (fun b=>[(0,.func (.yield l) #[] #[]),(1,zP b_c0),(7,zP b1)]) (fun b=>[I b.2.2.1,obj b1 (.stringIter c0 (zgr c0 b.2.1))]) (fun b=>b.1) (zcy,0,([]:List zam),r0) ⟨h,hx0⟩ rfl (za4 rfl) (zaa [0,1] kr rfl) ?_
 rintro ⟨n1,m3,acc3,rr3⟩ ⟨h,hx3⟩
 cases n1 with
 | zero=>exact zeq h
 | succ n1 =>
  obtain ⟨ag1,hag1⟩:∃ ag,ag=zaW (fun _=>none) (zdQ c0) n1:=⟨_,rfl⟩
  have h:zdQ c0 ag1 m3=some rr3:=by rw [hag1]; exact h
  unfold zdQ at h
  refine zyG ?_
  refine zfy (b:=decide (m3<(pcs c0.data.toList).length)) (fun hb1 => ?_) (fun hb1 => ?_)
  ·
   have h:=zlr hb1 h
   obtain ⟨p1,hq1,h⟩:=zbA h
   refine zfQ (k:=1) (m:=m3) (p:=p1) rfl dc rfl rfl hq1 (zaH rfl dc rfl rfl (zyN (zaL (zbC rfl (zao (zaF (zaz ?_)))))))
   obtain ⟨j1,hj1,h⟩:=zbP h
   refine za0 (β:=Int×Bool×Nat) 2 rfl (fun b=>j1 b.1 b.2.1=some rr3) (fun b=>[]) (fun b=>[(0,.func (.yield l) #[] #[]),(1,zP b_c0),(5,zP b.2.2),(7,zP b1)]) (fun b=>[I acc3,cells b.2.2 [zI (p1.i:Int),zI b.1,.int .i32 (p1.r:Int),.bool b.2.1] 95,obj b1 (.stringIter c0 (zgr c0 (m3+1)))]) (fun cut => ?_) ?_
   ·
    refine zyG (zaH rfl dc rfl rfl (zaH rfl dc rfl rfl (zyR 2 rfl (zyH (zyR 2 rfl (zcD rfl dc rfl (zc6 underlying21 underlying9) (zcI rfl dc rfl underlying9 ?_)))))))
    refine zyR 1 rfl ?_
    refine zci (v:=.agg #[zI (p1.i:Int),zI ((Utf8.encode (p1.r:Int)).size:Int),.int .i32 (p1.r:Int),.bool false]) (ps:=[(0,.tmp 12),(1,.tmp 15),(2,.tmp 16)]) rfl dc rfl (fun _=>by kernel_rfl) ?_
    refine za3 zko rfl dc (fun b3 => ?_)
    refine za2 (k:=2) (vs:=[zI (p1.i:Int),zI ((Utf8.encode (p1.r:Int)).size:Int),.int .i32 (p1.r:Int),.bool false]) (l':=[zI (p1.i:Int),zI ((Utf8.encode (p1.r:Int)).size:Int),.int .i32 (p1.r:Int),.bool false]) zfL rfl rfl rfl rfl rfl (show _≤_ by simp) rfl rfl (zyN (cut (zyG (zyR 1 rfl (zaR rfl za9 (zyR 1 rfl ?_))))))
    refine zyS (s:=20) rfl h (fun h => ?_) (fun h => ?_)
    ·
     refine zi2 (i:=0) hRo zeV rfl dc rfl rfl rfl (zyR 1 rfl ?_)
     obtain ⟨hg1,h⟩:=zbR h
     refine zb7 rfl dc rfl rfl rfl (za6 (i:=(p1.i:Int)) (j:=(c0.size:Int)) underlying9 (.inr rfl) (.inl ⟨rfl,rfl⟩) hg1) ?_
     obtain ⟨r1,hq2,h⟩:=zbA h
     refine zaO (v:=.bool r1) (vs:=[.string (zcn c0 (p1.i:Int) (c0.size:Int)),.string (⟨#[239,191,189]⟩:zBA)]) rfl dc rfl rfl rfl zxk (zhS hq2) (zg7 rfl dc rfl ze7 (zyR 1 rfl (zyN ?_)))
     refine zyB rfl h (fun h => ?_) (fun h => ?_)
     ·
      refine zap (zaf zg1 rfl dc rfl (show _=1 from rfl) ?_)
      refine zaP (k:=2) (l':=[zI (p1.i:Int),zI 1,.int .i32 (p1.r:Int),.bool false]) zh3 rfl rfl rfl rfl rfl (fun _ _=>rfl) rfl ?_
      refine zaf zot rfl dc rfl (show _=3 from rfl) ?_
      refine zaP (k:=2) (l':=[zI (p1.i:Int),zI 1,.int .i32 (p1.r:Int),.bool true]) zqP rfl rfl rfl rfl rfl (fun _ _=>rfl) rfl ?_
      refine zaD ?_
      exact zah (1,true,b3) h rfl (za4 rfl) (zaa [0,2,1] kr rfl)
     refine zao ?_
     exact zah (((Utf8.encode (p1.r:Int)).size:Int),false,b3) h rfl (za4 rfl) (zaa [0,2,1] kr rfl)
    refine zyR 6 rfl (zyN (zaQ rfl (zao ?_)))
    exact zah (((Utf8.encode (p1.r:Int)).size:Int),false,b3) h rfl (za4 rfl) (zaa [0,2,1] kr rfl)
   rintro ⟨p2,p3,b2⟩ h
   rw [hj1] at h
   refine zyG (zyR 1 rfl (zbW (k:=1) (cs:=[zI (p1.i:Int),zI p2,.int .i32 (p1.r:Int),.bool p3]) zgX rfl dc rfl rfl rfl rfl ?_))
   obtain ⟨rr4,hr1,h⟩:=zql h
   have hx4:xs=acc3++(⟨(p1.i:Int),p2,(p1.r:Int),p3⟩:zam)::rr4:=by rw [hx3,hr1]
   refine zhR hy rfl dc rfl hx4 rfl (k:=0) rfl ?_ ?_
   ·
    have hx5:xs=(acc3++[(⟨(p1.i:Int),p2,(p1.r:Int),p3⟩:zam)])++rr4:=by rw [hx4]; simp
    refine zg7 rfl dc rfl ze7 (zyN (zaQ rfl (zao (zae ?_))))
    subst hag1
    exact zbr (n1,m3+1,acc3++[(⟨(p1.i:Int),p2,(p1.r:Int),p3⟩:zam)],rr4) ⟨h,hx5⟩ (Nat.lt_succ_self _) rfl (za4 rfl) (zaa [0,2] kr rfl)
   refine zg7 rfl dc rfl ze7 (zyN (zbC rfl (zaA (zan (zaj (zan ?_))))))
   exact zjy (ds:=[]) acc3 (⟨(p1.i:Int),p2,(p1.r:Int),p3⟩:zam) rr4 hx4 (.inl rfl) Splits.nil results97 (zaa [0] kr rfl)
  have h:=zls hb1 h
  refine zfR (k:=1) (m:=m3) rfl dc rfl rfl (Nat.le_of_not_lt (of_decide_eq_false hb1)) (zaH rfl dc rfl rfl (zyN (zaL (zaQ rfl (zbz (zaq (zaq (zaG ?_))))))))
  cases h
  exact zk6 (ds:=[]) (.inr rfl) Splits.nil results97 (congrArg I (hx3.trans (List.append_nil _))) (zaa [0] kr rfl)
def zgA (s1:zBA):Option zBA := some s1
theorem zkY {s1:zBA} {r:zBA} (h:zgA s1=some r):Fn prog 89 [.string s1] [] (fun v0:Nat=>.func (.func 97) #[] #[zP v0]) (fun v0=>[cells v0 [.string r] 9]):=by
 unfold zgA at h
 refine Fn.intro func89 rfl ntmps89 (by simp) ?_
 intro w0 K
 refine zyG ?_
 refine zdX rfl dc rfl (fun b1 => ?_)
 refine zyR 1 rfl (zyH (zf8 (x1:=[]) (x2:=[.tmp 1]) rfl dc rfl rfl (zyR 1 rfl (zyN (zaA ?_)))))
 cases h
 exact zcj (rs:=[.tmp 2]) b1 (.inl rfl) results89 (.cons (.tmp rfl) .nil) rfl (zaa [0] kr rfl)
def zeY (r1:Int) (x1:Bool) (x2:zBA):Option zBA := zar ((r1:Int)==223) ( some (⟨#[83,83]⟩:zBA)
) ( grd (I32 r1) <| some (Utf8.encode (zqJ r1))
)
theorem zhV {r1:Int} {x1:Bool} {x2:zBA} {r:zBA} (h:zeY r1 x1 x2=some r):FnP prog 69 [.int .i32 r1,.bool x1,.string x2] (.string r):=by
 unfold zeY at h
 refine FnP.intro func69 rfl ntmps69 (by simp) ?_
 intro w0 K
 refine zyG (zyR 1 rfl (zyN (zaL (zyG (zyR 1 rfl (zaR rfl za9 (zyN ?_)))))))
 refine zyB rfl h (fun h => ?_) (fun h => ?_)
 ·
  refine zyG (zyR 1 rfl (zyN (zaA (zaj ?_))))
  cases h
  exact zaS 6 results69
 refine zao (zaF (zyG (zyR 1 rfl ?_)))
 obtain ⟨hg1,h⟩:=zbR h
 refine zaO (v:=.int .i32 (zqJ r1)) (vs:=[.int .i32 r1]) rfl dc rfl rfl rfl zxy (zdD fun w=>zqI r1 w hg1.1 hg1.2) ?_
 refine zcD rfl dc rfl (zc6 underlying21 underlying9) (zyR 1 rfl (zyN (zaA ?_)))
 cases h
 exact zaS 6 results69
def zcw (s1:zBA) (x1:zam) (ag1:zBA→Bool→Option zBA) (b10:zBA) (led3:Bool):Option zBA := zbx (fun (j2:zBA→Option zBA) => grd (I64 (x1.At+x1.Width)) <| grd (I32 x1.Rune) <| zar (((zbD x1.Broken x1.Rune):Int)==1) ( grd (0≤(x1.At+x1.Width:Int)∧(x1.At+x1.Width:Int)≤(s1.size:Int)∧((s1.size:Int):Int)≤(s1.size:Int)) <| zak (zeY x1.Rune led3 (zcn s1 (x1.At+x1.Width) (s1.size:Int))) fun (r2:zBA) => grd (b10.size+r2.size≤140737488355328) <| j2 (b10++r2)
) ( grd (0≤(x1.At:Int)∧(x1.At:Int)≤(x1.At+x1.Width)∧(x1.At+x1.Width:Int)≤(s1.size:Int)) <| grd (b10.size+(zcn s1 x1.At (x1.At+x1.Width)).size≤140737488355328) <| j2 (b10++(zcn s1 x1.At (x1.At+x1.Width)))
)
) (fun (b12:zBA) => zar (((zbD x1.Broken x1.Rune):Int) != 2) ( ag1 b12 (((zbD x1.Broken x1.Rune):Int)==1)
) ( ag1 b12 led3
)
)
def zdP (s1:zBA):Option zBA := zbx (fun (j1:zBA→Option zBA) => zak (zgA s1) fun (r1:zBA) => zak (zfI r1) fun (its1:(List zam)) => zbx (fun (dn1:zBA→Bool→Option zBA) => zcF dn1 (zcw s1) its1 (⟨#[]⟩:zBA) false
) (fun (b10:zBA) (led3:Bool) => j1 b10
)
) (fun (b2:zBA) => some b2
)
theorem zgz {s1:zBA} {r:zBA} (h:zdP s1=some r):FnP prog 68 [.string s1,.func (.func 69) #[] #[]] (.string r):=by
 unfold zdP at h
 refine FnP.intro func68 rfl ntmps68 (by simp) ?_
 intro w0 K
 refine zgo ?_
 obtain ⟨j1,hj1,h⟩:=zbP h
 refine za0 (β:=zBA×Nat×(List Nat)) 3 rfl (fun b=>j1 b.1=some r) (fun b=>zfe b.2.2) (fun b=>[(5,zP b.2.1)]) (fun b=>[ztc b.2.1 b.1,zfF ((b.2.2:List Nat).map zfp)]) (fun cut => ?_) ?_
 ·
  refine zyG ?_
  refine zdX rfl dc rfl (fun b3 => ?_)
  refine zdX rfl dc rfl (fun b4 => ?_)
  refine zyR 1 rfl (zyH ?_)
  refine za3 zwK rfl dc (fun b5 => ?_)
  refine zl3 (k:=3) rfl zqB ?_
  refine zyH ?_
  refine za3 zwQ rfl dc (fun b6 => ?_)
  refine zaP (k:=4) (l':=[.bool false]) zqP rfl rfl rfl rfl rfl (fun _ _=>rfl) rfl ?_
  refine zyN (cut (zyG (zal (k:=1) zeV rfl dc rfl rfl rfl ?_)))
  obtain ⟨r1,hq1,h⟩:=zbA h
  refine zb9 (vs:=[.string s1]) rfl dc rfl rfl rfl zxn (zkY hq1) Splits.nil ?_
  rintro b7
  refine zyN (zaz ?_)
  obtain ⟨its1,hq2,h⟩:=zbA h
  obtain ⟨dn1,hdn1,h⟩:=zbP h
  refine zg9 (α:=zam) (β:=zBA×Bool) (γ:=Unit) (δ:=Nat) (ps:=[12]) Ro.nil rfl zxl (ziU hq2) (fun pre b=>∀ post,its1=pre++post→zcF dn1 (zcw s1) post b.1 b.2=some r) (fun pre b=>[cells b3 [.string s1] 9,cells b4 [.func (.func 69) #[] #[]] 121,ztc b5 b.1,cells b6 [.bool b.2] 4]) (fun c pre g=>False) (fun c pre g=>[]) (fun pre x b j=>[(2,zP b3),(3,zP b4),(4,.string (⟨#[]⟩:zBA)),(5,zP b5),(6,zP b6),(11,.func (.func 97) #[] #[zP b7]),(7,zP j)]) (fun pre x b j=>[cells b3 [.string s1] 9,cells b4 [.func (.func 69) #[] #[]] 121,ztc b5 b.1,cells b6 [.bool b.2] 4,cells j (zr0 x) 95]) ((⟨#[]⟩:zBA),false) (fun post e=>by rw [List.nil_append] at e; subst e; exact h) (zaa [1,2,3,4] kr rfl) ⟨.inl ⟨5,rfl⟩,trivial⟩ (fun _=>rfl) dc ?_ ?_ ?_ ?_
  ·
   rintro lp rc pre x1 post ⟨b10,led3⟩ w1 K1 hxs1 hext hro hinv
   refine zap ?_
   refine za3 zko rfl dc (fun b11 => ?_)
   refine za2 (k:=4) (vs:=(zr0 x1)) (l':=(zr0 x1)) zfL rfl rfl rfl rfl rfl (show _≤_ by simp) rfl rfl ?_
   refine zaD ?_
   exact fun a w ha hw=>⟨b11,(za4 rfl) _ _ _ ha,hw.weaken (zaa [0,1,2,3,4] kr rfl)⟩
  ·
   rintro lp rc pre x1 post1 ⟨b10,led3⟩ jb1 w1 K1 hxs1 hext hro hinv
   have h:=hinv (x1::post1) hxs1
   obtain ⟨ag1,hag1⟩:∃ ag,ag=zcF dn1 (zcw s1) post1:=⟨_,rfl⟩
   have h:zcw s1 x1 ag1 b10 led3=some r:=by have h2:=h; rw [zco,← hag1] at h2; exact h2
   unfold zcw at h
   refine zaz ?_
   obtain ⟨j2,hj2,h⟩:=zbP h
   refine za0 (β:=zBA) 2 rfl (fun b=>j2 b=some r) (fun b=>[]) (fun b=>[(2,zP b3),(3,zP b4),(4,.string (⟨#[]⟩:zBA)),(5,zP b5),(6,zP b6),(9,zI (zbD x1.Broken x1.Rune)),(11,.func (.func 97) #[] #[zP b7])]) (fun b=>[cells b3 [.string s1] 9,cells b4 [.func (.func 69) #[] #[]] 121,ztc b5 b,cells b6 [.bool led3] 4]) (fun cut => ?_) ?_
   ·
    refine zyG (zaf zdJ rfl dc rfl (show _=0 from rfl) (zal (k:=4) zdE rfl dc rfl rfl rfl (zaf zg1 rfl dc rfl (show _=1 from rfl) (zal (k:=4) zdE rfl dc rfl rfl rfl ?_))))
    obtain ⟨hg1,h⟩:=zbR h
    refine zaR rfl (zbc (r:=x1.At+x1.Width) (IntWalk.i64_in _ hg1)) (zyR 1 rfl (zyH (zbW (k:=4) (cs:=(zr0 x1)) zgX rfl dc rfl rfl rfl rfl ?_)))
    obtain ⟨hg2,h⟩:=zbR h
    refine zaO (v:=zI (zbD x1.Broken x1.Rune)) (vs:=[.agg (zr0 x1).toArray]) rfl dc rfl rfl rfl zqi (zvi x1.At x1.Width x1.Rune x1.Broken hg2.1 hg2.2) (zyR 1 rfl (zyN (cut (zyG (zyR 1 rfl (zaR rfl za9 (zyN ?_)))))))
    refine zyB rfl h (fun h => ?_) (fun h => ?_)
    ·
     obtain ⟨hg3,h⟩:=zbR h
     obtain ⟨r2,hq3,h⟩:=zbA h
     obtain ⟨hg4,h⟩:=zbR h
     refine zdd 7 [(0,22,.func (.func 69) #[] #[]),(1,23,.pointer (some ⟨jb1,2,none⟩)),(2,24,.int .i32 x1.Rune),(3,25,.bool led3),(4,26,.string s1),(5,27,zI (x1.At+x1.Width)),(6,28,.string (zcn s1 (x1.At+x1.Width) (s1.size:Int)))] mixed kr kr dc (by rfl) kr kr (zad ?_ (zad ?_ (zad ?_ (zad ?_ (zad ?_ (zyP 1 5 rfl (zad ?_ DrawPre.nil))))))) ?_
     · exact fun D n d c u i=>zal (k:=1) zvN rfl dc (za8 (by rfl) rfl) rfl rfl (zaJ 0 u i)
     · exact fun D n d c u i=>zaf zgx rfl dc (za8 (by rfl) rfl) (show _=2 from rfl) (zaJ 1 u i)
     · exact fun D n d c u i=>zal (k:=4) zfn rfl dc (zaX 1 u d) rfl rfl (zaJ 2 u i)
     · exact fun D n d c u i=>zal (k:=3) zvh rfl dc (za8 (by rfl) rfl) rfl rfl (zaJ 3 u i)
     · exact fun D n d c u i=>zal (k:=0) zeV rfl dc (za8 (by rfl) rfl) rfl rfl (zaJ 4 u i)
     · exact fun D n d c u i=>zb7 rfl dc (zaX 4 u d) (evO.some (zaX 5 u d)) zpj (za6 (i:=x1.At+x1.Width) (j:=(s1.size:Int)) underlying9 (.inr rfl) (.inl ⟨rfl,rfl⟩) hg3) (zaJ 6 u i)
     refine zaO (v:=.string r2) (vs:=[.int .i32 x1.Rune,.bool led3,.string (zcn s1 (x1.At+x1.Width) (s1.size:Int))]) rfl dc rfl rfl rfl zxz (zhV hq3) (zb9 (vs:=[zP b5,.string r2]) rfl dc rfl rfl rfl zwg (zqE b5 b10 r2 hg4) (zaa [2] kr rfl) ?_)
     rintro u1
     refine zaD ?_
     exact zah (b10++r2) h rfl (za4 rfl) (zaa [0,1,5,3] kr rfl)
    refine zap (zal (k:=0) zeV rfl dc rfl rfl rfl (zaf zdJ rfl dc rfl (show _=0 from rfl) (zal (k:=4) zdE rfl dc rfl rfl rfl (zyR 1 rfl ?_))))
    obtain ⟨hg5,h⟩:=zbR h
    refine zb7 rfl dc rfl rfl rfl (za6 (i:=x1.At) (j:=x1.At+x1.Width) underlying9 (.inr rfl) (.inr rfl) hg5) ?_
    obtain ⟨hg6,h⟩:=zbR h
    refine zb9 (vs:=[zP b5,.string (zcn s1 x1.At (x1.At+x1.Width))]) rfl dc rfl rfl rfl zwg (zqE b5 b10 (zcn s1 x1.At (x1.At+x1.Width)) hg6) (zaa [2] kr rfl) ?_
    rintro u2
    refine zaD ?_
    exact zah (b10++(zcn s1 x1.At (x1.At+x1.Width))) h rfl (za4 rfl) (zaa [0,1,5,3] kr rfl)
   rintro b12 h
   rw [hj2] at h
   refine zyG (zyR 1 rfl (zaR rfl zdR (zyN ?_)))
   refine zyB rfl h (fun h => ?_) (fun h => ?_)
   ·
    refine zap (zyR 1 rfl (zaR rfl za9 ?_))
    refine zaP (k:=3) (l':=[.bool (((zbD x1.Broken x1.Rune):Int)==1)]) zqP rfl rfl rfl rfl rfl (fun _ _=>rfl) rfl ?_
    refine zaD (zae ?_)
    exact zcJ (b12,((zbD x1.Broken x1.Rune):Int)==1) (fun post2 e2=>by have e9:=zcd hxs1 e2; subst e9; subst hag1; exact h) (zaa [0,1,2,3] kr rfl)
   refine zao (zae ?_)
   exact zcJ (b12,led3) (fun post2 e2=>by have e9:=zcd hxs1 e2; subst e9; subst hag1; exact h) (zaa [0,1,2,3] kr rfl)
  ·
   rintro dm1 ⟨b10,led3⟩ hinv
   have h:dn1 b10 led3=some r:=hinv [] (List.append_nil _).symm
   rw [hdn1] at h
   show TX _ _ _ _ _ _ _ [zfF ((([]:List Nat):List Nat).map zfp),emp,emp,emp,emp,cells b7 [.string r1] 9,cells b3 [.string s1] 9,cells b4 [.func (.func 69) #[] #[]] 121,ztc b5 b10,cells b6 [.bool led3] 4,zfp dm1]
   refine zey (k:=10) (j:=0) rfl rfl dc ?_
   refine zae ?_
   exact zah (b10,b5,dm1::([]:List Nat)) h rfl (za4 rfl) (zaa [8,0] kr rfl)
  rintro dm1 c pre x1 post g hxs hX
  exact (show False from hX).elim
 rintro ⟨b2,b1,ds1⟩ h
 rw [hj1] at h
 refine zyG (zb9 (vs:=[zP b1]) rfl dc rfl rfl rfl zxT (zuV b1 b2) (zaa [0] kr rfl) ?_)
 rintro _
 refine zyR 1 rfl (zyN (zaA ?_))
 cases h
 exact zfJ (rs:=[.tmp 4]) ds1 () (.inl rfl) (zcR (k:=1) rfl) results68 (.cons (.tmp rfl) .nil) rfl Splits.nil
def zfu (s1:zBA):Option zBA := zak (zdP s1) fun (r1:zBA) => some r1
theorem ziV {s1:zBA} {r:zBA} (h:zfu s1=some r):FnP prog 40 [.string s1] (.string r):=by
 unfold zfu at h
 refine FnP.intro func40 rfl ntmps40 (by simp) ?_
 intro w0 K
 refine zyG (zyR 1 rfl (zyH (zyR 1 rfl ?_)))
 obtain ⟨r1,hq1,h⟩:=zbA h
 refine zaO (v:=.string r1) (vs:=[.string s1,.func (.func 69) #[] #[]]) rfl dc rfl rfl rfl zxA (zgz hq1) (zyR 1 rfl (zyN (zaA ?_)))
 cases h
 exact zaS 2 results40
def zdN (a1:zab) (b1:zab):Option Int := grd (I64 (a1.sort - b1.sort)) <| grd (I64 (a1.place - b1.place)) <| grd (I64 ((a1.digits.size:Int) - (b1.digits.size:Int))) <| zak (zfl ([a1.sort - b1.sort,a1.place - b1.place,(a1.digits.size:Int) - (b1.digits.size:Int),Lib.compareBytes a1.digits.data.toList b1.digits.data.toList]:List Int)) fun (r1:Int) => some r1
theorem zj3 {a1:zab} {b1:zab} {r:Int} (h:zdN a1 b1=some r):FnP prog 26 [.agg (zr1 a1).toArray,.agg (zr1 b1).toArray] (zI r):=by
 unfold zdN at h
 refine FnP.intro func26 rfl ntmps26 (by simp) ?_
 intro w0 K
 refine zyG ?_
 refine zdX rfl dc rfl (fun b2 => ?_)
 refine zdX rfl dc rfl (fun b3 => ?_)
 refine zyR 1 rfl (zyN (zaL ?_))
 obtain ⟨hg1,h⟩:=zbR h
 obtain ⟨hg2,h⟩:=zbR h
 obtain ⟨hg3,h⟩:=zbR h
 obtain ⟨r1,hq1,h⟩:=zbA h
 refine zdd 22 [(0,5,zP b2),(1,6,zI a1.sort),(2,7,zP b3),(3,8,zI b1.sort),(4,9,zI (a1.sort - b1.sort)),(5,10,.pointer (some ⟨b2,1,none⟩)),(6,11,zI a1.place),(7,12,.pointer (some ⟨b3,1,none⟩)),(8,13,zI b1.place),(9,14,zI (a1.place - b1.place)),(10,15,.pointer (some ⟨b2,2,none⟩)),(11,16,.string a1.digits),(12,17,zI (a1.digits.size:Int)),(13,18,.pointer (some ⟨b3,2,none⟩)),(14,19,.string b1.digits),(15,20,zI (b1.digits.size:Int)),(16,21,zI ((a1.digits.size:Int) - (b1.digits.size:Int))),(17,22,.pointer (some ⟨b2,2,none⟩)),(18,23,.string a1.digits),(19,24,.pointer (some ⟨b3,2,none⟩)),(20,25,.string b1.digits),(21,26,zI (Lib.compareBytes a1.digits.data.toList b1.digits.data.toList))] mixed kr kr dc (by rfl) kr kr (zad ?_ (zad ?_ (zad ?_ (zad ?_ (zad ?_ (zad ?_ (zad ?_ (zad ?_ (zad ?_ (zad ?_ (zad ?_ (zad ?_ (zad ?_ (zad ?_ (zad ?_ (zad ?_ (zad ?_ (zad ?_ (zad ?_ (zad ?_ (zad ?_ (zad ?_ DrawPre.nil)))))))))))))))))))))) ?_
 · exact fun D n d c u i=>zaf zkT rfl dc (za8 (by rfl) rfl) (show _=0 from rfl) (zaJ 0 u i)
 · exact fun D n d c u i=>zal (k:=0) zdE rfl dc (zaX 0 u d) rfl rfl (zaJ 1 u i)
 · exact fun D n d c u i=>zaf zkT rfl dc (za8 (by rfl) rfl) (show _=0 from rfl) (zaJ 2 u i)
 · exact fun D n d c u i=>zal (k:=1) zdE rfl dc (zaX 2 u d) rfl rfl (zaJ 3 u i)
 · exact fun D n d c u i=>zhG rfl dc (zaX 1 u d) (zaX 3 u d) (zg6 (r:=a1.sort - b1.sort) (IntWalk.i64_in _ hg1)) (zaJ 4 u i)
 · exact fun D n d c u i=>zaf zkS rfl dc (za8 (by rfl) rfl) (show _=1 from rfl) (zaJ 5 u i)
 · exact fun D n d c u i=>zal (k:=0) zdE rfl dc (zaX 5 u d) rfl rfl (zaJ 6 u i)
 · exact fun D n d c u i=>zaf zkS rfl dc (za8 (by rfl) rfl) (show _=1 from rfl) (zaJ 7 u i)
 · exact fun D n d c u i=>zal (k:=1) zdE rfl dc (zaX 7 u d) rfl rfl (zaJ 8 u i)
 · exact fun D n d c u i=>zhG rfl dc (zaX 6 u d) (zaX 8 u d) (zg6 (r:=a1.place - b1.place) (IntWalk.i64_in _ hg2)) (zaJ 9 u i)
 · exact fun D n d c u i=>zaf zjl rfl dc (za8 (by rfl) rfl) (show _=2 from rfl) (zaJ 10 u i)
 · exact fun D n d c u i=>zal (k:=0) zeV rfl dc (zaX 10 u d) rfl rfl (zaJ 11 u i)
 · exact fun D n d c u i=>zcI rfl dc (zaX 11 u d) underlying9 (zaJ 12 u i)
 · exact fun D n d c u i=>zaf zjl rfl dc (za8 (by rfl) rfl) (show _=2 from rfl) (zaJ 13 u i)
 · exact fun D n d c u i=>zal (k:=1) zeV rfl dc (zaX 13 u d) rfl rfl (zaJ 14 u i)
 · exact fun D n d c u i=>zcI rfl dc (zaX 14 u d) underlying9 (zaJ 15 u i)
 · exact fun D n d c u i=>zhG rfl dc (zaX 12 u d) (zaX 15 u d) (zg6 (r:=(a1.digits.size:Int) - (b1.digits.size:Int)) (IntWalk.i64_in _ hg3)) (zaJ 16 u i)
 · exact fun D n d c u i=>zaf zjl rfl dc (za8 (by rfl) rfl) (show _=2 from rfl) (zaJ 17 u i)
 · exact fun D n d c u i=>zal (k:=0) zeV rfl dc (zaX 17 u d) rfl rfl (zaJ 18 u i)
 · exact fun D n d c u i=>zaf zjl rfl dc (za8 (by rfl) rfl) (show _=2 from rfl) (zaJ 19 u i)
 · exact fun D n d c u i=>zal (k:=1) zeV rfl dc (zaX 19 u d) rfl rfl (zaJ 20 u i)
 · exact fun D n d c u i=>zaO (v:=zI (Lib.compareBytes a1.digits.data.toList b1.digits.data.toList)) (vs:=[.string a1.digits,.string b1.digits]) rfl dc rfl (evL.cons (zaX 18 u d) (evL.cons (zaX 20 u d) evL.nil)) rfl zuD (zqY a1.digits b1.digits) (zaJ 21 u i)
 refine zaT (cs:=[zI (a1.sort - b1.sort),zI (a1.place - b1.place),zI ((a1.digits.size:Int) - (b1.digits.size:Int)),zI (Lib.compareBytes a1.digits.data.toList b1.digits.data.toList)]) (te:=3) (ps:=[(0,.tmp 9),(1,.tmp 14),(2,.tmp 21),(3,.tmp 26)]) rfl dc rfl (fun _=>by kernel_rfl) (fun b4 => ?_)
 refine zgm ([a1.sort - b1.sort,a1.place - b1.place,(a1.digits.size:Int) - (b1.digits.size:Int),Lib.compareBytes a1.digits.data.toList b1.digits.data.toList]:List Int) (k:=2) rfl zdc rfl (show 4≤maxLen by decide) ?_
 refine zej (k:=2) rfl (fun hw1 => ?_)
 refine zee (v:=zI r1) (vs:=[.slice (some ⟨b4,0,none⟩) 4 4]) (Rd.nil:Rd _ _ []) rfl dc rfl rfl rfl zxJ (zlu hw1 hq1) (.own (As:=[vec (zkV (.i64)) 3 1 (.slice (some ⟨b4,0,none⟩) 4 4) ([a1.sort - b1.sort,a1.place - b1.place,(a1.digits.size:Int) - (b1.digits.size:Int),Lib.compareBytes a1.digits.data.toList b1.digits.data.toList]:List Int)]) (zaa [2] kr rfl) (fun _ _ h=>zd9 zdc (sepL.one1.1 h)) .nil) ?_
 refine zyR 1 rfl (zyN (zaA ?_))
 cases h
 exact zaS 4 results26
def zc3 (p1:zab) (q1:zab):Option Int := some (Lib.compareBytes p1.marks.data.toList q1.marks.data.toList)
theorem zgd {p1:zab} {q1:zab} {r:Int} (h:zc3 p1 q1=some r):FnP prog 27 [.agg (zr1 p1).toArray,.agg (zr1 q1).toArray] (zI r):=by
 unfold zc3 at h
 refine FnP.intro func27 rfl ntmps27 (by simp) ?_
 intro w0 K
 refine zyG ?_
 refine zdX rfl dc rfl (fun b1 => ?_)
 refine zdX rfl dc rfl (fun b2 => ?_)
 refine zyR 1 rfl (zyH (zaf zmC rfl dc rfl (show _=3 from rfl) (zal (k:=0) zeV rfl dc rfl rfl rfl (zaf zmC rfl dc rfl (show _=3 from rfl) (zal (k:=1) zeV rfl dc rfl rfl rfl (zaO (v:=zI (Lib.compareBytes p1.marks.data.toList q1.marks.data.toList)) (vs:=[.string p1.marks,.string q1.marks]) rfl dc rfl rfl rfl zuD (zqY p1.marks q1.marks) (zyR 1 rfl (zyN (zaA ?_)))))))))
 cases h
 exact zaS 4 results27
def zc2 (p1:zab) (q1:zab):Option Int := grd (I64 (p1.great - q1.great)) <| some (p1.great - q1.great)
theorem zgc {p1:zab} {q1:zab} {r:Int} (h:zc2 p1 q1=some r):FnP prog 29 [.agg (zr1 p1).toArray,.agg (zr1 q1).toArray] (zI r):=by
 unfold zc2 at h
 refine FnP.intro func29 rfl ntmps29 (by simp) ?_
 intro w0 K
 refine zyG ?_
 refine zdX rfl dc rfl (fun b1 => ?_)
 refine zdX rfl dc rfl (fun b2 => ?_)
 refine zyR 1 rfl (zyH (zaf zov rfl dc rfl (show _=4 from rfl) (zal (k:=0) zdE rfl dc rfl rfl rfl (zaf zov rfl dc rfl (show _=4 from rfl) (zal (k:=1) zdE rfl dc rfl rfl rfl ?_)))))
 obtain ⟨hg1,h⟩:=zbR h
 refine zaR rfl (zg6 (r:=p1.great - q1.great) (IntWalk.i64_in _ hg1)) (zyR 1 rfl (zyN (zaA ?_)))
 cases h
 exact zaS 4 results29
def zdA (n1:Int):Option Int := zak (zei n1 0) fun (r1:Int) => some r1
theorem zf3 {n1:Int} {r:Int} (h:zdA n1=some r):FnP prog 31 [zI n1] (zI r):=by
 unfold zdA at h
 refine FnP.intro func31 rfl ntmps31 (by simp) ?_
 intro w0 K
 refine zyG (zyR 1 rfl (zyH (zyR 1 rfl ?_)))
 obtain ⟨r1,hq1,h⟩:=zbA h
 refine zaO (v:=zI r1) (vs:=[zI n1,zI 0]) rfl dc rfl rfl rfl zxI (zif hq1) (zyR 1 rfl (zyN (zaA ?_)))
 cases h
 exact zaS 2 results31
def zav (s1x1:List zab) (s2x1:List zab) (j1:Option Int) (ag1:Int→Option Int) (x3:Int):Option Int := zar (decide ((x3:Int)<(s1x1.length:Int))) ( zak (zea s1x1 x3) fun (q1:zab) => zar (decide (((s2x1.length:Int):Int)≤x3)) ( some 1
) ( zak (zea s2x1 x3) fun (q2:zab) => zak (zdN q1 q2) fun (r1:Int) => zar ((r1:Int) != 0) ( some r1
) ( grd (I64 (x3+1)) <| ag1 (x3+1)
)
)
) ( j1
)
def zaw (s1x1:List zab) (s2x1:List zab):Option Int := zbx (fun (j1:Option Int) => zaW (fun _=>none) (zav s1x1 s2x1 j1) zcy 0
) ( zar (decide (((s1x1.length:Int):Int)<(s2x1.length:Int))) ( some (-1)
) ( some 0
)
)
theorem zbw {vvs1x1 vs1x1:Value} {Ls1x1:List zab} {ks1x1:Nat} {s1x1:List zab} (hws1x1:Vw vvs1x1 Ls1x1 5 ks1x1 vs1x1 s1x1) {vvs2x1 vs2x1:Value} {Ls2x1:List zab} {ks2x1:Nat} {s2x1:List zab} (hws2x1:Vw vvs2x1 Ls2x1 5 ks2x1 vs2x1 s2x1) {r:Int} (h:zaw s1x1 s2x1=some r):FnR prog 30 [vs1x1,vs2x1,.func (.func 26) #[] #[]] [zeW zbo 5 vvs1x1 ks1x1 Ls1x1,zeW zbo 5 vvs2x1 ks2x1 Ls2x1] [] (fun _:Unit=>(zI r)) (fun _=>[]):=by
 unfold zaw at h
 refine FnR.intro func30 rfl ntmps30 (by simp) ?_
 intro w0 K hrd
 obtain ⟨j1,hj1,h⟩:=zbP h
 refine za0 (β:=Unit) 1 rfl (fun b=>j1=some r) (fun b=>[]) (fun b=>[(0,vs1x1),(1,vs2x1)]) (fun b=>[]) (fun cut => ?_) ?_
 ·
  refine zyG (zyR 1 rfl (zyN (cut (zyG (zyR 1 rfl (zcm hws1x1 rfl dc rfl underlying62 (zyR 1 rfl (zyN (zaz ?_)))))))))
  refine zbN (β:=Nat×Int) (fun b=>zaW (fun _=>none) (zav s1x1 s2x1 j1) b.1 b.2=some r) (fun b=>[]) (fun b=>[(0,vs1x1),(1,vs2x1),(2,.func (.func 26) #[] #[]),(11,vs1x1),(12,zI (s1x1.length:Int)),(13,zI b.2)]) (fun b=>[]) (fun b=>b.1) (zcy,0) h rfl (za4 rfl) Splits.nil ?_
  rintro ⟨n1,x3⟩ h
  cases n1 with
  | zero=>exact zeq h
  | succ n1 =>
   obtain ⟨ag1,hag1⟩:∃ ag,ag=zaW (fun _=>none) (zav s1x1 s2x1 j1) n1:=⟨_,rfl⟩
   have h:zav s1x1 s2x1 j1 ag1 x3=some r:=by rw [hag1]; exact h
   unfold zav at h
   refine zyG (zaR rfl zbk (zyN (zaL ?_)))
   refine zyB rfl h (fun h => ?_) (fun h => ?_)
   ·
    refine zao (zaF (zaL (zaz (zyG (zyR 1 rfl ?_)))))
    obtain ⟨q1,hq1,h⟩:=zbA h
    refine zbf hws1x1 hq1 underlying62 zgq rfl dc rfl rfl rfl (zcA (m:=ks1x1+(x3:Int).toNat) (j:=0) (i:=0) (q:=q1) (cs:=(zr1 q1)) hrd rfl (by omega) zho rfl dc rfl (Vw.get hws1x1 hq1) rfl rfl rfl ?_)
    refine za3 zlc rfl dc (fun b1 => ?_)
    refine zyR 1 rfl (za2 (k:=0) (vs:=(zr1 q1)) (l':=(zr1 q1)) zgq rfl rfl rfl rfl rfl (show _≤_ by simp) rfl rfl ?_)
    refine zyN (zaL (zyG (zyR 2 rfl (zcm hws2x1 rfl dc rfl underlying62 (zaR rfl zbj (zyN ?_))))))
    refine zyB rfl h (fun h => ?_) (fun h => ?_)
    ·
     refine zyG (zyR 1 rfl (zyN (zaA (zaj (zan (zaj (zaj (zan (zaj ?_)))))))))
     cases h
     exact zaS 6 results30
    refine zao (zaF (zyG (zyR 2 rfl ?_)))
    obtain ⟨q2,hq2,h⟩:=zbA h
    refine zbf hws2x1 hq2 underlying62 zgq rfl dc rfl rfl rfl (zcA (m:=ks2x1+(x3:Int).toNat) (j:=0) (i:=1) (q:=q2) (cs:=(zr1 q2)) hrd rfl (by omega) zho rfl dc rfl (Vw.get hws2x1 hq2) rfl rfl rfl ?_)
    refine za3 zlc rfl dc (fun b2 => ?_)
    refine za2 (k:=1) (vs:=(zr1 q2)) (l':=(zr1 q2)) zgq rfl rfl rfl rfl rfl (show _≤_ by simp) rfl rfl ?_
    refine zyH (zyR 1 rfl (zbW (k:=0) (cs:=(zr1 q1)) zho rfl dc rfl rfl rfl rfl (zbW (k:=1) (cs:=(zr1 q2)) zho rfl dc rfl rfl rfl rfl ?_)))
    obtain ⟨r1,hq3,h⟩:=zbA h
    refine zaO (v:=zI r1) (vs:=[.agg (zr1 q1).toArray,.agg (zr1 q2).toArray]) rfl dc rfl rfl rfl zxX (zj3 (a1:=q1) (b1:=q2) hq3) (zyR 1 rfl (zyH (zyR 1 rfl (zaR rfl zdR (zyN ?_)))))
    refine zyB rfl h (fun h => ?_) (fun h => ?_)
    ·
     refine zyG (zyR 2 rfl (zyN (zaA (zan (zaj (zaj (zan (zaj ?_))))))))
     cases h
     exact zaS 6 results30
    refine zao (zae (zaF (zap ?_)))
    obtain ⟨hg1,h⟩:=zbR h
    refine zaR rfl (zbc (r:=x3+1) (IntWalk.i64_in _ hg1)) (zyR 1 rfl (zaD ?_))
    subst hag1
    exact zbr (n1,x3+1) h (Nat.lt_succ_self _) rfl (za4 rfl) Splits.nil
   refine zbz (zaq (zaq (zaG ?_)))
   exact zah () h rfl (za4 rfl) Splits.nil
 rintro _ h
 rw [hj1] at h
 refine zaL (zyG (zyR 1 rfl (zcm hws1x1 rfl dc rfl underlying62 (zyR 1 rfl (zcm hws2x1 rfl dc rfl underlying62 (zaR rfl zbk (zyN ?_)))))))
 refine zyB rfl h (fun h => ?_) (fun h => ?_)
 ·
  refine zyG (zyR 1 rfl (zyN (zaA (zaj ?_))))
  cases h
  exact zaS 6 results30
 refine zao (zaF (zyG (zyR 1 rfl (zyN (zaA ?_)))))
 cases h
 exact zaS 6 results30
def zat (s1x1:List zab) (s2x1:List zab) (j1:Option Int) (ag1:Int→Option Int) (x3:Int):Option Int := zar (decide ((x3:Int)<(s1x1.length:Int))) ( zak (zea s1x1 x3) fun (q1:zab) => zar (decide (((s2x1.length:Int):Int)≤x3)) ( some 1
) ( zak (zea s2x1 x3) fun (q2:zab) => zak (zc3 q1 q2) fun (r1:Int) => zar ((r1:Int) != 0) ( some r1
) ( grd (I64 (x3+1)) <| ag1 (x3+1)
)
)
) ( j1
)
def zaC (s1x1:List zab) (s2x1:List zab):Option Int := zbx (fun (j1:Option Int) => zaW (fun _=>none) (zat s1x1 s2x1 j1) zcy 0
) ( zar (decide (((s1x1.length:Int):Int)<(s2x1.length:Int))) ( some (-1)
) ( some 0
)
)
theorem zbq {vvs1x1 vs1x1:Value} {Ls1x1:List zab} {ks1x1:Nat} {s1x1:List zab} (hws1x1:Vw vvs1x1 Ls1x1 5 ks1x1 vs1x1 s1x1) {vvs2x1 vs2x1:Value} {Ls2x1:List zab} {ks2x1:Nat} {s2x1:List zab} (hws2x1:Vw vvs2x1 Ls2x1 5 ks2x1 vs2x1 s2x1) {r:Int} (h:zaC s1x1 s2x1=some r):FnR prog 30 [vs1x1,vs2x1,.func (.func 27) #[] #[]] [zeW zbo 5 vvs1x1 ks1x1 Ls1x1,zeW zbo 5 vvs2x1 ks2x1 Ls2x1] [] (fun _:Unit=>(zI r)) (fun _=>[]):=by
 unfold zaC at h
 refine FnR.intro func30 rfl ntmps30 (by simp) ?_
 intro w0 K hrd
 obtain ⟨j1,hj1,h⟩:=zbP h
 refine za0 (β:=Unit) 1 rfl (fun b=>j1=some r) (fun b=>[]) (fun b=>[(0,vs1x1),(1,vs2x1)]) (fun b=>[]) (fun cut => ?_) ?_
 ·
  refine zyG (zyR 1 rfl (zyN (cut (zyG (zyR 1 rfl (zcm hws1x1 rfl dc rfl underlying62 (zyR 1 rfl (zyN (zaz ?_)))))))))
  refine zbN (β:=Nat×Int) (fun b=>zaW (fun _=>none) (zat s1x1 s2x1 j1) b.1 b.2=some r) (fun b=>[]) (fun b=>[(0,vs1x1),(1,vs2x1),(2,.func (.func 27) #[] #[]),(11,vs1x1),(12,zI (s1x1.length:Int)),(13,zI b.2)]) (fun b=>[]) (fun b=>b.1) (zcy,0) h rfl (za4 rfl) Splits.nil ?_
  rintro ⟨n1,x3⟩ h
  cases n1 with
  | zero=>exact zeq h
  | succ n1 =>
   obtain ⟨ag1,hag1⟩:∃ ag,ag=zaW (fun _=>none) (zat s1x1 s2x1 j1) n1:=⟨_,rfl⟩
   have h:zat s1x1 s2x1 j1 ag1 x3=some r:=by rw [hag1]; exact h
   unfold zat at h
   refine zyG (zaR rfl zbk (zyN (zaL ?_)))
   refine zyB rfl h (fun h => ?_) (fun h => ?_)
   ·
    refine zao (zaF (zaL (zaz (zyG (zyR 1 rfl ?_)))))
    obtain ⟨q1,hq1,h⟩:=zbA h
    refine zbf hws1x1 hq1 underlying62 zgq rfl dc rfl rfl rfl (zcA (m:=ks1x1+(x3:Int).toNat) (j:=0) (i:=0) (q:=q1) (cs:=(zr1 q1)) hrd rfl (by omega) zho rfl dc rfl (Vw.get hws1x1 hq1) rfl rfl rfl ?_)
    refine za3 zlc rfl dc (fun b1 => ?_)
    refine zyR 1 rfl (za2 (k:=0) (vs:=(zr1 q1)) (l':=(zr1 q1)) zgq rfl rfl rfl rfl rfl (show _≤_ by simp) rfl rfl ?_)
    refine zyN (zaL (zyG (zyR 2 rfl (zcm hws2x1 rfl dc rfl underlying62 (zaR rfl zbj (zyN ?_))))))
    refine zyB rfl h (fun h => ?_) (fun h => ?_)
    ·
     refine zyG (zyR 1 rfl (zyN (zaA (zaj (zan (zaj (zaj (zan (zaj ?_)))))))))
     cases h
     exact zaS 6 results30
    refine zao (zaF (zyG (zyR 2 rfl ?_)))
    obtain ⟨q2,hq2,h⟩:=zbA h
    refine zbf hws2x1 hq2 underlying62 zgq rfl dc rfl rfl rfl (zcA (m:=ks2x1+(x3:Int).toNat) (j:=0) (i:=1) (q:=q2) (cs:=(zr1 q2)) hrd rfl (by omega) zho rfl dc rfl (Vw.get hws2x1 hq2) rfl rfl rfl ?_)
    refine za3 zlc rfl dc (fun b2 => ?_)
    refine za2 (k:=1) (vs:=(zr1 q2)) (l':=(zr1 q2)) zgq rfl rfl rfl rfl rfl (show _≤_ by simp) rfl rfl ?_
    refine zyH (zyR 1 rfl (zbW (k:=0) (cs:=(zr1 q1)) zho rfl dc rfl rfl rfl rfl (zbW (k:=1) (cs:=(zr1 q2)) zho rfl dc rfl rfl rfl rfl ?_)))
    obtain ⟨r1,hq3,h⟩:=zbA h
    refine zaO (v:=zI r1) (vs:=[.agg (zr1 q1).toArray,.agg (zr1 q2).toArray]) rfl dc rfl rfl rfl zxW (zgd (p1:=q1) (q1:=q2) hq3) (zyR 1 rfl (zyH (zyR 1 rfl (zaR rfl zdR (zyN ?_)))))
    refine zyB rfl h (fun h => ?_) (fun h => ?_)
    ·
     refine zyG (zyR 2 rfl (zyN (zaA (zan (zaj (zaj (zan (zaj ?_))))))))
     cases h
     exact zaS 6 results30
    refine zao (zae (zaF (zap ?_)))
    obtain ⟨hg1,h⟩:=zbR h
    refine zaR rfl (zbc (r:=x3+1) (IntWalk.i64_in _ hg1)) (zyR 1 rfl (zaD ?_))
    subst hag1
    exact zbr (n1,x3+1) h (Nat.lt_succ_self _) rfl (za4 rfl) Splits.nil
   refine zbz (zaq (zaq (zaG ?_)))
   exact zah () h rfl (za4 rfl) Splits.nil
 rintro _ h
 rw [hj1] at h
 refine zaL (zyG (zyR 1 rfl (zcm hws1x1 rfl dc rfl underlying62 (zyR 1 rfl (zcm hws2x1 rfl dc rfl underlying62 (zaR rfl zbk (zyN ?_)))))))
 refine zyB rfl h (fun h => ?_) (fun h => ?_)
 ·
  refine zyG (zyR 1 rfl (zyN (zaA (zaj ?_))))
  cases h
  exact zaS 6 results30
 refine zao (zaF (zyG (zyR 1 rfl (zyN (zaA ?_)))))
 cases h
 exact zaS 6 results30
def zas (s1x1:List zab) (s2x1:List zab) (j1:Option Int) (ag1:Int→Option Int) (x3:Int):Option Int := zar (decide ((x3:Int)<(s1x1.length:Int))) ( zak (zea s1x1 x3) fun (q1:zab) => zar (decide (((s2x1.length:Int):Int)≤x3)) ( some 1
) ( zak (zea s2x1 x3) fun (q2:zab) => zak (zc2 q1 q2) fun (r1:Int) => zar ((r1:Int) != 0) ( some r1
) ( grd (I64 (x3+1)) <| ag1 (x3+1)
)
)
) ( j1
)
def zaB (s1x1:List zab) (s2x1:List zab):Option Int := zbx (fun (j1:Option Int) => zaW (fun _=>none) (zas s1x1 s2x1 j1) zcy 0
) ( zar (decide (((s1x1.length:Int):Int)<(s2x1.length:Int))) ( some (-1)
) ( some 0
)
)
theorem zbp {vvs1x1 vs1x1:Value} {Ls1x1:List zab} {ks1x1:Nat} {s1x1:List zab} (hws1x1:Vw vvs1x1 Ls1x1 5 ks1x1 vs1x1 s1x1) {vvs2x1 vs2x1:Value} {Ls2x1:List zab} {ks2x1:Nat} {s2x1:List zab} (hws2x1:Vw vvs2x1 Ls2x1 5 ks2x1 vs2x1 s2x1) {r:Int} (h:zaB s1x1 s2x1=some r):FnR prog 30 [vs1x1,vs2x1,.func (.func 29) #[] #[]] [zeW zbo 5 vvs1x1 ks1x1 Ls1x1,zeW zbo 5 vvs2x1 ks2x1 Ls2x1] [] (fun _:Unit=>(zI r)) (fun _=>[]):=by
 unfold zaB at h
 refine FnR.intro func30 rfl ntmps30 (by simp) ?_
 intro w0 K hrd
 obtain ⟨j1,hj1,h⟩:=zbP h
 refine za0 (β:=Unit) 1 rfl (fun b=>j1=some r) (fun b=>[]) (fun b=>[(0,vs1x1),(1,vs2x1)]) (fun b=>[]) (fun cut => ?_) ?_
 ·
  refine zyG (zyR 1 rfl (zyN (cut (zyG (zyR 1 rfl (zcm hws1x1 rfl dc rfl underlying62 (zyR 1 rfl (zyN (zaz ?_)))))))))
  refine zbN (β:=Nat×Int) (fun b=>zaW (fun _=>none) (zas s1x1 s2x1 j1) b.1 b.2=some r) (fun b=>[]) (fun b=>[(0,vs1x1),(1,vs2x1),(2,.func (.func 29) #[] #[]),(11,vs1x1),(12,zI (s1x1.length:Int)),(13,zI b.2)]) (fun b=>[]) (fun b=>b.1) (zcy,0) h rfl (za4 rfl) Splits.nil ?_
  rintro ⟨n1,x3⟩ h
  cases n1 with
  | zero=>exact zeq h
  | succ n1 =>
   obtain ⟨ag1,hag1⟩:∃ ag,ag=zaW (fun _=>none) (zas s1x1 s2x1 j1) n1:=⟨_,rfl⟩
   have h:zas s1x1 s2x1 j1 ag1 x3=some r:=by rw [hag1]; exact h
   unfold zas at h
   refine zyG (zaR rfl zbk (zyN (zaL ?_)))
   refine zyB rfl h (fun h => ?_) (fun h => ?_)
   ·
    refine zao (zaF (zaL (zaz (zyG (zyR 1 rfl ?_)))))
    obtain ⟨q1,hq1,h⟩:=zbA h
    refine zbf hws1x1 hq1 underlying62 zgq rfl dc rfl rfl rfl (zcA (m:=ks1x1+(x3:Int).toNat) (j:=0) (i:=0) (q:=q1) (cs:=(zr1 q1)) hrd rfl (by omega) zho rfl dc rfl (Vw.get hws1x1 hq1) rfl rfl rfl ?_)
    refine za3 zlc rfl dc (fun b1 => ?_)
    refine zyR 1 rfl (za2 (k:=0) (vs:=(zr1 q1)) (l':=(zr1 q1)) zgq rfl rfl rfl rfl rfl (show _≤_ by simp) rfl rfl ?_)
    refine zyN (zaL (zyG (zyR 2 rfl (zcm hws2x1 rfl dc rfl underlying62 (zaR rfl zbj (zyN ?_))))))
    refine zyB rfl h (fun h => ?_) (fun h => ?_)
    ·
     refine zyG (zyR 1 rfl (zyN (zaA (zaj (zan (zaj (zaj (zan (zaj ?_)))))))))
     cases h
     exact zaS 6 results30
    refine zao (zaF (zyG (zyR 2 rfl ?_)))
    obtain ⟨q2,hq2,h⟩:=zbA h
    refine zbf hws2x1 hq2 underlying62 zgq rfl dc rfl rfl rfl (zcA (m:=ks2x1+(x3:Int).toNat) (j:=0) (i:=1) (q:=q2) (cs:=(zr1 q2)) hrd rfl (by omega) zho rfl dc rfl (Vw.get hws2x1 hq2) rfl rfl rfl ?_)
    refine za3 zlc rfl dc (fun b2 => ?_)
    refine za2 (k:=1) (vs:=(zr1 q2)) (l':=(zr1 q2)) zgq rfl rfl rfl rfl rfl (show _≤_ by simp) rfl rfl ?_
    refine zyH (zyR 1 rfl (zbW (k:=0) (cs:=(zr1 q1)) zho rfl dc rfl rfl rfl rfl (zbW (k:=1) (cs:=(zr1 q2)) zho rfl dc rfl rfl rfl rfl ?_)))
    obtain ⟨r1,hq3,h⟩:=zbA h
    refine zaO (v:=zI r1) (vs:=[.agg (zr1 q1).toArray,.agg (zr1 q2).toArray]) rfl dc rfl rfl rfl zxV (zgc (p1:=q1) (q1:=q2) hq3) (zyR 1 rfl (zyH (zyR 1 rfl (zaR rfl zdR (zyN ?_)))))
    refine zyB rfl h (fun h => ?_) (fun h => ?_)
    ·
     refine zyG (zyR 2 rfl (zyN (zaA (zan (zaj (zaj (zan (zaj ?_))))))))
     cases h
     exact zaS 6 results30
    refine zao (zae (zaF (zap ?_)))
    obtain ⟨hg1,h⟩:=zbR h
    refine zaR rfl (zbc (r:=x3+1) (IntWalk.i64_in _ hg1)) (zyR 1 rfl (zaD ?_))
    subst hag1
    exact zbr (n1,x3+1) h (Nat.lt_succ_self _) rfl (za4 rfl) Splits.nil
   refine zbz (zaq (zaq (zaG ?_)))
   exact zah () h rfl (za4 rfl) Splits.nil
 rintro _ h
 rw [hj1] at h
 refine zaL (zyG (zyR 1 rfl (zcm hws1x1 rfl dc rfl underlying62 (zyR 1 rfl (zcm hws2x1 rfl dc rfl underlying62 (zaR rfl zbk (zyN ?_)))))))
 refine zyB rfl h (fun h => ?_) (fun h => ?_)
 ·
  refine zyG (zyR 1 rfl (zyN (zaA (zaj ?_))))
  cases h
  exact zaS 6 results30
 refine zao (zaF (zyG (zyR 1 rfl (zyN (zaA ?_)))))
 cases h
 exact zaS 6 results30
def zbI (o1:zac) (a1:zBA) (b1:zBA):Option (Int×Int) := zar (decide (a1=b1)) ( some (0,0)
) ( zbx (fun (j1:Option (Int×Int)) => zak (zbE o1 a1) fun (r1:(List zab)) => zak (zbE o1 b1) fun (r2:(List zab)) => zak (zaw r1 r2) fun (r3:Int) => zar ((r3:Int) != 0) ( zak (zdA r3) fun (r4:Int) => some (r4,1)
) ( zak (zaC r1 r2) fun (r5:Int) => zar ((r5:Int) != 0) ( zak (zdA r5) fun (r6:Int) => some (r6,2)
) ( zak (zaB r1 r2) fun (r7:Int) => zar ((r7:Int) != 0) ( zak (zdA r7) fun (r8:Int) => some (r8,3)
) ( j1
)
)
)
) ( some (Lib.compareBytes a1.data.toList b1.data.toList,4)
)
)
theorem zc8 {bo1:Nat} {o1:zac} {o1_h0 o1_h1 o1_h2 o1_h3 o1_h4:Hd} {a1:zBA} {b1:zBA} {r:(Int×Int)} (h:zbI o1 a1 b1=some r):FnR prog 11 [zP bo1,.string a1,.string b1] [cells bo1 [o1_h0.v,.map (some (za7 o1_h1)),.map (some (za7 o1_h2)),.map (some (za7 o1_h3)),o1_h4.v] 79,zv0 o1_h0.v o1.units,zbO (fun n:zBA=>Value.string n) (fun n:Int=>Value.int .i64 n) (za7 o1_h1) o1.place,zcB (za7 o1_h2) o1.fors,zbO (fun n:zBA=>Value.string n) (fun n:Bool=>Value.bool n) (za7 o1_h3) o1.skips,zv0 o1_h4.v o1.lines] [] (fun _:Unit=>(.tuple #[zI r.1,zI r.2])) (fun _=>[]):=by
 unfold zbI at h
 refine FnR.intro func11 rfl ntmps11 (by simp) ?_
 intro w0 K hrd
 refine zyG (zyR 2 rfl (zyN (zaL (zyG (zyR 1 rfl (zaR rfl (zgC underlying23) (zyR 3 rfl ?_)))))))
 refine zaR rfl zeH (zyR 1 rfl (zyN ?_))
 refine zyB rfl h (fun h => ?_) (fun h => ?_)
 ·
  refine zyG (zyR 2 rfl (zyN (zaA (zaj ?_))))
  cases h
  exact zcj (rs:=[.tmp 6,.tmp 7]) () (.inl rfl) results11 (.cons (.tmp rfl) (.cons (.tmp rfl) .nil)) rfl Splits.nil
 refine zao (zaF ?_)
 obtain ⟨j1,hj1,h⟩:=zbP h
 refine za0 (β:=Unit) 2 rfl (fun b=>j1=some r) (fun b=>[]) (fun b=>[(1,.string a1),(2,.string b1)]) (fun b=>[]) (fun cut => ?_) ?_
 ·
  refine zyG (zyR 2 rfl ?_)
  obtain ⟨r1,hq1,h⟩:=zbA h
  refine zgn (vs:=[zP bo1,.string a1]) hrd rfl dc rfl rfl rfl zs4 (zc1 (bo1:=bo1) (o1:=o1) (o1_h0:=o1_h0) (o1_h1:=o1_h1) (o1_h2:=o1_h2) (o1_h3:=o1_h3) (o1_h4:=o1_h4) hq1) Splits.nil (.ro 0 rfl (.ro 1 rfl (.ro 2 rfl (.ro 3 rfl (.ro 4 rfl (.ro 5 rfl .nil)))))) ?_
  rintro v1
  refine zcl (k:=0) rfl (fun hd1 he1 => ?_)
  subst he1
  refine zyR 2 rfl ?_
  obtain ⟨r2,hq2,h⟩:=zbA h
  refine zgn (vs:=[zP bo1,.string b1]) hrd rfl dc rfl rfl rfl zs4 (zc1 (bo1:=bo1) (o1:=o1) (o1_h0:=o1_h0) (o1_h1:=o1_h1) (o1_h2:=o1_h2) (o1_h3:=o1_h3) (o1_h4:=o1_h4) hq2) Splits.nil (.ro 0 rfl (.ro 1 rfl (.ro 2 rfl (.ro 3 rfl (.ro 4 rfl (.ro 5 rfl .nil)))))) ?_
  rintro v2
  refine zcl (k:=1) rfl (fun hd2 he2 => ?_)
  subst he2
  refine zyR 2 rfl (zyH ?_)
  refine zci (v:=.agg #[.func (.func 26) #[] #[],.func (.func 27) #[] #[],.func (.func 29) #[] #[]]) (ps:=[(0,.func 26),(1,.func 27),(2,.func 29)]) rfl dc rfl (fun _=>by kernel_rfl) ?_
  refine za3 zwL rfl dc (fun b2 => ?_)
  refine za2 (k:=2) (vs:=[.func (.func 26) #[] #[],.func (.func 27) #[] #[],.func (.func 29) #[] #[]]) (l':=[.func (.func 26) #[] #[],.func (.func 27) #[] #[],.func (.func 29) #[] #[]]) zwT rfl rfl rfl rfl rfl (show _≤_ by simp) rfl rfl ?_
  refine zyN (cut (zyG (zbW (k:=2) (cs:=[.func (.func 26) #[] #[],.func (.func 27) #[] #[],.func (.func 29) #[] #[]]) zwY rfl dc rfl rfl rfl rfl (zyR 1 rfl (zyN (zaz (zpw 4 (zij (zyG ?_)))))))))
  refine zaR rfl (zf5 (show Value.bool (decide ((0:Int)<3))=Value.bool true from congrArg Value.bool dc) zbk) (zyN (zaL (zbC rfl (zao (zaF (zaL (zaz (zyG (zyR 1 rfl ?_)))))))))
  refine zfB (v:=.func (.func 26) #[] #[]) rfl dc rfl rfl (fun _=>by kernel_rfl) ?_
  refine zyR 2 rfl (zyH (zyR 3 rfl ?_))
  refine zej (k:=0) rfl (fun hw1 => ?_)
  refine zej (k:=1) rfl (fun hw2 => ?_)
  obtain ⟨r3,hq3,h⟩:=zbA h
  refine zee (v:=zI r3) (vs:=[hd1.v,hd2.v,.func (.func 26) #[] #[]]) hrd rfl dc rfl rfl rfl zuC (zbw hw1 hw2 hq3) (.own (As:=[zv2 hd1.v r1]) (zaa [0] kr rfl) (fun _ _ h=>zd9 za1 (sepL.one1.1 h)) (.own (As:=[zv2 hd2.v r2]) (zaa [1] kr rfl) (fun _ _ h=>zd9 za1 (sepL.one1.1 h)) .nil)) ?_
  refine zyR 1 rfl (zyH (zyR 1 rfl (zaR rfl zdR (zyN ?_))))
  refine zyB rfl h (fun h => ?_) (fun h => ?_)
  ·
   refine zyG (zyR 1 rfl ?_)
   obtain ⟨r4,hq4,h⟩:=zbA h
   refine zaO (v:=zI r4) (vs:=[zI r3]) rfl dc rfl rfl rfl zuB (zf3 hq4) (zyR 1 rfl (zaR rfl (zbc (r:=1) dc) (zyR 2 rfl (zyN (zaA (zan (zaj (zaj (zan (zaj ?_))))))))))
   cases h
   exact zcj (rs:=[.tmp 6,.tmp 7]) () (.inl rfl) results11 (.cons (.tmp rfl) (.cons (.tmp rfl) .nil)) rfl Splits.nil
  refine zao (zae (zaF (zap (zaR rfl (zbc (r:=1) dc) (zyR 1 rfl (zaD (zi0 (zij (zyG (zaR rfl (zf5 (show Value.bool (decide ((1:Int)<3))=Value.bool true from congrArg Value.bool dc) zbk) (zyN ?_)))))))))))
  refine zaL (zbC rfl (zao (zaF (zaL (zaz (zyG (zyR 1 rfl ?_)))))))
  refine zfB (v:=.func (.func 27) #[] #[]) rfl dc rfl rfl (fun _=>by kernel_rfl) ?_
  refine zyR 2 rfl (zyH (zyR 3 rfl ?_))
  refine zej (k:=0) rfl (fun hw3 => ?_)
  refine zej (k:=1) rfl (fun hw4 => ?_)
  obtain ⟨r5,hq5,h⟩:=zbA h
  refine zee (v:=zI r5) (vs:=[hd1.v,hd2.v,.func (.func 27) #[] #[]]) hrd rfl dc rfl rfl rfl zuC (zbq hw3 hw4 hq5) (.own (As:=[zv2 hd1.v r1]) (zaa [0] kr rfl) (fun _ _ h=>zd9 za1 (sepL.one1.1 h)) (.own (As:=[zv2 hd2.v r2]) (zaa [1] kr rfl) (fun _ _ h=>zd9 za1 (sepL.one1.1 h)) .nil)) ?_
  refine zyR 1 rfl (zyH (zyR 1 rfl (zaR rfl zdR (zyN ?_))))
  refine zyB rfl h (fun h => ?_) (fun h => ?_)
  ·
   refine zyG (zyR 1 rfl ?_)
   obtain ⟨r6,hq6,h⟩:=zbA h
   refine zaO (v:=zI r6) (vs:=[zI r5]) rfl dc rfl rfl rfl zuB (zf3 hq6) (zyR 1 rfl (zaR rfl (zbc (r:=2) dc) (zyR 2 rfl (zyN (zaA (zan (zaj (zaj (zan (zaj ?_))))))))))
   cases h
   exact zcj (rs:=[.tmp 6,.tmp 7]) () (.inl rfl) results11 (.cons (.tmp rfl) (.cons (.tmp rfl) .nil)) rfl Splits.nil
  refine zao (zae (zaF (zap (zaR rfl (zbc (r:=2) dc) (zyR 1 rfl (zaD (zi0 (zij (zyG (zaR rfl (zf5 (show Value.bool (decide ((2:Int)<3))=Value.bool true from congrArg Value.bool dc) zbk) (zyN ?_)))))))))))
  refine zaL (zbC rfl (zao (zaF (zaL (zaz (zyG (zyR 1 rfl ?_)))))))
  refine zfB (v:=.func (.func 29) #[] #[]) rfl dc rfl rfl (fun _=>by kernel_rfl) ?_
  refine zyR 2 rfl (zyH (zyR 3 rfl ?_))
  refine zej (k:=0) rfl (fun hw5 => ?_)
  refine zej (k:=1) rfl (fun hw6 => ?_)
  obtain ⟨r7,hq7,h⟩:=zbA h
  refine zee (v:=zI r7) (vs:=[hd1.v,hd2.v,.func (.func 29) #[] #[]]) hrd rfl dc rfl rfl rfl zuC (zbp hw5 hw6 hq7) (.own (As:=[zv2 hd1.v r1]) (zaa [0] kr rfl) (fun _ _ h=>zd9 za1 (sepL.one1.1 h)) (.own (As:=[zv2 hd2.v r2]) (zaa [1] kr rfl) (fun _ _ h=>zd9 za1 (sepL.one1.1 h)) .nil)) ?_
  refine zyR 1 rfl (zyH (zyR 1 rfl (zaR rfl zdR (zyN ?_))))
  refine zyB rfl h (fun h => ?_) (fun h => ?_)
  ·
   refine zyG (zyR 1 rfl ?_)
   obtain ⟨r8,hq8,h⟩:=zbA h
   refine zaO (v:=zI r8) (vs:=[zI r7]) rfl dc rfl rfl rfl zuB (zf3 hq8) (zyR 1 rfl (zaR rfl (zbc (r:=3) dc) (zyR 2 rfl (zyN (zaA (zan (zaj (zaj (zan (zaj ?_))))))))))
   cases h
   exact zcj (rs:=[.tmp 6,.tmp 7]) () (.inl rfl) results11 (.cons (.tmp rfl) (.cons (.tmp rfl) .nil)) rfl Splits.nil
  refine zao (zae (zaF (zap (zaR rfl (zbc (r:=3) dc) (zyR 1 rfl (zaD (zi0 (zij (zyG (zaR rfl (zf5 (show Value.bool (decide ((3:Int)<3))=Value.bool false from congrArg Value.bool dc) zbk) (zyN ?_)))))))))))
  refine zaL (zaQ rfl (zbz (zaq (zaq (zaG ?_)))))
  exact zah () h rfl (za4 rfl) Splits.nil
 rintro _ h
 rw [hj1] at h
 refine zyG (zyR 2 rfl (zaO (v:=zI (Lib.compareBytes a1.data.toList b1.data.toList)) (vs:=[.string a1,.string b1]) rfl dc rfl rfl rfl zuD (zqY a1 b1) (zyR 2 rfl (zyN (zaA ?_)))))
 cases h
 exact zcj (rs:=[.tmp 6,.tmp 7]) () (.inl rfl) results11 (.cons (.tmp rfl) (.cons (.tmp rfl) .nil)) rfl Splits.nil
def zbS (j1:(List zab)→zBA→Option zBA) (r1:(List zab)) (ag1:zBA→Int→Option zBA) (b4:zBA) (x3:Int):Option zBA := zar (decide ((x3:Int)<(r1.length:Int))) ( zbx (fun (j2:zBA→Option zBA) => zak (zea r1 x3) fun (q1:zab) => grd (b4.size+3≤140737488355328) <| grd (∀ x∈([IntKind.u8.wrap q1.sort,IntKind.u8.wrap (zeh .i64 q1.place 8),IntKind.u8.wrap q1.place]:List Int),U8 x) <| zar ((q1.sort:Int)==2) ( grd ((b4++(zbl [IntKind.u8.wrap q1.sort,IntKind.u8.wrap (zeh .i64 q1.place 8),IntKind.u8.wrap q1.place])).size+4≤140737488355328) <| grd (∀ x∈([IntKind.u8.wrap (zeh .i64 (q1.digits.size:Int) 24),IntKind.u8.wrap (zeh .i64 (q1.digits.size:Int) 16),IntKind.u8.wrap (zeh .i64 (q1.digits.size:Int) 8),IntKind.u8.wrap (q1.digits.size:Int)]:List Int),U8 x) <| grd (((b4++(zbl [IntKind.u8.wrap q1.sort,IntKind.u8.wrap (zeh .i64 q1.place 8),IntKind.u8.wrap q1.place]))++(zbl [IntKind.u8.wrap (zeh .i64 (q1.digits.size:Int) 24),IntKind.u8.wrap (zeh .i64 (q1.digits.size:Int) 16),IntKind.u8.wrap (zeh .i64 (q1.digits.size:Int) 8),IntKind.u8.wrap (q1.digits.size:Int)])).size+q1.digits.size≤140737488355328) <| j2 (((b4++(zbl [IntKind.u8.wrap q1.sort,IntKind.u8.wrap (zeh .i64 q1.place 8),IntKind.u8.wrap q1.place]))++(zbl [IntKind.u8.wrap (zeh .i64 (q1.digits.size:Int) 24),IntKind.u8.wrap (zeh .i64 (q1.digits.size:Int) 16),IntKind.u8.wrap (zeh .i64 (q1.digits.size:Int) 8),IntKind.u8.wrap (q1.digits.size:Int)]))++q1.digits)
) ( j2 (b4++(zbl [IntKind.u8.wrap q1.sort,IntKind.u8.wrap (zeh .i64 q1.place 8),IntKind.u8.wrap q1.place]))
)
) (fun (b5:zBA) => grd (I64 (x3+1)) <| ag1 b5 (x3+1)
)
) ( j1 r1 b4
)
def zcc (l1:List zab) (j3:zBA→Option zBA) (ag2:zBA→Int→Option zBA) (b13:zBA) (x6:Int):Option zBA := zar (decide ((x6:Int)<(l1.length:Int))) ( zak (zea l1 x6) fun (q2:zab) => grd (b13.size+q2.marks.size≤140737488355328) <| grd ((b13++q2.marks).size+1≤140737488355328) <| grd (I64 (x6+1)) <| ag2 ((b13++q2.marks)++(⟨#[0]⟩)) (x6+1)
) ( j3 b13
)
def zcb (l1:List zab) (j4:zBA→Option zBA) (ag3:zBA→Int→Option zBA) (b19:zBA) (x9:Int):Option zBA := zar (decide ((x9:Int)<(l1.length:Int))) ( zak (zea l1 x9) fun (q3:zab) => grd (b19.size+1≤140737488355328) <| grd (∀ x∈([IntKind.u8.wrap q3.great]:List Int),U8 x) <| grd (I64 (x9+1)) <| ag3 (b19++(zbl [IntKind.u8.wrap q3.great])) (x9+1)
) ( j4 b19
)
def zbL (o1:zac) (s1:zBA):Option zBA := zbx (fun (j1:(List zab)→zBA→Option zBA) => zak (zbE o1 s1) fun (r1:(List zab)) => zaW (fun _ _=>none) (zbS j1 r1) zcy ByteArray.empty 0
) (fun (l1:List zab) (b1:zBA) => zbx (fun (j3:zBA→Option zBA) => grd (b1.size+1≤140737488355328) <| zaW (fun _ _=>none) (zcc l1 j3) zcy (b1++(⟨#[0]⟩)) 0
) (fun (b9:zBA) => zbx (fun (j4:zBA→Option zBA) => zaW (fun _ _=>none) (zcb l1 j4) zcy b9 0
) (fun (b16:zBA) => grd (b16.size+s1.size≤140737488355328) <| some (b16++s1)
)
)
)
theorem zeN {bo1:Nat} {o1:zac} {o1_h0 o1_h1 o1_h2 o1_h3 o1_h4:Hd} {s1:zBA} {r:zBA} (h:zbL o1 s1=some r):FnR prog 17 [zP bo1,.string s1] [cells bo1 [o1_h0.v,.map (some (za7 o1_h1)),.map (some (za7 o1_h2)),.map (some (za7 o1_h3)),o1_h4.v] 79,zv0 o1_h0.v o1.units,zbO (fun n:zBA=>Value.string n) (fun n:Int=>Value.int .i64 n) (za7 o1_h1) o1.place,zcB (za7 o1_h2) o1.fors,zbO (fun n:zBA=>Value.string n) (fun n:Bool=>Value.bool n) (za7 o1_h3) o1.skips,zv0 o1_h4.v o1.lines] [] (fun v0:Value=>v0) (fun v0=>[byt 5 v0 r]):=by
 unfold zbL at h
 refine FnR.intro func17 rfl ntmps17 (by simp) ?_
 intro w0 K hrd
 refine zyG (zyR 1 rfl (zyN (zaL (zyG (zyR 1 rfl (zaR rfl (zgC underlying23) (zyN (zaQ rfl (zao ?_)))))))))
 refine zaF ?_
 obtain ⟨j1,hj1,h⟩:=zbP h
 refine za0 (β:=(List zab)×zBA×Hd×Value) 2 rfl (fun b=>j1 b.1 b.2.1=some r) (fun b=>[]) (fun b=>[(1,.string s1),(5,b.2.2.1.v),(6,b.2.2.2)]) (fun b=>[zv2 b.2.2.1.v b.1,byt 5 b.2.2.2 b.2.1]) (fun cut => ?_) ?_
 ·
  refine zyG (zyR 2 rfl ?_)
  obtain ⟨r1,hq1,h⟩:=zbA h
  refine zgn (vs:=[zP bo1,.string s1]) hrd rfl dc rfl rfl rfl zs4 (zc1 (bo1:=bo1) (o1:=o1) (o1_h0:=o1_h0) (o1_h1:=o1_h1) (o1_h2:=o1_h2) (o1_h3:=o1_h3) (o1_h4:=o1_h4) hq1) Splits.nil (.ro 0 rfl (.ro 1 rfl (.ro 2 rfl (.ro 3 rfl (.ro 4 rfl (.ro 5 rfl .nil)))))) ?_
  rintro v2
  refine zcl (k:=0) rfl (fun hd2 he1 => ?_)
  subst he1
  refine zyR 1 rfl (zyH (zyR 1 rfl (zyN (cut (zyG (zyR 1 rfl (zdy (k:=0) rfl dc rfl rfl underlying62 (zyR 1 rfl ?_))))))))
  refine zyN (zaz (zhH (e:=5) ?_))
  refine zbN (β:=Nat×zBA×Int×Value) (fun b=>zaW (fun _ _=>none) (zbS j1 r1) b.1 b.2.1 b.2.2.1=some r) (fun b=>[]) (fun b=>[(1,.string s1),(5,hd2.v),(6,b.2.2.2),(19,hd2.v),(20,zI (r1.length:Int)),(21,zI b.2.2.1)]) (fun b=>[zv2 hd2.v r1,byt 5 b.2.2.2 b.2.1]) (fun b=>b.1) (zcy,ByteArray.empty,0,(.slice none 0 0)) h rfl (za4 rfl) (zaa [0,1] kr rfl) ?_
  rintro ⟨n1,b4,x3,v5⟩ h
  cases n1 with
  | zero=>exact zeq h
  | succ n1 =>
   obtain ⟨ag1,hag1⟩:∃ ag,ag=zaW (fun _ _=>none) (zbS j1 r1) n1:=⟨_,rfl⟩
   have h:zbS j1 r1 ag1 b4 x3=some r:=by rw [hag1]; exact h
   unfold zbS at h
   refine zyG (zaR rfl zbk (zyN (zaL ?_)))
   refine zyB rfl h (fun h => ?_) (fun h => ?_)
   ·
    refine zao (zaF ?_)
    obtain ⟨j2,hj2,h⟩:=zbP h
    refine za0 (β:=zBA×Value) 0 rfl (fun b=>j2 b.1=some r) (fun b=>[]) (fun b=>[(1,.string s1),(5,hd2.v),(6,b.2),(19,hd2.v),(20,zI (r1.length:Int)),(21,zI x3)]) (fun b=>[zv2 hd2.v r1,byt 5 b.2 b.1]) (fun cut => ?_) ?_
    ·
     refine cut (zaz (zyG ?_))
     obtain ⟨q1,hq2,h⟩:=zbA h
     refine zbm (k:=0) hq2 underlying62 zgq rfl dc rfl rfl rfl rfl (zez (i:=(x3:Int).toNat) (j:=0) (k:=0) (q:=q1) (cs:=(zr1 q1)) zho za1 rfl dc rfl rfl (zcg hq2) rfl rfl rfl ?_)
     refine za3 zlc rfl dc (fun b6 => ?_)
     refine za2 (k:=2) (vs:=(zr1 q1)) (l':=(zr1 q1)) zgq rfl rfl rfl rfl rfl (show _≤_ by simp) rfl rfl ?_
     refine zyH (zyR 1 rfl (zaf zkT rfl dc rfl (show _=0 from rfl) (zal (k:=2) zdE rfl dc rfl rfl rfl (zcD rfl dc rfl (zdL underlying3 underlying5) (zaf zkS rfl dc rfl (show _=1 from rfl) (zal (k:=2) zdE rfl dc rfl rfl rfl (zaR rfl (zgB dc) (zcD rfl dc rfl (zdL underlying3 underlying5) (zaf zkS rfl dc rfl (show _=1 from rfl) (zal (k:=2) zdE rfl dc rfl rfl rfl ?_))))))))))
     refine zcD rfl dc rfl (zdL underlying3 underlying5) ?_
     refine zaT (cs:=[.int .u8 (IntKind.u8.wrap q1.sort),.int .u8 (IntKind.u8.wrap (zeh .i64 q1.place 8)),.int .u8 (IntKind.u8.wrap q1.place)]) (te:=5) (ps:=[(0,.tmp 28),(1,.tmp 32),(2,.tmp 35)]) rfl dc rfl (fun _=>by kernel_rfl) (fun b7 => ?_)
     obtain ⟨hg1,h⟩:=zbR h
     obtain ⟨hg2,h⟩:=zbR h
     refine zdZ (k:=1) (k2:=3) (ys:=(zbl [IntKind.u8.wrap q1.sort,IntKind.u8.wrap (zeh .i64 q1.place 8),IntKind.u8.wrap q1.place])) underlying43 znY rfl dc rfl rfl rfl rfl (zfr hg2) rfl hg1 (fun v7 => ?_)
     refine zyR 1 rfl (zyH (zaf zkT rfl dc rfl (show _=0 from rfl) (zal (k:=2) zdE rfl dc rfl rfl rfl (zaR rfl za9 (zyN ?_)))))
     refine zyB rfl h (fun h => ?_) (fun h => ?_)
     ·
      refine zyG (zaf zjl rfl dc rfl (show _=2 from rfl) (zal (k:=2) zeV rfl dc rfl rfl rfl (zcI rfl dc rfl underlying9 (zyR 1 rfl (zyH (zyR 2 rfl (zaR rfl (zgB dc) (zcD rfl dc rfl (zdL underlying3 underlying5) ?_))))))))
      refine zyR 1 rfl (zaR rfl (zgB dc) (zcD rfl dc rfl (zdL underlying3 underlying5) (zyR 1 rfl (zaR rfl (zgB dc) (zcD rfl dc rfl (zdL underlying3 underlying5) (zyR 1 rfl (zcD rfl dc rfl (zdL underlying3 underlying5) ?_)))))))
      refine zaT (cs:=[.int .u8 (IntKind.u8.wrap (zeh .i64 (q1.digits.size:Int) 24)),.int .u8 (IntKind.u8.wrap (zeh .i64 (q1.digits.size:Int) 16)),.int .u8 (IntKind.u8.wrap (zeh .i64 (q1.digits.size:Int) 8)),.int .u8 (IntKind.u8.wrap (q1.digits.size:Int))]) (te:=5) (ps:=[(0,.tmp 47),(1,.tmp 50),(2,.tmp 53),(3,.tmp 55)]) rfl dc rfl (fun _=>by kernel_rfl) (fun b8 => ?_)
      obtain ⟨hg3,h⟩:=zbR h
      obtain ⟨hg4,h⟩:=zbR h
      refine zdZ (k:=1) (k2:=4) (ys:=(zbl [IntKind.u8.wrap (zeh .i64 (q1.digits.size:Int) 24),IntKind.u8.wrap (zeh .i64 (q1.digits.size:Int) 16),IntKind.u8.wrap (zeh .i64 (q1.digits.size:Int) 8),IntKind.u8.wrap (q1.digits.size:Int)])) underlying43 znY rfl dc rfl rfl rfl rfl (zfr hg4) rfl hg3 (fun v8 => ?_)
      refine zyR 1 rfl (zyN (zap (zyR 1 rfl (zaf zjl rfl dc rfl (show _=2 from rfl) (zal (k:=2) zeV rfl dc rfl rfl rfl ?_)))))
      obtain ⟨hg5,h⟩:=zbR h
      refine zdY (k:=1) underlying43 underlying9 znY rfl dc rfl rfl rfl hg5 (fun v9 => ?_)
      refine zyR 1 rfl (zaD (zae ?_))
      exact zah (((b4++(zbl [IntKind.u8.wrap q1.sort,IntKind.u8.wrap (zeh .i64 q1.place 8),IntKind.u8.wrap q1.place]))++(zbl [IntKind.u8.wrap (zeh .i64 (q1.digits.size:Int) 24),IntKind.u8.wrap (zeh .i64 (q1.digits.size:Int) 16),IntKind.u8.wrap (zeh .i64 (q1.digits.size:Int) 8),IntKind.u8.wrap (q1.digits.size:Int)]))++q1.digits,v9) h rfl (za4 rfl) (zaa [0,1] kr rfl)
     refine zao (zae ?_)
     exact zah (b4++(zbl [IntKind.u8.wrap q1.sort,IntKind.u8.wrap (zeh .i64 q1.place 8),IntKind.u8.wrap q1.place]),v7) h rfl (za4 rfl) (zaa [0,1] kr rfl)
    rintro ⟨b5,v6⟩ h
    rw [hj2] at h
    refine zap ?_
    obtain ⟨hg6,h⟩:=zbR h
    refine zaR rfl (zbc (r:=x3+1) (IntWalk.i64_in _ hg6)) (zyR 1 rfl (zaD ?_))
    subst hag1
    exact zbr (n1,b5,x3+1,v6) h (Nat.lt_succ_self _) rfl (za4 rfl) (zaa [0,1] kr rfl)
   refine zbz (zaq (zaq (zaG ?_)))
   exact zah (r1,b4,hd2,v5) h rfl (za4 rfl) (zaa [0,1] kr rfl)
 rintro ⟨l1,b1,hd1,v1⟩ h
 rw [hj1] at h
 obtain ⟨j3,hj3,h⟩:=zbP h
 refine za0 (β:=zBA×Value) 1 rfl (fun b=>j3 b.1=some r) (fun b=>[]) (fun b=>[(1,.string s1),(5,hd1.v),(6,b.2)]) (fun b=>[zv2 hd1.v l1,byt 5 b.2 b.1]) (fun cut => ?_) ?_
 ·
  refine zyG (zyR 1 rfl ?_)
  refine zaT (cs:=[.int .u8 0]) (te:=5) (ps:=[(0,.const (.int .u8 0))]) rfl dc rfl (fun _=>by kernel_rfl) (fun b10 => ?_)
  obtain ⟨hg7,h⟩:=zbR h
  refine zdZ (k:=1) (k2:=2) (ys:=(⟨#[0]⟩)) underlying43 znY rfl dc rfl rfl rfl rfl rfl rfl hg7 (fun v11 => ?_)
  refine zyR 1 rfl (zyN (cut (zyG (zyR 1 rfl (zdy (k:=0) rfl dc rfl rfl underlying62 (zyR 1 rfl (zyN (zaz ?_))))))))
  refine zbN (β:=Nat×zBA×Int×Value) (fun b=>zaW (fun _ _=>none) (zcc l1 j3) b.1 b.2.1 b.2.2.1=some r) (fun b=>[]) (fun b=>[(1,.string s1),(5,hd1.v),(6,b.2.2.2),(66,hd1.v),(67,zI (l1.length:Int)),(68,zI b.2.2.1)]) (fun b=>[zv2 hd1.v l1,byt 5 b.2.2.2 b.2.1]) (fun b=>b.1) (zcy,b1++(⟨#[0]⟩),0,v11) (by exact h) rfl (za4 rfl) (zaa [0,1] kr rfl) ?_
  rintro ⟨n2,b13,x6,v14⟩ h
  cases n2 with
  | zero=>exact zeq h
  | succ n2 =>
   obtain ⟨ag2,hag2⟩:∃ ag,ag=zaW (fun _ _=>none) (zcc l1 j3) n2:=⟨_,rfl⟩
   have h:zcc l1 j3 ag2 b13 x6=some r:=by rw [hag2]; exact h
   unfold zcc at h
   refine zyG (zaR rfl zbk (zyN (zaL ?_)))
   refine zyB rfl h (fun h => ?_) (fun h => ?_)
   ·
    refine zao (zaF (zaL (zaz (zyG ?_))))
    obtain ⟨q2,hq3,h⟩:=zbA h
    refine zbm (k:=0) hq3 underlying62 zgq rfl dc rfl rfl rfl rfl (zez (i:=(x6:Int).toNat) (j:=0) (k:=0) (q:=q2) (cs:=(zr1 q2)) zho za1 rfl dc rfl rfl (zcg hq3) rfl rfl rfl ?_)
    refine za3 zlc rfl dc (fun b14 => ?_)
    refine za2 (k:=2) (vs:=(zr1 q2)) (l':=(zr1 q2)) zgq rfl rfl rfl rfl rfl (show _≤_ by simp) rfl rfl ?_
    refine zyH (zyR 1 rfl (zaf zmC rfl dc rfl (show _=3 from rfl) (zal (k:=2) zeV rfl dc rfl rfl rfl ?_)))
    obtain ⟨hg8,h⟩:=zbR h
    refine zdY (k:=1) underlying43 underlying9 znY rfl dc rfl rfl rfl hg8 (fun v15 => ?_)
    refine zyR 1 rfl (zyN (zap (zyR 1 rfl ?_)))
    refine zaT (cs:=[.int .u8 0]) (te:=5) (ps:=[(0,.const (.int .u8 0))]) rfl dc rfl (fun _=>by kernel_rfl) (fun b15 => ?_)
    obtain ⟨hg9,h⟩:=zbR h
    refine zdZ (k:=1) (k2:=3) (ys:=(⟨#[0]⟩)) underlying43 znY rfl dc rfl rfl rfl rfl rfl rfl hg9 (fun v16 => ?_)
    refine zyR 1 rfl (zaD (zae (zaF (zap ?_))))
    obtain ⟨hg10,h⟩:=zbR h
    refine zaR rfl (zbc (r:=x6+1) (IntWalk.i64_in _ hg10)) (zyR 1 rfl (zaD ?_))
    subst hag2
    exact zbr (n2,(b13++q2.marks)++(⟨#[0]⟩),x6+1,v16) h (Nat.lt_succ_self _) rfl (za4 rfl) (zaa [0,1] kr rfl)
   refine zbz (zaq (zaq (zaG ?_)))
   exact zah (b13,v14) h rfl (za4 rfl) (zaa [0,1] kr rfl)
 rintro ⟨b9,v10⟩ h
 rw [hj3] at h
 obtain ⟨j4,hj4,h⟩:=zbP h
 refine za0 (β:=zBA×Value) 0 rfl (fun b=>j4 b.1=some r) (fun b=>[]) (fun b=>[(1,.string s1),(6,b.2)]) (fun b=>[byt 5 b.2 b.1]) (fun cut => ?_) ?_
 ·
  refine cut (zyG (zyR 1 rfl (zdy (k:=0) rfl dc rfl rfl underlying62 (zyR 1 rfl (zyN (zaz ?_))))))
  refine zbN (β:=Nat×zBA×Int×Value) (fun b=>zaW (fun _ _=>none) (zcb l1 j4) b.1 b.2.1 b.2.2.1=some r) (fun b=>[]) (fun b=>[(1,.string s1),(6,b.2.2.2),(80,hd1.v),(81,zI (l1.length:Int)),(82,zI b.2.2.1)]) (fun b=>[byt 5 b.2.2.2 b.2.1,zv2 hd1.v l1]) (fun b=>b.1) (zcy,b9,0,v10) h rfl (za4 rfl) (zaa [1,0] kr rfl) ?_
  rintro ⟨n3,b19,x9,v20⟩ h
  cases n3 with
  | zero=>exact zeq h
  | succ n3 =>
   obtain ⟨ag3,hag3⟩:∃ ag,ag=zaW (fun _ _=>none) (zcb l1 j4) n3:=⟨_,rfl⟩
   have h:zcb l1 j4 ag3 b19 x9=some r:=by rw [hag3]; exact h
   unfold zcb at h
   refine zyG (zaR rfl zbk (zyN (zaL ?_)))
   refine zyB rfl h (fun h => ?_) (fun h => ?_)
   ·
    refine zao (zaF (zaL (zaz (zyG ?_))))
    obtain ⟨q3,hq4,h⟩:=zbA h
    refine zbm (k:=1) hq4 underlying62 zgq rfl dc rfl rfl rfl rfl (zez (i:=(x9:Int).toNat) (j:=0) (k:=1) (q:=q3) (cs:=(zr1 q3)) zho za1 rfl dc rfl rfl (zcg hq4) rfl rfl rfl ?_)
    refine za3 zlc rfl dc (fun b20 => ?_)
    refine za2 (k:=2) (vs:=(zr1 q3)) (l':=(zr1 q3)) zgq rfl rfl rfl rfl rfl (show _≤_ by simp) rfl rfl ?_
    refine zyN (zap (zyR 1 rfl (zaf zov rfl dc rfl (show _=4 from rfl) (zal (k:=2) zdE rfl dc rfl rfl rfl (zcD rfl dc rfl (zdL underlying3 underlying5) ?_)))))
    refine zaT (cs:=[.int .u8 (IntKind.u8.wrap q3.great)]) (te:=5) (ps:=[(0,.tmp 89)]) rfl dc rfl (fun _=>by kernel_rfl) (fun b21 => ?_)
    obtain ⟨hg11,h⟩:=zbR h
    obtain ⟨hg12,h⟩:=zbR h
    refine zdZ (k:=0) (k2:=3) (ys:=(zbl [IntKind.u8.wrap q3.great])) underlying43 znY rfl dc rfl rfl rfl rfl (zfr hg12) rfl hg11 (fun v21 => ?_)
    refine zyR 1 rfl (zaD (zae (zaF (zap ?_))))
    obtain ⟨hg13,h⟩:=zbR h
    refine zaR rfl (zbc (r:=x9+1) (IntWalk.i64_in _ hg13)) (zyR 1 rfl (zaD ?_))
    subst hag3
    exact zbr (n3,b19++(zbl [IntKind.u8.wrap q3.great]),x9+1,v21) h (Nat.lt_succ_self _) rfl (za4 rfl) (zaa [0,1] kr rfl)
   refine zbz (zaq (zaq (zaG ?_)))
   exact zah (b19,v20) h rfl (za4 rfl) (zaa [0] kr rfl)
 rintro ⟨b16,v17⟩ h
 rw [hj4] at h
 refine zyG (zyR 2 rfl ?_)
 obtain ⟨hg14,h⟩:=zbR h
 refine zdY (k:=0) underlying43 underlying9 znY rfl dc rfl rfl rfl hg14 (fun v22 => ?_)
 refine zyR 1 rfl (zyN (zaA ?_))
 cases h
 exact zcj (rs:=[.tmp 4]) v22 (.inl rfl) results17 (.cons (.tmp rfl) .nil) rfl (zaa [0] kr rfl)
def zcH (o1:zac) (j1:Option zBA) (r1:(List zab)) (ag1:Option zBA):Option zBA := zar (decide ((0:Int)<(r1.length:Int))) ( zak (zea r1 0) fun (q1:zab) => zar ((q1.sort:Int)==3) ( zak (zea o1.units q1.place) fun (q2:zBA) => zak (zdj q2) fun (r2:zBA) => zak (zfu r2) fun (r3:zBA) => some r3
) ( zar ((q1.sort:Int)==2) ( some (⟨#[48,45,57]⟩:zBA)
) ( j1
)
)
) ( j1
)
def zd6 (o1:zac) (s1:zBA):Option zBA := zbx (fun (j1:Option zBA) => zak (zbE o1 s1) fun (r1:(List zab)) => zaW none (zcH o1 j1 r1) zcy
) ( some (⟨#[63]⟩:zBA)
)
theorem zgO {bo1:Nat} {o1:zac} {o1_h0 o1_h1 o1_h2 o1_h3 o1_h4:Hd} {s1:zBA} {r:zBA} (h:zd6 o1 s1=some r):FnR prog 16 [zP bo1,.string s1] [cells bo1 [o1_h0.v,.map (some (za7 o1_h1)),.map (some (za7 o1_h2)),.map (some (za7 o1_h3)),o1_h4.v] 79,zv0 o1_h0.v o1.units,zbO (fun n:zBA=>Value.string n) (fun n:Int=>Value.int .i64 n) (za7 o1_h1) o1.place,zcB (za7 o1_h2) o1.fors,zbO (fun n:zBA=>Value.string n) (fun n:Bool=>Value.bool n) (za7 o1_h3) o1.skips,zv0 o1_h4.v o1.lines] [] (fun _:Unit=>(.string r)) (fun _=>[]):=by
 unfold zd6 at h
 refine FnR.intro func16 rfl ntmps16 (by simp) ?_
 intro w0 K hrd
 obtain ⟨j1,hj1,h⟩:=zbP h
 refine za0 (β:=Unit) 1 rfl (fun b=>j1=some r) (fun b=>[]) (fun b=>[]) (fun b=>[]) (fun cut => ?_) ?_
 ·
  refine zyG (zyR 1 rfl (zyN (cut (zyG (zyR 1 rfl (zaR rfl (zlw underlying23) (zyN (zbC rfl (zaL ?_)))))))))
  refine zap (zyR 2 rfl ?_)
  obtain ⟨r1,hq1,h⟩:=zbA h
  refine zgn (vs:=[zP bo1,.string s1]) hrd rfl dc rfl rfl rfl zs4 (zc1 (bo1:=bo1) (o1:=o1) (o1_h0:=o1_h0) (o1_h1:=o1_h1) (o1_h2:=o1_h2) (o1_h3:=o1_h3) (o1_h4:=o1_h4) hq1) Splits.nil (.ro 0 rfl (.ro 1 rfl (.ro 2 rfl (.ro 3 rfl (.ro 4 rfl (.ro 5 rfl .nil)))))) ?_
  rintro v1
  refine zcl (k:=0) rfl (fun hd1 he1 => ?_)
  subst he1
  refine zdy (k:=0) rfl dc rfl rfl underlying62 (zyR 1 rfl (zyN (zaz ?_)))
  refine zbN (β:=Nat) (fun b=>zaW none (zcH o1 j1 r1) b=some r) (fun b=>[]) (fun b=>[(0,zP bo1),(11,hd1.v),(12,zI (r1.length:Int)),(13,zI 0)]) (fun b=>[zv2 hd1.v r1]) (fun b=>b) zcy h rfl (za4 rfl) (zaa [0] kr rfl) ?_
  rintro n1 h
  cases n1 with
  | zero=>exact zeq h
  | succ n1 =>
   obtain ⟨ag1,hag1⟩:∃ ag,ag=zaW none (zcH o1 j1 r1) n1:=⟨_,rfl⟩
   have h:zcH o1 j1 r1 ag1=some r:=by rw [hag1]; exact h
   unfold zcH at h
   refine zyG (zaR rfl zbk (zyN (zaL ?_)))
   refine zyB rfl h (fun h => ?_) (fun h => ?_)
   ·
    refine zao (zaF (zaL (zaz (zyG ?_))))
    obtain ⟨q1,hq2,h⟩:=zbA h
    refine zbm (k:=0) hq2 underlying62 zgq rfl dc rfl rfl rfl rfl (zez (i:=(0:Int).toNat) (j:=0) (k:=0) (q:=q1) (cs:=(zr1 q1)) zho za1 rfl dc rfl rfl (zcg hq2) rfl rfl rfl ?_)
    refine za3 zlc rfl dc (fun b1 => ?_)
    refine za2 (k:=1) (vs:=(zr1 q1)) (l':=(zr1 q1)) zgq rfl rfl rfl rfl rfl (show _≤_ by simp) rfl rfl ?_
    refine zyN (zaL (zyG (zaf zkT rfl dc rfl (show _=0 from rfl) (zal (k:=1) zdE rfl dc rfl rfl rfl (zyN (zaz (zyG (zaR rfl za9 (zyR 1 rfl ?_)))))))))
    refine zyN ?_
    refine zyB rfl h (fun h => ?_) (fun h => ?_)
    ·
     refine zaL ?_
     obtain ⟨q2,hq3,h⟩:=zbA h
     obtain ⟨r2,hq4,h⟩:=zbA h
     obtain ⟨r3,hq5,h⟩:=zbA h
     refine zdd 6 [(0,21,zP bo1),(1,22,zP bo1),(2,23,zP bo1),(3,24,o1_h0.v),(4,25,.pointer (some ⟨b1,1,none⟩)),(5,26,zI q1.place)] mixed kr kr dc (by rfl) kr kr (zyP 1 0 rfl (zad ?_ (zad ?_ (zad ?_ (zad ?_ (zad ?_ DrawPre.nil)))))) ?_
     · exact fun D n d c u i=>za5 rfl dc (zaX 0 u d) (zaJ 1 u i)
     · exact fun D n d c u i=>zaf zjk rfl dc (zaX 1 u d) (show _=0 from rfl) (zaJ 2 u i)
     · exact fun D n d c u i=>zdx (i:=0) hrd rfl zn8 rfl dc (zaX 2 u d) rfl (zaJ 3 u i)
     · exact fun D n d c u i=>zaf zkS rfl dc (za8 (by rfl) rfl) (show _=1 from rfl) (zaJ 4 u i)
     · exact fun D n d c u i=>zal (k:=1) zdE rfl dc (zaX 4 u d) rfl rfl (zaJ 5 u i)
     refine zbf (hrd.vw (i:=1) rfl) hq3 underlying38 zjC rfl dc rfl rfl rfl (znR (n:=0+(q1.place:Int).toNat) (j:=0) (i:=1) (q:=q2) hrd rfl zeV zc0 rfl dc rfl (Vw.get (hrd.vw (i:=1) rfl) hq3) rfl dc rfl (zaO (v:=.string r2) (vs:=[.string q2]) rfl dc rfl rfl rfl zwi (zhc hq4) (zaO (v:=.string r3) (vs:=[.string r2]) rfl dc rfl rfl rfl zxO (ziV hq5) (zyR 1 rfl (zyN (zaA (zan (zaj (zan (zaj (zaj (zan ?_))))))))))))
     refine zaj ?_
     cases h
     exact zaS 4 results16
    refine zyG (zaR rfl za9 (zyR 1 rfl (zyN ?_)))
    refine zyB rfl h (fun h => ?_) (fun h => ?_)
    ·
     refine zyG (zyR 1 rfl (zyN (zaA (zan (zaj (zan (zaj (zaj (zan (zaj ?_))))))))))
     cases h
     exact zaS 4 results16
    refine zao (zae (zaF (zbz (zhQ dc (zaq (zaq (zaG ?_)))))))
    exact zah () h rfl (zmV) Splits.nil
   refine zbz (zaq (zaq (zaG ?_)))
   exact zah () h rfl (zmV) Splits.nil
 rintro _ h
 rw [hj1] at h
 refine zyG (zyR 1 rfl (zyN (zaA ?_)))
 cases h
 exact zaS 4 results16
abbrev cb:=Lib.compareBytes
theorem zd7 (a b:UInt8) (x y:List UInt8):cb (a::x) (b::y)=if a.toNat<b.toNat then -1 else if b.toNat<a.toNat then 1 else cb x y:=by
 show (if a<b then (-1:Int) else if b<a then 1 else cb x y)=_
 simp only [UInt8.lt_iff_toNat_lt]
theorem zws (b:UInt8) (y:List UInt8):cb [] (b::y)=-1:=rfl
theorem ztb (b:UInt8) (y:List UInt8):cb (b::y) []=1:=rfl
theorem zk3:∀ x:List UInt8,cb x x=0
 | []=>rfl
 | a::x=>by rw [zd7,if_neg (Nat.lt_irrefl _),if_neg (Nat.lt_irrefl _),zk3 x]
theorem zk2:∀ {x y:List UInt8},cb x y=0→x=y
 | [],[],_=>rfl
 | [],_::_,h=>by cases h
 | _::_,[],h=>by cases h
 | a::x,b::y,h=>by
  rw [zd7] at h
  split at h
  ·cases h
  ·split at h
   ·cases h
   ·have:a=b:=UInt8.toNat_inj.1 (by omega)
    rw [this,zk2 h]
theorem zrT:∀ x y:List UInt8,cb y x=- cb x y
 | [],[]=>rfl
 | [],_::_=>rfl
 | _::_,[]=>rfl
 | a::x,b::y=>by
  rw [zd7,zd7,zrT x y]
  by_cases h1:b.toNat<a.toNat
  ·rw [if_pos h1,if_neg (by omega),if_pos h1]
  ·rw [if_neg h1,if_neg h1]
   by_cases h2:a.toNat<b.toNat
   ·rw [if_pos h2,if_pos h2]; rfl
   ·rw [if_neg h2,if_neg h2]
theorem zrU:∀ x y:List UInt8,cb x y=-1∨cb x y=0∨cb x y=1
 | [],[]=>.inr (.inl rfl)
 | [],_::_=>.inl rfl
 | _::_,[]=>.inr (.inr rfl)
 | a::x,b::y=>by
  rw [zd7]
  split
  ·exact .inl rfl
  ·split
   ·exact .inr (.inr rfl)
   ·exact zrU x y
theorem zpo:∀ {x y z:List UInt8},cb x y≤0→cb y z≤0→cb x z≤0∧(cb x z=0→cb x y=0∧cb y z=0)
 | [],[],[],_,_=>⟨Int.le_refl _,fun _=>⟨rfl,rfl⟩⟩
 | [],_,c::z,_,_=>by rw [zws]; exact ⟨by omega,fun h=>by cases h⟩
 | [],b::y,[],_,h=>by rw [ztb] at h; omega
 | a::x,[],_,h,_=>by rw [ztb] at h; omega
 | _::_,b::y,[],_,h=>by rw [ztb] at h; omega
 | a::x,b::y,c::z,h1,h2=>by
  rw [zd7] at h1 h2 ⊢
  rw [zd7,zd7]
  by_cases q1:a.toNat<b.toNat
  ·have q5:a.toNat<c.toNat:=by
    by_cases q2:c.toNat<b.toNat
    ·rw [if_neg (by omega),if_pos q2] at h2; omega
    ·omega
   rw [if_pos q5]
   exact ⟨by omega,fun h=>by cases h⟩
  ·rw [if_neg q1] at h1 ⊢
   by_cases q2:b.toNat<a.toNat
   ·rw [if_pos q2] at h1; omega
   ·rw [if_neg q2] at h1 ⊢
    by_cases q3:b.toNat<c.toNat
    ·rw [if_pos (show a.toNat<c.toNat by omega)]
     exact ⟨by omega,fun h=>by cases h⟩
    ·rw [if_neg q3] at h2 ⊢
     by_cases q4:c.toNat<b.toNat
     ·rw [if_pos q4] at h2; omega
     ·rw [if_neg q4] at h2 ⊢
      rw [if_neg (show ¬ a.toNat<c.toNat by omega),if_neg (show ¬ c.toNat<a.toNat by omega)]
      exact zpo h1 h2
def zg5:Int→List (List UInt8)→List (List UInt8)→Int×Int
 | i,x::xs,y::ys=>if cb x y=0 then zg5 (i+1) xs ys else (cb x y,i)
 | _,_,_=>(0,0)
theorem znG:∀ (l:List (List UInt8)) (i:Int),zg5 i l l=(0,0)
 | [],i=>rfl
 | x::xs,i=>by rw [zg5,if_pos (zk3 x),znG xs]
theorem zhN:∀ (x y:List (List UInt8)) (i:Int),0<i→x.length=y.length→(zg5 i x y=(0,0)∧x=y)∨((zg5 i x y).1=-1∨(zg5 i x y).1=1)∧i≤(zg5 i x y).2∧(zg5 i x y).2<i+x.length∧x≠y
 | [],[],i,_,_=>.inl ⟨rfl,rfl⟩
 | x::xs,y::ys,i,hi,h=>by
  rw [zg5]
  by_cases h0:cb x y=0
  ·rw [if_pos h0]
   rcases zhN xs ys (i+1) (by omega) (by simpa using h) with ⟨h1,h2⟩ | ⟨h1,h2,h3,h4⟩
   ·exact .inl ⟨h1,by rw [zk2 h0,h2]⟩
   ·exact .inr ⟨h1,by omega,by rw [List.length_cons]; push_cast; omega,fun e=>h4 (by injection e)⟩
  ·rw [if_neg h0]
   refine .inr ⟨?_,Int.le_refl _,by rw [List.length_cons]; push_cast; omega,fun e=>h0 (by injection e with e1 e2; rw [e1,zk3])⟩
   rcases zrU x y with h | h | h
   ·exact .inl h
   ·exact absurd h h0
   ·exact .inr h
theorem ziT:∀ (x y:List (List UInt8)) (i:Int),zg5 i y x=(-(zg5 i x y).1,(zg5 i x y).2)
 | [],[],i=>rfl
 | [],_::_,i=>rfl
 | _::_,[],i=>rfl
 | x::xs,y::ys,i=>by
  rw [zg5,zg5,zrT x y,ziT xs ys]
  by_cases h:cb x y=0
  ·rw [if_pos (by omega),if_pos h]
  ·rw [if_neg (by omega),if_neg h]
theorem zjv:∀ (x y z:List (List UInt8)) (i:Int),0<i→x.length=y.length→y.length=z.length→(zg5 i x y).1≤0→(zg5 i y z).1≤0 →
  (zg5 i x z).1≤0∧((zg5 i x z).1=0→(zg5 i x y).1=0∧(zg5 i y z).1=0)∧((zg5 i x y).1≠0→(zg5 i y z).1≠0→(zg5 i x z).2=min (zg5 i x y).2 (zg5 i y z).2)
 | [],[],[],i,_,_,_,_,_=>⟨Int.le_refl _,fun _=>⟨rfl,rfl⟩,fun h=>absurd rfl h⟩
 | x::xs,y::ys,z::zs,i,hi,l1,l2,h1,h2=>by
  rw [zg5] at h1 h2 ⊢
  rw [zg5,zg5]
  have r1:=zhN xs ys (i+1) (by omega) (by simpa using l1)
  have r2:=zhN ys zs (i+1) (by omega) (by simpa using l2)
  by_cases q1:cb x y=0
  ·simp only [if_pos q1] at h1 ⊢
   have:=zk2 q1
   subst this
   by_cases q2:cb x z=0
   ·simp only [if_pos q2] at h2 ⊢
    exact zjv xs ys zs (i+1) (by omega) (by simpa using l1) (by simpa using l2) h1 h2
   ·simp only [if_neg q2] at h2 ⊢
    refine ⟨h2,fun h=>absurd h q2,fun h3 h4 => ?_⟩
    rcases r1 with ⟨e,_⟩ | ⟨_,h5,_,_⟩
    ·rw [e] at h3; exact absurd rfl h3
    ·show i=min _ i
     omega
  ·simp only [if_neg q1] at h1 ⊢
   by_cases q2:cb y z=0
   ·have:=zk2 q2
    subst this
    simp only [if_pos q2] at h2 ⊢
    simp only [if_neg q1]
    refine ⟨h1,fun h=>absurd h q1,fun h3 h4 => ?_⟩
    rcases r2 with ⟨e,_⟩ | ⟨_,h5,_,_⟩
    ·rw [e] at h4; exact absurd rfl h4
    ·show i=min i _
     omega
   ·simp only [if_neg q2] at h2 ⊢
    obtain ⟨t1,t2⟩:=zpo (x:=x) (y:=y) (z:=z) h1 h2
    have hne:cb x z≠0:=fun h=>q1 (t2 h).1
    simp only [if_neg hne]
    exact ⟨t1,fun h=>absurd h hne,fun _ _=>by show i=min i i; omega⟩
theorem zmN:∀ (a:List UInt8) (x y:List UInt8),cb (a++x) (a++y)=cb x y
 | [],x,y=>rfl
 | c::a,x,y=>by rw [List.cons_append,List.cons_append,zd7,if_neg (Nat.lt_irrefl _),if_neg (Nat.lt_irrefl _),zmN a]
def be:Nat→Nat→List UInt8
 | 0,_=>[]
 | k+1,m=>UInt8.ofNat (m / 256 ^ k)::be k (m % 256 ^ k)
theorem zpt:∀ (k m n:Nat) (r s:List UInt8),m<256 ^ k→n<256 ^ k→cb (be k m++r) (be k n++s)=if m<n then -1 else if n<m then 1 else cb r s
 | 0,m,n,r,s,hm,hn=>by
  have:m=0:=by simpa using hm
  have:n=0:=by simpa using hn
  subst m; subst n; rfl
 | k+1,m,n,r,s,hm,hn=>by
  rw [be,be,List.cons_append,List.cons_append,zd7,zpt k _ _ r s (Nat.mod_lt _ (Nat.pow_pos (by omega))) (Nat.mod_lt _ (Nat.pow_pos (by omega)))]
  have e1:=Nat.div_add_mod m (256 ^ k)
  have e2:=Nat.div_add_mod n (256 ^ k)
  have l1:m / 256 ^ k<256:=Nat.div_lt_of_lt_mul (by rw [Nat.pow_succ] at hm; exact hm)
  have l2:n / 256 ^ k<256:=Nat.div_lt_of_lt_mul (by rw [Nat.pow_succ] at hn; exact hn)
  have m1:=Nat.mod_lt m (Nat.pow_pos (n:=k) (show 0<256 by omega))
  have m2:=Nat.mod_lt n (Nat.pow_pos (n:=k) (show 0<256 by omega))
  generalize 256 ^ k=P at *
  generalize m / P=a at *
  generalize n / P=b at *
  have hu:∀ x:Nat,x<256→(UInt8.ofNat x).toNat=x:=fun x hx=>by
   simp only [UInt8.toNat_ofNat']
   omega
  rw [hu a l1,hu b l2]
  by_cases c1:a<b
  ·rw [if_pos c1,if_pos]
   have:P*(a+1)≤P*b:=Nat.mul_le_mul_left P c1
   rw [Nat.mul_add] at this
   omega
  ·rw [if_neg c1]
   by_cases c2:b<a
   ·have:P*(b+1)≤P*a:=Nat.mul_le_mul_left P c2
    rw [Nat.mul_add] at this
    rw [if_pos c2,if_neg (by omega),if_pos (by omega)]
   ·have:a=b:=by omega
    subst this
    rw [if_neg c2]
    by_cases c3:m % P<n % P
    ·rw [if_pos c3,if_pos (by omega)]
    ·rw [if_neg c3]
     by_cases c4:n % P<m % P
     ·rw [if_pos c4,if_neg (by omega),if_pos (by omega)]
     ·rw [if_neg c4,if_neg (by omega),if_neg (by omega)]
end Go.Proofs.YtifpjbgnikjglaaDoor
