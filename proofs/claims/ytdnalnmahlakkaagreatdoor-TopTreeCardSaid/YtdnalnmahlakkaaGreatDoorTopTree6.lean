/-
  Texts laid together: LpC, LtC, LtR, LtW, LwU, LfA, PlA, PlB, Qr, Ql, Zb, Zc, Zd, Ze, Zf, Zg, Zh, Zi, Zj, Qt, Qa, Qb, Qc, Qd, Qe, Qf, Qg, Qh, Zk, PlTopTree. Nothing is assumed.
-/
import Derived.Test.YtdnalnmahlakkaaGreatDoorTopTree4
import Derived.Test.YtdnalnmahlakkaaGreatDoorTopTree2
import Derived.Test.YtdnalnmahlakkaaGreatDoorTopTree5
import Derived.Test.YtdnalnmahlakkaaGreatDoorTopTree1
import Derived.Test.YtdnalnmahlakkaaGreatDoorTopTree3
set_option maxRecDepth 100000
set_option maxHeartbeats 4000000
namespace Go.Proofs.YtdnalnmahlakkaaGreatDoor
open Go.RowKit Go.Lib
open Tryz
set_option linter.unusedVariables false
set_option linter.unusedSimpArgs false
abbrev zLit2:zBA:=⟨#[225,132,128,225,133,159,226,186,128,227,128,190,227,129,129,228,182,191,228,184,128,234,147,143,234,176,128,237,158,163,239,164,128,239,171,191,239,184,176,239,185,175,239,188,128,239,189,160,239,191,160,239,191,166,240,159,140,128,240,159,153,143,240,159,164,128,240,159,167,191,240,160,128,128,240,191,191,189]⟩
def zeO (r1:Int) (j1:Option Bool) (ag1:Bool→Nat→Option Bool) (within3:Bool) (m3:Nat):Option Bool := zaL (decide (m3<(pcs zLit2.data.toList).length)) ( zaA ((pcs zLit2.data.toList)[m3]?) fun (p1:Pc) => zcd (fun (j2:Bool→Bool→Option Bool) => zaL (!within3) ( zaL (decide ((r1:Int)<(p1.r:Int))) ( some within3
) ( zaL (within3) ( zaL (decide ((r1:Int)≤(p1.r:Int))) ( some within3
) ( j2 true (decide ((r1:Int)≤(p1.r:Int)))
)
) ( j2 false false
)
)
) ( zaL (within3) ( zaL (decide ((r1:Int)≤(p1.r:Int))) ( some within3
) ( j2 true (decide ((r1:Int)≤(p1.r:Int)))
)
) ( j2 false false
)
)
) (fun (x1:Bool) (x2:Bool) => ag1 (!within3) (m3+1)
)
) ( j1
)
def zgJ (r1:Int):Option Bool := zcd (fun (j1:Option Bool) => zbq (fun _ _=>none) (zeO r1 j1) zc9 false 0
) ( some false
)
theorem zkB {r1:Int} {r:Bool} (h:zgJ r1=some r):FnP prog 94 [.int .i32 r1] (.bool r):=by
 unfold zgJ at h
 refine FnP.intro func94 rfl ntmps94 (by simp) ?_
 intro w0 K
 obtain ⟨j1,hj1,h⟩:=zcC h
 refine zbF (β:=Unit) 2 rfl (fun b=>j1=some r) (fun b=>[]) (fun b=>[]) (fun b=>[]) (fun cut => ?_) ?_
 ·
  refine zyG (zyR 1 rfl (zyH (zyR 1 rfl (zyN (cut (zyG ?_))))))
  refine zea underlying9 rfl dc rfl (fun b1 => ?_)
  refine zyN (zaK ?_)
  refine zdy (β:=Nat×Bool×Nat) (fun b=>zbq (fun _ _=>none) (zeO r1 j1) b.1 b.2.1 b.2.2=some r) (fun b=>[]) (fun b=>[(0,.int .i32 r1),(3,.bool b.2.1),(6,zP b1)]) (fun b=>[obj b1 (.stringIter zLit2 (zeW zLit2 b.2.2))]) (fun b=>b.1) (zc9,false,0) (by exact h) rfl (zbK rfl) (zaa [0] kr rfl) ?_
  rintro ⟨n1,within3,m3⟩ h
  cases n1 with
  | zero=>exact zfG h
  | succ n1 =>
   obtain ⟨ag1,hag1⟩:∃ ag,ag=zbq (fun _ _=>none) (zeO r1 j1) n1:=⟨_,rfl⟩
   have h:zeO r1 j1 ag1 within3 m3=some r:=by rw [hag1]; exact h
   unfold zeO at h
   refine zyG ?_
   refine zgh (b:=decide (m3<(pcs zLit2.data.toList).length)) (fun hb1 => ?_) (fun hb1 => ?_)
   ·
    have h:=zg5 hb1 h
    obtain ⟨p1,hq1,h⟩:=zcp h
    refine zex (k:=0) (m:=m3) (p:=p1) rfl dc rfl rfl hq1 (zaJ rfl dc rfl rfl (zyN (zar (zbw rfl (zax (zag (zaK ?_)))))))
    obtain ⟨j2,hj2,h⟩:=zcC h
    refine zbF (β:=Bool×Bool) 1 rfl (fun b=>j2 b.1 b.2=some r) (fun b=>[]) (fun b=>[(0,.int .i32 r1),(3,.bool within3),(6,zP b1),(18,.bool within3),(19,.bool b.1),(23,.bool b.2)]) (fun b=>[obj b1 (.stringIter zLit2 (zeW zLit2 (m3+1)))]) (fun cut => ?_) ?_
    ·
     refine zyG (zaJ rfl dc rfl rfl (zyR 1 rfl (zyN (cut (zyG (zyR 1 rfl (zdM rfl dc rfl zcA (zyR 1 rfl ?_))))))))
     refine zyS (s:=12) rfl h (fun h => ?_) (fun h => ?_)
     ·
      refine zyR 2 rfl (zbn rfl zb4 (zyR 2 rfl ?_))
      refine zyS (s:=17) rfl h (fun h => ?_) (fun h => ?_)
      ·
       refine zyR 7 rfl (zyN (zbw rfl (zyG (zyR 2 rfl ?_))))
       refine zyN (zaE (zao (zau (zao (zau (zao ?_))))))
       cases h
       exact zbN 2 results94
      refine zyR 2 rfl ?_
      refine zyS (s:=19) rfl h (fun h => ?_) (fun h => ?_)
      ·
       refine zyR 2 rfl (zbn rfl zcr (zyR 2 rfl (zyN ?_)))
       refine zyB rfl h (fun h => ?_) (fun h => ?_)
       ·
        refine zyG (zyR 2 rfl (zyN (zaE (zao (zau (zao (zau (zao ?_))))))))
        cases h
        exact zbN 2 results94
       refine zax ?_
       exact zaB (true,decide ((r1:Int)≤(p1.r:Int))) h rfl (zbK rfl) (zaa [0] kr rfl)
      refine zyR 5 rfl (zyN (zaS rfl (zax ?_)))
      exact zaB (false,false) h rfl (zbK rfl) (zaa [0] kr rfl)
     refine zyR 7 rfl ?_
     refine zyS (s:=19) rfl h (fun h => ?_) (fun h => ?_)
     ·
      refine zyR 2 rfl (zbn rfl zcr (zyR 2 rfl (zyN ?_)))
      refine zyB rfl h (fun h => ?_) (fun h => ?_)
      ·
       refine zyG (zyR 2 rfl (zyN (zaE (zao (zau (zao (zau (zao ?_))))))))
       cases h
       exact zbN 2 results94
      refine zax ?_
      exact zaB (true,decide ((r1:Int)≤(p1.r:Int))) h rfl (zbK rfl) (zaa [0] kr rfl)
     refine zyR 5 rfl (zyN (zaS rfl (zax ?_)))
     exact zaB (false,false) h rfl (zbK rfl) (zaa [0] kr rfl)
    rintro ⟨x1,x2⟩ h
    rw [hj2] at h
    refine zad (zyR 1 rfl (zdM rfl dc rfl zcA (zyR 1 rfl (zap (zah ?_)))))
    subst hag1
    exact zcM (n1,!within3,m3+1) h (Nat.lt_succ_self _) rfl (zbK rfl) (zaa [0] kr rfl)
   have h:=zg6 hb1 h
   refine zgg (k:=0) (m:=m3) rfl dc rfl rfl (Nat.le_of_not_lt (of_decide_eq_false hb1)) (zaJ rfl dc rfl rfl (zyN (zar (zaS rfl (zcy (zaV (zaV (zbh ?_))))))))
   exact zaB () h rfl (zeQ) Splits.nil
 rintro _ h
 rw [hj1] at h
 refine zyG (zyR 1 rfl (zyN (zaE ?_)))
 cases h
 exact zbN 2 results94
def zeh (p1:zaY):Option Int := grd (I32 p1.Rune) <| zaL (((zdu p1.Broken p1.Rune):Int)==11) ( some 1
) ( zcd (fun (j1:Bool→Option Int) => zaL (((zdu p1.Broken p1.Rune):Int)==2) ( j1 (((zdu p1.Broken p1.Rune):Int)==2)
) ( zaL (((zdu p1.Broken p1.Rune):Int)==4) ( j1 (((zdu p1.Broken p1.Rune):Int)==4)
) ( j1 (((zdu p1.Broken p1.Rune):Int)==9)
)
)
) (fun (x1:Bool) => zaL (x1) ( some 0
) ( zaA (zgJ p1.Rune) fun (r1:Bool) => zaL (r1) ( some 2
) ( some 1
)
)
)
)
theorem zfy {p1:zaY} {r:Int} (h:zeh p1=some r):FnP prog 87 [.agg (zr1 p1).toArray] (zI r):=by
 unfold zeh at h
 refine FnP.intro func87 rfl ntmps87 (by simp) ?_
 intro w0 K
 refine zyG ?_
 refine zdN rfl dc rfl (fun b1 => ?_)
 refine zyR 1 rfl (zyN (zar (zyG (zaZ (k:=0) (cs:=(zr1 p1)) ze7 rfl dc rfl rfl rfl rfl ?_))))
 obtain ⟨hg1,h⟩:=zcU h
 refine zbv (v:=zI (zdu p1.Broken p1.Rune)) (vs:=[.agg (zr1 p1).toArray]) rfl dc rfl rfl rfl zlZ (zqZ p1.At p1.Width p1.Rune p1.Broken hg1.1 hg1.2) (zyN (zaK (zyG (zbn rfl zaP (zyR 1 rfl (zyN ?_))))))
 refine zyB rfl h (fun h => ?_) (fun h => ?_)
 ·
  refine zyG (zyR 1 rfl (zyN (zaE (zau (zao ?_)))))
  cases h
  exact zbN 2 results87
 obtain ⟨j1,hj1,h⟩:=zcC h
 refine zbF (β:=Bool) 0 rfl (fun b=>j1 b=some r) (fun b=>[]) (fun b=>[(1,zP b1),(7,.bool b)]) (fun b=>[cells b1 (zr1 p1) 47]) (fun cut => ?_) ?_
 ·
  refine cut (zyG (zbn rfl zaP (zyR 1 rfl (zyN ?_))))
  refine zyB rfl h (fun h => ?_) (fun h => ?_)
  ·
   refine zax ?_
   exact zaB (((zdu p1.Broken p1.Rune):Int)==2) h rfl (zbK rfl) (zaa [0] kr rfl)
  refine zyG (zbn rfl zaP (zyR 1 rfl (zyN ?_)))
  refine zyB rfl h (fun h => ?_) (fun h => ?_)
  ·
   refine zax ?_
   exact zaB (((zdu p1.Broken p1.Rune):Int)==4) h rfl (zbK rfl) (zaa [0] kr rfl)
  refine zad (zbn rfl zaP (zyR 1 rfl (zap ?_)))
  exact zaB (((zdu p1.Broken p1.Rune):Int)==9) h rfl (zbK rfl) (zaa [0] kr rfl)
 rintro x1 h
 rw [hj1] at h
 refine zyB rfl h (fun h => ?_) (fun h => ?_)
 ·
  refine zyG (zyR 1 rfl (zyN (zaE (zau (zao ?_)))))
  cases h
  exact zbN 2 results87
 refine zax (zah (zag (zar (zyG (zac zfN rfl dc rfl (show _=2 from rfl) (zat (k:=0) zfq rfl dc rfl rfl rfl ?_))))))
 obtain ⟨r1,hq1,h⟩:=zcp h
 refine zbv (v:=.bool r1) (vs:=[.int .i32 p1.Rune]) rfl dc rfl rfl rfl zvU (zkB hq1) (zyN ?_)
 refine zyB rfl h (fun h => ?_) (fun h => ?_)
 ·
  refine zyG (zyR 1 rfl (zyN (zaE (zao ?_))))
  cases h
  exact zbN 2 results87
 refine zax (zag (zyG (zyR 1 rfl (zyN (zaE ?_)))))
 cases h
 exact zbN 2 results87
def zfx (head1:Int) (behind1:zaY) (p1:zaY):Option Bool := zaL (p1.Broken) ( some false
) ( grd (I32 p1.Rune) <| zaL (((zdu p1.Broken p1.Rune):Int)==2) ( some true
) ( zaL ((p1.Rune:Int)==8205) ( some true
) ( zaL ((head1:Int)==10) ( zaL (((zdu p1.Broken p1.Rune):Int)==10) ( some ((behind1.Rune:Int)==8205)
) ( some false
)
) ( some false
)
)
)
)
theorem zhn {head1:Int} {behind1:zaY} {p1:zaY} {r:Bool} (h:zfx head1 behind1 p1=some r):FnP prog 86 [zI head1,.agg (zr1 behind1).toArray,.agg (zr1 p1).toArray] (.bool r):=by
 unfold zfx at h
 refine FnP.intro func86 rfl ntmps86 (by simp) ?_
 intro w0 K
 refine zyG ?_
 refine zdN rfl dc rfl (fun b1 => ?_)
 refine zdN rfl dc rfl (fun b2 => ?_)
 refine zyR 1 rfl (zyN (zar (zyG (zac znz rfl dc rfl (show _=3 from rfl) (zat (k:=1) zkg rfl dc rfl rfl rfl (zyN ?_))))))
 refine zyB rfl h (fun h => ?_) (fun h => ?_)
 ·
  refine zyG (zyR 1 rfl (zyN (zaE (zao ?_))))
  cases h
  exact zbN 6 results86
 refine zax (zag (zyG (zaZ (k:=1) (cs:=(zr1 p1)) ze7 rfl dc rfl rfl rfl rfl ?_)))
 obtain ⟨hg1,h⟩:=zcU h
 refine zbv (v:=zI (zdu p1.Broken p1.Rune)) (vs:=[.agg (zr1 p1).toArray]) rfl dc rfl rfl rfl zlZ (zqZ p1.At p1.Width p1.Rune p1.Broken hg1.1 hg1.2) (zyR 1 rfl (zyH (zyR 1 rfl (zbn rfl zaP (zyR 1 rfl ?_)))))
 refine zyS (s:=14) rfl h (fun h => ?_) (fun h => ?_)
 ·
  refine zyR 14 rfl ?_
  refine zyR 4 rfl (zyN (zaE ?_))
  cases h
  exact zbN 6 results86
 refine zac zfN rfl dc rfl (show _=2 from rfl) (zat (k:=1) zfq rfl dc rfl rfl rfl (zbn rfl zaP (zyR 2 rfl ?_)))
 refine zyS (s:=19) rfl h (fun h => ?_) (fun h => ?_)
 ·
  refine zyR 13 rfl (zap ?_)
  refine zag (zaE ?_)
  cases h
  exact zbN 6 results86
 refine zyR 1 rfl (zbn rfl zaP (zyR 1 rfl ?_))
 refine zyS (s:=22) rfl h (fun h => ?_) (fun h => ?_)
 ·
  refine zyR 1 rfl (zbn rfl zaP (zyR 2 rfl ?_))
  refine zyS (s:=26) rfl h (fun h => ?_) (fun h => ?_)
  ·
   refine zac zfN rfl dc rfl (show _=2 from rfl) (zat (k:=0) zfq rfl dc rfl rfl rfl (zbn rfl zaP (zyR 3 rfl (zyN (zaE ?_)))))
   cases h
   exact zbN 6 results86
  refine zyR 6 rfl (zyN (zaE ?_))
  cases h
  exact zbN 6 results86
 refine zyR 10 rfl (zyN (zaE ?_))
 cases h
 exact zbN 6 results86
def zei (x1:zaY) (ag1:Int→Int→Int→Int→Int→Int→Int→Bool→Bool→Option (List zaO)) (now13:Int) (now14:Int) (now15:Int) (head4:Int) (last13:Int) (last14:Int) (last15:Int) (last16:Bool) (open5:Bool):Option (List zaO) := zcd (fun (j2:Option (List zaO)) => grd (I32 x1.Rune) <| zaL (!open5) ( j2
) ( zaL ((last15:Int)==13) ( zaL ((x1.Rune:Int)==10) ( grd (I64 (x1.At+x1.Width)) <| ag1 now13 (x1.At+x1.Width) now15 head4 x1.At x1.Width x1.Rune x1.Broken open5
) ( zaL ((head4:Int) != 11) ( zaL ((head4:Int) != 4) ( zaL ((head4:Int) != 9) ( zaA (zfx head4 (⟨last13,last14,last15,last16⟩:zaY) x1) fun (r2:Bool) => zaL (r2) ( grd (I64 (x1.At+x1.Width)) <| zaA (zeh x1) fun (r3:Int) => ag1 now13 (x1.At+x1.Width) (max now15 r3) head4 x1.At x1.Width x1.Rune x1.Broken open5
) ( zhU (⟨now13,now14,now15⟩:zaO) <| j2
)
) ( zhU (⟨now13,now14,now15⟩:zaO) <| j2
)
) ( zhU (⟨now13,now14,now15⟩:zaO) <| j2
)
) ( zhU (⟨now13,now14,now15⟩:zaO) <| j2
)
)
) ( zaL ((head4:Int) != 11) ( zaL ((head4:Int) != 4) ( zaL ((head4:Int) != 9) ( zaA (zfx head4 (⟨last13,last14,last15,last16⟩:zaY) x1) fun (r4:Bool) => zaL (r4) ( grd (I64 (x1.At+x1.Width)) <| zaA (zeh x1) fun (r5:Int) => ag1 now13 (x1.At+x1.Width) (max now15 r5) head4 x1.At x1.Width x1.Rune x1.Broken open5
) ( zhU (⟨now13,now14,now15⟩:zaO) <| j2
)
) ( zhU (⟨now13,now14,now15⟩:zaO) <| j2
)
) ( zhU (⟨now13,now14,now15⟩:zaO) <| j2
)
) ( zhU (⟨now13,now14,now15⟩:zaO) <| j2
)
)
)
) ( grd (I64 (x1.At+x1.Width)) <| zaA (zeh x1) fun (r6:Int) => ag1 x1.At (x1.At+x1.Width) r6 (zdu x1.Broken x1.Rune) x1.At x1.Width x1.Rune x1.Broken true
)
def zf8 (c0:zBA):Option (List zaO) := zcd (fun (j1:Int→Int→Int→Bool→Option (List zaO)) => zaA (zew c0) fun (r1:zBA) => zaA (zc8 r1) fun (its1:(List zaY)) => zcd (fun (dn1:Int→Int→Int→Int→Int→Int→Int→Bool→Bool→Option (List zaO)) => zbZ dn1 (zei) its1 0 0 0 0 0 0 0 false false
) (fun (now13:Int) (now14:Int) (now15:Int) (head4:Int) (last13:Int) (last14:Int) (last15:Int) (last16:Bool) (open5:Bool) => j1 now13 now14 now15 open5
)
) (fun (now1:Int) (now2:Int) (now3:Int) (open1:Bool) => zaL (open1) ( zhU (⟨now1,now2,now3⟩:zaO) <| some []
) ( some []
)
)
theorem zi8 {b_c0:Nat} {c0:zBA} {xs:(List zaO)} (h:zf8 c0=some xs):Itr prog 85 [zP b_c0] (fun q:zaO=>[.agg (zr3 q).toArray]) xs [(b_c0,.cells #[.string c0] 9 (0,0))]:=by
 unfold zf8 at h
 refine Itr.intro func85 rfl ntmps85 (by simp) ?_
 intro l w0 K I X hRo hy
 obtain ⟨r0,hx0⟩:∃ r,xs=[]++r:=⟨xs,rfl⟩
 have hr0:xs=r0:=hx0
 rw [hr0] at h
 refine ze3 ?_
 refine zyG ?_
 refine zdN rfl dc rfl (fun b1 => ?_)
 refine zyN ?_
 refine zh8 (β:=Unit) (l:=0) (fun _=>False) (fun _=>[]) (fun _=>[]) rfl ?_ ?_
 ·
  obtain ⟨j1,hj1,h⟩:=zcC h
  refine zbF (β:=Int×Int×Int×Bool×(List zaO)×(List zaO)×Nat×Nat×(List Nat)) 5 rfl (fun b=>j1 b.1 b.2.1 b.2.2.1 b.2.2.2.1=some b.2.2.2.2.2.1∧xs=b.2.2.2.2.1++b.2.2.2.2.2.1) (fun b=>zcK b.2.2.2.2.2.2.2.2) (fun b=>[(2,zP b1),(3,zP b.2.2.2.2.2.2.1),(6,zP b.2.2.2.2.2.2.2.1)]) (fun b=>[I b.2.2.2.2.1,cells b1 [.func (.yield l) #[] #[]] 176,cells b.2.2.2.2.2.2.1 [zI b.1,zI b.2.1,zI b.2.2.1] 153,cells b.2.2.2.2.2.2.2.1 [.bool b.2.2.2.1] 4,zc0 ((b.2.2.2.2.2.2.2.2:List Nat).map zcu)]) (fun cut => ?_) ?_
  ·
   refine zyG ?_
   refine za6 zrE rfl dc (fun b4 => ?_)
   refine zyH ?_
   refine za6 zt8 rfl dc (fun b5 => ?_)
   refine zyH ?_
   refine za6 zje rfl dc (fun b6 => ?_)
   refine zyH ?_
   refine za6 zwN rfl dc (fun b7 => ?_)
   refine zaG (k:=6) (l':=[.bool false]) zlF rfl rfl rfl rfl rfl (fun _ _=>rfl) rfl ?_
   refine zyN (zar (zmd (zag (cut (zyG (zf2 (i:=0) hRo zhH rfl dc rfl rfl rfl ?_))))))
   obtain ⟨r1,hq1,h⟩:=zcp h
   refine zdE (vs:=[.string c0]) rfl dc rfl rfl rfl zp4 (zfu hq1) Splits.nil ?_
   rintro b8
   refine zyN (zaK ?_)
   obtain ⟨its1,hq2,h⟩:=zcp h
   obtain ⟨dn1,hdn1,h⟩:=zcC h
   refine zfF (α:=zaY) (β:=Int×Int×Int×Int×Int×Int×Int×Bool×Bool×(List zaO)×(List zaO)) (γ:=(List zaO×zaO×List zaO)) (δ:=Nat) (ps:=[11]) hRo rfl zp3 (zeC hq2) (fun pre b=>(∀ post,its1=pre++post→zbZ dn1 (zei) post b.1 b.2.1 b.2.2.1 b.2.2.2.1 b.2.2.2.2.1 b.2.2.2.2.2.1 b.2.2.2.2.2.2.1 b.2.2.2.2.2.2.2.1 b.2.2.2.2.2.2.2.2.1=some b.2.2.2.2.2.2.2.2.2.2)∧xs=b.2.2.2.2.2.2.2.2.2.1++b.2.2.2.2.2.2.2.2.2.2) (fun pre b=>[I b.2.2.2.2.2.2.2.2.2.1,cells b1 [.func (.yield l) #[] #[]] 176,cells b4 [zI b.1,zI b.2.1,zI b.2.2.1] 153,cells b5 [zI b.2.2.2.1] 102,cells b6 [zI b.2.2.2.2.1,zI b.2.2.2.2.2.1,.int .i32 b.2.2.2.2.2.2.1,.bool b.2.2.2.2.2.2.2.1] 47,cells b7 [.bool b.2.2.2.2.2.2.2.2.1] 4]) (fun c pre g=>(fun g=>c=Code.ret∧xs=g.1++g.2.1::g.2.2) g) (fun c pre g=>(fun g=>[X (g.1++[g.2.1])]) g) (fun pre x b j=>[(2,zP b1),(3,zP b4),(4,zP b5),(5,zP b6),(6,zP b7),(10,.func (.func 50) #[] #[zP b8]),(7,zP j)]) (fun pre x b j=>[I b.2.2.2.2.2.2.2.2.2.1,cells b1 [.func (.yield l) #[] #[]] 176,cells b4 [zI b.1,zI b.2.1,zI b.2.2.1] 153,cells b5 [zI b.2.2.2.1] 102,cells b6 [zI b.2.2.2.2.1,zI b.2.2.2.2.2.1,.int .i32 b.2.2.2.2.2.2.1,.bool b.2.2.2.2.2.2.2.1] 47,cells b7 [.bool b.2.2.2.2.2.2.2.2.1] 4,cells j (zr1 x) 47]) (0,0,0,0,0,0,0,false,false,([]:List zaO),r0) ⟨fun post e=>(by rw [List.nil_append] at e; subst e; exact h),hx0⟩ (zaa [0,2,3,4,5,6] kr rfl) ⟨.inl ⟨7,rfl⟩,trivial⟩ (fun _=>rfl) dc ?_ ?_ ?_ ?_
   ·
    rintro lp rc pre x1 post ⟨now13,now14,now15,head4,last13,last14,last15,last16,open5,acc4,rr4⟩ w1 K1 hxs1 hext hro hinv
    have hy:=hy.later hext
    refine zad ?_
    refine za6 zje rfl dc (fun b9 => ?_)
    refine za2 (k:=6) (vs:=(zr1 x1)) (l':=(zr1 x1)) zgE rfl rfl rfl rfl rfl (show _≤_ by simp) rfl rfl ?_
    refine zap ?_
    exact fun a w ha hw=>⟨b9,(zbK rfl) _ _ _ ha,hw.weaken (zaa [0,1,2,3,4,5,6] kr rfl)⟩
   ·
    rintro lp rc pre x1 post1 ⟨now13,now14,now15,head4,last13,last14,last15,last16,open5,acc4,rr4⟩ jb1 w1 K1 hxs1 hext hro hinv
    have hy:=hy.later hext
    obtain ⟨hinv,hx4⟩:=hinv
    have h:=hinv (x1::post1) hxs1
    obtain ⟨ag1,hag1⟩:∃ ag,ag=zbZ dn1 (zei) post1:=⟨_,rfl⟩
    have h:zei x1 ag1 now13 now14 now15 head4 last13 last14 last15 last16 open5=some rr4:=by have h2:=h; rw [zb3,← hag1] at h2; exact h2
    unfold zei at h
    refine zaK ?_
    obtain ⟨j2,hj2,h⟩:=zcC h
    refine zbF (β:=(List zaO)×(List zaO)) 1 rfl (fun b=>j2=some b.2∧xs=b.1++b.2) (fun b=>[]) (fun b=>[(2,zP b1),(3,zP b4),(4,zP b5),(5,zP b6),(6,zP b7),(7,zP jb1),(8,zI (zdu x1.Broken x1.Rune)),(10,.func (.func 50) #[] #[zP b8])]) (fun b=>[I b.1,cells b1 [.func (.yield l) #[] #[]] 176,cells b4 [zI now13,zI now14,zI now15] 153,cells b5 [zI head4] 102,cells b6 [zI last13,zI last14,.int .i32 last15,.bool last16] 47,cells b7 [.bool open5] 4,cells jb1 (zr1 x1) 47]) (fun cut => ?_) ?_
    ·
     refine zyG (zaZ (k:=6) (cs:=(zr1 x1)) ze7 rfl dc rfl rfl rfl rfl ?_)
     obtain ⟨hg1,h⟩:=zcU h
     refine zbv (v:=zI (zdu x1.Broken x1.Rune)) (vs:=[.agg (zr1 x1).toArray]) rfl dc rfl rfl rfl zlZ (zqZ x1.At x1.Width x1.Rune x1.Broken hg1.1 hg1.2) (zyR 1 rfl (zyN (cut (zaK (zyG (zat (k:=5) zkg rfl dc rfl rfl rfl (zdM rfl dc rfl zcA (zyR 1 rfl (zyN ?_)))))))))
     refine zyB rfl h (fun h => ?_) (fun h => ?_)
     ·
      refine zax (zah ?_)
      exact zaB (acc4,rr4) ⟨h,hx4⟩ rfl (zbK rfl) (zaa [0,1,2,3,4,5,6] kr rfl)
     refine zyG (zac zfN rfl dc rfl (show _=2 from rfl) (zat (k:=4) zfq rfl dc rfl rfl rfl (zbn rfl zaP (zyR 1 rfl ?_))))
     refine zyS (s:=25) rfl h (fun h => ?_) (fun h => ?_)
     ·
      refine zac zfN rfl dc rfl (show _=2 from rfl) (zat (k:=6) zfq rfl dc rfl rfl rfl (zbn rfl zaP (zyR 2 rfl (zyN ?_))))
      refine zyB rfl h (fun h => ?_) (fun h => ?_)
      ·
       refine zyG (zac zeo rfl dc rfl (show _=0 from rfl) (zat (k:=6) zdk rfl dc rfl rfl rfl (zac zgI rfl dc rfl (show _=1 from rfl) (zat (k:=6) zdk rfl dc rfl rfl rfl ?_))))
       obtain ⟨hg2,h⟩:=zcU h
       refine zbn rfl (zbs (r:=x1.At+x1.Width) (IntWalk.i64_in _ hg2)) (zac zlX rfl dc rfl (show _=0 from rfl) (zac zeB rfl dc rfl (show _=1 from rfl) ?_))
       refine zaG (k:=2) (l':=[zI now13,zI (x1.At+x1.Width),zI now15]) zeR rfl rfl rfl rfl rfl (fun _ _=>rfl) rfl ?_
       refine zyH (zaZ (k:=6) (cs:=(zr1 x1)) ze7 rfl dc rfl rfl rfl rfl (za2 (k:=4) (vs:=(zr1 x1)) (l':=(zr1 x1)) zgE rfl rfl rfl rfl rfl (show _≤_ by simp) rfl rfl ?_))
       refine zyN (zcy (zfP dc (zaV (zbh ?_))))
       exact zcj (now13,x1.At+x1.Width,now15,head4,x1.At,x1.Width,x1.Rune,x1.Broken,open5,acc4,rr4) ⟨fun post2 e2=>(by have e9:=zcI hxs1 e2; subst e9; subst hag1; exact h),hx4⟩ (zaa [0,1,2,3,4,5] kr rfl)
      refine zyG (zat (k:=3) zhi rfl dc rfl rfl rfl (zbn rfl zdZ (zyR 1 rfl ?_)))
      refine zyS (s:=41) rfl h (fun h => ?_) (fun h => ?_)
      ·
       refine zat (k:=3) zhi rfl dc rfl rfl rfl (zbn rfl zdZ (zyR 2 rfl ?_))
       refine zyS (s:=45) rfl h (fun h => ?_) (fun h => ?_)
       ·
        refine zat (k:=3) zhi rfl dc rfl rfl rfl (zbn rfl zdZ (zyR 2 rfl ?_))
        refine zyS (s:=49) rfl h (fun h => ?_) (fun h => ?_)
        ·
         refine zat (k:=3) zhi rfl dc rfl rfl rfl (zaZ (k:=4) (cs:=[zI last13,zI last14,.int .i32 last15,.bool last16]) ze7 rfl dc rfl rfl rfl rfl (zaZ (k:=6) (cs:=(zr1 x1)) ze7 rfl dc rfl rfl rfl rfl ?_))
         obtain ⟨r2,hq3,h⟩:=zcp h
         refine zbv (v:=.bool r2) (vs:=[zI head4,.agg #[zI last13,zI last14,.int .i32 last15,.bool last16],.agg (zr1 x1).toArray]) rfl dc rfl rfl rfl zuF (zhn (behind1:=(⟨last13,last14,last15,last16⟩:zaY)) (p1:=x1) hq3) (zyR 2 rfl (zyN ?_))
         refine zyB rfl h (fun h => ?_) (fun h => ?_)
         ·
          refine zyG (zac zeo rfl dc rfl (show _=0 from rfl) (zat (k:=6) zdk rfl dc rfl rfl rfl (zac zgI rfl dc rfl (show _=1 from rfl) (zat (k:=6) zdk rfl dc rfl rfl rfl ?_))))
          obtain ⟨hg3,h⟩:=zcU h
          refine zbn rfl (zbs (r:=x1.At+x1.Width) (IntWalk.i64_in _ hg3)) (zac zlX rfl dc rfl (show _=0 from rfl) (zac zeB rfl dc rfl (show _=1 from rfl) ?_))
          refine zaG (k:=2) (l':=[zI now13,zI (x1.At+x1.Width),zI now15]) zeR rfl rfl rfl rfl rfl (fun _ _=>rfl) rfl ?_
          refine zyN (zar ?_)
          obtain ⟨r3,hq4,h⟩:=zcp h
          refine zbW 4 [(0,62,.pointer (some ⟨b4,2,none⟩)),(1,63,zI now15),(2,64,.agg (zr1 x1).toArray),(3,65,zI r3)] mixed kr kr dc (by rfl) kr kr (zae ?_ (zae ?_ (zae ?_ (zae ?_ DrawPre.nil)))) ?_
          · exact fun D n d c u i=>zac zjX rfl dc (za3 (by rfl) rfl) (show _=2 from rfl) (zaI 0 u i)
          · exact fun D n d c u i=>zat (k:=2) zdk rfl dc (zaH 0 u d) rfl rfl (zaI 1 u i)
          · exact fun D n d c u i=>zaZ (k:=6) (cs:=(zr1 x1)) ze7 rfl dc (za3 (by rfl) rfl) rfl rfl rfl (zaI 2 u i)
          · exact fun D n d c u i=>zbv (v:=zI r3) (vs:=[.agg (zr1 x1).toArray]) rfl dc rfl (evL.cons (zaH 2 u d) evL.nil) rfl zti (zfy (p1:=x1) hq4) (zaI 3 u i)
          refine zqq rfl dc rfl rfl (zac zjX rfl dc rfl (show _=2 from rfl) ?_)
          refine zaG (k:=2) (l':=[zI now13,zI (x1.At+x1.Width),zI (max now15 r3)]) zeR rfl rfl rfl rfl rfl (fun _ _=>rfl) rfl ?_
          refine zyH (zaZ (k:=6) (cs:=(zr1 x1)) ze7 rfl dc rfl rfl rfl rfl (za2 (k:=4) (vs:=(zr1 x1)) (l':=(zr1 x1)) zgE rfl rfl rfl rfl rfl (show _≤_ by simp) rfl rfl (zyN (zcy (zfP dc (zaV (zbh ?_)))))))
          exact zcj (now13,x1.At+x1.Width,max now15 r3,head4,x1.At,x1.Width,x1.Rune,x1.Broken,open5,acc4,rr4) ⟨fun post2 e2=>(by have e9:=zcI hxs1 e2; subst e9; subst hag1; exact h),hx4⟩ (zaa [0,1,2,3,4,5] kr rfl)
         refine zyG (zat (k:=1) ziS rfl dc rfl rfl rfl (zaZ (k:=2) (cs:=[zI now13,zI now14,zI now15]) zio rfl dc rfl rfl rfl rfl ?_))
         obtain ⟨rr6,hr1,h⟩:=zik h
         have hx6:xs=acc4++(⟨now13,now14,now15⟩:zaO)::rr6:=by rw [hx4,hr1]
         refine zcX hy rfl dc rfl hx6 rfl (k:=0) rfl ?_ ?_
         ·
          have hx7:xs=(acc4++[(⟨now13,now14,now15⟩:zaO)])++rr6:=by rw [hx6]; simp
          refine zdM rfl dc rfl zcA (zyN (zaS rfl (zax (zah ?_))))
          exact zaB (acc4++[(⟨now13,now14,now15⟩:zaO)],rr6) ⟨h,hx7⟩ rfl (zbK rfl) (zaa [0,1,2,3,4,5,6] kr rfl)
         refine zdM rfl dc rfl zcA (zyN (zbw rfl (zaE (zau (zao (zau ?_))))))
         exact zcv (acc4,(⟨now13,now14,now15⟩:zaO),rr6) (show _∧_ from ⟨rfl,hx6⟩) (zaa [0] kr rfl)
        refine zyR 6 rfl (zyN (zaS rfl (zyG (zat (k:=1) ziS rfl dc rfl rfl rfl (zaZ (k:=2) (cs:=[zI now13,zI now14,zI now15]) zio rfl dc rfl rfl rfl rfl ?_)))))
        obtain ⟨rr7,hr2,h⟩:=zik h
        have hx8:xs=acc4++(⟨now13,now14,now15⟩:zaO)::rr7:=by rw [hx4,hr2]
        refine zcX hy rfl dc rfl hx8 rfl (k:=0) rfl ?_ ?_
        ·
         have hx9:xs=(acc4++[(⟨now13,now14,now15⟩:zaO)])++rr7:=by rw [hx8]; simp
         refine zdM rfl dc rfl zcA (zyN (zaS rfl (zax (zah ?_))))
         exact zaB (acc4++[(⟨now13,now14,now15⟩:zaO)],rr7) ⟨h,hx9⟩ rfl (zbK rfl) (zaa [0,1,2,3,4,5,6] kr rfl)
        refine zdM rfl dc rfl zcA (zyN (zbw rfl (zaE (zau (zao (zau ?_))))))
        exact zcv (acc4,(⟨now13,now14,now15⟩:zaO),rr7) (show _∧_ from ⟨rfl,hx8⟩) (zaa [0] kr rfl)
       refine zyR 10 rfl (zyN (zaS rfl (zar ?_)))
       refine zad (zat (k:=1) ziS rfl dc rfl rfl rfl (zaZ (k:=2) (cs:=[zI now13,zI now14,zI now15]) zio rfl dc rfl rfl rfl rfl ?_))
       obtain ⟨rr8,hr3,h⟩:=zik h
       have hx10:xs=acc4++(⟨now13,now14,now15⟩:zaO)::rr8:=by rw [hx4,hr3]
       refine zcX hy rfl dc rfl hx10 rfl (k:=0) rfl ?_ ?_
       ·
        have hx11:xs=(acc4++[(⟨now13,now14,now15⟩:zaO)])++rr8:=by rw [hx10]; simp
        refine zdM rfl dc rfl zcA (zyN (zaS rfl (zax (zah ?_))))
        exact zaB (acc4++[(⟨now13,now14,now15⟩:zaO)],rr8) ⟨h,hx11⟩ rfl (zbK rfl) (zaa [0,1,2,3,4,5,6] kr rfl)
       refine zdM rfl dc rfl zcA (zyN (zbw rfl (zaE (zau (zao (zau ?_))))))
       exact zcv (acc4,(⟨now13,now14,now15⟩:zaO),rr8) (show _∧_ from ⟨rfl,hx10⟩) (zaa [0] kr rfl)
      refine zyR 14 rfl ?_
      refine zyN (zaS rfl (zyG (zat (k:=1) ziS rfl dc rfl rfl rfl (zaZ (k:=2) (cs:=[zI now13,zI now14,zI now15]) zio rfl dc rfl rfl rfl rfl ?_))))
      obtain ⟨rr9,hr4,h⟩:=zik h
      have hx12:xs=acc4++(⟨now13,now14,now15⟩:zaO)::rr9:=by rw [hx4,hr4]
      refine zcX hy rfl dc rfl hx12 rfl (k:=0) rfl ?_ ?_
      ·
       have hx13:xs=(acc4++[(⟨now13,now14,now15⟩:zaO)])++rr9:=by rw [hx12]; simp
       refine zdM rfl dc rfl zcA (zyN (zaS rfl (zax (zah ?_))))
       exact zaB (acc4++[(⟨now13,now14,now15⟩:zaO)],rr9) ⟨h,hx13⟩ rfl (zbK rfl) (zaa [0,1,2,3,4,5,6] kr rfl)
      refine zdM rfl dc rfl zcA (zyN (zbw rfl (zaE (zau (zao (zau ?_))))))
      exact zcv (acc4,(⟨now13,now14,now15⟩:zaO),rr9) (show _∧_ from ⟨rfl,hx12⟩) (zaa [0] kr rfl)
     refine zyR 5 rfl (zyN (zaS rfl (zyG (zat (k:=3) zhi rfl dc rfl rfl rfl (zbn rfl zdZ (zyR 1 rfl ?_))))))
     refine zyS (s:=41) rfl h (fun h => ?_) (fun h => ?_)
     ·
      refine zat (k:=3) zhi rfl dc rfl rfl rfl (zbn rfl zdZ (zyR 2 rfl ?_))
      refine zyS (s:=45) rfl h (fun h => ?_) (fun h => ?_)
      ·
       refine zat (k:=3) zhi rfl dc rfl rfl rfl (zbn rfl zdZ (zyR 2 rfl ?_))
       refine zyS (s:=49) rfl h (fun h => ?_) (fun h => ?_)
       ·
        refine zat (k:=3) zhi rfl dc rfl rfl rfl (zaZ (k:=4) (cs:=[zI last13,zI last14,.int .i32 last15,.bool last16]) ze7 rfl dc rfl rfl rfl rfl (zaZ (k:=6) (cs:=(zr1 x1)) ze7 rfl dc rfl rfl rfl rfl ?_))
        obtain ⟨r4,hq5,h⟩:=zcp h
        refine zbv (v:=.bool r4) (vs:=[zI head4,.agg #[zI last13,zI last14,.int .i32 last15,.bool last16],.agg (zr1 x1).toArray]) rfl dc rfl rfl rfl zuF (zhn (behind1:=(⟨last13,last14,last15,last16⟩:zaY)) (p1:=x1) hq5) (zyR 2 rfl (zyN ?_))
        refine zyB rfl h (fun h => ?_) (fun h => ?_)
        ·
         refine zyG (zac zeo rfl dc rfl (show _=0 from rfl) (zat (k:=6) zdk rfl dc rfl rfl rfl (zac zgI rfl dc rfl (show _=1 from rfl) (zat (k:=6) zdk rfl dc rfl rfl rfl ?_))))
         obtain ⟨hg4,h⟩:=zcU h
         refine zbn rfl (zbs (r:=x1.At+x1.Width) (IntWalk.i64_in _ hg4)) (zac zlX rfl dc rfl (show _=0 from rfl) (zac zeB rfl dc rfl (show _=1 from rfl) ?_))
         refine zaG (k:=2) (l':=[zI now13,zI (x1.At+x1.Width),zI now15]) zeR rfl rfl rfl rfl rfl (fun _ _=>rfl) rfl ?_
         refine zyN (zar ?_)
         obtain ⟨r5,hq6,h⟩:=zcp h
         refine zbW 4 [(0,62,.pointer (some ⟨b4,2,none⟩)),(1,63,zI now15),(2,64,.agg (zr1 x1).toArray),(3,65,zI r5)] mixed kr kr dc (by rfl) kr kr (zae ?_ (zae ?_ (zae ?_ (zae ?_ DrawPre.nil)))) ?_
         · exact fun D n d c u i=>zac zjX rfl dc (za3 (by rfl) rfl) (show _=2 from rfl) (zaI 0 u i)
         · exact fun D n d c u i=>zat (k:=2) zdk rfl dc (zaH 0 u d) rfl rfl (zaI 1 u i)
         · exact fun D n d c u i=>zaZ (k:=6) (cs:=(zr1 x1)) ze7 rfl dc (za3 (by rfl) rfl) rfl rfl rfl (zaI 2 u i)
         · exact fun D n d c u i=>zbv (v:=zI r5) (vs:=[.agg (zr1 x1).toArray]) rfl dc rfl (evL.cons (zaH 2 u d) evL.nil) rfl zti (zfy (p1:=x1) hq6) (zaI 3 u i)
         refine zqq rfl dc rfl rfl (zac zjX rfl dc rfl (show _=2 from rfl) ?_)
         refine zaG (k:=2) (l':=[zI now13,zI (x1.At+x1.Width),zI (max now15 r5)]) zeR rfl rfl rfl rfl rfl (fun _ _=>rfl) rfl ?_
         refine zyH (zaZ (k:=6) (cs:=(zr1 x1)) ze7 rfl dc rfl rfl rfl rfl (za2 (k:=4) (vs:=(zr1 x1)) (l':=(zr1 x1)) zgE rfl rfl rfl rfl rfl (show _≤_ by simp) rfl rfl (zyN (zcy (zfP dc (zaV (zbh ?_)))))))
         exact zcj (now13,x1.At+x1.Width,max now15 r5,head4,x1.At,x1.Width,x1.Rune,x1.Broken,open5,acc4,rr4) ⟨fun post2 e2=>(by have e9:=zcI hxs1 e2; subst e9; subst hag1; exact h),hx4⟩ (zaa [0,1,2,3,4,5] kr rfl)
        refine zyG (zat (k:=1) ziS rfl dc rfl rfl rfl (zaZ (k:=2) (cs:=[zI now13,zI now14,zI now15]) zio rfl dc rfl rfl rfl rfl ?_))
        obtain ⟨rr10,hr5,h⟩:=zik h
        have hx14:xs=acc4++(⟨now13,now14,now15⟩:zaO)::rr10:=by rw [hx4,hr5]
        refine zcX hy rfl dc rfl hx14 rfl (k:=0) rfl ?_ ?_
        ·
         have hx15:xs=(acc4++[(⟨now13,now14,now15⟩:zaO)])++rr10:=by rw [hx14]; simp
         refine zdM rfl dc rfl zcA (zyN (zaS rfl (zax (zah ?_))))
         exact zaB (acc4++[(⟨now13,now14,now15⟩:zaO)],rr10) ⟨h,hx15⟩ rfl (zbK rfl) (zaa [0,1,2,3,4,5,6] kr rfl)
        refine zdM rfl dc rfl zcA (zyN (zbw rfl (zaE (zau (zao (zau ?_))))))
        exact zcv (acc4,(⟨now13,now14,now15⟩:zaO),rr10) (show _∧_ from ⟨rfl,hx14⟩) (zaa [0] kr rfl)
       refine zyR 6 rfl (zyN (zaS rfl (zyG (zat (k:=1) ziS rfl dc rfl rfl rfl (zaZ (k:=2) (cs:=[zI now13,zI now14,zI now15]) zio rfl dc rfl rfl rfl rfl ?_)))))
       obtain ⟨rr11,hr6,h⟩:=zik h
       have hx16:xs=acc4++(⟨now13,now14,now15⟩:zaO)::rr11:=by rw [hx4,hr6]
       refine zcX hy rfl dc rfl hx16 rfl (k:=0) rfl ?_ ?_
       ·
        have hx17:xs=(acc4++[(⟨now13,now14,now15⟩:zaO)])++rr11:=by rw [hx16]; simp
        refine zdM rfl dc rfl zcA (zyN (zaS rfl (zax (zah ?_))))
        exact zaB (acc4++[(⟨now13,now14,now15⟩:zaO)],rr11) ⟨h,hx17⟩ rfl (zbK rfl) (zaa [0,1,2,3,4,5,6] kr rfl)
       refine zdM rfl dc rfl zcA (zyN (zbw rfl (zaE (zau (zao (zau ?_))))))
       exact zcv (acc4,(⟨now13,now14,now15⟩:zaO),rr11) (show _∧_ from ⟨rfl,hx16⟩) (zaa [0] kr rfl)
      refine zyR 10 rfl (zyN (zaS rfl (zar ?_)))
      refine zad (zat (k:=1) ziS rfl dc rfl rfl rfl (zaZ (k:=2) (cs:=[zI now13,zI now14,zI now15]) zio rfl dc rfl rfl rfl rfl ?_))
      obtain ⟨rr12,hr7,h⟩:=zik h
      have hx18:xs=acc4++(⟨now13,now14,now15⟩:zaO)::rr12:=by rw [hx4,hr7]
      refine zcX hy rfl dc rfl hx18 rfl (k:=0) rfl ?_ ?_
      ·
       have hx19:xs=(acc4++[(⟨now13,now14,now15⟩:zaO)])++rr12:=by rw [hx18]; simp
       refine zdM rfl dc rfl zcA (zyN (zaS rfl (zax (zah ?_))))
       exact zaB (acc4++[(⟨now13,now14,now15⟩:zaO)],rr12) ⟨h,hx19⟩ rfl (zbK rfl) (zaa [0,1,2,3,4,5,6] kr rfl)
      refine zdM rfl dc rfl zcA (zyN (zbw rfl (zaE (zau (zao (zau ?_))))))
      exact zcv (acc4,(⟨now13,now14,now15⟩:zaO),rr12) (show _∧_ from ⟨rfl,hx18⟩) (zaa [0] kr rfl)
     refine zyR 14 rfl ?_
     refine zyN (zaS rfl (zyG (zat (k:=1) ziS rfl dc rfl rfl rfl (zaZ (k:=2) (cs:=[zI now13,zI now14,zI now15]) zio rfl dc rfl rfl rfl rfl ?_))))
     obtain ⟨rr13,hr8,h⟩:=zik h
     have hx20:xs=acc4++(⟨now13,now14,now15⟩:zaO)::rr13:=by rw [hx4,hr8]
     refine zcX hy rfl dc rfl hx20 rfl (k:=0) rfl ?_ ?_
     ·
      have hx21:xs=(acc4++[(⟨now13,now14,now15⟩:zaO)])++rr13:=by rw [hx20]; simp
      refine zdM rfl dc rfl zcA (zyN (zaS rfl (zax (zah ?_))))
      exact zaB (acc4++[(⟨now13,now14,now15⟩:zaO)],rr13) ⟨h,hx21⟩ rfl (zbK rfl) (zaa [0,1,2,3,4,5,6] kr rfl)
     refine zdM rfl dc rfl zcA (zyN (zbw rfl (zaE (zau (zao (zau ?_))))))
     exact zcv (acc4,(⟨now13,now14,now15⟩:zaO),rr13) (show _∧_ from ⟨rfl,hx20⟩) (zaa [0] kr rfl)
    rintro ⟨acc5,rr5⟩ ⟨h,hx5⟩
    rw [hj2] at h
    refine zar ?_
    refine let vals1:(Unit)→List (Nat×Nat×Value):=fun b=>[(0,69,zI (zdu x1.Broken x1.Rune)),(1,70,.agg (zr1 x1).toArray)]; let LL1:(Nat→Prop)→(Unit)→List Asn:=fun D b=>[I acc5,cells b1 [.func (.yield l) #[] #[]] 176,cells b4 [zI now13,zI now14,zI now15] 153,eD D (cells b5 [zI head4] 102) [(3,cells b5 [zI (zdu x1.Broken x1.Rune)] 102)],cells b6 [zI last13,zI last14,.int .i32 last15,.bool last16] 47,eD D (cells b7 [.bool open5] 4) [(2,cells b7 [.bool true] 4)],cells jb1 (zr1 x1) 47]; ?_
    have zhq:zyQ [2,3] LL1:=fun i h D b=>zay rfl (zay rfl (zay rfl (zay (ztU rfl h) (zay rfl (zay (ztU rfl h) rfl)))))
    refine zhd (β:=Unit) 4 () vals1 LL1 mixed kr kr dc (fun _=>rfl) (zhx (zay ze5 (zay rfl (zay ze5 rfl)))) (zvm zhq (fun _=>rfl) (fun _=>rfl) 1 0 (fun _=>rfl) rfl (zsj zhq rfl (fun _=>rfl) (fun _=>rfl) ?_ (zbd ?_ (zbd ?_ DrawG.nil)))) ?_
    · exact fun D b n d c u i=>⟨_,(zwU rfl),zaZ (k:=6) (cs:=(zr1 x1)) ze7 rfl dc (za3 (by rfl) rfl) rfl rfl rfl (zaI 1 u i)⟩
    ·
     intro D b hn hd hcl
     refine zbM (zhx (zay (za5 (fun hD=>hn (hcl 3 _ rfl hD 2 dc)) zbr) (zay rfl (zay (za5 hn zbr) rfl)))) ?_
     refine zaG (k:=5) (l':=[.bool true]) zlF rfl (za3 (by rfl) rfl) rfl rfl rfl (fun _ _=>rfl) rfl ?_
     exact zoq (b:=b) () (by rfl) (zwL rfl) (zhx (zay ((zbg (by rfl)).trans (za5 (fun hD=>hn (hcl 3 _ rfl hD 2 dc)) zbr)) (zay rfl (zay (zda (Or.inr rfl) rfl) rfl))))
    ·
     intro D b hn hd hcl
     refine zbM (zhx (zay (za5 hn zbr) (zay rfl (zay (zda (hd 2 dc) rfl) rfl)))) ?_
     refine zaG (k:=3) (l':=[zI (zdu x1.Broken x1.Rune)]) zuj rfl (za3 (by rfl) rfl) (zaU (m:=0) rfl rfl (hd 0 dc)) rfl rfl (fun _ _=>rfl) rfl ?_
     exact zoq (b:=b) () (by rfl) (zwL rfl) (zhx (zay (zda (Or.inr rfl) rfl) (zay rfl (zay ((zbg (by rfl)).trans (zda (hd 2 dc) rfl)) rfl))))
    intro D b hall
    refine zbM (zhx (zay (zda (hall 3 dc) rfl) (zay rfl (zay (zda (hall 2 dc) rfl) rfl)))) (za2 (k:=4) (vs:=(zr1 x1)) (l':=(zr1 x1)) zgE rfl rfl rfl rfl rfl (show _≤_ by simp) rfl rfl (zyN ?_))
    obtain ⟨hg5,h⟩:=zcU h
    obtain ⟨r6,hq7,h⟩:=zcp h
    refine zbW 10 [(0,71,zP jb1),(1,72,zI x1.At),(2,73,zP jb1),(3,74,zI x1.At),(4,75,.pointer (some ⟨jb1,1,none⟩)),(5,76,zI x1.Width),(6,77,zI (x1.At+x1.Width)),(7,78,.agg #[zI x1.At,zI (x1.At+x1.Width)]),(8,79,.agg (zr1 x1).toArray),(9,80,zI r6)] mixed kr kr dc (by rfl) kr kr (zae ?_ (zae ?_ (zae ?_ (zae ?_ (zae ?_ (zae ?_ (zae ?_ (zae ?_ (zae ?_ (zae ?_ DrawPre.nil)))))))))) ?_
    · exact fun D n d c u i=>zac zeo rfl dc (za3 (by rfl) rfl) (show _=0 from rfl) (zaI 0 u i)
    · exact fun D n d c u i=>zat (k:=6) zdk rfl dc (zaH 0 u d) rfl rfl (zaI 1 u i)
    · exact fun D n d c u i=>zac zeo rfl dc (za3 (by rfl) rfl) (show _=0 from rfl) (zaI 2 u i)
    · exact fun D n d c u i=>zat (k:=6) zdk rfl dc (zaH 2 u d) rfl rfl (zaI 3 u i)
    · exact fun D n d c u i=>zac zgI rfl dc (za3 (by rfl) rfl) (show _=1 from rfl) (zaI 4 u i)
    · exact fun D n d c u i=>zat (k:=6) zdk rfl dc (zaH 4 u d) rfl rfl (zaI 5 u i)
    · exact fun D n d c u i=>zaX rfl dc (zaH 3 u d) (zaH 5 u d) (zbs (r:=x1.At+x1.Width) (IntWalk.i64_in _ hg5)) (zaI 6 u i)
    · exact fun D n d c u i=>zbB (v:=.agg #[zI x1.At,zI (x1.At+x1.Width)]) (ps:=[(0,.tmp 72),(1,.tmp 77)]) rfl dc (evP.cons (zaH 1 u d) (evP.cons (zaH 6 u d) evP.nil)) (fun _=>by kernel_rfl) (zaI 7 u i)
    · exact fun D n d c u i=>zaZ (k:=6) (cs:=(zr1 x1)) ze7 rfl dc (za3 (by rfl) rfl) rfl rfl rfl (zaI 8 u i)
    · exact fun D n d c u i=>zbv (v:=zI r6) (vs:=[.agg (zr1 x1).toArray]) rfl dc rfl (evL.cons (zaH 8 u d) evL.nil) rfl zti (zfy (p1:=x1) hq7) (zaI 9 u i)
    refine zbB (v:=.agg #[zI x1.At,zI (x1.At+x1.Width),zI r6]) (ps:=[(0,.tmp 78),(1,.tmp 80)]) rfl dc rfl (fun _=>by kernel_rfl) ?_
    refine za2 (k:=2) (vs:=[zI x1.At,zI (x1.At+x1.Width),zI r6]) (l':=[zI x1.At,zI (x1.At+x1.Width),zI r6]) zrM rfl rfl rfl rfl rfl (show _≤_ by simp) rfl rfl ?_
    refine zap (zah ?_)
    exact zcj (x1.At,x1.At+x1.Width,r6,zdu x1.Broken x1.Rune,x1.At,x1.Width,x1.Rune,x1.Broken,true,acc5,rr5) ⟨fun post2 e2=>(by have e9:=zcI hxs1 e2; subst e9; subst hag1; exact h),hx5⟩ (zaa [0,1,2,3,4,5] kr rfl)
   ·
    rintro dm1 ⟨now13,now14,now15,head4,last13,last14,last15,last16,open5,acc4,rr4⟩ hinv
    obtain ⟨hinv,hx4⟩:=hinv
    have h:dn1 now13 now14 now15 head4 last13 last14 last15 last16 open5=some rr4:=hinv [] (List.append_nil _).symm
    rw [hdn1] at h
    show TX _ _ _ _ _ _ _ [emp,zc0 ((([]:List Nat):List Nat).map zcu),emp,emp,emp,emp,emp,cells b8 [.string r1] 9,I acc4,cells b1 [.func (.yield l) #[] #[]] 176,cells b4 [zI now13,zI now14,zI now15] 153,cells b5 [zI head4] 102,cells b6 [zI last13,zI last14,.int .i32 last15,.bool last16] 47,cells b7 [.bool open5] 4,zcu dm1]
    refine zds (k:=14) (j:=1) rfl rfl dc ?_
    refine zah ?_
    exact zaB (now13,now14,now15,open5,acc4,rr4,b4,b7,dm1::([]:List Nat)) ⟨h,hx4⟩ rfl (zbK rfl) (zaa [8,9,10,13,1] kr rfl)
   rintro dm1 c pre x1 post g hxs hX
   obtain ⟨ta1,tq1,tr1⟩:=g
   obtain ⟨rfl,hx22⟩:=(show _∧_ from hX)
   show TC _ _ _ _ _ _ _ _ _ [emp,zc0 ((([]:List Nat):List Nat).map zcu),emp,emp,emp,emp,emp,cells b8 [.string r1] 9,X (ta1++[tq1]),zcu dm1]
   refine zfj (k:=9) (j:=1) rfl rfl dc ?_
   refine zaE (zau (zao (zfC (by simp) ?_)))
   exact zfi (ds:=(dm1::([]:List Nat))) ta1 tq1 tr1 hx22 (.inl rfl) (zaT (k:=1) rfl) results85 (zaa [8] kr rfl)
  rintro ⟨now1,now2,now3,open1,acc1,rr1,b2,b3,ds1⟩ ⟨h,hx1⟩
  rw [hj1] at h
  refine zyG (zat (k:=3) zkg rfl dc rfl rfl rfl (zyN ?_))
  refine zyB rfl h (fun h => ?_) (fun h => ?_)
  ·
   refine zad (zat (k:=1) ziS rfl dc rfl rfl rfl (zaZ (k:=2) (cs:=[zI now1,zI now2,zI now3]) zio rfl dc rfl rfl rfl rfl ?_))
   obtain ⟨rr14,hr9,h⟩:=zik h
   have hx23:xs=acc1++(⟨now1,now2,now3⟩:zaO)::rr14:=by rw [hx1,hr9]
   refine zcX hy rfl dc rfl hx23 rfl (k:=0) rfl ?_ ?_
   ·
    have hx24:xs=(acc1++[(⟨now1,now2,now3⟩:zaO)])++rr14:=by rw [hx23]; simp
    refine zap (zfC (by simp) ?_)
    cases h
    exact zfD (ds:=ds1) (.inr rfl) (zaT (k:=4) rfl) results85 (congrArg I (hx24.trans (List.append_nil _))) (zaa [0] kr rfl)
   refine zap (zfC (by simp) ?_)
   exact zfi (ds:=ds1) acc1 (⟨now1,now2,now3⟩:zaO) rr14 hx23 (.inr rfl) (zaT (k:=4) rfl) results85 (zaa [0] kr rfl)
  refine zax (zfC (by simp) ?_)
  cases h
  exact zfD (ds:=ds1) (.inr rfl) (zaT (k:=4) rfl) results85 (congrArg I (hx1.trans (List.append_nil _))) (zaa [0] kr rfl)
 exact fun b hb=>hb.elim
def zgK (s1:zBA):Option zBA := some s1
theorem zkC {s1:zBA} {r:zBA} (h:zgK s1=some r):Fn prog 63 [.string s1] [] (fun v0:Nat=>.func (.func 85) #[] #[zP v0]) (fun v0=>[cells v0 [.string r] 9]):=by
 unfold zgK at h
 refine Fn.intro func63 rfl ntmps63 (by simp) ?_
 intro w0 K
 refine zyG ?_
 refine zdN rfl dc rfl (fun b1 => ?_)
 refine zyR 1 rfl (zyH (zdH (x1:=[]) (x2:=[.tmp 1]) rfl dc rfl rfl (zyR 1 rfl (zyN (zaE ?_)))))
 cases h
 exact zbA (rs:=[.tmp 2]) b1 (.inl rfl) results63 (.cons (.tmp rfl) .nil) rfl (zaa [0] kr rfl)
def zfb (x1:zaO) (ag1:(List zaO)→Option (List zaO)) (l4:List zaO):Option (List zaO) := grd (l4.length+1≤2147483648) <| ag1 (l4++[x1])
def zg7 (s1:zBA):Option (List zaO) := zcd (fun (j1:(List zaO)→Option (List zaO)) => zaA (zgK s1) fun (r1:zBA) => zaA (zf8 r1) fun (its1:(List zaO)) => zcd (fun (dn1:(List zaO)→Option (List zaO)) => zbZ dn1 (zfb) its1 ([]:List zaO)
) (fun (l4:List zaO) => j1 l4
)
) (fun (l1:List zaO) => some l1
)
theorem zk6 {s1:zBA} {r:(List zaO)} (h:zg7 s1=some r):Fn prog 36 [.string s1] [] (fun v0:Value=>v0) (fun v0=>[vec zdR 153 3 v0 r]):=by
 unfold zg7 at h
 refine Fn.intro func36 rfl ntmps36 (by simp) ?_
 intro w0 K
 refine ze3 ?_
 obtain ⟨j1,hj1,h⟩:=zcC h
 refine zbF (β:=(List zaO)×Nat×Value×(List Nat)) 2 rfl (fun b=>j1 b.1=some r) (fun b=>zcK b.2.2.2) (fun b=>[(3,zP b.2.1)]) (fun b=>[cells b.2.1 [b.2.2.1] 100,vec zdR 153 3 b.2.2.1 b.1,zc0 ((b.2.2.2:List Nat).map zcu)]) (fun cut => ?_) ?_
 ·
  refine zyG (zyR 1 rfl (zyH ?_))
  refine za6 zt9 rfl dc (fun b2 => ?_)
  refine zyN (cut (zyG (zyR 1 rfl ?_)))
  obtain ⟨r1,hq1,h⟩:=zcp h
  refine zdE (vs:=[.string s1]) rfl dc rfl rfl rfl zwh (zkC hq1) Splits.nil ?_
  rintro b3
  refine zyN (zaK ?_)
  obtain ⟨its1,hq2,h⟩:=zcp h
  refine zfd (enc:=zdR) (e:=153) (size:=3) ?_
  obtain ⟨dn1,hdn1,h⟩:=zcC h
  refine zfF (α:=zaO) (β:=(List zaO)×Value) (γ:=Unit) (δ:=Nat) (ps:=[7]) Ro.nil rfl zvX (zi8 hq2) (fun pre b=>∀ post,its1=pre++post→zbZ dn1 (zfb) post b.1=some r) (fun pre b=>[cells b2 [b.2] 100,vec zdR 153 3 b.2 b.1]) (fun c pre g=>False) (fun c pre g=>[]) (fun pre x b j=>[(2,.slice none 0 0),(3,zP b2),(6,.func (.func 85) #[] #[zP b3]),(4,zP j)]) (fun pre x b j=>[cells b2 [b.2] 100,vec zdR 153 3 b.2 b.1,cells j (zr3 x) 153]) (([]:List zaO),(.slice none 0 0)) (fun post e=>by rw [List.nil_append] at e; subst e; exact h) (zaa [1,3] kr rfl) ⟨.inl ⟨2,rfl⟩,trivial⟩ (fun _=>rfl) dc ?_ ?_ ?_ ?_
  ·
   rintro lp rc pre x1 post ⟨l4,v4⟩ w1 K1 hxs1 hext hro hinv
   refine zad ?_
   refine za6 zrE rfl dc (fun b4 => ?_)
   refine za2 (k:=2) (vs:=(zr3 x1)) (l':=(zr3 x1)) zrM rfl rfl rfl rfl rfl (show _≤_ by simp) rfl rfl ?_
   refine zap ?_
   exact fun a w ha hw=>⟨b4,(zbK rfl) _ _ _ ha,hw.weaken (zaa [0,1,2] kr rfl)⟩
  ·
   rintro lp rc pre x1 post1 ⟨l4,v4⟩ jb1 w1 K1 hxs1 hext hro hinv
   have h:=hinv (x1::post1) hxs1
   obtain ⟨ag1,hag1⟩:∃ ag,ag=zbZ dn1 (zfb) post1:=⟨_,rfl⟩
   have h:zfb x1 ag1 l4=some r:=by have h2:=h; rw [zb3,← hag1] at h2; exact h2
   unfold zfb at h
   refine zaK (zad (zat (k:=0) zrS rfl dc rfl rfl rfl (zaZ (k:=2) (cs:=(zr3 x1)) zio rfl dc rfl rfl rfl rfl ?_)))
   refine zby (cs:=(zr3 x1)) (te:=153) (ps:=[(0,.tmp 9)]) rfl dc rfl (fun _=>by kernel_rfl) (fun b5 => ?_)
   obtain ⟨hg1,h⟩:=zcU h
   refine zbR (k:=1) (k2:=3) (ys:=[x1]) underlying100 zuZ zjv zju rfl dc rfl rfl rfl rfl rfl rfl hg1 (fun v5 => ?_)
   refine zaG (k:=0) (l':=[v5]) zuk rfl rfl rfl rfl rfl (fun _ h=>znp h (k:=1) rfl) rfl ?_
   refine zap (zah ?_)
   exact zcj (l4++[x1],v5) (fun post2 e2=>by have e9:=zcI hxs1 e2; subst e9; subst hag1; exact h) (zaa [0,1] kr rfl)
  ·
   rintro dm1 ⟨l4,v4⟩ hinv
   have h:dn1 l4=some r:=hinv [] (List.append_nil _).symm
   rw [hdn1] at h
   show TX _ _ _ _ _ _ _ [zc0 ((([]:List Nat):List Nat).map zcu),emp,cells b3 [.string r1] 9,emp,cells b2 [v4] 100,vec zdR 153 3 v4 l4,zcu dm1]
   refine zds (k:=6) (j:=0) rfl rfl dc ?_
   refine zah ?_
   exact zaB (l4,b2,v4,dm1::([]:List Nat)) h rfl (zbK rfl) (zaa [4,5,0] kr rfl)
  rintro dm1 c pre x1 post g hxs hX
  exact (show False from hX).elim
 rintro ⟨l1,b1,v1,ds1⟩ h
 rw [hj1] at h
 refine zyG (zat (k:=0) zrS rfl dc rfl rfl rfl (zyR 1 rfl (zyN (zaE ?_))))
 cases h
 exact zcE (rs:=[.tmp 2]) ds1 v1 (.inl rfl) (zaT (k:=2) rfl) results36 (.cons (.tmp rfl) .nil) rfl (zaa [1] kr rfl)
def zgo (s1:zBA):Option Int := zaA (zg7 s1) fun (r1:(List zaO)) => some (r1.length:Int)
theorem zjS {s1:zBA} {r:Int} (h:zgo s1=some r):FnP prog 16 [.string s1] (zI r):=by
 unfold zgo at h
 refine FnP.intro func16 rfl ntmps16 (by simp) ?_
 intro w0 K
 refine zyG (zyR 1 rfl (zyH (zyR 1 rfl ?_)))
 obtain ⟨r1,hq1,h⟩:=zcp h
 refine zdE (vs:=[.string s1]) rfl dc rfl rfl rfl zwp (zk6 hq1) Splits.nil ?_
 rintro v1
 refine zgr (k:=0) rfl dc rfl rfl underlying100 (zyR 1 rfl (zyN (zaE ?_)))
 cases h
 exact zbN 2 results16
def zjk (s1:zBA) (at1:Int):Option (zaY×Int) := zaL (decide ((at1:Int)<0)) ( some ((⟨0,0,0,false⟩:zaY),5)
) ( zaL (decide (((s1.size:Int):Int)≤at1)) ( some ((⟨0,0,0,false⟩:zaY),5)
) ( zaA (zeM s1 at1) fun (r1:zaY) => some (r1,0)
)
)
theorem znk {s1:zBA} {at1:Int} {r:(zaY×Int)} (h:zjk s1 at1=some r):FnP prog 13 [.string s1,zI at1] (.tuple #[.agg (zr1 r.1).toArray,zI r.2]):=by
 unfold zjk at h
 refine FnP.intro func13 rfl ntmps13 (by simp) ?_
 intro w0 K
 refine zyG ?_
 refine za6 zje rfl dc (fun b1 => ?_)
 refine zyR 1 rfl (zyN (zar (zyG (zyR 1 rfl (zbn rfl zb4 (zyR 1 rfl ?_))))))
 refine zyS (s:=8) rfl h (fun h => ?_) (fun h => ?_)
 ·
  refine zyR 5 rfl (zyN (zbw rfl (zyG ?_)))
  refine zbB (v:=.agg #[zI 0,zI 0,.int .i32 0,.bool false]) (ps:=[]) rfl dc rfl (fun _=>by kernel_rfl) ?_
  refine za2 (k:=0) (vs:=[zI 0,zI 0,.int .i32 0,.bool false]) (l':=[zI 0,zI 0,.int .i32 0,.bool false]) zgE rfl rfl rfl rfl rfl (show _≤_ by simp) rfl rfl ?_
  refine zyR 1 rfl (zyN (zaE (zao ?_)))
  cases h
  exact zbA (rs:=[.cell 4 47,.tmp 5]) () (.inl rfl) results13 (.cons (.cells ze7 (k:=0) rfl rfl rfl) (.cons (.tmp rfl) .nil)) rfl Splits.nil
 refine zyR 2 rfl (zdC rfl dc rfl underlying9 (zbn rfl zbV (zyR 1 rfl (zyN ?_))))
 refine zyB rfl h (fun h => ?_) (fun h => ?_)
 ·
  refine zyG ?_
  refine zbB (v:=.agg #[zI 0,zI 0,.int .i32 0,.bool false]) (ps:=[]) rfl dc rfl (fun _=>by kernel_rfl) ?_
  refine za2 (k:=0) (vs:=[zI 0,zI 0,.int .i32 0,.bool false]) (l':=[zI 0,zI 0,.int .i32 0,.bool false]) zgE rfl rfl rfl rfl rfl (show _≤_ by simp) rfl rfl ?_
  refine zyR 1 rfl (zyN (zaE (zao ?_)))
  cases h
  exact zbA (rs:=[.cell 4 47,.tmp 5]) () (.inl rfl) results13 (.cons (.cells ze7 (k:=0) rfl rfl rfl) (.cons (.tmp rfl) .nil)) rfl Splits.nil
 refine zax (zag (zyG (zyR 2 rfl ?_)))
 obtain ⟨r1,hq1,h⟩:=zcp h
 refine zbv (v:=.agg (zr1 r1).toArray) (vs:=[.string s1,zI at1]) rfl dc rfl rfl rfl ztt (ziT hq1) (za2 (k:=0) (vs:=(zr1 r1)) (l':=(zr1 r1)) zgE rfl rfl rfl rfl rfl (show _≤_ by simp) rfl rfl ?_)
 refine zyR 1 rfl (zyN (zaE ?_))
 cases h
 exact zbA (rs:=[.cell 4 47,.tmp 5]) () (.inl rfl) results13 (.cons (.cells ze7 (k:=0) rfl rfl rfl) (.cons (.tmp rfl) .nil)) rfl Splits.nil
def ze8 (x1:zaY) (ag1:Int→Int→Option (Int×Int)) (n4:Int) (broken4:Int):Option (Int×Int) := grd (I64 (n4+1)) <| zaL (x1.Broken) ( grd (I64 (broken4+1)) <| ag1 (n4+1) (broken4+1)
) ( ag1 (n4+1) broken4
)
def zg1 (s1:zBA):Option (Int×Int) := zcd (fun (j1:Int→Int→Option (Int×Int)) => zaA (zew s1) fun (r1:zBA) => zaA (zc8 r1) fun (its1:(List zaY)) => zcd (fun (dn1:Int→Int→Option (Int×Int)) => zbZ dn1 (ze8) its1 0 0
) (fun (n4:Int) (broken4:Int) => j1 n4 broken4
)
) (fun (n1:Int) (broken1:Int) => some (n1,broken1)
)
theorem zkT {s1:zBA} {r:(Int×Int)} (h:zg1 s1=some r):FnP prog 12 [.string s1] (.tuple #[zI r.1,zI r.2]):=by
 unfold zg1 at h
 refine FnP.intro func12 rfl ntmps12 (by simp) ?_
 intro w0 K
 refine ze3 ?_
 obtain ⟨j1,hj1,h⟩:=zcC h
 refine zbF (β:=Int×Int×Nat×Nat×(List Nat)) 2 rfl (fun b=>j1 b.1 b.2.1=some r) (fun b=>zcK b.2.2.2.2) (fun b=>[(4,zP b.2.2.1),(5,zP b.2.2.2.1)]) (fun b=>[cells b.2.2.1 [zI b.1] 3,cells b.2.2.2.1 [zI b.2.1] 3,zc0 ((b.2.2.2.2:List Nat).map zcu)]) (fun cut => ?_) ?_
 ·
  refine zyG (zyR 2 rfl (zyH ?_))
  refine za6 zo6 rfl dc (fun b3 => ?_)
  refine za6 zo6 rfl dc (fun b4 => ?_)
  refine zaG (k:=1) (l':=[zI 0]) zeR rfl rfl rfl rfl rfl (fun _ _=>rfl) rfl ?_
  refine zaG (k:=2) (l':=[zI 0]) zeR rfl rfl rfl rfl rfl (fun _ _=>rfl) rfl ?_
  refine zyN (cut (zyG (zyR 1 rfl ?_)))
  obtain ⟨r1,hq1,h⟩:=zcp h
  refine zdE (vs:=[.string s1]) rfl dc rfl rfl rfl zp4 (zfu hq1) Splits.nil ?_
  rintro b5
  refine zyN (zaK ?_)
  obtain ⟨its1,hq2,h⟩:=zcp h
  obtain ⟨dn1,hdn1,h⟩:=zcC h
  refine zfF (α:=zaY) (β:=Int×Int) (γ:=Unit) (δ:=Nat) (ps:=[9]) Ro.nil rfl zp3 (zeC hq2) (fun pre b=>∀ post,its1=pre++post→zbZ dn1 (ze8) post b.1 b.2=some r) (fun pre b=>[cells b3 [zI b.1] 3,cells b4 [zI b.2] 3]) (fun c pre g=>False) (fun c pre g=>[]) (fun pre x b j=>[(2,zI 0),(3,zI 0),(4,zP b3),(5,zP b4),(8,.func (.func 50) #[] #[zP b5]),(6,zP j)]) (fun pre x b j=>[cells b3 [zI b.1] 3,cells b4 [zI b.2] 3,cells j (zr1 x) 47]) (0,0) (fun post e=>by rw [List.nil_append] at e; subst e; exact h) (zaa [1,2] kr rfl) ⟨.inl ⟨3,rfl⟩,trivial⟩ (fun _=>rfl) dc ?_ ?_ ?_ ?_
  ·
   rintro lp rc pre x1 post ⟨n4,broken4⟩ w1 K1 hxs1 hext hro hinv
   refine zad ?_
   refine za6 zje rfl dc (fun b6 => ?_)
   refine za2 (k:=2) (vs:=(zr1 x1)) (l':=(zr1 x1)) zgE rfl rfl rfl rfl rfl (show _≤_ by simp) rfl rfl ?_
   refine zap ?_
   exact fun a w ha hw=>⟨b6,(zbK rfl) _ _ _ ha,hw.weaken (zaa [0,1,2] kr rfl)⟩
  ·
   rintro lp rc pre x1 post1 ⟨n4,broken4⟩ jb1 w1 K1 hxs1 hext hro hinv
   have h:=hinv (x1::post1) hxs1
   obtain ⟨ag1,hag1⟩:∃ ag,ag=zbZ dn1 (ze8) post1:=⟨_,rfl⟩
   have h:ze8 x1 ag1 n4 broken4=some r:=by have h2:=h; rw [zb3,← hag1] at h2; exact h2
   unfold ze8 at h
   refine zaK (zyG (zat (k:=0) zdk rfl dc rfl rfl rfl ?_))
   obtain ⟨hg1,h⟩:=zcU h
   refine zbn rfl (zbs (r:=n4+1) (IntWalk.i64_in _ hg1)) ?_
   refine zaG (k:=0) (l':=[zI (n4+1)]) zeR rfl rfl rfl rfl rfl (fun _ _=>rfl) rfl ?_
   refine zyH (zac znz rfl dc rfl (show _=3 from rfl) (zat (k:=2) zkg rfl dc rfl rfl rfl (zyN ?_)))
   refine zyB rfl h (fun h => ?_) (fun h => ?_)
   ·
    refine zad (zat (k:=1) zdk rfl dc rfl rfl rfl ?_)
    obtain ⟨hg2,h⟩:=zcU h
    refine zbn rfl (zbs (r:=broken4+1) (IntWalk.i64_in _ hg2)) ?_
    refine zaG (k:=1) (l':=[zI (broken4+1)]) zeR rfl rfl rfl rfl rfl (fun _ _=>rfl) rfl ?_
    refine zap (zah ?_)
    exact zcj (n4+1,broken4+1) (fun post2 e2=>by have e9:=zcI hxs1 e2; subst e9; subst hag1; exact h) (zaa [0,1] kr rfl)
   refine zax (zah ?_)
   exact zcj (n4+1,broken4) (fun post2 e2=>by have e9:=zcI hxs1 e2; subst e9; subst hag1; exact h) (zaa [0,1] kr rfl)
  ·
   rintro dm1 ⟨n4,broken4⟩ hinv
   have h:dn1 n4 broken4=some r:=hinv [] (List.append_nil _).symm
   rw [hdn1] at h
   show TX _ _ _ _ _ _ _ [zc0 ((([]:List Nat):List Nat).map zcu),emp,emp,cells b5 [.string r1] 9,cells b3 [zI n4] 3,cells b4 [zI broken4] 3,zcu dm1]
   refine zds (k:=6) (j:=0) rfl rfl dc ?_
   refine zah ?_
   exact zaB (n4,broken4,b3,b4,dm1::([]:List Nat)) h rfl (zbK rfl) (zaa [4,5,0] kr rfl)
  rintro dm1 c pre x1 post g hxs hX
  exact (show False from hX).elim
 rintro ⟨n1,broken1,b1,b2,ds1⟩ h
 rw [hj1] at h
 refine zar ?_
 refine zbW 3 [(0,16,zI n1),(1,17,zI broken1),(2,2,zI n1)] mixed kr kr dc (by rfl) kr kr (zae ?_ (zae ?_ (zyP 1 2 rfl DrawPre.nil))) ?_
 · exact fun D n d c u i=>zat (k:=0) zdk rfl dc (za3 (by rfl) rfl) rfl rfl (zaI 0 u i)
 · exact fun D n d c u i=>zat (k:=1) zdk rfl dc (za3 (by rfl) rfl) rfl rfl (zaI 1 u i)
 refine zyR 1 rfl (zyN (zaE ?_))
 cases h
 exact zcE (rs:=[.tmp 2,.tmp 3]) ds1 () (.inl rfl) (zaT (k:=2) rfl) results12 (.cons (.tmp rfl) (.cons (.tmp rfl) .nil)) rfl Splits.nil
abbrev zLit3:zBA:=⟨#[68,111,110,39,116,32,103,111,44,32,109,111,116,104,101,114,45,105,110,45,108,97,119]⟩
def zdL (x1:Nat×Nat) (ag1:Int→Option Bool) (words4:Int):Option Bool := grd (I64 (words4+1)) <| ag1 (words4+1)
def zer  : Option Bool := zcd (fun (j1:Int→Int→Int→Int→Int→Bool→Int→Int→Option Bool) => zaA (zg1 (⟨#[97,195,169,255]⟩:zBA)) fun (r1:(Int×Int)) => zaA (zjk (⟨#[97,195,169,255]⟩:zBA) 1) fun (r2:(zaY×Int)) => grd (zLit3.size≤4611686018427387904) <| zcd (fun (dn1:Int→Option Bool) => zbZ dn1 (zdL) (zsr zLit3) 0
) (fun (words4:Int) => j1 r1.1 r1.2 r2.1.At r2.1.Width r2.1.Rune r2.1.Broken r2.2 words4
)
) (fun (n1:Int) (b1:Int) (p1:Int) (p2:Int) (p3:Int) (p4:Bool) (e1:Int) (words1:Int) => zaL ((n1:Int)==3) ( zaL ((b1:Int)==1) ( zaL ((e1:Int)==0) ( zaL (ze0 (⟨p1,p2,p3,p4⟩:zaY) (⟨1,2,233,false⟩:zaY)) ( zaL ((words1:Int)==3) ( zaA (zfM (⟨#[83,116,114,97,195,159,101]⟩:zBA)) fun (r3:zBA) => zaL (decide (r3=(⟨#[115,116,114,97,115,115,101]⟩:zBA))) ( zaA (zgo (⟨#[101,204,129,120]⟩:zBA)) fun (r4:Int) => some ((r4:Int)==2)
) ( some false
)
) ( some false
)
) ( some false
)
) ( some false
)
) ( some false
)
) ( some false
)
)
theorem zil  {r:Bool} (h:zer=some r):FnP prog 4 [] (.bool r):=by
 unfold zer at h
 refine FnP.intro func4 rfl ntmps4 (by simp) ?_
 intro w0 K
 refine ze3 ?_
 obtain ⟨j1,hj1,h⟩:=zcC h
 refine zbF (β:=Int×Int×Int×Int×Int×Bool×Int×Int×Nat×Nat×(List Nat)) 4 rfl (fun b=>j1 b.1 b.2.1 b.2.2.1 b.2.2.2.1 b.2.2.2.2.1 b.2.2.2.2.2.1 b.2.2.2.2.2.2.1 b.2.2.2.2.2.2.2.1=some r) (fun b=>zcK b.2.2.2.2.2.2.2.2.2.2) (fun b=>[(1,zI b.1),(2,zI b.2.1),(3,zP b.2.2.2.2.2.2.2.2.1),(4,zI b.2.2.2.2.2.2.1),(5,zP b.2.2.2.2.2.2.2.2.2.1)]) (fun b=>[cells b.2.2.2.2.2.2.2.2.1 [zI b.2.2.1,zI b.2.2.2.1,.int .i32 b.2.2.2.2.1,.bool b.2.2.2.2.2.1] 47,cells b.2.2.2.2.2.2.2.2.2.1 [zI b.2.2.2.2.2.2.2.1] 3,zc0 ((b.2.2.2.2.2.2.2.2.2.2:List Nat).map zcu)]) (fun cut => ?_) ?_
 ·
  refine zyG (zyR 1 rfl (zyH ?_))
  obtain ⟨r1,hq1,h⟩:=zcp h
  refine zbv (v:=.tuple #[zI r1.1,zI r1.2]) (vs:=[.string (⟨#[97,195,169,255]⟩:zBA)]) rfl dc rfl rfl rfl zwA (zkT hq1) (zyR 1 rfl (zaJ rfl dc rfl rfl (zaJ rfl dc rfl rfl (zyR 2 rfl (zyH ?_)))))
  obtain ⟨r2,hq2,h⟩:=zcp h
  refine zbv (v:=.tuple #[.agg (zr1 r2.1).toArray,zI r2.2]) (vs:=[.string (⟨#[97,195,169,255]⟩:zBA),zI 1]) rfl dc rfl rfl rfl zwz (znk hq2) (zyR 1 rfl (zaJ rfl dc rfl rfl (zaJ rfl dc rfl rfl ?_)))
  refine za6 zje rfl dc (fun b4 => ?_)
  refine za2 (k:=1) (vs:=(zr1 r2.1)) (l':=(zr1 r2.1)) zgE rfl rfl rfl rfl rfl (show _≤_ by simp) rfl rfl ?_
  refine zyR 1 rfl (zyH ?_)
  refine za6 zo6 rfl dc (fun b5 => ?_)
  refine zaG (k:=2) (l':=[zI 0]) zeR rfl rfl rfl rfl rfl (fun _ _=>rfl) rfl ?_
  refine zyN (cut (zyG (zdE (vs:=[.string zLit3]) rfl dc rfl rfl rfl zuV (znS zLit3) Splits.nil ?_)))
  rintro b6
  refine zyN (zaK ?_)
  obtain ⟨hg1,h⟩:=zcU h
  obtain ⟨dn1,hdn1,h⟩:=zcC h
  refine zfF (α:=Nat×Nat) (β:=Int) (γ:=Unit) (δ:=Unit) (ps:=[15]) Ro.nil rfl zuO (zk9 zLit3 hg1 b6) (fun pre b=>∀ post,zsr zLit3=pre++post→zbZ dn1 (zdL) post b=some r) (fun pre b=>[cells b4 (zr1 r2.1) 47,cells b5 [zI b] 3]) (fun c pre g=>False) (fun c pre g=>[]) (fun pre x b j=>[(0,.bool false),(1,zI r1.1),(2,zI r1.2),(3,zP b4),(4,zI r2.2),(5,zP b5),(14,.func (.func 31) #[] #[zP b6])]) (fun pre x b j=>[cells b4 (zr1 r2.1) 47,cells b5 [zI b] 3]) 0 (fun post e=>by rw [List.nil_append] at e; subst e; exact h) (zaa [1,2] kr rfl) ⟨.inl ⟨3,rfl⟩,trivial⟩ (fun _=>rfl) dc ?_ ?_ ?_ ?_
  ·
   rintro lp rc pre x1 post words4 w1 K1 hxs1 hext hro hinv
   refine zax ?_
   exact fun a w ha hw=>⟨(),(zbK rfl) _ _ _ ha,hw.weaken (zaa [0,1] kr rfl)⟩
  ·
   rintro lp rc pre x1 post1 words4 _ w1 K1 hxs1 hext hro hinv
   have h:=hinv (x1::post1) hxs1
   obtain ⟨ag1,hag1⟩:∃ ag,ag=zbZ dn1 (zdL) post1:=⟨_,rfl⟩
   have h:zdL x1 ag1 words4=some r:=by have h2:=h; rw [zb3,← hag1] at h2; exact h2
   unfold zdL at h
   refine zaK (zad (zat (k:=1) zdk rfl dc rfl rfl rfl ?_))
   obtain ⟨hg2,h⟩:=zcU h
   refine zbn rfl (zbs (r:=words4+1) (IntWalk.i64_in _ hg2)) ?_
   refine zaG (k:=1) (l':=[zI (words4+1)]) zeR rfl rfl rfl rfl rfl (fun _ _=>rfl) rfl ?_
   refine zap (zah ?_)
   exact zcj (words4+1) (fun post2 e2=>by have e9:=zcI hxs1 e2; subst e9; subst hag1; exact h) (zaa [0,1] kr rfl)
  ·
   rintro dm1 words4 hinv
   have h:dn1 words4=some r:=hinv [] (List.append_nil _).symm
   rw [hdn1] at h
   show TX _ _ _ _ _ _ _ [zc0 ((([]:List Nat):List Nat).map zcu),emp,emp,cells b6 [.string zLit3] 9,cells b4 (zr1 r2.1) 47,cells b5 [zI words4] 3,zcu dm1]
   refine zds (k:=6) (j:=0) rfl rfl dc ?_
   refine zah ?_
   exact zaB (r1.1,r1.2,r2.1.At,r2.1.Width,r2.1.Rune,r2.1.Broken,r2.2,words4,b4,b5,dm1::([]:List Nat)) h rfl (zbK rfl) (zaa [4,5,0] kr rfl)
  rintro dm1 c pre x1 post g hxs hX
  exact (show False from hX).elim
 rintro ⟨n1,b1,p1,p2,p3,p4,e1,words1,b2,b3,ds1⟩ h
 rw [hj1] at h
 refine zyG (zyR 1 rfl (zbn rfl zaP (zyR 1 rfl ?_)))
 refine zyS (s:=20) rfl h (fun h => ?_) (fun h => ?_)
 ·
  refine zyR 1 rfl (zbn rfl zaP (zyR 2 rfl ?_))
  refine zyS (s:=24) rfl h (fun h => ?_) (fun h => ?_)
  ·
   refine zyR 1 rfl (zbn rfl zaP (zyR 2 rfl ?_))
   refine zyS (s:=28) rfl h (fun h => ?_) (fun h => ?_)
   ·
    refine zaZ (k:=0) (cs:=[zI p1,zI p2,.int .i32 p3,.bool p4]) ze7 rfl dc rfl rfl rfl rfl ?_
    refine zbB (v:=.agg #[zI 1,zI 2,.int .i32 233,.bool false]) (ps:=[(0,.const (zI 1)),(1,.const (zI 2)),(2,.const (.int .i32 233))]) rfl dc rfl (fun _=>by kernel_rfl) ?_
    refine zbn rfl (zoZ (⟨p1,p2,p3,p4⟩:zaY) (⟨1,2,233,false⟩:zaY)) (zyR 2 rfl ?_)
    refine zyS (s:=33) rfl h (fun h => ?_) (fun h => ?_)
    ·
     refine zat (k:=1) zdk rfl dc rfl rfl rfl (zbn rfl zaP (zyR 2 rfl ?_))
     refine zyS (s:=37) rfl h (fun h => ?_) (fun h => ?_)
     ·
      obtain ⟨r3,hq3,h⟩:=zcp h
      refine zbv (v:=.string r3) (vs:=[.string (⟨#[83,116,114,97,195,159,101]⟩:zBA)]) rfl dc rfl rfl rfl ztu (zhN hq3) (zbn rfl zh6 (zyR 2 rfl ?_))
      refine zyS (s:=41) rfl h (fun h => ?_) (fun h => ?_)
      ·
       obtain ⟨r4,hq4,h⟩:=zcp h
       refine zbv (v:=zI r4) (vs:=[.string (⟨#[101,204,129,120]⟩:zBA)]) rfl dc rfl rfl rfl zwy (zjS hq4) (zbn rfl zaP (zyR 2 rfl (zyN (zaE ?_))))
       cases h
       exact zcE (rs:=[.tmp 0]) ds1 () (.inl rfl) (zaT (k:=2) rfl) results4 (.cons (.tmp rfl) .nil) rfl Splits.nil
      refine zyR 4 rfl (zyN (zaE ?_))
      cases h
      exact zcE (rs:=[.tmp 0]) ds1 () (.inl rfl) (zaT (k:=2) rfl) results4 (.cons (.tmp rfl) .nil) rfl Splits.nil
     refine zyR 8 rfl (zyN (zaE ?_))
     cases h
     exact zcE (rs:=[.tmp 0]) ds1 () (.inl rfl) (zaT (k:=2) rfl) results4 (.cons (.tmp rfl) .nil) rfl Splits.nil
    refine zyR 12 rfl (zyN ?_)
    refine zaE ?_
    cases h
    exact zcE (rs:=[.tmp 0]) ds1 () (.inl rfl) (zaT (k:=2) rfl) results4 (.cons (.tmp rfl) .nil) rfl Splits.nil
   refine zyR 14 rfl ?_
   refine zyR 3 rfl (zyN (zaE ?_))
   cases h
   exact zcE (rs:=[.tmp 0]) ds1 () (.inl rfl) (zaT (k:=2) rfl) results4 (.cons (.tmp rfl) .nil) rfl Splits.nil
  refine zyR 14 rfl ?_
  refine zyR 7 rfl (zyN (zaE ?_))
  cases h
  exact zcE (rs:=[.tmp 0]) ds1 () (.inl rfl) (zaT (k:=2) rfl) results4 (.cons (.tmp rfl) .nil) rfl Splits.nil
 refine zyR 14 rfl ?_
 refine zyR 11 rfl (zyN (zaE ?_))
 cases h
 exact zcE (rs:=[.tmp 0]) ds1 () (.inl rfl) (zaT (k:=2) rfl) results4 (.cons (.tmp rfl) .nil) rfl Splits.nil
def zbP (p1:zai) (r4:(zBA×Int)) (ek1:Int→Int→zBA→Option Bool) (ek2:Int→Int→zBA→Option Bool) (x1:zBA) (ag1:Int→Int→zBA→Option Bool) (n4:Int) (ties4:Int) (first4:zBA):Option Bool := zaA (zbD p1 x1) fun (r6:(Int×zbY)) => zaA (zdI p1 x1) fun (r7:(zBA×zbY)) => zaL ((r6.2.Err:Int) != 0) ( ek1 n4 ties4 first4
) ( zaL ((r7.2.Err:Int) != 0) ( ek1 n4 ties4 first4
) ( zaL (!decide (r7.1=x1)) ( ek1 n4 ties4 first4
) ( zaL (decide ((r6.1:Int)<r4.2)) ( ek1 n4 ties4 first4
) ( zcd (fun (j2:Int→zBA→Option Bool) => zaL ((r6.1:Int)==r4.2) ( grd (I64 (ties4+1)) <| zaL (decide (first4=(⟨#[]⟩:zBA))) ( j2 (ties4+1) x1
) ( j2 (ties4+1) first4
)
) ( j2 ties4 first4
)
) (fun (ties7:Int) (first7:zBA) => grd (I64 (n4+1)) <| zaL (((n4+1):Int)==200) ( ek2 (n4+1) ties7 first7
) ( ag1 (n4+1) ties7 first7
)
)
)
)
)
)
def zdB (l1:List zbp) (tree1:zBA):Option Bool := zaA (zer) fun (r1:Bool) => zaL (!r1) ( some false
) ( zaA (zde l1) fun (r2:(List zbp)) => zaA (zeT r2) fun (r3:((Option zai)×Int)) => zaL ((r3.2:Int) != 0) ( zaL (r3.1.isNone) ( zaL ((r3.2:Int)==2) ( some true
) ( some ((r3.2:Int)==3)
)
) ( some false
)
) ( zaA (r3.1) fun (p1:zai) => zaA (zec p1) fun (r4:(zBA×Int)) => zcd (fun (j1:Int→Int→zBA→Option Bool) => zaA (zeJ p1) fun (r5:Unit) => zaA (zdP p1) fun (its1:(List zBA)) => zcd (fun (ek1:Int→Int→zBA→Option Bool) => zcd (fun (ek2:Int→Int→zBA→Option Bool) => zcd (fun (dn1:Int→Int→zBA→Option Bool) => zbZ dn1 (zbP p1 r4 ek1 ek2) its1 0 0 (⟨#[]⟩:zBA)
) (fun (n4:Int) (ties4:Int) (first4:zBA) => j1 n4 ties4 first4
)
) (fun (n6:Int) (ties6:Int) (first6:zBA) => j1 n6 ties6 first6
)
) (fun (n5:Int) (ties5:Int) (first5:zBA) => some false
)
) (fun (n1:Int) (ties1:Int) (first1:zBA) => zcd (fun (j3:Option Bool) => zaL (decide ((n1:Int)<200)) ( zaA (zdJ p1) fun (r8:Int) => zaL ((ties1:Int) != r8) ( some false
) ( zaL (!decide (first1=r4.1)) ( some false
) ( zaL (decide ((n1:Int)<1)) ( some false
) ( j3
)
)
)
) ( zaL (decide ((n1:Int)<1)) ( some false
) ( j3
)
)
) ( zaA (zbD p1 tree1) fun (r9:(Int×zbY)) => zaA (zbD p1 r4.1) fun (r10:(Int×zbY)) => zaL ((r10.2.Err:Int)==0) ( zaL ((r10.1:Int)==r4.2) ( zaL ((r9.2.Err:Int) != 0) ( some true
) ( some (decide ((r4.2:Int)≤r9.1))
)
) ( some false
)
) ( some false
)
)
)
)
)
theorem zhv {vvl1 vl1:Value} {ol1:Nat} {l1:List zbp} (hwl1:VwO vvl1 ol1 vl1 l1) {tree1:zBA} {r:Bool} (h:zdB l1 tree1=some r):FnR prog 3 [vl1,.string tree1] [zgv enc_Gapi_Witness 2 vvl1 ol1 l1,tz64A] [] (fun _:Unit=>(.bool r)) (fun _=>[]):=by
 unfold zdB at h
 refine FnR.intro func3 rfl ntmps3 (by simp) ?_
 intro w0 K hrd
 refine ze3 ?_
 refine zyG ?_
 refine za6 zwN rfl dc (fun b1 => ?_)
 refine zyN (zar (zyG ?_))
 obtain ⟨r1,hq1,h⟩:=zcp h
 refine zbv (v:=.bool r1) (vs:=[]) rfl dc rfl rfl rfl zw5 (zil hq1) (zdM rfl dc rfl zcA (zyN ?_))
 refine zyB rfl h (fun h => ?_) (fun h => ?_)
 ·
  refine zyG ?_
  refine zaG (k:=1) (l':=[.bool false]) zlF rfl rfl rfl rfl rfl (fun _ _=>rfl) rfl ?_
  refine zyN (zaE (zao ?_))
  cases h
  exact zcE (rs:=[.cell 4 4]) ([]:List Nat) () (.inl rfl) (zaT (k:=0) rfl) results3 (.cons (.cell zkg (k:=1) rfl rfl) .nil) rfl Splits.nil
 refine zax (zag (zyG (zyR 1 rfl ?_)))
 obtain ⟨r2,hq2,h⟩:=zcp h
 refine zff (vs:=[vl1]) hrd rfl dc rfl rfl rfl zw3 (zfc hwl1 hq2) Splits.nil (.ro 0 rfl .nil) ?_
 rintro v1
 refine zc7 (k:=2) rfl (fun hd1 he1 => ?_)
 subst he1
 refine zd5 (k:=2) rfl (fun hw1 => ?_)
 obtain ⟨r3,hq3,h⟩:=zcp h
 refine zff (vs:=[hd1.v]) hrd rfl dc rfl rfl rfl zw4 (zkO hw1 hq3) Splits.nil (.own (As:=[zv9 hd1.v r2]) (zaa [2] kr rfl) (fun _ _ h=>zdW enc_Gapi_Witness_len (sepL.one1.1 h)) (.ro 1 rfl .nil)) ?_
 rintro v2
 refine zb6 (L':=[zc0 ((([]:List Nat):List Nat).map zcu),cells b1 [.bool false] 4,zv9 hd1.v r2,zkL za8 za7 60 v2 r3.1]) (zaa [0,1,2,3] kr rfl) (zyR 1 rfl (zaJ rfl dc rfl rfl (zaJ rfl dc rfl rfl ?_)))
 refine za6 zt3 rfl dc (fun b2 => ?_)
 refine zaG (k:=4) (l':=[v2]) zka rfl rfl rfl rfl rfl (fun _ h=>zqW h (k:=3) rfl) rfl ?_
 refine zyR 1 rfl (zyN (zar (zyG (zyR 1 rfl (zbn rfl zdZ (zyN ?_))))))
 refine zyB rfl h (fun h => ?_) (fun h => ?_)
 ·
  refine zyG (zat (k:=4) zfr rfl dc rfl rfl rfl ?_)
  refine zqp (k:=3) rfl (fun hv1 => ?_)
  refine zbn rfl (zoY underlying24 hv1) (zyR 1 rfl ?_)
  refine zyS (s:=33) rfl h (fun h => ?_) (fun h => ?_)
  ·
   refine zyR 1 rfl (zbn rfl zaP (zyR 1 rfl ?_))
   refine zyS (s:=36) rfl h (fun h => ?_) (fun h => ?_)
   ·
    refine zyR 4 rfl ?_
    refine zaG (k:=1) (l':=[.bool true]) zlF rfl rfl rfl rfl rfl (fun _ _=>rfl) rfl ?_
    refine zyN (zaE (zao ?_))
    cases h
    exact zcE (rs:=[.cell 4 4]) ([]:List Nat) () (.inl rfl) (zaT (k:=0) rfl) results3 (.cons (.cell zkg (k:=1) rfl rfl) .nil) rfl Splits.nil
   refine zyR 1 rfl (zbn rfl zaP (zyR 2 rfl ?_))
   refine zaG (k:=1) (l':=[.bool ((r3.2:Int)==3)]) zlF rfl rfl rfl rfl rfl (fun _ _=>rfl) rfl ?_
   refine zyN (zaE (zao ?_))
   cases h
   exact zcE (rs:=[.cell 4 4]) ([]:List Nat) () (.inl rfl) (zaT (k:=0) rfl) results3 (.cons (.cell zkg (k:=1) rfl rfl) .nil) rfl Splits.nil
  refine zyR 7 rfl ?_
  refine zaG (k:=1) (l':=[.bool false]) zlF rfl rfl rfl rfl rfl (fun _ _=>rfl) rfl ?_
  refine zyN (zaE (zao ?_))
  cases h
  exact zcE (rs:=[.cell 4 4]) ([]:List Nat) () (.inl rfl) (zaT (k:=0) rfl) results3 (.cons (.cell zkg (k:=1) rfl rfl) .nil) rfl Splits.nil
 refine zax (zag (zyG (zat (k:=4) zfr rfl dc rfl rfl rfl ?_)))
 obtain ⟨p1,hq4,h⟩:=zcp h
 refine ztO (As:=[zkL za8 za7 60 v2 r3.1]) (zaa [3] kr rfl) (zna hq4) ?_
 rintro ⟨b3,hd2,hd3,hd4,hd5,hd6⟩ hv2
 have hkp:=h
 subst hv2
 have h:=hkp
 obtain ⟨r4,hq5,h⟩:=zcp h
 refine zbm (v:=.tuple #[.string r4.1,zI r4.2]) (vs:=[zP b3]) hrd rfl dc rfl rfl rfl zw2 (zhB (bt1:=b3) (t1:=p1) (t1_h0:=hd2) (t1_h1:=hd3) (t1_h2:=hd4) (t1_h3:=hd5) (t1_h4:=hd6) hq5) (.own (zaa [5] kr rfl) (fun _ _ h=>sepL.one1.1 h) (.own (zaa [6] kr rfl) (fun _ _ h=>sepL.one1.1 h) (.own (zaa [7] kr rfl) (fun _ _ h=>sepL.one1.1 h) (.own (zaa [8] kr rfl) (fun _ _ h=>sepL.one1.1 h) (.own (zaa [9] kr rfl) (fun _ _ h=>sepL.one1.1 h) (.own (zaa [10] kr rfl) (fun _ _ h=>sepL.one1.1 h) (.ro 1 rfl .nil))))))) ?_
 refine zyR 1 rfl (zaJ rfl dc rfl rfl (zaJ rfl dc rfl rfl ?_))
 refine za6 zo6 rfl dc (fun b4 => ?_)
 refine zyR 1 rfl ?_
 refine zaG (k:=11) (l':=[zI r4.2]) zeR rfl rfl rfl rfl rfl (fun _ _=>rfl) rfl ?_
 refine zyH ?_
 refine zgW (B:=cells b3 [hd2.v,hd3.v,hd4.v,hd5.v,hd6.v] 60) (As:=[cells b3 [hd2.v,hd3.v,hd4.v,hd5.v,hd6.v] 60]) (zaa [5] kr rfl) (fun _ _ h=>sepL.one1.1 h) hrd ?_
 intro wf1 Kf1 hxf1 hrd
 replace hrd:Rd _ _ [zgv enc_Gapi_Witness 2 vvl1 ol1 l1,tz64A,cells b3 [hd2.v,hd3.v,hd4.v,hd5.v,hd6.v] 60]:=hrd
 refine zgW (B:=zv0 hd2.v p1.names) (As:=[zv0 hd2.v p1.names]) (zaa [6] kr rfl) (fun _ _ h=>sepL.one1.1 h) hrd ?_
 intro wf2 Kf2 hxf2 hrd
 replace hrd:Rd _ _ [zgv enc_Gapi_Witness 2 vvl1 ol1 l1,tz64A,cells b3 [hd2.v,hd3.v,hd4.v,hd5.v,hd6.v] 60,zv0 hd2.v p1.names]:=hrd
 refine zgW (B:=zv0 hd3.v p1.texts) (As:=[zv0 hd3.v p1.texts]) (zaa [7] kr rfl) (fun _ _ h=>sepL.one1.1 h) hrd ?_
 intro wf3 Kf3 hxf3 hrd
 replace hrd:Rd _ _ [zgv enc_Gapi_Witness 2 vvl1 ol1 l1,tz64A,cells b3 [hd2.v,hd3.v,hd4.v,hd5.v,hd6.v] 60,zv0 hd2.v p1.names,zv0 hd3.v p1.texts]:=hrd
 refine zgW (B:=zba zam zaf 62 1 hd4.v p1.spans) (As:=[zba zam zaf 62 1 hd4.v p1.spans]) (zaa [8] kr rfl) (fun _ _ h=>sepL.one1.1 h) hrd ?_
 intro wf4 Kf4 hxf4 hrd
 replace hrd:Rd _ _ [zgv enc_Gapi_Witness 2 vvl1 ol1 l1,tz64A,cells b3 [hd2.v,hd3.v,hd4.v,hd5.v,hd6.v] 60,zv0 hd2.v p1.names,zv0 hd3.v p1.texts,zba zam zaf 62 1 hd4.v p1.spans]:=hrd
 refine zgW (B:=zba zaj zal 55 1 hd5.v p1.keys) (As:=[zba zaj zal 55 1 hd5.v p1.keys]) (zaa [9] kr rfl) (fun _ _ h=>sepL.one1.1 h) hrd ?_
 intro wf5 Kf5 hxf5 hrd
 replace hrd:Rd _ _ [zgv enc_Gapi_Witness 2 vvl1 ol1 l1,tz64A,cells b3 [hd2.v,hd3.v,hd4.v,hd5.v,hd6.v] 60,zv0 hd2.v p1.names,zv0 hd3.v p1.texts,zba zam zaf 62 1 hd4.v p1.spans,zba zaj zal 55 1 hd5.v p1.keys]:=hrd
 refine zgW (B:=zba zaq zak 70 2 hd6.v p1.columns) (As:=[zba zaq zak 70 2 hd6.v p1.columns]) (zaa [10] kr rfl) (fun _ _ h=>sepL.one1.1 h) hrd ?_
 intro wf6 Kf6 hxf6 hrd
 replace hrd:Rd _ _ [zgv enc_Gapi_Witness 2 vvl1 ol1 l1,tz64A,cells b3 [hd2.v,hd3.v,hd4.v,hd5.v,hd6.v] 60,zv0 hd2.v p1.names,zv0 hd3.v p1.texts,zba zam zaf 62 1 hd4.v p1.spans,zba zaj zal 55 1 hd5.v p1.keys,zba zaq zak 70 2 hd6.v p1.columns]:=hrd
 refine za6 zo6 rfl dc (fun b5 => ?_)
 refine za6 zo6 rfl dc (fun b6 => ?_)
 refine za6 zwX rfl dc (fun b7 => ?_)
 refine zaG (k:=12) (l':=[zI 0]) zeR rfl rfl rfl rfl rfl (fun _ _=>rfl) rfl ?_
 refine zaG (k:=13) (l':=[zI 0]) zeR rfl rfl rfl rfl rfl (fun _ _=>rfl) rfl ?_
 refine zaG (k:=14) (l':=[.string (⟨#[]⟩:zBA)]) zrJ rfl rfl rfl rfl rfl (fun _ _=>rfl) rfl ?_
 refine zyN ?_
 obtain ⟨j1,hj1,h⟩:=zcC h
 refine zbF (β:=Int×Int×zBA×(List Nat)) 0 rfl (fun b=>j1 b.1 b.2.1 b.2.2.1=some r) (fun b=>zcK b.2.2.2) (fun b=>[(1,.string tree1),(4,zP b1),(5,zP b2),(7,.string r4.1),(8,zP b4),(9,zP b5),(10,zP b6),(11,zP b7)]) (fun b=>[cells b1 [.bool false] 4,cells b2 [zP b3] 24,cells b4 [zI r4.2] 3,cells b5 [zI b.1] 3,cells b6 [zI b.2.1] 3,cells b7 [.string b.2.2.1] 9,zc0 ((b.2.2.2:List Nat).map zcu)]) (fun cut => ?_) ?_
 ·
  refine cut (zyG (zat (k:=4) zfr rfl dc rfl rfl rfl ?_))
  obtain ⟨r5,hq6,h⟩:=zcp h
  refine zff (vs:=[zP b3]) hrd rfl dc rfl rfl rfl zw1 (zht (bt1:=b3) (t1:=p1) (t1_h0:=hd2) (t1_h1:=hd3) (t1_h2:=hd4) (t1_h3:=hd5) (t1_h4:=hd6) hq6) Splits.nil (.ro 2 rfl (.ro 3 rfl (.ro 4 rfl (.ro 5 rfl (.ro 6 rfl (.ro 7 rfl .nil)))))) ?_
  rintro b8
  refine zb6 (L':=[zc0 ((([]:List Nat):List Nat).map zcu),cells b1 [.bool false] 4,zv9 hd1.v r2,emp,cells b2 [zP b3] 24,emp,emp,emp,emp,emp,emp,cells b4 [zI r4.2] 3,cells b5 [zI 0] 3,cells b6 [zI 0] 3,cells b7 [.string (⟨#[]⟩:zBA)] 9,cells b8 [zP b3] 24]) (zaa [0,1,2,3,4,5,6,7,8,9,10,11,12,13,14,15] kr rfl) (zyN (zaK ?_))
  obtain ⟨its1,hq7,h⟩:=zcp h
  obtain ⟨ek1,hek1,h⟩:=zcC h
  obtain ⟨ek2,hek2,h⟩:=zcC h
  obtain ⟨dn1,hdn1,h⟩:=zcC h
  refine zhX (α:=zBA) (β:=Int×Int×zBA) (γ:=(Int×Int×zBA) ⊕ (Int×Int×zBA)) (δ:=Unit) (ps:=[48]) hrd Ro.nil rfl zwu (zgD hq7) (fun pre b=>∀ post,its1=pre++post→zbZ dn1 (zbP p1 r4 ek1 ek2) post b.1 b.2.1 b.2.2=some r) (fun pre b=>[cells b1 [.bool false] 4,cells b2 [zP b3] 24,cells b4 [zI r4.2] 3,cells b5 [zI b.1] 3,cells b6 [zI b.2.1] 3,cells b7 [.string b.2.2] 9]) (fun c pre g=>(Sum.elim (fun g=>c=.ret∧ek1 g.1 g.2.1 g.2.2=some r) (fun g=>c=.exit 0∧ek2 g.1 g.2.1 g.2.2=some r)) g) (fun c pre g=>(Sum.elim (fun g=>[cells b1 [.bool false] 4,cells b2 [zP b3] 24,cells b4 [zI r4.2] 3,cells b5 [zI g.1] 3,cells b6 [zI g.2.1] 3,cells b7 [.string g.2.2] 9]) (fun g=>[cells b1 [.bool false] 4,cells b2 [zP b3] 24,cells b4 [zI r4.2] 3,cells b5 [zI g.1] 3,cells b6 [zI g.2.1] 3,cells b7 [.string g.2.2] 9])) g) (fun pre x b j=>[(1,.string tree1),(4,zP b1),(5,zP b2),(8,zP b4),(7,.string r4.1),(9,zP b5),(10,zP b6),(11,zP b7),(47,.func (.func 23) #[] #[zP b8]),(12,.string x)]) (fun pre x b j=>[cells b1 [.bool false] 4,cells b2 [zP b3] 24,cells b4 [zI r4.2] 3,cells b5 [zI b.1] 3,cells b6 [zI b.2.1] 3,cells b7 [.string b.2.2] 9]) (0,0,(⟨#[]⟩:zBA)) (fun post e=>by rw [List.nil_append] at e; subst e; exact h) (zaa [1,4,11,12,13,14] kr rfl) (.own (As:=[cells b8 [zP b3] 24]) (zaa [15] kr rfl) (fun _ _ h=>sepL.one1.1 h) (.ro 2 rfl (.ro 3 rfl (.ro 4 rfl (.ro 5 rfl (.ro 6 rfl (.ro 7 rfl (.ro 1 rfl .nil)))))))) (fun _=>rfl) dc ?_ ?_ ?_ ?_
  ·
   rintro lp rc pre x1 post ⟨n4,ties4,first4⟩ w1 K1 hxs1 hext hro hinv
   have hrd:=hrd.ext hext
   refine zad (zyR 1 rfl (zap ?_))
   exact fun a w ha hw=>⟨(),(zbK rfl) _ _ _ ha,hw.weaken (zaa [0,1,2,3,4,5] kr rfl)⟩
  ·
   rintro lp rc pre x1 post1 ⟨n4,ties4,first4⟩ _ w1 K1 hxs1 hext hro hinv
   have hrd:=hrd.ext hext
   have h:=hinv (x1::post1) hxs1
   obtain ⟨ag1,hag1⟩:∃ ag,ag=zbZ dn1 (zbP p1 r4 ek1 ek2) post1:=⟨_,rfl⟩
   have h:zbP p1 r4 ek1 ek2 x1 ag1 n4 ties4 first4=some r:=by have h2:=h; rw [zb3,← hag1] at h2; exact h2
   unfold zbP at h
   refine zaK (zyG (zat (k:=1) zfr rfl dc rfl rfl rfl (zyR 1 rfl ?_)))
   obtain ⟨r6,hq8,h⟩:=zcp h
   refine zbm (v:=.tuple #[zI r6.1,.agg (zr2 r6.2).toArray]) (vs:=[zP b3,.string x1]) hrd rfl dc rfl rfl rfl zvW (zee (bt1:=b3) (t1:=p1) (t1_h0:=hd2) (t1_h1:=hd3) (t1_h2:=hd4) (t1_h3:=hd5) (t1_h4:=hd6) hq8) (.ro 2 rfl (.ro 3 rfl (.ro 4 rfl (.ro 5 rfl (.ro 6 rfl (.ro 7 rfl (.ro 1 rfl .nil))))))) (zyR 1 rfl (zaJ rfl dc rfl rfl (zaJ rfl dc rfl rfl ?_)))
   refine za6 zlA rfl dc (fun b9 => ?_)
   refine zyR 1 rfl (za2 (k:=6) (vs:=(zr2 r6.2)) (l':=(zr2 r6.2)) zix rfl rfl rfl rfl rfl (show _≤_ by simp) rfl rfl ?_)
   refine zyH (zat (k:=1) zfr rfl dc rfl rfl rfl (zyR 1 rfl ?_))
   obtain ⟨r7,hq9,h⟩:=zcp h
   refine zbm (v:=.tuple #[.string r7.1,.agg (zr2 r7.2).toArray]) (vs:=[zP b3,.string x1]) hrd rfl dc rfl rfl rfl zwB (zhA (bt1:=b3) (t1:=p1) (t1_h0:=hd2) (t1_h1:=hd3) (t1_h2:=hd4) (t1_h3:=hd5) (t1_h4:=hd6) hq9) (.ro 2 rfl (.ro 3 rfl (.ro 4 rfl (.ro 5 rfl (.ro 6 rfl (.ro 7 rfl (.ro 1 rfl .nil))))))) (zyR 1 rfl (zaJ rfl dc rfl rfl (zaJ rfl dc rfl rfl ?_)))
   refine za6 zlA rfl dc (fun b10 => ?_)
   refine zyR 1 rfl (za2 (k:=7) (vs:=(zr2 r7.2)) (l':=(zr2 r7.2)) zix rfl rfl rfl rfl rfl (show _≤_ by simp) rfl rfl ?_)
   refine zyN (zar (zyG (zac zlW rfl dc rfl (show _=0 from rfl) (zat (k:=6) ziR rfl dc rfl rfl rfl (zbn rfl zdZ (zyR 1 rfl ?_))))))
   refine zyS (s:=64) rfl h (fun h => ?_) (fun h => ?_)
   ·
    refine zyR 14 rfl ?_
    refine zyN (zbw rfl (zyG ?_))
    refine zaG (k:=0) (l':=[.bool false]) zlF rfl rfl rfl rfl rfl (fun _ _=>rfl) rfl ?_
    refine zyN (zaE (zao (zau ?_)))
    exact zcv (.inl (n4,ties4,first4)) (show _∧_ from ⟨rfl,h⟩) (zaa [0,1,2,3,4,5] kr rfl)
   refine zac zlW rfl dc rfl (show _=0 from rfl) (zat (k:=7) ziR rfl dc rfl rfl rfl (zbn rfl zdZ (zyR 2 rfl ?_)))
   refine zyS (s:=69) rfl h (fun h => ?_) (fun h => ?_)
   ·
    refine zyR 9 rfl (zyN (zbw rfl (zyG ?_)))
    refine zaG (k:=0) (l':=[.bool false]) zlF rfl rfl rfl rfl rfl (fun _ _=>rfl) rfl ?_
    refine zyN (zaE (zao (zau ?_)))
    exact zcv (.inl (n4,ties4,first4)) (show _∧_ from ⟨rfl,h⟩) (zaa [0,1,2,3,4,5] kr rfl)
   refine zyR 2 rfl (zbn rfl zh5 (zyR 2 rfl ?_))
   refine zyS (s:=74) rfl h (fun h => ?_) (fun h => ?_)
   ·
    refine zyR 4 rfl (zyN (zbw rfl (zyG ?_)))
    refine zaG (k:=0) (l':=[.bool false]) zlF rfl rfl rfl rfl rfl (fun _ _=>rfl) rfl ?_
    refine zyN (zaE (zao (zau ?_)))
    exact zcv (.inl (n4,ties4,first4)) (show _∧_ from ⟨rfl,h⟩) (zaa [0,1,2,3,4,5] kr rfl)
   refine zyR 1 rfl (zat (k:=2) zdk rfl dc rfl rfl rfl (zbn rfl zb4 (zyR 1 rfl (zyN ?_))))
   refine zyB rfl h (fun h => ?_) (fun h => ?_)
   ·
    refine zyG ?_
    refine zaG (k:=0) (l':=[.bool false]) zlF rfl rfl rfl rfl rfl (fun _ _=>rfl) rfl ?_
    refine zyN (zaE (zao (zau ?_)))
    exact zcv (.inl (n4,ties4,first4)) (show _∧_ from ⟨rfl,h⟩) (zaa [0,1,2,3,4,5] kr rfl)
   refine zax (zag ?_)
   obtain ⟨j2,hj2,h⟩:=zcC h
   refine zbF (β:=Int×zBA) 0 rfl (fun b=>j2 b.1 b.2=some r) (fun b=>[]) (fun b=>[(1,.string tree1),(4,zP b1),(5,zP b2),(7,.string r4.1),(8,zP b4),(9,zP b5),(10,zP b6),(11,zP b7),(47,.func (.func 23) #[] #[zP b8])]) (fun b=>[cells b1 [.bool false] 4,cells b2 [zP b3] 24,cells b4 [zI r4.2] 3,cells b5 [zI n4] 3,cells b6 [zI b.1] 3,cells b7 [.string b.2] 9]) (fun cut => ?_) ?_
   ·
    refine cut (zyG (zyR 1 rfl (zat (k:=2) zdk rfl dc rfl rfl rfl (zbn rfl zaP (zyN ?_)))))
    refine zyB rfl h (fun h => ?_) (fun h => ?_)
    ·
     refine zyG (zat (k:=4) zdk rfl dc rfl rfl rfl ?_)
     obtain ⟨hg1,h⟩:=zcU h
     refine zbn rfl (zbs (r:=ties4+1) (IntWalk.i64_in _ hg1)) ?_
     refine zaG (k:=4) (l':=[zI (ties4+1)]) zeR rfl rfl rfl rfl rfl (fun _ _=>rfl) rfl ?_
     refine zyH (zat (k:=5) zhH rfl dc rfl rfl rfl (zbn rfl zh6 (zyN ?_)))
     refine zyB rfl h (fun h => ?_) (fun h => ?_)
     ·
      refine zad (zyR 1 rfl ?_)
      refine zaG (k:=5) (l':=[.string x1]) zrJ rfl rfl rfl rfl rfl (fun _ _=>rfl) rfl ?_
      refine zap ?_
      exact zaB (ties4+1,x1) h rfl (zbK rfl) (zaa [0,1,2,3,4,5] kr rfl)
     refine zax ?_
     exact zaB (ties4+1,first4) h rfl (zbK rfl) (zaa [0,1,2,3,4,5] kr rfl)
    refine zax ?_
    exact zaB (ties4,first4) h rfl (zbK rfl) (zaa [0,1,2,3,4,5] kr rfl)
   rintro ⟨ties7,first7⟩ h
   rw [hj2] at h
   refine zyG (zat (k:=3) zdk rfl dc rfl rfl rfl ?_)
   obtain ⟨hg2,h⟩:=zcU h
   refine zbn rfl (zbs (r:=n4+1) (IntWalk.i64_in _ hg2)) ?_
   refine zaG (k:=3) (l':=[zI (n4+1)]) zeR rfl rfl rfl rfl rfl (fun _ _=>rfl) rfl ?_
   refine zyH (zat (k:=3) zdk rfl dc rfl rfl rfl (zbn rfl zaP (zyN ?_)))
   refine zyB rfl h (fun h => ?_) (fun h => ?_)
   ·
    refine zcy (zfP dc ?_)
    exact zjL (.inr (n4+1,ties7,first7)) (show _∧_ from ⟨rfl,h⟩) (zaa [0,1,2,3,4,5] kr rfl)
   refine zax (zah ?_)
   exact zcj (n4+1,ties7,first7) (fun post2 e2=>by have e9:=zcI hxs1 e2; subst e9; subst hag1; exact h) (zaa [0,1,2,3,4,5] kr rfl)
  ·
   rintro dm1 ⟨n4,ties4,first4⟩ hinv
   have h:dn1 n4 ties4 first4=some r:=hinv [] (List.append_nil _).symm
   rw [hdn1] at h
   show TX _ _ _ _ _ _ _ [zc0 ((([]:List Nat):List Nat).map zcu),emp,zv9 hd1.v r2,emp,emp,emp,emp,emp,emp,emp,emp,emp,emp,emp,emp,cells b8 [zP b3] 24,cells b1 [.bool false] 4,cells b2 [zP b3] 24,cells b4 [zI r4.2] 3,cells b5 [zI n4] 3,cells b6 [zI ties4] 3,cells b7 [.string first4] 9,zcu dm1]
   refine zds (k:=22) (j:=0) rfl rfl dc ?_
   refine zah ?_
   exact zaB (n4,ties4,first4,dm1::([]:List Nat)) h rfl (zbK rfl) (zaa [16,17,18,19,20,21,0] kr rfl)
  rintro dm1 c pre x1 post g hxs hX
  rcases g with g | g
  ·
   obtain ⟨rfl,h⟩:=(show _∧_ from hX)
   obtain ⟨n5,ties5,first5⟩:=g
   rw [hek1] at h
   show TC _ _ _ _ _ _ _ _ _ [zc0 ((([]:List Nat):List Nat).map zcu),emp,zv9 hd1.v r2,emp,emp,emp,emp,emp,emp,emp,emp,emp,emp,emp,emp,cells b8 [zP b3] 24,cells b1 [.bool false] 4,cells b2 [zP b3] 24,cells b4 [zI r4.2] 3,cells b5 [zI n5] 3,cells b6 [zI ties5] 3,cells b7 [.string first5] 9,zcu dm1]
   refine zfj (k:=22) (j:=0) rfl rfl dc ?_
   refine zaE (zau (zao (zbJ hxf6 (zbJ hxf5 (zbJ hxf4 (zbJ hxf3 (zbJ hxf2 (zbJ hxf1 ?_))))))))
   cases h
   exact zcE (rs:=[.cell 4 4]) (dm1::([]:List Nat)) () (.inl rfl) (zaT (k:=0) rfl) results3 (.cons (.cell zkg (k:=16) rfl rfl) .nil) rfl Splits.nil
  obtain ⟨rfl,h⟩:=(show _∧_ from hX)
  obtain ⟨n6,ties6,first6⟩:=g
  rw [hek2] at h
  show TC _ _ _ _ _ _ _ _ _ [zc0 ((([]:List Nat):List Nat).map zcu),emp,zv9 hd1.v r2,emp,emp,emp,emp,emp,emp,emp,emp,emp,emp,emp,emp,cells b8 [zP b3] 24,cells b1 [.bool false] 4,cells b2 [zP b3] 24,cells b4 [zI r4.2] 3,cells b5 [zI n6] 3,cells b6 [zI ties6] 3,cells b7 [.string first6] 9,zcu dm1]
  refine zfj (k:=22) (j:=0) rfl rfl dc ?_
  refine zcy (zbh ?_)
  exact zaB (n6,ties6,first6,dm1::([]:List Nat)) h rfl (zbK rfl) (zaa [16,17,18,19,20,21,0] kr rfl)
 rintro ⟨n1,ties1,first1,ds1⟩ h
 rw [hj1] at h
 obtain ⟨j3,hj3,h⟩:=zcC h
 refine zbF (β:=Unit) 0 rfl (fun b=>j3=some r) (fun b=>zcK ds1) (fun b=>[(1,.string tree1),(4,zP b1),(5,zP b2),(7,.string r4.1),(8,zP b4)]) (fun b=>[cells b1 [.bool false] 4,cells b2 [zP b3] 24,cells b4 [zI r4.2] 3,zc0 ((ds1:List Nat).map zcu)]) (fun cut => ?_) ?_
 ·
  refine cut (zar ?_)
  refine zej (b:=decide ((n1:Int)<200)) (fun hb12 => ?_) (fun hb12 => ?_)
  ·
   have h:=zg5 hb12 h
   obtain ⟨r8,hq10,h⟩:=zcp h
   refine zej (b:=(ties1:Int) != r8) (fun hb13 => ?_) (fun hb13 => ?_)
   ·
    have h:=zg5 hb13 h
    refine zbW 10 [(0,91,zI n1),(1,92,.bool true),(2,93,.bool true),(3,94,zI ties1),(4,95,zP b3),(5,96,zI r8),(6,97,.bool true),(7,98,.bool true),(8,99,undef),(9,100,undef)] mixed kr kr dc (by rfl) kr kr (zae ?_ (zae ?_ (zyP 1 2 rfl (zae ?_ (zae ?_ (zae ?_ (zae ?_ (zyP 3 7 rfl DrawPre.nil)))))))) ?_
    · exact fun D n d c u i=>zat (k:=3) zdk rfl dc (za3 (by rfl) rfl) rfl rfl (zaI 0 u i)
    · exact fun D n d c u i=>zaX rfl dc (zaH 0 u d) rfl zb4 (zdt (show Value.bool (decide ((n1:Int)<200))=Value.bool true from congrArg Value.bool hb12) (zaI 1 u i))
    · exact fun D n d c u i=>zat (k:=4) zdk (zeY rfl (zaH 2 u d)) dc (za3 (by rfl) rfl) rfl rfl (zaI 3 u i)
    · exact fun D n d c u i=>zat (k:=1) zfr (zeY rfl (zaH 2 u d)) dc (za3 (by rfl) rfl) rfl rfl (zaI 4 u i)
    · exact fun D n d c u i=>zbm (v:=zI r8) (vs:=[zP b3]) hrd (zeY rfl (zaH 2 u d)) dc rfl (evL.cons (zaH 4 u d) evL.nil) rfl ztv (zeK (bt1:=b3) (t1:=p1) (t1_h0:=hd2) (t1_h1:=hd3) (t1_h2:=hd4) (t1_h3:=hd5) (t1_h4:=hd6) hq10) (.ro 2 rfl (.ro 3 rfl (.ro 4 rfl (.ro 5 rfl (.ro 6 rfl (.ro 7 rfl (.ro 1 rfl .nil))))))) (zaI 5 u i)
    · exact fun D n d c u i=>zaX (zeY rfl (zaH 2 u d)) dc (zaH 3 u d) (zaH 5 u d) zdZ (zdt (show Value.bool ((ties1:Int) != r8)=Value.bool true from congrArg Value.bool hb13) (zaI 6 u i))
    refine zyR 7 rfl (zyN (zbw rfl (zyG ?_)))
    refine zaG (k:=0) (l':=[.bool false]) zlF rfl rfl rfl rfl rfl (fun _ _=>rfl) rfl ?_
    refine zyN (zaE (zao (zbJ hxf6 (zbJ hxf5 (zbJ hxf4 (zbJ hxf3 (zbJ hxf2 (zbJ hxf1 ?_))))))))
    cases h
    exact zcE (rs:=[.cell 4 4]) ds1 () (.inl rfl) (zaT (k:=6) rfl) results3 (.cons (.cell zkg (k:=0) rfl rfl) .nil) rfl Splits.nil
   have h:=zg6 hb13 h
   refine zej (b:=!decide (first1=r4.1)) (fun hb14 => ?_) (fun hb14 => ?_)
   ·
    have h:=zg5 hb14 h
    refine zbW 10 [(0,91,zI n1),(1,92,.bool true),(2,93,.bool true),(3,94,zI ties1),(4,95,zP b3),(5,96,zI r8),(6,97,.bool false),(7,98,.bool false),(8,99,.string first1),(9,100,.string r4.1)] mixed kr kr dc (by rfl) kr kr (zae ?_ (zae ?_ (zyP 1 2 rfl (zae ?_ (zae ?_ (zae ?_ (zae ?_ (zyP 1 7 rfl (zae ?_ (zyP 1 9 rfl DrawPre.nil)))))))))) ?_
    · exact fun D n d c u i=>zat (k:=3) zdk rfl dc (za3 (by rfl) rfl) rfl rfl (zaI 0 u i)
    · exact fun D n d c u i=>zaX rfl dc (zaH 0 u d) rfl zb4 (zdt (show Value.bool (decide ((n1:Int)<200))=Value.bool true from congrArg Value.bool hb12) (zaI 1 u i))
    · exact fun D n d c u i=>zat (k:=4) zdk (zeY rfl (zaH 2 u d)) dc (za3 (by rfl) rfl) rfl rfl (zaI 3 u i)
    · exact fun D n d c u i=>zat (k:=1) zfr (zeY rfl (zaH 2 u d)) dc (za3 (by rfl) rfl) rfl rfl (zaI 4 u i)
    · exact fun D n d c u i=>zbm (v:=zI r8) (vs:=[zP b3]) hrd (zeY rfl (zaH 2 u d)) dc rfl (evL.cons (zaH 4 u d) evL.nil) rfl ztv (zeK (bt1:=b3) (t1:=p1) (t1_h0:=hd2) (t1_h1:=hd3) (t1_h2:=hd4) (t1_h3:=hd5) (t1_h4:=hd6) hq10) (.ro 2 rfl (.ro 3 rfl (.ro 4 rfl (.ro 5 rfl (.ro 6 rfl (.ro 7 rfl (.ro 1 rfl .nil))))))) (zaI 5 u i)
    · exact fun D n d c u i=>zaX (zeY rfl (zaH 2 u d)) dc (zaH 3 u d) (zaH 5 u d) zdZ (zdt (show Value.bool ((ties1:Int) != r8)=Value.bool false from congrArg Value.bool hb13) (zaI 6 u i))
    · exact fun D n d c u i=>zat (k:=5) zhH (zeY rfl (zaH 7 u d)) dc (za3 (by rfl) rfl) rfl rfl (zaI 8 u i)
    refine zbn rfl zh5 (zdt (show Value.bool (!decide (first1=r4.1))=Value.bool true from congrArg Value.bool hb14) (zyR 6 rfl (zyN (zbw rfl (zyG ?_)))))
    refine zaG (k:=0) (l':=[.bool false]) zlF rfl rfl rfl rfl rfl (fun _ _=>rfl) rfl ?_
    refine zyN (zaE (zao (zbJ hxf6 (zbJ hxf5 (zbJ hxf4 (zbJ hxf3 (zbJ hxf2 (zbJ hxf1 ?_))))))))
    cases h
    exact zcE (rs:=[.cell 4 4]) ds1 () (.inl rfl) (zaT (k:=6) rfl) results3 (.cons (.cell zkg (k:=0) rfl rfl) .nil) rfl Splits.nil
   have h:=zg6 hb14 h
   refine zbW 10 [(0,91,zI n1),(1,92,.bool true),(2,93,.bool true),(3,94,zI ties1),(4,95,zP b3),(5,96,zI r8),(6,97,.bool false),(7,98,.bool false),(8,99,.string first1),(9,100,.string r4.1)] mixed kr kr dc (by rfl) kr kr (zae ?_ (zae ?_ (zyP 1 2 rfl (zae ?_ (zae ?_ (zae ?_ (zae ?_ (zyP 1 7 rfl (zae ?_ (zyP 1 9 rfl DrawPre.nil)))))))))) ?_
   · exact fun D n d c u i=>zat (k:=3) zdk rfl dc (za3 (by rfl) rfl) rfl rfl (zaI 0 u i)
   · exact fun D n d c u i=>zaX rfl dc (zaH 0 u d) rfl zb4 (zdt (show Value.bool (decide ((n1:Int)<200))=Value.bool true from congrArg Value.bool hb12) (zaI 1 u i))
   · exact fun D n d c u i=>zat (k:=4) zdk (zeY rfl (zaH 2 u d)) dc (za3 (by rfl) rfl) rfl rfl (zaI 3 u i)
   · exact fun D n d c u i=>zat (k:=1) zfr (zeY rfl (zaH 2 u d)) dc (za3 (by rfl) rfl) rfl rfl (zaI 4 u i)
   · exact fun D n d c u i=>zbm (v:=zI r8) (vs:=[zP b3]) hrd (zeY rfl (zaH 2 u d)) dc rfl (evL.cons (zaH 4 u d) evL.nil) rfl ztv (zeK (bt1:=b3) (t1:=p1) (t1_h0:=hd2) (t1_h1:=hd3) (t1_h2:=hd4) (t1_h3:=hd5) (t1_h4:=hd6) hq10) (.ro 2 rfl (.ro 3 rfl (.ro 4 rfl (.ro 5 rfl (.ro 6 rfl (.ro 7 rfl (.ro 1 rfl .nil))))))) (zaI 5 u i)
   · exact fun D n d c u i=>zaX (zeY rfl (zaH 2 u d)) dc (zaH 3 u d) (zaH 5 u d) zdZ (zdt (show Value.bool ((ties1:Int) != r8)=Value.bool false from congrArg Value.bool hb13) (zaI 6 u i))
   · exact fun D n d c u i=>zat (k:=5) zhH (zeY rfl (zaH 7 u d)) dc (za3 (by rfl) rfl) rfl rfl (zaI 8 u i)
   refine zbn rfl zh5 (zdt (show Value.bool (!decide (first1=r4.1))=Value.bool false from congrArg Value.bool hb14) (zyR 3 rfl (zat (k:=3) zdk rfl dc rfl rfl rfl (zbn rfl zb4 (zyR 1 rfl (zyN ?_))))))
   refine zyB rfl h (fun h => ?_) (fun h => ?_)
   ·
    refine zyG ?_
    refine zaG (k:=0) (l':=[.bool false]) zlF rfl rfl rfl rfl rfl (fun _ _=>rfl) rfl ?_
    refine zyN (zaE (zao (zbJ hxf6 (zbJ hxf5 (zbJ hxf4 (zbJ hxf3 (zbJ hxf2 (zbJ hxf1 ?_))))))))
    cases h
    exact zcE (rs:=[.cell 4 4]) ds1 () (.inl rfl) (zaT (k:=6) rfl) results3 (.cons (.cell zkg (k:=0) rfl rfl) .nil) rfl Splits.nil
   refine zax ?_
   exact zaB () h rfl (zbK rfl) (zaa [0,1,2,6] kr rfl)
  have h:=zg6 hb12 h
  refine zbW 10 [(0,91,zI n1),(1,92,.bool false),(2,93,.bool false),(3,94,undef),(4,95,undef),(5,96,undef),(6,97,undef),(7,98,undef),(8,99,undef),(9,100,undef)] mixed kr kr dc (by rfl) kr kr (zae ?_ (zae ?_ (zyP 8 2 rfl DrawPre.nil))) ?_
  · exact fun D n d c u i=>zat (k:=3) zdk rfl dc (za3 (by rfl) rfl) rfl rfl (zaI 0 u i)
  · exact fun D n d c u i=>zaX rfl dc (zaH 0 u d) rfl zb4 (zdt (show Value.bool (decide ((n1:Int)<200))=Value.bool false from congrArg Value.bool hb12) (zaI 1 u i))
  refine zyR 4 rfl (zat (k:=3) zdk rfl dc rfl rfl rfl (zbn rfl zb4 (zyR 1 rfl (zyN ?_))))
  refine zyB rfl h (fun h => ?_) (fun h => ?_)
  ·
   refine zyG ?_
   refine zaG (k:=0) (l':=[.bool false]) zlF rfl rfl rfl rfl rfl (fun _ _=>rfl) rfl ?_
   refine zyN (zaE (zao (zbJ hxf6 (zbJ hxf5 (zbJ hxf4 (zbJ hxf3 (zbJ hxf2 (zbJ hxf1 ?_))))))))
   cases h
   exact zcE (rs:=[.cell 4 4]) ds1 () (.inl rfl) (zaT (k:=6) rfl) results3 (.cons (.cell zkg (k:=0) rfl rfl) .nil) rfl Splits.nil
  refine zax ?_
  exact zaB () h rfl (zbK rfl) (zaa [0,1,2,6] kr rfl)
 rintro _ h
 rw [hj3] at h
 refine zyG (zat (k:=1) zfr rfl dc rfl rfl rfl (zyR 1 rfl ?_))
 obtain ⟨r9,hq11,h⟩:=zcp h
 refine zbm (v:=.tuple #[zI r9.1,.agg (zr2 r9.2).toArray]) (vs:=[zP b3,.string tree1]) hrd rfl dc rfl rfl rfl zvW (zee (bt1:=b3) (t1:=p1) (t1_h0:=hd2) (t1_h1:=hd3) (t1_h2:=hd4) (t1_h3:=hd5) (t1_h4:=hd6) hq11) (.ro 2 rfl (.ro 3 rfl (.ro 4 rfl (.ro 5 rfl (.ro 6 rfl (.ro 7 rfl (.ro 1 rfl .nil))))))) (zyR 1 rfl (zaJ rfl dc rfl rfl (zaJ rfl dc rfl rfl ?_)))
 refine za6 zlA rfl dc (fun b11 => ?_)
 refine zyR 1 rfl (za2 (k:=4) (vs:=(zr2 r9.2)) (l':=(zr2 r9.2)) zix rfl rfl rfl rfl rfl (show _≤_ by simp) rfl rfl ?_)
 refine zyH (zat (k:=1) zfr rfl dc rfl rfl rfl (zyR 1 rfl ?_))
 obtain ⟨r10,hq12,h⟩:=zcp h
 refine zbm (v:=.tuple #[zI r10.1,.agg (zr2 r10.2).toArray]) (vs:=[zP b3,.string r4.1]) hrd rfl dc rfl rfl rfl zvW (zee (bt1:=b3) (t1:=p1) (t1_h0:=hd2) (t1_h1:=hd3) (t1_h2:=hd4) (t1_h3:=hd5) (t1_h4:=hd6) hq12) (.ro 2 rfl (.ro 3 rfl (.ro 4 rfl (.ro 5 rfl (.ro 6 rfl (.ro 7 rfl (.ro 1 rfl .nil))))))) (zyR 1 rfl (zaJ rfl dc rfl rfl (zaJ rfl dc rfl rfl ?_)))
 refine za6 zlA rfl dc (fun b12 => ?_)
 refine zyR 1 rfl (za2 (k:=5) (vs:=(zr2 r10.2)) (l':=(zr2 r10.2)) zix rfl rfl rfl rfl rfl (show _≤_ by simp) rfl rfl ?_)
 refine zyH (zac zlW rfl dc rfl (show _=0 from rfl) (zat (k:=5) ziR rfl dc rfl rfl rfl (zbn rfl zaP (zyR 1 rfl ?_))))
 refine zyS (s:=123) rfl h (fun h => ?_) (fun h => ?_)
 ·
  refine zyR 1 rfl (zat (k:=2) zdk rfl dc rfl rfl rfl (zbn rfl zaP (zyR 2 rfl ?_)))
  refine zyS (s:=128) rfl h (fun h => ?_) (fun h => ?_)
  ·
   refine zac zlW rfl dc rfl (show _=0 from rfl) (zat (k:=4) ziR rfl dc rfl rfl rfl (zbn rfl zdZ (zyR 1 rfl ?_)))
   refine zyS (s:=132) rfl h (fun h => ?_) (fun h => ?_)
   ·
    refine zyR 5 rfl ?_
    refine zaG (k:=0) (l':=[.bool true]) zlF rfl rfl rfl rfl rfl (fun _ _=>rfl) rfl ?_
    refine zyN (zaE (zbJ hxf6 (zbJ hxf5 (zbJ hxf4 (zbJ hxf3 (zbJ hxf2 (zbJ hxf1 ?_)))))))
    cases h
    exact zcE (rs:=[.cell 4 4]) ds1 () (.inl rfl) (zaT (k:=3) rfl) results3 (.cons (.cell zkg (k:=0) rfl rfl) .nil) rfl Splits.nil
   refine zyR 1 rfl (zat (k:=2) zdk rfl dc rfl rfl rfl (zbn rfl zbV (zyR 2 rfl ?_)))
   refine zaG (k:=0) (l':=[.bool (decide ((r4.2:Int)≤r9.1))]) zlF rfl rfl rfl rfl rfl (fun _ _=>rfl) rfl ?_
   refine zyN (zaE (zbJ hxf6 (zbJ hxf5 (zbJ hxf4 (zbJ hxf3 (zbJ hxf2 (zbJ hxf1 ?_)))))))
   cases h
   exact zcE (rs:=[.cell 4 4]) ds1 () (.inl rfl) (zaT (k:=3) rfl) results3 (.cons (.cell zkg (k:=0) rfl rfl) .nil) rfl Splits.nil
  refine zyR 9 rfl ?_
  refine zaG (k:=0) (l':=[.bool false]) zlF rfl rfl rfl rfl rfl (fun _ _=>rfl) rfl ?_
  refine zyN (zaE (zbJ hxf6 (zbJ hxf5 (zbJ hxf4 (zbJ hxf3 (zbJ hxf2 (zbJ hxf1 ?_)))))))
  cases h
  exact zcE (rs:=[.cell 4 4]) ds1 () (.inl rfl) (zaT (k:=3) rfl) results3 (.cons (.cell zkg (k:=0) rfl rfl) .nil) rfl Splits.nil
 refine zyR 14 rfl ?_
 refine zaG (k:=0) (l':=[.bool false]) zlF rfl rfl rfl rfl rfl (fun _ _=>rfl) rfl ?_
 refine zyN (zaE (zbJ hxf6 (zbJ hxf5 (zbJ hxf4 (zbJ hxf3 (zbJ hxf2 (zbJ hxf1 ?_)))))))
 cases h
 exact zcE (rs:=[.cell 4 4]) ds1 () (.inl rfl) (zaT (k:=3) rfl) results3 (.cons (.cell zkg (k:=0) rfl rfl) .nil) rfl Splits.nil
end Go.Proofs.YtdnalnmahlakkaaGreatDoor


namespace Go.Proofs.YtdnalnmahlakkaaGreatDoor
open Go.RowKit Go.Lib
open Tryz
set_option linter.unusedVariables false
set_option linter.unusedSimpArgs false
section
variable {R S:Type} {c:Prop} [Decidable c] {o x z:Option R} {p:Option S} {f:S→Option R} {b:Bool} {y:Option R}
theorem zcS (h:c) (ho:o=x):grd c o=x:=(zta h).trans ho
theorem zaR {a:S} (h:p=some a) (hf:f a=x):zaA p f=x:=(zry h).trans hf
theorem za4 (hb:b=true) (h:x=z):zaL b x y=z:=(ztI hb).trans h
theorem zaQ (hb:b=false) (h:y=z):zaL b x y=z:=(ztJ hb).trans h
theorem zcY {T:Type} {t:T→Option R} {k:T} (h:t k=x):zcd t k=x:=h
theorem zoN {T:Type} {bot:T} {step:T→T} {n:Nat}:zbq bot step (n+1)=step (zbq bot step n):=rfl
theorem zpQ (k:Nat) (h:k≤1000):∃ n,zc9=n+k∧18446744073709550000≤n:=⟨18446744073709551616 - k,by unfold zc9; omega,by omega⟩
end
def vr (r:Int):Prop:=(0≤r∧r<55296)∨(57343<r∧r≤1114111)
instance (r:Int):Decidable (vr r):=by unfold vr; infer_instance
def wd (r:Int):Int:=if vr r then (if r<128 then 1 else if r<2048 then 2 else if r<65536 then 3 else 4) else 0
def byI (l:List UInt8) (i:Nat):Int:=((l.getD i 0).toNat:Int)
def zwG (l:List UInt8):Nat→Int
 | 1=>byI l 0
 | 2=>(byI l 0 - 192)*64+byI l 1 - 128
 | 3=>((byI l 0 - 224)*64+byI l 1 - 128)*64+byI l 2 - 128
 | 4=>(((byI l 0 - 240)*64+byI l 1 - 128)*64+byI l 2 - 128)*64+byI l 3 - 128
 | _=>0
def acc (s:zBA) (a n:Nat):Prop:=vr (zwG (s.data.toList.drop a) n)∧wd (zwG (s.data.toList.drop a) n)=n∧Utf8.encode (zwG (s.data.toList.drop a) n)=zgT s a ((a:Int)+n)
theorem zkz (s:zBA) (a n:Nat):(zgT s a ((a:Int)+n)).data.toList=(s.data.toList.drop a).take n:=by
 unfold zgT
 rw [extract_data]
 simp only [Int.toNat_natCast,show ((a:Int)+(n:Int)).toNat=a+n by omega]
 rw [show a+n - a=n by omega]
def pcG (p:Pc):zaY:=⟨p.i,p.w,p.r,p.broken⟩
theorem zp1 (r:Int) (hv:0≤r∧(r<55296∨(57343<r∧r≤1114111))) (hr:¬ r=65533):¬ Utf8.encode r=⟨#[239,191,189]⟩:=by
 intro h
 obtain ⟨n,rfl⟩:=Int.eq_ofNat_of_zero_le hv.1
 have h1:encodeRune ((n:Nat):Int)=[239,191,189]:=by rw [← zg3,h]
 have h2:=zky n (by omega) []
 have h3:=zky 65533 (by omega) []
 rw [h1] at h2
 rw [zlY] at h3
 rw [h2] at h3
 have:=(Prod.mk.inj h3).1
 omega
theorem zsI (r:Int) (hv:vr r):zft r=some ((Utf8.encode r).size:Int):=by
 unfold zft
 refine zcY ?_
 by_cases h:r=65533
 ·exact zaQ (bne_eq_false_iff_eq.2 h) rfl
 ·exact za4 (bne_iff_ne.2 h) (zaQ (decide_eq_false (zp1 r (by unfold vr at hv; omega) h)) rfl)
theorem zvK (s:zBA) (a:Nat) (ha:a<s.size) (hsz:s.size≤9223372036854775000):zeM s (a:Int)=some (pcG ⟨a,(decodeL (s.data.toList.drop a)).2,(decodeL (s.data.toList.drop a)).1⟩):=by
 unfold zeM
 obtain ⟨F,hF,_⟩:=zpQ 1 (by omega)
 rw [hF]
 refine zcY (zcS ⟨by omega,by omega,by omega⟩ ?_)
 rw [zoN]
 generalize zbq _ _ F=ag
 unfold zeV
 have hne:s.data.toList.drop a≠[]:=by
  intro h; have:=congrArg List.length h; simp at this; omega
 have hok:=ztz _ hne
 have hlen:(s.data.toList.drop a).length=s.size - a:=by simp
 have hle:=hok.le
 have e:(zgT s (a:Int) (s.size:Int)).data.toList=s.data.toList.drop a:=by unfold zgT; exact zpX s a
 have hp:pcs (zgT s (a:Int) (s.size:Int)).data.toList=⟨0,(decodeL (s.data.toList.drop a)).2,(decodeL (s.data.toList.drop a)).1⟩::zef (0+(decodeL (s.data.toList.drop a)).2) ((s.data.toList.drop a).drop (decodeL (s.data.toList.drop a)).2):=by
  rw [e]; unfold pcs; rw [zdp _ _ hne]
 have hvr:vr ((decodeL (s.data.toList.drop a)).1:Int):=by have:=hok.valid; unfold vr; omega
 refine za4 (decide_eq_true (by rw [hp]; simp)) (zaR (by rw [hp]; rfl) (zcY (zaR (zsI _ hvr) ?_)))
 simp only
 unfold pcG Pc.broken
 have hw:=hok.width
 have hl3:=hok.lost_ok
 have hl1:=hok.lost_bad
 generalize decodeL (s.data.toList.drop a)=d at *
 rcases d with ⟨r,w⟩
 simp only at *
 by_cases hr:r=65533
 ·subst hr
  refine za4 (by decide) (zcS ⟨by omega,by omega⟩ ?_)
  by_cases h3:(s.size:Int) - a<3
  ·refine za4 (decide_eq_true h3) ?_
   have hw1:w=1:=by
    by_cases hw1:w=1
    ·exact hw1
    ·have:=(hl3 rfl hw1).2; omega
   subst hw1; rfl
  ·have e3:=zkz s a 3
   refine zaQ (decide_eq_false h3) (zcS ⟨by omega,by omega⟩ (zcS ⟨by omega,by omega,by omega⟩ ?_))
   by_cases hw1:w=1
   ·refine za4 ?_ (by subst hw1; rfl)
    rw [decide_eq_false]
    ·rfl
    ·intro h
     exact hl1 rfl hw1 (by rw [← e3]; exact congrArg (fun b:zBA=>b.data.toList) h)
   ·obtain ⟨h4,h5⟩:=hl3 rfl hw1
    refine zaQ ?_ ?_
    ·rw [decide_eq_true]
     ·rfl
     ·apply ByteArray.ext; apply Array.toList_inj.1; rw [show ((a:Int)+3)=(a:Int)+(3:Nat) from rfl,e3,h4]
    ·rw [zgm,hw (by omega)]
     subst h5; rfl
 ·refine zaQ (by rw [beq_eq_false_iff_ne]; omega) ?_
  rw [zgm,hw (by omega)]
  have:(r==65533&&w==1)=false:=by simp [hr]
  rw [this]
theorem zpp (s:zBA) (hs:s.size≤1152921504606846976):zc8 s=some ((pcs s.data.toList).map pcG):=by
 unfold zc8
 have hc:(pcs s.data.toList).length≤s.size:=by have:=ziy s; unfold zjl at this; simpa using this
 have key:∀ (n k:Nat),k≤(pcs s.data.toList).length→(pcs s.data.toList).length - k<n→zbq (fun _=>none) (zdg s) n k=some (((pcs s.data.toList).drop k).map pcG):=by
  intro n
  induction n with
  | zero=>intro k _ h; omega
  | succ n ih =>
   intro k hk hn
   rw [zoN]
   generalize zbq (fun _=>none) (zdg s) n=ag at ih ⊢
   unfold zdg
   by_cases h:k<(pcs s.data.toList).length
   ·have hx:(pcs s.data.toList)[k]?=some (pcs s.data.toList)[k]:=List.getElem?_eq_getElem h
    have hm:=List.mem_of_getElem? hx
    generalize (pcs s.data.toList)[k]=p at hx hm
    obtain ⟨g1,g2,hok⟩:=zf6 s.data.toList p hm
    have hlen:s.data.toList.length=s.size:=by rw [Array.length_toList]; rfl
    have hw:=hok.pos
    have hr:zeM s (p.i:Int)=some (pcG p):=by
     have:=zvK s p.i (by omega) (by omega)
     rw [this]
     have he:=hok.eq
     rw [he]
    refine za4 (decide_eq_true h) (zaR hx (zaR hr ?_))
    rw [ih (k+1) (by omega) (by omega)]
    have hd:(pcs s.data.toList).drop k=p::(pcs s.data.toList).drop (k+1):=by
     obtain ⟨hlt,he⟩:=List.getElem?_eq_some_iff.1 hx
     rw [← he]; exact List.drop_eq_getElem_cons hlt
    rw [hd]; rfl
   ·have:k=(pcs s.data.toList).length:=by omega
    subst this
    exact zaQ (decide_eq_false (by omega)) (by rw [List.drop_length]; rfl)
 have:=key zc9 0 (Nat.zero_le _) (by unfold zc9; omega)
 simpa using this
theorem zsP (s:zBA) (hs:s.size≤2147483648):zc8 s=some ((pcs s.data.toList).map pcG):=zpp s (by omega)
section
variable {R X A B:Type} {xs:List X}
theorem zpE {k:Nat} {x:X} (h:xs[k]?=some x):zeD xs (k:Int)=some x:=zbI h
theorem zsX {k:Nat} {x:X} (h:xs[k]?=some x):decide ((k:Int)<(xs.length:Int))=true:=decide_eq_true (by have:=(List.getElem?_eq_some_iff.1 h).1; omega)
theorem zsY:decide ((xs.length:Int)<(xs.length:Int))=false:=decide_eq_false (by omega)
theorem zmE {k:Nat} (h:k≤4611686018427387904):I64 ((k:Int)+1):=⟨by omega,by omega⟩
theorem zrZ {k:Nat} {x:X} (h:xs[k]?=some x):k<xs.length:=(List.getElem?_eq_some_iff.1 h).1
theorem zuy {F:(A→Int→Option R)→A→Int→Option R} {bot:A→Int→Option R} {f:A→X→A} {J:A→Option R} (Inv:Nat→A→Prop)
  (hs:∀ ag k x a,xs[k]?=some x→Inv k a→F ag a (k:Int)=ag (f a x) ((k:Int)+1)) (hI:∀ k x a,xs[k]?=some x→Inv k a→Inv (k+1) (f a x))
  (he:∀ ag a,Inv xs.length a→F ag a (xs.length:Int)=J a) {n:Nat} (hn:xs.length<n) {a:A} (h0:Inv 0 a):zbq bot F n a 0=J (xs.foldl f a):=by
 have key:∀ (n k:Nat) (a:A),k≤xs.length→xs.length - k<n→Inv k a→zbq bot F n a (k:Int)=J ((xs.drop k).foldl f a):=by
  intro n
  induction n with
  | zero=>intro k a _ h; omega
  | succ n ih =>
   intro k a hk hn hi
   rw [zoN]
   by_cases h:k<xs.length
   ·have hx:xs[k]?=some xs[k]:=List.getElem?_eq_getElem h
    rw [hs _ k _ a hx hi,List.drop_eq_getElem_cons h,List.foldl_cons]
    exact ih (k+1) _ (by omega) (by omega) (hI k _ a hx hi)
   ·have:k=xs.length:=by omega
    subst this
    rw [he _ a hi,List.drop_length]; rfl
 have:=key n 0 a (Nat.zero_le _) (by omega) h0
 simpa using this
end
theorem zoo {n:Nat} (h:n≤4611686018427387904):n<zc9:=by unfold zc9; omega
theorem zpx:((List.range 256).all fun p=>p==0||(List.range 256).all fun q=>q==0||p &&& q != 0||(tzN p != tzN q&&p ||| q==p+q))=true:=by decide +kernel
theorem zsR {p q:Nat} (hp:p<256) (hq:q<256) (h0:p≠0) (h1:q≠0) (h:p &&& q=0):tzN p≠tzN q∧p ||| q=p+q:=by
 have h2:=List.all_eq_true.1 zpx p (List.mem_range.2 hp)
 rw [Bool.or_eq_true,beq_iff_eq] at h2
 have h3:=List.all_eq_true.1 (h2.resolve_left h0) q (List.mem_range.2 hq)
 rw [Bool.or_eq_true,Bool.or_eq_true,beq_iff_eq,bne_iff_ne,Bool.and_eq_true,bne_iff_ne,beq_iff_eq] at h3
 exact h3.resolve_left fun h4=>h4.elim h1 fun h5=>h5 h
theorem zrW {q:Nat} (h:q % 2=1):tzN q=0:=by
 unfold tzN Lib.ctz
 rw [if_neg (by omega)]
 show (if q % 2=1 then 0 else _)=0
 rw [if_pos h]
theorem ztW {n:Nat} (h:n<8):2 ^ n≠0∧2 ^ n<256:=by
 have h1:2 ^ n≤2 ^ 7:=Nat.pow_le_pow_right (by omega) (by omega)
 have h2:0<2 ^ n:=Nat.two_pow_pos n
 omega
def Nt:Iwitness_tree→Nat→Prop
 | .nil,_=>False
 | .leaf w,s=>∃ n:Nat,n<8∧w=(n:Int)∧s=2 ^ n
 | .joint a b t,s=>t=(s:Int)∧s<256∧∃ p q,Nt a p∧Nt b q∧p &&& q=0∧p ||| q=s∧p+q=s∧tzN p<tzN q
theorem Nt.rng:∀ {x:Iwitness_tree} {s:Nat},Nt x s→s≠0∧s<256
 | .nil,s,h=>h.elim
 | .leaf w,s,⟨n,h1,h2,h3⟩=>h3 ▸ ztW h1
 | .joint a b t,s,⟨h1,h2,p,q,ha,hb,h3,h4,h5,h6⟩=>⟨by have:=(Nt.rng ha).1; omega,h2⟩
theorem Nt.isnil {x:Iwitness_tree} {s:Nat} (h:Nt x s):x.isnil=false:=by
 cases x with
 | nil=>exact h.elim
 | leaf w=>rfl
 | joint a b t=>rfl
theorem zkd {x:Iwitness_tree} {s:Nat} (h:Nt x s):zdf x=some (s:Int):=by
 cases x with
 | nil=>exact h.elim
 | leaf w =>
  obtain ⟨n,h1,rfl,rfl⟩:=h
  show zd1 _=_
  unfold zd1
  refine zcS (show (0:Int)≤(n:Int) by omega) ?_
  show some (zmo .u64 1 (n:Int))=_
  rw [zkc n (by omega)]
 | joint a b t =>
  obtain ⟨h1,_⟩:=h
  show some t=_
  rw [h1]
theorem zub (s:Nat):tzI (s:Int)=(tzN s:Int):=by unfold tzI tzN; rw [Int.toNat_natCast]
theorem zul {p q:Nat} (hp:p<256) (hq:q<256) (h:p ||| q=p+q):p+q<256:=by
 rw [← h]
 exact Nat.or_lt_two_pow (n:=8) hp hq
theorem zjW {a b:Iwitness_tree} {p q:Nat} (ha:Nt a p) (hb:Nt b q) (h:p &&& q=0) :
  ∃ x,zcO a b=some x∧Nt x (p+q)∧((tzN p<tzN q∧x=.joint a b ((p+q:Nat):Int))∨(tzN q<tzN p∧x=.joint b a ((p+q:Nat):Int))):=by
 obtain ⟨p0,p1⟩:=ha.rng
 obtain ⟨q0,q1⟩:=hb.rng
 obtain ⟨h1,h2⟩:=zsR p1 q1 p0 q0 h
 have h3:=zul p1 q1 h2
 by_cases hlt:tzN q<tzN p
 ·refine ⟨.joint b a ((p+q:Nat):Int),?_,⟨rfl,h3,q,p,hb,ha,by rw [Nat.and_comm]; exact h,by rw [Nat.or_comm]; exact h2,by omega,hlt⟩,.inr ⟨hlt,rfl⟩⟩
  unfold zcO
  refine zcY (zaR (zkd hb) (zcS ⟨by omega,by omega⟩ (zaR (zkd ha) (zcS ⟨by omega,by omega⟩ (za4 (decide_eq_true (by rw [zub,zub]; omega)) ?_)))))
  refine zaR (zkd hb) (zaR (zkd ha) ?_)
  rw [zmz (by omega) (by omega),Nat.or_comm,h2]
 ·refine ⟨.joint a b ((p+q:Nat):Int),?_,⟨rfl,h3,p,q,ha,hb,h,h2,rfl,by omega⟩,.inl ⟨by omega,rfl⟩⟩
  unfold zcO
  refine zcY (zaR (zkd hb) (zcS ⟨by omega,by omega⟩ (zaR (zkd ha) (zcS ⟨by omega,by omega⟩ (zaQ (decide_eq_false (by rw [zub,zub]; omega)) ?_)))))
  refine zaR (zkd ha) (zaR (zkd hb) ?_)
  rw [zmz (by omega) (by omega),h2]
def zrh:Iwitness_tree→zBA
 | .nil=>(⟨#[]⟩:zBA)
 | .leaf w=>Utf8.encode (IntKind.i32.wrap (48+w))
 | .joint a b _=>((((⟨#[40]⟩:zBA)++zrh a)++(⟨#[44]⟩:zBA))++zrh b)++(⟨#[41]⟩:zBA)
theorem ztg:∀ n:Fin 8,(Utf8.encode (IntKind.i32.wrap (48+(n.val:Int)))).size=1:=by decide +kernel
theorem zvf (c:UInt8):(⟨#[c]⟩:zBA).size=1:=rfl
theorem zj2:∀ {x:Iwitness_tree} {s:Nat},Nt x s→(zrh x).size+3≤8*s
 | .nil,s,h=>h.elim
 | .leaf w,s,⟨n,h1,h2,h3⟩=>by
  have h4:=ztg ⟨n,h1⟩
  have h5:=(ztW h1).1
  subst h2
  show (Utf8.encode (IntKind.i32.wrap (48+(n:Int)))).size+3≤_
  rw [h3]
  simp only at h4
  omega
 | .joint a b t,s,⟨h1,h2,p,q,ha,hb,h3,h4,h5,h6⟩=>by
  have e1:=zj2 ha
  have e2:=zj2 hb
  show (((((⟨#[40]⟩:zBA)++zrh a)++(⟨#[44]⟩:zBA))++zrh b)++(⟨#[41]⟩:zBA)).size+3≤_
  simp only [ByteArray.size_append,zvf]
  omega
theorem ztf:∀ {x:Iwitness_tree} {s f:Nat},Nt x s→s<f→zbq (fun _=>none) zce f x=some (zrh x)
 | _,_,0,_,h=>by omega
 | .nil,s,f+1,h,_=>h.elim
 | .leaf w,s,f+1,h,_=>by
  obtain ⟨n,h1,rfl,h3⟩:=h
  rw [zbk]
  unfold zce
  refine za4 rfl (zaR (a:=zrh (.leaf (n:Int))) ?_ rfl)
  unfold zeb
  exact zcS ⟨by show _≤48+(n:Int); omega,by show 48+(n:Int)≤_; omega⟩ rfl
 | .joint a b t,s,f+1,h,hf=>by
  obtain ⟨h1,h2,p,q,ha,hb,h3,h4,h5,h6⟩:=h
  have pp:=ha.rng
  have qq:=hb.rng
  have e1:=zj2 ha
  have e2:=zj2 hb
  rw [zbk]
  unfold zce
  refine zaQ rfl (za4 rfl (zaR (ztf (x:=a) ha (by omega)) (zcS ?_ (zcS ?_ (zaR (ztf (x:=b) hb (by omega)) (zcS ?_ (zcS ?_ rfl)))))))
  all_goals (simp only [ByteArray.size_append,zvf]; omega)
def zj5 (A B:Nat×Nat):Nat×Nat:=if A.1 &&& B.1≠0 then (A.1 &&& B.1,A.2+B.2) else (A.1 ||| B.1,A.2+B.2+1)
def ziq (r:List Int):Iwitness_tree→Nat×Nat
 | .nil=>(0,0)
 | .leaf w=>(2 ^ (r.getD w.toNat 0).toNat,0)
 | .joint a b _=>zj5 (ziq r a) (ziq r b)
theorem zqb (A B:Nat×Nat):zj5 A B=zj5 B A:=by
 unfold zj5
 rw [Nat.and_comm,Nat.or_comm,Nat.add_comm]
theorem zoW (A B C:Nat×Nat):(zj5 (zj5 A B) C).2=(zj5 A (zj5 B C)).2:=by
 obtain ⟨a,x⟩:=A
 obtain ⟨b,y⟩:=B
 obtain ⟨c,z⟩:=C
 have e1:(a ||| b) &&& c=(a &&& c) ||| (b &&& c):=Nat.and_or_distrib_right ..
 have e2:a &&& (b ||| c)=(a &&& b) ||| (a &&& c):=Nat.and_or_distrib_left ..
 have e3:(a &&& b) &&& c=a &&& (b &&& c):=Nat.and_assoc ..
 unfold zj5
 by_cases h1:a &&& b=0
 ·by_cases h2:b &&& c=0
  ·simp only [h1,h2,ne_eq,not_true_eq_false,if_false,e1,e2,Nat.or_zero,Nat.zero_or]
   split <;> (simp only; omega)
  ·have e4:a &&& (b &&& c)=0:=by rw [← e3,h1,Nat.zero_and]
   have e5:(a ||| b) &&& c≠0:=by rw [e1]; exact fun h=>h2 (Nat.or_eq_zero_iff.1 h).2
   simp only [h1,h2,e4,e5,ne_eq,not_true_eq_false,not_false_eq_true,if_false,if_true]
   omega
 ·by_cases h2:b &&& c=0
  ·have e4:(a &&& b) &&& c=0:=by rw [e3,h2,Nat.and_zero]
   have e5:a &&& (b ||| c)≠0:=by rw [e2]; exact fun h=>h1 (Nat.or_eq_zero_iff.1 h).1
   simp only [h1,h2,e4,e5,ne_eq,not_true_eq_false,not_false_eq_true,if_false,if_true]
   omega
  ·simp only [h1,h2,e3,ne_eq,not_false_eq_true,if_true]
   split <;> (simp only; omega)
def Rok (N:Nat) (r:List Int):Prop:=r.length=N∧∀ v∈r,0≤v∧v≤8
theorem zrq {A B:Nat×Nat} (hA:A.1<512) (hB:B.1<512):(zj5 A B).1<512∧(zj5 A B).2≤A.2+B.2+1:=by
 unfold zj5
 split
 ·exact ⟨Nat.and_lt_two_pow (n:=9) _ hB,by simp only; omega⟩
 ·exact ⟨Nat.or_lt_two_pow (n:=9) hA hB,by simp only; omega⟩
theorem zjn {N:Nat} {r:List Int} (hr:Rok N r):∀ {x:Iwitness_tree} {s:Nat},Nt x s→(ziq r x).1<512∧(ziq r x).2+1≤s
 | .nil,s,h=>h.elim
 | .leaf w,s,⟨n,h1,h2,h3⟩=>by
  have h5:=(ztW h1).1
  refine ⟨?_,by show 0+1≤s; omega⟩
  show 2 ^ (r.getD w.toNat 0).toNat<512
  have h6:(r.getD w.toNat 0).toNat≤8:=by
   rw [List.getD_eq_getElem?_getD]
   cases h:r[w.toNat]? with
   | none=>simp
   | some v=>have:=hr.2 v (List.mem_of_getElem? h); simp only [Option.getD_some]; omega
  have h7:2 ^ (r.getD w.toNat 0).toNat≤2 ^ 8:=Nat.pow_le_pow_right (by omega) h6
  omega
 | .joint a b t,s,⟨h1,h2,p,q,ha,hb,h3,h4,h5,h6⟩=>by
  have e1:=zjn hr ha
  have e2:=zjn hr hb
  have e3:=zrq e1.1 e2.1
  refine ⟨e3.1,?_⟩
  show (zj5 (ziq r a) (ziq r b)).2+1≤s
  omega
theorem zth {N:Nat} {r:List Int} (hr:Rok N r):∀ {x:Iwitness_tree} {s f:Nat},Nt x s→s<2 ^ N→s<f→zbq (fun _ _=>none) zdG f x r=some (((ziq r x).1:Int),((ziq r x).2:Int))
 | _,_,0,_,_,h=>by omega
 | .nil,s,f+1,h,_,_=>h.elim
 | .leaf w,s,f+1,h,hN,_=>by
  obtain ⟨n,h1,rfl,h3⟩:=h
  have h4:n<N:=(Nat.pow_lt_pow_iff_right (by omega)).1 (h3 ▸ hN)
  obtain ⟨v,hv⟩:∃ v,r[n]?=some v:=⟨_,List.getElem?_eq_getElem (by rw [hr.1]; exact h4)⟩
  have h5:=hr.2 v (List.mem_of_getElem? hv)
  obtain ⟨m,rfl⟩:∃ m:Nat,v=m:=⟨v.toNat,by omega⟩
  rw [zbk]
  unfold zdG
  refine za4 rfl (zaR (a:=(m:Int)) (zbI hv) (zcS (by omega) ?_))
  rw [zkc m (by omega)]
  show _=some (((2 ^ (r.getD (n:Int).toNat 0).toNat:Nat):Int),((0:Nat):Int))
  rw [List.getD_eq_getElem?_getD,Int.toNat_natCast,hv,Option.getD_some,Int.toNat_natCast]
  rfl
 | .joint a b t,s,f+1,h,hN,hf=>by
  obtain ⟨h1,h2,p,q,ha,hb,h3,h4,h5,h6⟩:=h
  have pp:=ha.rng
  have qq:=hb.rng
  have e1:=zjn hr ha
  have e2:=zjn hr hb
  rw [zbk]
  unfold zdG
  refine zaQ rfl (za4 rfl (zaR (zth hr (x:=a) ha (by omega) (by omega)) (zaR (zth hr (x:=b) hb (by omega) (by omega)) ?_)))
  simp only
  rw [zjz (by omega) (by omega),zmz (by omega) (by omega)]
  show _=some (((zj5 (ziq r a) (ziq r b)).1:Int),((zj5 (ziq r a) (ziq r b)).2:Int))
  unfold zj5
  by_cases h0:(ziq r a).1 &&& (ziq r b).1=0
  ·rw [if_neg (by simpa using h0),h0]
   exact zaQ rfl (zcS ⟨by omega,by omega⟩ (zcS ⟨by omega,by omega⟩ (by simp)))
  ·rw [if_pos h0]
   refine za4 (bne_iff_ne.2 (by omega)) (zcS ⟨by omega,by omega⟩ (by simp))
theorem zqV:((List.range 256).all fun s=>zcJ (s:Int)==some ((zkX s:Nat):Int))=true:=by decide +kernel
theorem zn9 {s:Nat} (h:s<256):zcJ (s:Int)=some ((zkX s:Nat):Int):=by
 have:=List.all_eq_true.1 zqV s (List.mem_range.2 h)
 simpa using this
theorem zsM:((List.range 256).all fun s=>s==0||((zhj s==(zkX s==1))&&decide (0<zqy (zkX s))&&decide (zr4 s<256)&&zaM .u64 (s:Int) (IntKind.u64.wrap (-(s:Int)))==((zr4 s:Nat):Int)))=true:=by decide +kernel
theorem zsL {s:Nat} (h:s<256) (h0:s≠0):(zhj s=(zkX s==1))∧0<zqy (zkX s)∧zr4 s<256∧zaM .u64 (s:Int) (IntKind.u64.wrap (-(s:Int)))=((zr4 s:Nat):Int):=by
 have:=List.all_eq_true.1 zsM s (List.mem_range.2 h)
 rw [Bool.or_eq_true,beq_iff_eq,Bool.and_eq_true,Bool.and_eq_true,Bool.and_eq_true,beq_iff_eq,decide_eq_true_eq,decide_eq_true_eq,beq_iff_eq] at this
 obtain ⟨⟨⟨a,b⟩,c⟩,d⟩:=this.resolve_left h0
 exact ⟨a,b,c,d⟩
theorem zsS:((List.range 256).all fun s=>(List.range s).all fun p=>p &&& (s - p) != 0||p ||| (s - p) != s||(ziI .u64 (s:Int) (p:Int)==((s - p:Nat):Int)&&(!zhj s||p==0)))=true:=by decide +kernel
theorem zuu {s p:Nat} (h:s<256) (hp:p<s) (h1:p &&& (s - p)=0) (h2:p ||| (s - p)=s):ziI .u64 (s:Int) (p:Int)=((s - p:Nat):Int)∧(zhj s=false∨p=0):=by
 have:=List.all_eq_true.1 (List.all_eq_true.1 zsS s (List.mem_range.2 h)) p (List.mem_range.2 hp)
 rw [Bool.or_eq_true,Bool.or_eq_true,bne_iff_ne,bne_iff_ne,Bool.and_eq_true,beq_iff_eq,Bool.or_eq_true,beq_iff_eq,Bool.not_eq_true'] at this
 exact this.resolve_left fun h3=>h3.elim (fun h4=>h4 h1) fun h4=>h4 h2
theorem zqX {s:Nat} (h:zhj s=true):∃ n,n<8∧s=2 ^ n∧tzN s=n:=by
 simp only [zhj,Bool.or_eq_true,beq_iff_eq] at h
 rcases h with ((((((rfl | rfl) | rfl) | rfl) | rfl) | rfl) | rfl) | rfl
 ·exact ⟨0,by decide,rfl,rfl⟩
 ·exact ⟨1,by decide,rfl,rfl⟩
 ·exact ⟨2,by decide,rfl,rfl⟩
 ·exact ⟨3,by decide,rfl,rfl⟩
 ·exact ⟨4,by decide,rfl,rfl⟩
 ·exact ⟨5,by decide,rfl,rfl⟩
 ·exact ⟨6,by decide,rfl,rfl⟩
 ·exact ⟨7,by decide,rfl,rfl⟩
theorem zoe {n:Nat} (h:n<8):zhj (2 ^ n)=true∧tzN (2 ^ n)=n:=by
 rcases n with _ | _ | _ | _ | _ | _ | _ | _ | n <;> first | exact ⟨rfl,rfl⟩ | omega
theorem zsa (k:Nat):zqy k≤135135:=by
 unfold zqy
 split <;> omega
theorem zuD {x:Iwitness_tree} {s:Nat} (h:Nt x s):zdv x=some (zrh x):=ztf h (by have:=h.rng; unfold zc9; omega)
def tl1 (s:Nat) (a b:Iwitness_tree):zaN:=⟨zrh (.joint a b (s:Int)),.joint a b (s:Int)⟩
def zjE (RL:Nat→List Iwitness_tree) (s p:Nat):List zaN:=(RL p).flatMap fun a=>(RL (s - p)).map (tl1 s a)
theorem zrT {s:Nat} {a:Iwitness_tree} {dn:List zaN→Option (List Iwitness_tree)}:∀ (l:List Iwitness_tree) (all:List zaN),(∀ b∈l,Nt (.joint a b (s:Int)) s)→all.length+l.length≤2147483648 →
  zbZ dn (zdb (s:Int) a) l all=dn (all++l.map (tl1 s a))
 | [],all,_,_=>by rw [List.map_nil,List.append_nil]; rfl
 | b::l,all,h,hl=>by
  simp only [List.length_cons] at hl
  rw [zb3]
  unfold zdb
  refine zaR (zuD (h b (.head _))) (zcS (by omega) ?_)
  refine (zrT l _ (fun c hc=>h c (.tail _ hc)) (by simp only [List.length_append,List.length_cons,List.length_nil]; omega)).trans ?_
  rw [List.map_cons,List.append_assoc]
  rfl
theorem zrU {s p:Nat} {rcall:Int→Option (List Iwitness_tree)} {Q:List Iwitness_tree} (hn:ziI .u64 (s:Int) (p:Int)=((s - p:Nat):Int)) (hQ:rcall ((s - p:Nat):Int)=some Q) {dn:List zaN→Option (List Iwitness_tree)} :
  ∀ (l:List Iwitness_tree) (all:List zaN),(∀ a∈l,∀ b∈Q,Nt (.joint a b (s:Int)) s)→all.length+l.length*Q.length≤2147483648 →
  zbZ dn (zdc rcall (s:Int) (p:Int)) l all=dn (all++l.flatMap fun a=>Q.map (tl1 s a))
 | [],all,_,_=>by rw [List.flatMap_nil,List.append_nil]; rfl
 | a::l,all,h,hl=>by
  rw [List.length_cons,Nat.add_mul,Nat.one_mul] at hl
  rw [zb3]
  unfold zdc
  refine zaR (a:=((s - p:Nat):Int)) (by rw [hn]; rfl) (zaR hQ (zcY ?_))
  refine (zrT Q all (fun b hb=>h a (.head _) b hb) (by omega)).trans ?_
  refine (zrU hn hQ l _ (fun c hc=>h c (.tail _ hc)) (by simp only [List.length_append,List.length_map]; omega)).trans ?_
  rw [List.flatMap_cons,List.append_assoc]
def zk0 (s:Nat) (p:Nat):Bool:=p &&& zr4 s != 0
set_option maxHeartbeats 1000000 in
theorem zsH {s:Nat} (hs:s<256) (h0:s≠0) {RL:Nat→List Iwitness_tree} {rcall:Int→Option (List Iwitness_tree)} (hR:∀ t:Nat,t<s→t≠0→rcall (t:Int)=some (RL t)∧∀ x∈RL t,Nt x t) (J:List zaN→Option (List Iwitness_tree)) :
  ∀ (n p f:Nat) (all:List zaN),p<n→p<f→p<256→(∀ q∈(zjN s n p).filter (zk0 s),q<s∧zmy s q=true)→all.length+(((zjN s n p).filter (zk0 s)).flatMap (zjE RL s)).length≤2147483647 →
   zbq (fun _ _=>none) (zdd rcall (s:Int) J) f all (p:Int)=J (all++((zjN s n p).filter (zk0 s)).flatMap (zjE RL s)):=by
 intro n
 induction n with
 | zero=>intro p f all h; omega
 | succ n ih =>
  intro p f all hp hf hp2 hk hl
  cases f with
  | zero=>omega
  | succ f =>
  rw [zbk]
  unfold zdd
  by_cases hz:p=0
  ·subst hz
   refine zaQ (decide_eq_false (by omega)) ?_
   show J all=J (all++[])
   rw [List.append_nil]
  ·have hlow:=zsL hs h0
   have hle:(p - 1) &&& s≤p - 1:=Nat.and_le_left
   have hnx:zaM .u64 ((p:Int) - 1) (s:Int)=(((p - 1) &&& s:Nat):Int):=by
    rw [show (p:Int) - 1=((p - 1:Nat):Int) by omega]
    exact zjz (by omega) (by omega)
   have hsub:zjN s (n+1) p=p::zjN s n ((p - 1) &&& s):=by
    show (if p=0 then [] else _)=_
    rw [if_neg hz]
   have hand:zaM .u64 (p:Int) (zaM .u64 (s:Int) (IntKind.u64.wrap (-(s:Int))))=((p &&& zr4 s:Nat):Int):=by
    rw [hlow.2.2.2]
    exact zjz (by omega) (by omega)
   rw [hsub] at hk hl ⊢
   refine za4 (decide_eq_true (by omega)) (zcY ?_)
   by_cases hb:p &&& zr4 s=0
   ·have hf2:(p::zjN s n ((p - 1) &&& s)).filter (zk0 s)=(zjN s n ((p - 1) &&& s)).filter (zk0 s):=List.filter_cons_of_neg (by unfold zk0; simp [hb])
    rw [hf2] at hk hl ⊢
    refine za4 (beq_iff_eq.2 (by rw [hand,hb]; rfl)) (zcS ⟨by omega,by omega⟩ ?_)
    rw [hnx]
    exact ih _ f all (by omega) (by omega) (by omega) hk hl
   ·have hf2:(p::zjN s n ((p - 1) &&& s)).filter (zk0 s)=p::(zjN s n ((p - 1) &&& s)).filter (zk0 s):=List.filter_cons_of_pos (by unfold zk0; exact bne_iff_ne.2 hb)
    rw [hf2] at hk hl ⊢
    obtain ⟨hps,hpb⟩:=hk p (.head _)
    simp only [zmy,Bool.and_eq_true,beq_iff_eq,bne_iff_ne,decide_eq_true_eq] at hpb
    obtain ⟨⟨⟨b1,b2⟩,b3⟩,b4⟩:=hpb
    obtain ⟨r1,r2⟩:=hR p hps b3
    obtain ⟨r3,r4⟩:=hR (s - p) (by omega) (by omega)
    have hnt:=(zuu hs hps b1 b2).1
    have hlen:(zjE RL s p).length=(RL p).length*(RL (s - p)).length:=by
     unfold zjE
     rw [List.length_flatMap]
     simp only [List.length_map,List.map_const',List.sum_replicate_nat]
    rw [List.flatMap_cons,List.length_append,hlen] at hl
    refine zaQ (beq_eq_false_iff_ne.2 (by rw [hand]; omega)) (zaR (a:=(p:Int)) rfl (zaR r1 (zcY ?_)))
    refine (zrU hnt r3 (RL p) all (fun a ha b hb=>⟨rfl,hs,p,s - p,r2 a ha,r4 b hb,b1,b2,by omega,b4⟩) (by omega)).trans ?_
    refine zcS ⟨by omega,by omega⟩ ?_
    rw [hnx]
    refine (ih _ f _ (by omega) (by omega) (by omega) (fun q hq=>hk q (.tail _ hq)) ?_).trans ?_
    ·have e:(all++List.flatMap (fun a=>List.map (tl1 s a) (RL (s - p))) (RL p)).length=all.length+(RL p).length*(RL (s - p)).length:=by
      rw [List.length_append]; exact congrArg _ hlen
     rw [e]
     omega
    ·rw [List.flatMap_cons,List.append_assoc]
     rfl
theorem zsG (all:List zaN) (hl:all.length≤2147483647):∀ (f k:Nat),k≤(zhG all).length→(zhG all).length - k<f→zbq (fun _=>none) (zcH all) f (k:Int)=some (((zhG all).drop k).map (·.x)):=by
 intro f
 induction f with
 | zero=>intro k _ h; omega
 | succ f ih =>
  intro k hk hf
  have hsl:=ziQ all
  rw [zbk]
  obtain ⟨ag,hag⟩:∃ ag,ag=zbq (fun _=>none) (zcH all) f:=⟨_,rfl⟩
  rw [← hag] at ih ⊢
  unfold zcH
  by_cases h:k<(zhG all).length
  ·rw [List.drop_eq_getElem_cons h,List.map_cons]
   refine za4 (decide_eq_true (by omega)) (zaR (zbI (List.getElem?_eq_getElem h)) (?_))
   have h2:=ih (k+1) (by omega) (by omega)
   have h3:grd (I64 ((k:Int)+1)) (ag ((k:Int)+1))=some (((zhG all).drop (k+1)).map (·.x)):=zcS ⟨by omega,by omega⟩ h2
   rw [h3]
   rfl
  ·have:k=(zhG all).length:=by omega
   subst this
   rw [List.drop_length]
   exact zaQ (decide_eq_false (by omega)) rfl
theorem zvJ:∀ (s:Nat),s≠0→s<256→∃ l,(∀ f,s<f→zbq (fun _=>none) zcz f (s:Int)=some l)∧l.length=zqy (zkX s)∧∀ x,x∈l↔Nt x s:=by
 intro s
 induction s using Nat.strongRecOn with
 | _ s ih =>
 intro h0 hs
 have hpop:=zsL hs h0
 by_cases h1:zhj s=true
 ·obtain ⟨n,hn,hsn,htz⟩:=zqX h1
  have hp1:zkX s=1:=by
   have:=hpop.1
   rw [h1] at this
   exact beq_iff_eq.1 this.symm
  refine ⟨[.leaf ((tzN s:Nat):Int)],?_,by rw [hp1]; rfl,?_⟩
  ·intro f hf
   cases f with
   | zero=>omega
   | succ f =>
   rw [zbk]
   unfold zcz
   refine zaR (zn9 hs) (za4 (beq_iff_eq.2 (by rw [hp1]; rfl)) (zcS ⟨by omega,by omega⟩ ?_))
   rw [zub]
   rfl
  ·intro x
   rw [List.mem_singleton]
   constructor
   ·rintro rfl
    exact ⟨n,hn,by rw [htz],hsn⟩
   ·intro hx
    cases x with
    | nil=>exact hx.elim
    | leaf w =>
     obtain ⟨m,hm,rfl,h3⟩:=hx
     have:=(zoe hm).2
     rw [h3,this]
    | joint a b t =>
     obtain ⟨_,_,p,q,ha,hb,e1,e2,e3,e4⟩:=hx
     have pp:=ha.rng
     have qq:=hb.rng
     have e5:q=s - p:=by omega
     subst e5
     rcases (zuu hs (by omega) e1 e2).2 with h | h
     ·rw [h1] at h; cases h
     ·exact absurd h pp.1
 ·have h1:zhj s=false:=by simpa using h1
  let RL:Nat→List Iwitness_tree:=fun t=>if h:t<s∧t≠0 then Classical.choose (ih t h.1 h.2 (by omega)) else []
  have hRL:∀ t:Nat,t<s→t≠0→(∀ f,t<f→zbq (fun _=>none) zcz f (t:Int)=some (RL t))∧(RL t).length=zqy (zkX t)∧∀ x,x∈RL t↔Nt x t:=by
   intro t ht ht0
   have:RL t=Classical.choose (ih t ht ht0 (by omega)):=dif_pos ⟨ht,ht0⟩
   rw [this]
   exact Classical.choose_spec (ih t ht ht0 (by omega))
  obtain ⟨all,hall⟩:∃ all,all=(zln s).flatMap (zjE RL s):=⟨_,rfl⟩
  have hpl:zln s=(zjN s 300 ((s - 1) &&& s)).filter (zk0 s):=rfl
  have hpart:∀ q∈zln s,q<s∧zmy s q=true:=fun q hq=>(zmx hs h0 h1).1 hq
  have hlen:all.length=zqy (zkX s):=by
   rw [hall,List.length_flatMap,← zpv ⟨s,hs⟩ h0 h1]
   congr 1
   refine List.map_congr_left fun p hp => ?_
   obtain ⟨q1,q2⟩:=hpart p hp
   simp only [zmy,Bool.and_eq_true,beq_iff_eq,bne_iff_ne,decide_eq_true_eq] at q2
   unfold zjE
   rw [List.length_flatMap]
   simp only [List.length_map,List.map_const',List.sum_replicate_nat]
   rw [(hRL p q1 q2.1.2).2.1,(hRL (s - p) (by omega) (by omega)).2.1]
  have hcl:=zsa (zkX s)
  have hpc:=hpop.2.1
  refine ⟨(zhG all).map (·.x),?_,by rw [List.length_map,ziQ,hlen],?_⟩
  ·intro f hf
   cases f with
   | zero=>omega
   | succ f =>
   rw [zbk]
   unfold zcz
   have hle:(s - 1) &&& s≤s - 1:=Nat.and_le_left
   refine zaR (zn9 hs) (zaQ (beq_eq_false_iff_ne.2 ?_) (zcY (zcS ⟨by omega,by omega⟩ ?_)))
   ·have:=hpop.1
    rw [h1] at this
    have:=beq_eq_false_iff_ne.1 this.symm
    omega
   ·rw [show (s:Int) - 1=((s - 1:Nat):Int) by omega,zjz (by omega) (by omega)]
    refine (zsH hs h0 (RL:=RL) (rcall:=zbq (fun _=>none) zcz f) (fun t ht ht0=>⟨(hRL t ht ht0).1 f (by omega),fun x hx=>((hRL t ht ht0).2.2 x).1 hx⟩) _ 300 ((s - 1) &&& s) zc9 [] (by omega) (by unfold zc9; omega) (by omega) hpart ?_).trans ?_
    ·rw [← hpl,← hall,hlen,List.length_nil]
     omega
    ·rw [← hpl,← hall,List.nil_append]
     refine zcS ⟨by omega,by omega⟩ ?_
     exact zsG all (by omega) zc9 0 (by omega) (by rw [ziQ]; unfold zc9; omega)
  ·intro x
   rw [List.mem_map]
   constructor
   ·rintro ⟨t,ht,rfl⟩
    have ht:=(zjj all).mem_iff.1 ht
    rw [hall,List.mem_flatMap] at ht
    obtain ⟨p,hp,ht⟩:=ht
    unfold zjE at ht
    rw [List.mem_flatMap] at ht
    obtain ⟨a,ha,ht⟩:=ht
    rw [List.mem_map] at ht
    obtain ⟨b,hb,rfl⟩:=ht
    obtain ⟨q1,q2⟩:=hpart p hp
    simp only [zmy,Bool.and_eq_true,beq_iff_eq,bne_iff_ne,decide_eq_true_eq] at q2
    obtain ⟨⟨⟨b1,b2⟩,b3⟩,b4⟩:=q2
    exact ⟨rfl,hs,p,s - p,((hRL p q1 b3).2.2 a).1 ha,((hRL (s - p) (by omega) (by omega)).2.2 b).1 hb,b1,b2,by omega,b4⟩
   ·intro hx
    cases x with
    | nil=>exact hx.elim
    | leaf w =>
     obtain ⟨m,hm,rfl,h3⟩:=hx
     have:=(zoe hm).1
     rw [← h3,h1] at this
     cases this
    | joint a b t =>
     obtain ⟨h3,_,p,q,ha,hb,e1,e2,e3,e4⟩:=hx
     have pp:=ha.rng
     have qq:=hb.rng
     have e5:q=s - p:=by omega
     subst e5
     refine ⟨tl1 s a b,(zjj all).mem_iff.2 ?_,by rw [h3]; rfl⟩
     rw [hall,List.mem_flatMap]
     refine ⟨p,(zmx hs h0 h1).2 ⟨by omega,?_⟩,?_⟩
     ·simp only [zmy,Bool.and_eq_true,beq_iff_eq,bne_iff_ne,decide_eq_true_eq]
      exact ⟨⟨⟨e1,e2⟩,pp.1⟩,e4⟩
     ·unfold zjE
      rw [List.mem_flatMap]
      exact ⟨a,((hRL p (by omega) pp.1).2.2 a).2 ha,List.mem_map.2 ⟨b,((hRL (s - p) (by omega) qq.1).2.2 b).2 hb,rfl⟩⟩
def ztY (r:List Int) (x up:Iwitness_tree):Nat:=if up.isnil then (ziq r x).2 else (zj5 (ziq r x) (ziq r up)).2
theorem zqm {p q u:Nat} (h:(p ||| q) &&& u=0):p &&& u=0∧q &&& u=0:=by
 rw [Nat.and_or_distrib_right] at h
 exact Nat.or_eq_zero_iff.1 h
theorem zpL:∀ {x:Iwitness_tree} {s:Nat},Nt x s→s % 2=1→∀ {up:Iwitness_tree} {u f:Nat},((up=.nil∧u=0)∨Nt up u)→s &&& u=0→s<f →
  ∃ y,zbq (fun _ _=>none) zdw f x up=some y∧((y=.nil∧s+u=1)∨Nt y (s+u - 1))∧∀ r,ztY r x up=ztY r (.leaf 0) y
 | _,_,_,_,_,_,0,_,_,h=>by omega
 | .nil,s,h,_,_,_,f+1,_,_,_=>h.elim
 | .leaf w,s,h,hs,up,u,f+1,hu,hd,_=>by
  obtain ⟨n,h1,rfl,h3⟩:=h
  have hn:n=0:=by
   cases n with
   | zero=>rfl
   | succ n=>rw [h3,Nat.pow_succ] at hs; omega
  subst hn
  refine ⟨up,?_,?_,fun r=>rfl⟩
  ·rw [zbk]
   exact za4 rfl rfl
  ·have h4:s=1:=h3
   subst h4
   rcases hu with ⟨rfl,rfl⟩ | hu
   ·exact .inl ⟨rfl,rfl⟩
   ·refine .inr ?_
    rw [Nat.add_sub_cancel_left]
    exact hu
 | .joint a b t,s,h,hs,up,u,f+1,hu,hd,hf=>by
  obtain ⟨h1,h2,p,q,ha,hb,h3,h4,h5,h6⟩:=h
  have pp:=ha.rng
  have qq:=hb.rng
  have hq:q % 2=0:=by
   rcases Nat.mod_two_eq_zero_or_one q with h | h
   ·exact h
   ·have:=zrW h; omega
  have hp:p % 2=1:=by omega
  have hset:(((zaM .u64 (q:Int) 1):Int)==1)=false:=by
   rw [show (1:Int)=((1:Nat):Int) from rfl,zjz (by omega) (by omega),Nat.and_one_is_mod,hq]
   rfl
  obtain ⟨d1,d2⟩:=zqm (by rw [h4]; exact hd)
  rw [zbk]
  generalize hR:zbq (fun _ _=>none) zdw f=R
  rcases hu with ⟨rfl,rfl⟩ | hu
  ·obtain ⟨y,y1,y2,y3⟩:=zpL (x:=a) ha hp (up:=b) (u:=q) (f:=f) (.inr hb) h3 (by omega)
   refine ⟨y,?_,?_,fun r => ?_⟩
   ·unfold zdw
    refine zaQ rfl (zcY (zaR (zkd hb) (zaQ hset (zcY (zaQ rfl (zaR (a:=y) ?_ rfl))))))
    rw [← hR]; exact y1
   ·rw [Nat.add_zero,← h5]
    exact y2
   ·rw [← y3 r]
    unfold ztY
    rw [hb.isnil]
    rfl
  ·have uu:=hu.rng
   obtain ⟨x',x1,x2,x3⟩:=zjW hb hu d2
   have hqu:=zsR qq.2 uu.2 qq.1 uu.1 d2
   obtain ⟨y,y1,y2,y3⟩:=zpL (x:=a) ha hp (up:=x') (u:=q+u) (f:=f) (.inr x2) (by rw [← hqu.2,Nat.and_or_distrib_left,h3,d1]; rfl) (by omega)
   refine ⟨y,?_,?_,fun r => ?_⟩
   ·unfold zdw
    refine zaQ rfl (zcY (zaR (zkd hb) (zaQ hset (zcY (za4 (by rw [hu.isnil]; rfl) (zaR x1 (zaR (a:=y) ?_ rfl)))))))
    rw [← hR]; exact y1
   ·rw [← h5,Nat.add_assoc]
    exact y2
   ·rw [← y3 r]
    unfold ztY
    rw [hu.isnil,x2.isnil]
    show (zj5 (zj5 (ziq r a) (ziq r b)) (ziq r up)).2=(zj5 (ziq r a) (ziq r x')).2
    rw [zoW]
    rcases x3 with ⟨_,rfl⟩ | ⟨_,rfl⟩
    ·rfl
    ·show (zj5 (ziq r a) (zj5 (ziq r b) (ziq r up))).2=(zj5 (ziq r a) (zj5 (ziq r up) (ziq r b))).2
     rw [zqb (ziq r b)]
def mkT (s:Nat) (y:Iwitness_tree):Iwitness_tree:=.joint (.leaf 0) y ((1+s:Nat):Int)
theorem zuz:Nt (.leaf 0) 1:=⟨0,by omega,rfl,rfl⟩
theorem zri {s:Nat} (h:s % 2=0):1 &&& s=0:=by rw [Nat.and_comm,Nat.and_one_is_mod,h]
theorem zs7 {y:Iwitness_tree} {s:Nat} (hy:Nt y s) (h:s % 2=0):zcO (.leaf 0) y=some (mkT s y)∧Nt (mkT s y) (1+s):=by
 obtain ⟨x,h1,h2,h3⟩:=zjW zuz hy (zri h)
 rcases h3 with ⟨h4,rfl⟩ | ⟨h4,_⟩
 ·exact ⟨h1,h2⟩
 ·have:tzN 1=0:=zrW rfl
  omega
theorem zpM {y:Iwitness_tree} {s:Nat} (hy:Nt y s) (h:s % 2=0):zd7 (mkT s y) .nil=some y:=by
 obtain ⟨f,hf⟩:∃ f,zc9=f+2:=⟨zc9 - 2,by unfold zc9; omega⟩
 have hset:(((zaM .u64 (s:Int) 1):Int)==1)=false:=by
  have:=hy.rng
  rw [show (1:Int)=((1:Nat):Int) from rfl,zjz (by omega) (by omega),Nat.and_one_is_mod,h]
  rfl
 unfold zd7
 rw [hf,zbk]
 unfold zdw
 refine zaQ rfl (zcY (zaR (zkd hy) (zaQ hset (zcY (zaQ rfl (zaR (a:=y) ?_ rfl))))))
 rw [zbk]
 exact za4 rfl rfl
theorem zpN:zd7 (.leaf 0) .nil=some .nil:=by
 obtain ⟨f,hf⟩:∃ f,zc9=f+2:=⟨zc9 - 2,by unfold zc9; omega⟩
 unfold zd7
 rw [hf,zbk]
 exact za4 rfl rfl
structure TOk (t:zai):Prop where
 n1:1≤t.names.length
 n8:t.names.length≤8
 cols:t.columns.length≤256
 reads:∀ c∈t.columns,Rok t.names.length c.readings
def vb (c:zan):Bool:=(zcV c).getD false
theorem zwY {N:Nat} (hN:1≤N) (hN8:N≤8) {c:zan} (h:Rok N c.readings):zcV c=some (vb c):=by
 obtain ⟨q,hq⟩:∃ q,zeD c.readings 0=some q:=⟨_,zbI (i:=0) (List.getElem?_eq_getElem (by rw [h.1]; omega))⟩
 have hl:c.readings.length≤8:=by rw [h.1]; exact hN8
 have key:∀ (f k:Nat),k≤c.readings.length→c.readings.length - k<f→∃ i,zbq (fun _=>none) (zbt c.readings c (some (-1))) f (k:Int)=some i:=by
  intro f
  induction f with
  | zero=>intro k _ h; omega
  | succ f ih =>
   intro k hk hf
   rw [zbk]
   unfold zbt
   by_cases hlt:k<c.readings.length
   ·by_cases hne:(c.readings[k] != q)=true
    ·exact ⟨k,za4 (decide_eq_true (by omega)) (zaR (zbI (List.getElem?_eq_getElem hlt)) (zaR (a:=true) (zaR hq (by rw [hne])) (za4 rfl rfl)))⟩
    ·obtain ⟨i,hi⟩:=ih (k+1) (by omega) (by omega)
     exact ⟨i,za4 (decide_eq_true (by omega)) (zaR (zbI (List.getElem?_eq_getElem hlt)) (zaR (a:=false) (zaR hq (by rw [Bool.not_eq_true] at hne; rw [hne])) (zaQ rfl (zcS ⟨by omega,by omega⟩ hi))))⟩
   ·exact ⟨-1,zaQ (decide_eq_false (by omega)) rfl⟩
 obtain ⟨i,hi⟩:=key zc9 0 (by omega) (by unfold zc9; omega)
 have:zcV c=some (decide ((0:Int)≤i)):=zaR (zaR (zcY hi) rfl) rfl
 unfold vb
 rw [this]
 rfl
def chF (x:Iwitness_tree) (a:Int) (c:zan):Int:=if vb c then a+((ziq c.readings x).2:Int) else a
def chg (t:zai) (x:Iwitness_tree):Int:=t.columns.foldl (chF x) 0
theorem ztF {t:zai} (hT:TOk t) {x:Iwitness_tree} {s:Nat} (hx:Nt x s) (hs:s<2 ^ t.names.length):zb9 t x=some (chg t x):=by
 have xx:=hx.rng
 have hcl:=hT.cols
 unfold zb9
 refine zcY ?_
 refine (zuy (xs:=t.columns) (f:=chF x) (J:=fun n=>some n) (fun k a=>0≤a∧a≤256*k) ?_ ?_ ?_ (by unfold zc9; omega) ⟨by omega,by omega⟩)
 ·intro ag k c a hc hi
  have hr:=hT.reads c (List.mem_of_getElem? hc)
  have hv:=zwY hT.n1 hT.n8 hr
  have hfr:=zjn hr hx
  have hlt:=zrZ hc
  unfold zcm
  refine za4 (zsX hc) (zcY (zaR (zpE hc) (zaR hv ?_)))
  unfold chF
  by_cases hb:vb c=true
  ·rw [hb]
   refine zaQ rfl (zaR (zth hr hx hs (by unfold zc9; omega)) (zcS ⟨by simp only; omega,by simp only; omega⟩ (zcS (zmE (by omega)) rfl)))
  ·rw [Bool.not_eq_true] at hb
   rw [hb]
   exact za4 rfl (zcS (zmE (by omega)) rfl)
 ·intro k c a hc hi
  have hr:=hT.reads c (List.mem_of_getElem? hc)
  have hfr:=zjn hr hx
  unfold chF
  split <;> omega
 ·intro ag a hi
  unfold zcm
  exact zaQ zsY rfl
theorem zmU {t:zai} {x y:Iwitness_tree} (h:∀ r,(ziq r x).2=(ziq r y).2):chg t x=chg t y:=by
 unfold chg
 congr 1
 funext a c
 unfold chF
 rw [h]
theorem ziW:∀ N:Fin 9,N.val≠0→(2 ^ N.val<512∧2≤2 ^ N.val∧2 ^ N.val≤256∧2 ^ N.val % 2=0∧(N.val≠1→2 ^ N.val - 2≠0)):=by decide
theorem zsu {t:zai} (hT:TOk t):∃ L,zcW t=some L∧0<L.length∧L.length≤135135 ∧
  (∀ x∈L,(t.names.length=1∧x=.leaf 0)∨∃ y s,Nt y s∧s % 2=0∧1+s=2 ^ t.names.length - 1∧x=mkT s y)∧(t.names.length=1→.leaf 0∈L)∧∀ y s,Nt y s→s % 2=0→1+s=2 ^ t.names.length - 1→mkT s y∈L:=by
 obtain ⟨N,hN⟩:∃ N,N=t.names.length:=⟨_,rfl⟩
 have h1:=hT.n1
 have h8:=hT.n8
 rw [← hN] at h1 h8 ⊢
 have hpw:=ziW ⟨N,by omega⟩ (by simp only; omega)
 simp only at hpw
 unfold zcW
 rw [← hN]
 by_cases hN1:N=1
 ·subst hN1
  refine ⟨[.leaf 0],za4 rfl rfl,by decide,by decide,fun x hx=>.inl ⟨rfl,List.mem_singleton.1 hx⟩,fun _=>.head _,fun y s hy h2 h3 => ?_⟩
  have:=hy.rng
  omega
 ·obtain ⟨s,hs⟩:∃ s,s=2 ^ N - 2:=⟨_,rfl⟩
  obtain ⟨l,l1,l2,l3⟩:=zvJ s (by have:=hpw.2.2.2.2 hN1; omega) (by omega)
  have hse:s % 2=0:=by omega
  have key:∀ (l:List Iwitness_tree),(∀ y∈l,Nt y s)→zbZ (some []) zcl l=some (l.map (mkT s)):=by
   intro l
   induction l with
   | nil=>intro _; rfl
   | cons y l ih =>
    intro h
    rw [zb3,ih fun z hz=>h z (.tail _ hz)]
    unfold zcl
    exact zaR (zs7 (h y (.head _)) hse).1 rfl
  have hpc:=(zsL (s:=s) (by omega) (by have:=hpw.2.2.2.2 hN1; omega)).2.1
  have hcl:=zsa (zkX s)
  refine ⟨l.map (mkT s),?_,by rw [List.length_map]; omega,by rw [List.length_map]; omega,?_,fun h=>absurd h hN1,?_⟩
  ·refine zaQ (beq_eq_false_iff_ne.2 (by omega)) (zcS (by omega) ?_)
   rw [zkc N (by omega),show ((2 ^ N:Nat):Int) - 2=(s:Int) by omega]
   exact zcS ⟨by omega,by omega⟩ (zaR (a:=(s:Int)) rfl (zaR (l1 zc9 (by unfold zc9; omega)) (zcY (key l fun y hy=>(l3 y).1 hy))))
  ·intro x hx
   obtain ⟨y,hy,rfl⟩:=List.mem_map.1 hx
   exact .inr ⟨y,s,(l3 y).1 hy,hse,by omega,rfl⟩
  ·intro y s' hy h2 h3
   have:s'=s:=by omega
   subst this
   exact List.mem_map_of_mem ((l3 y).2 hy)
theorem zrx {t:zai} (hT:TOk t) {L:List Iwitness_tree} (hL1:t.names.length=1→.leaf 0∈L) (hL2:∀ y s,Nt y s→s % 2=0→1+s=2 ^ t.names.length - 1→mkT s y∈L) {x:Iwitness_tree} (hx:Nt x (2 ^ t.names.length - 1)):∃ z∈L,chg t x=chg t z:=by
 have h1:=hT.n1
 have h8:=hT.n8
 have hpw:=ziW ⟨t.names.length,by omega⟩ (by simp only; omega)
 simp only at hpw
 have xx:=hx.rng
 obtain ⟨y,y1,y2,y3⟩:=zpL hx (by omega) (up:=.nil) (u:=0) (f:=zc9) (.inl ⟨rfl,rfl⟩) (Nat.and_zero _) (by unfold zc9; omega)
 rcases y2 with ⟨rfl,y2⟩ | y2
 ·have:t.names.length=1:=by
   apply Classical.byContradiction
   intro h
   have:=hpw.2.2.2.2 h
   omega
  refine ⟨.leaf 0,hL1 this,zmU fun r => ?_⟩
  have:=y3 r
  unfold ztY at this
  exact this
 ·refine ⟨mkT (2 ^ t.names.length - 1+0 - 1) y,hL2 _ _ y2 (by omega) (by omega),zmU fun r => ?_⟩
  have:=y3 r
  unfold ztY at this
  rw [y2.isnil] at this
  exact this
def zo7 (t:Tok):Bool:=zdu t.broken (t.r:Int)==1||zdu t.broken (t.r:Int)==3
def nmT:Nat→Int×Int→List Tok→Int×Int
 | _,a,[]=>a
 | i,a,t::ts=>if zo7 t then nmT (i+t.bs.length) (((i+t.bs.length:Nat):Int),a.2+1) ts else a
theorem zmA {dn:Int→Int→Option (Int×Int)} (hdn:∀ n m,dn n m=some (n,m)):∀ (ts:List Tok) (i:Nat) (a:Int×Int),(∀ p∈place i ts,p.r≤1114111)→i+(zpS ts).length≤1152921504606846976→0≤a.2→a.2+ts.length≤2305843009213693952 →
  zbZ dn (zcN dn) ((place i ts).map pcG) a.1 a.2=some (nmT i a ts)
 | [],i,a,_,_,_,_=>hdn a.1 a.2
 | t::ts,i,a,hr,hl,h0,hc=>by
  have h1:t.r≤1114111:=hr ⟨i,t.bs.length,t.r⟩ (.head _)
  rw [zhP,List.length_append] at hl
  rw [List.length_cons] at hc
  have ih:=zmA hdn ts (i+t.bs.length) (((i+t.bs.length:Nat):Int),a.2+1) (fun p hp=>hr p (.tail _ hp)) (by omega) (by simp only; omega) (by simp only; omega)
  show zbZ dn (zcN dn) (pcG ⟨i,t.bs.length,t.r⟩::(place (i+t.bs.length) ts).map pcG) a.1 a.2=_
  rw [zb3]
  generalize zbZ dn (zcN dn) ((place (i+t.bs.length) ts).map pcG)=ag at ih ⊢
  have e:((i:Int)+(t.bs.length:Int))=((i+t.bs.length:Nat):Int):=by omega
  unfold zcN
  refine zcY (zcS ⟨by show _≤((t.r:Nat):Int); omega,by show ((t.r:Nat):Int)≤_; omega⟩ ?_)
  have hj:grd (I64 ((i:Int)+(t.bs.length:Int))) (grd (I64 (a.2+1)) (ag ((i:Int)+(t.bs.length:Int)) (a.2+1)))=some (nmT (i+t.bs.length) (((i+t.bs.length:Nat):Int),a.2+1) ts):=by
   refine zcS ⟨by omega,by omega⟩ (zcS ⟨by omega,by omega⟩ ?_)
   rw [e]
   exact ih
  show zaL (zdu t.broken (t.r:Int) != 1) (zaL (zdu t.broken (t.r:Int) != 3) (dn a.1 a.2) (grd (I64 ((i:Int)+(t.bs.length:Int))) (grd (I64 (a.2+1)) (ag ((i:Int)+(t.bs.length:Int)) (a.2+1))))) (grd (I64 ((i:Int)+(t.bs.length:Int))) (grd (I64 (a.2+1)) (ag ((i:Int)+(t.bs.length:Int)) (a.2+1))))=some (if zo7 t then _ else a)
  unfold zo7
  by_cases k1:zdu t.broken (t.r:Int)=1
  ·rw [k1]
   exact zaQ rfl hj
  ·by_cases k3:zdu t.broken (t.r:Int)=3
   ·rw [k3]
    exact za4 rfl (zaQ rfl hj)
   ·have e1:(zdu t.broken (t.r:Int)==1)=false:=beq_eq_false_iff_ne.2 k1
    have e3:(zdu t.broken (t.r:Int)==3)=false:=beq_eq_false_iff_ne.2 k3
    rw [e1,e3]
    exact za4 (bne_iff_ne.2 k1) (za4 (bne_iff_ne.2 k3) (hdn a.1 a.2))
theorem zpo (ts:List Tok):∀ i,(place i ts).length=ts.length:=by
 induction ts with
 | nil=>intro i; rfl
 | cons t ts ih=>intro i; simp only [place,List.length_cons,ih]
theorem zps (l:List UInt8):pcs l=place 0 (zlE l):=zpr l 0
theorem zjV (s:zBA) (hs:s.size≤1152921504606846976):zdz s=some (nmT 0 (0,0) (zlE s.data.toList)):=by
 have hc:(pcs s.data.toList).length≤s.size:=by have:=ziy s; unfold zjl at this; simpa using this
 rw [zps,zpo] at hc
 unfold zdz
 refine zcY (zaR (a:=s) rfl (zaR (zpp s hs) (zcY (zcY ?_))))
 show zbZ (fun n m=>some (n,m)) (zcN fun n m=>some (n,m)) ((pcs s.data.toList).map pcG) ((0,0):Int×Int).1 ((0,0):Int×Int).2=_
 have hp:=zpq s.data.toList
 rw [zps] at hp ⊢
 have hlen:s.data.toList.length=s.size:=by rw [Array.length_toList]; rfl
 exact zmA (fun _ _=>rfl) _ 0 (0,0) hp (by rw [zhO]; omega) (by simp only; omega) (by simp only; omega)
theorem zuv:∀ (ts:List Tok) (i:Nat) (a:Int×Int),0≤a.1→a.1≤i→0≤(nmT i a ts).1∧(nmT i a ts).1≤((i+(zpS ts).length:Nat):Int)
 | [],i,a,h0,h1=>⟨h0,by show a.1≤_; omega⟩
 | t::ts,i,a,h0,h1=>by
  unfold nmT
  rw [zhP,List.length_append]
  split
  ·have:=zuv ts (i+t.bs.length) (((i+t.bs.length:Nat):Int),a.2+1) (by simp only; omega) (by simp only; omega)
   exact ⟨this.1,by omega⟩
  ·exact ⟨h0,by omega⟩
theorem zpy:∀ (ts:List Tok) (i:Nat) (a:Int×Int),(∀ p∈place i ts,1≤p.w)→a.1≤i→(nmT i a ts).1=((i+(zpS ts).length:Nat):Int)→∀ t∈ts,zo7 t=true
 | [],_,_,_,_,_=>fun t ht=>by cases ht
 | t::ts,i,a,hw,h1,h=>by
  have hb:1≤t.bs.length:=hw ⟨i,t.bs.length,t.r⟩ (.head _)
  unfold nmT at h
  rw [zhP,List.length_append] at h
  by_cases hk:zo7 t=true
  ·rw [if_pos hk] at h
   have:=zpy ts (i+t.bs.length) (((i+t.bs.length:Nat):Int),a.2+1) (fun p hp=>hw p (.tail _ hp)) (by simp only; omega) (by rw [h]; congr 1; omega)
   intro u hu
   rcases List.mem_cons.1 hu with rfl | hu
   ·exact hk
   ·exact this u hu
  ·rw [if_neg hk] at h
   omega
theorem zsU {i:Nat} {a:Int×Int} {B:List Tok} (hB:∀ t,B.head?=some t→zo7 t=false):nmT i a B=a:=by
 cases B with
 | nil=>rfl
 | cons t B =>
  unfold nmT
  rw [if_neg (by rw [hB t rfl]; decide)]
theorem zrX:∀ (A:List Tok) (i:Nat) (a:Int×Int) (B:List Tok),(∀ t∈A,zo7 t=true)→(∀ t,B.head?=some t→zo7 t=false)→A≠[]→nmT i a (A++B)=(((i+(zpS A).length:Nat):Int),a.2+A.length)
 | [],_,_,_,_,_,h=>absurd rfl h
 | t::A,i,a,B,hA,hB,_=>by
  show (if zo7 t then nmT (i+t.bs.length) (((i+t.bs.length:Nat):Int),a.2+1) (A++B) else a)=_
  rw [if_pos (hA t (.head _)),zhP,List.length_append,List.length_cons]
  by_cases h:A=[]
  ·subst h
   rw [List.nil_append,zsU hB]
   rfl
  ·rw [zrX A _ _ B (fun u hu=>hA u (.tail _ hu)) hB h]
   simp only
   refine Prod.ext ?_ ?_
   ·simp only; omega
   ·simp only; omega
structure zva (n:zBA):Prop where
 ne:n.size≠0
 all:∀ t∈zlE n.data.toList,zo7 t=true
 sz:n.size≤140737488355328
theorem zfm (s:zBA):s.data.toList.length=s.size:=by rw [Array.length_toList]; rfl
theorem zsW {n:zBA} (hs:n.size≤140737488355328) {r:Int×Int} (h:zdz n=some r) (h1:r.1=(n.size:Int)) (h2:¬ r.2<1):zva n:=by
 rw [zjV n (by omega)] at h
 cases h
 refine ⟨fun h0 => ?_,?_,hs⟩
 ·have:n.data.toList=[]:=List.eq_nil_of_length_eq_zero (by rw [zfm]; exact h0)
  rw [this,ziO] at h2
  exact h2 (by show (0:Int)<1; omega)
 ·refine zpy _ 0 (0,0) (fun p hp => ?_) (by simp only; omega) ?_
  ·rw [← zps] at hp
   exact (zf6 _ p hp).1
  ·rw [h1,zhO,zfm,Nat.zero_add]
def zu6 (c:UInt8):Bool:=c==40||c==41||c==44
def Brk:List UInt8→Prop
 | []=>True
 | c::_=>zu6 c=true
theorem zqd {c:UInt8} (h:zu6 c=true):(⟨c.toNat,[c]⟩:Tok).valid∧zo7 ⟨c.toNat,[c]⟩=false∧ztC c=false:=by
 simp only [zu6,Bool.or_eq_true,beq_iff_eq] at h
 rcases h with (rfl | rfl) | rfl
 ·exact ⟨⟨.inl (by decide),by decide +kernel⟩,by decide +kernel,by decide +kernel⟩
 ·exact ⟨⟨.inl (by decide),by decide +kernel⟩,by decide +kernel,by decide +kernel⟩
 ·exact ⟨⟨.inl (by decide),by decide +kernel⟩,by decide +kernel,by decide +kernel⟩
theorem zqe {x:List UInt8} (h:Brk x):zu9 x∧∀ t,(zlE x).head?=some t→zo7 t=false:=by
 cases x with
 | nil=>exact ⟨trivial,fun t ht=>by rw [ziO] at ht; cases ht⟩
 | cons c x =>
  obtain ⟨h1,h2,h3⟩:=zqd h
  refine ⟨h3,fun t ht => ?_⟩
  have:=zlc h1 x
  rw [show (⟨c.toNat,[c]⟩:Tok).bs++x=c::x from rfl] at this
  rw [this] at ht
  cases ht
  exact h2
theorem zpC {n:zBA} (hn:zva n) {x:List UInt8} (hx:Brk x) {T:zBA} (hT:T.data.toList=n.data.toList++x) (hs:T.size≤1152921504606846976):∃ k,zdz T=some ((n.size:Int),k):=by
 obtain ⟨h1,h2⟩:=zqe hx
 rw [zjV T hs,hT,zng _ _ h1,zrX _ 0 (0,0) _ hn.all h2]
 ·rw [zhO,zfm,Nat.zero_add]
  exact ⟨_,rfl⟩
 ·intro h
  have:=congrArg zpS h
  rw [zhO,zq9] at this
  have:=congrArg List.length this
  rw [zfm] at this
  exact hn.ne this
theorem zrg {n:zBA} (hn:zva n):∃ c r,n.data.toList=c::r∧zu6 c=false:=by
 cases h:n.data.toList with
 | nil =>
  have:=congrArg List.length h
  rw [zfm] at this
  exact absurd this hn.ne
 | cons c r =>
  refine ⟨c,r,rfl,?_⟩
  cases hb:zu6 c with
  | false=>rfl
  | true =>
   obtain ⟨h1,h2,_⟩:=zqd hb
   have h3:=zlc h1 r
   rw [show (⟨c.toNat,[c]⟩:Tok).bs++r=c::r from rfl,← h] at h3
   have:=hn.all ⟨c.toNat,[c]⟩ (by rw [h3]; exact .head _)
   rw [h2] at this
   cases this
theorem zq6 (l:List zBA) (v:zBA) (hl:l.length≤1000000):∃ i:Int,zbu l v=some i∧((i=-1∧∀ j:Nat,l[j]?≠some v)∨∃ w:Nat,i=(w:Int)∧l[w]?=some v):=by
 have key:∀ (f k:Nat),k≤l.length→l.length - k<f→∃ i:Int,zbq (fun _=>none) (zbG l v (some (-1))) f (k:Int)=some i∧((i=-1∧∀ j:Nat,k≤j→l[j]?≠some v)∨∃ w:Nat,i=(w:Int)∧l[w]?=some v):=by
  intro f
  induction f with
  | zero=>intro k _ h; omega
  | succ f ih =>
   intro k hk hf
   rw [zbk]
   unfold zbG
   by_cases hlt:k<l.length
   ·have hg:l[k]?=some l[k]:=List.getElem?_eq_getElem hlt
    by_cases he:v=l[k]
    ·exact ⟨k,za4 (decide_eq_true (by omega)) (zaR (zbI hg) (za4 (decide_eq_true he) rfl)),.inr ⟨k,rfl,by rw [hg,he]⟩⟩
    ·obtain ⟨i,h1,h2⟩:=ih (k+1) (by omega) (by omega)
     refine ⟨i,za4 (decide_eq_true (by omega)) (zaR (zbI hg) (zaQ (decide_eq_false he) (zcS ⟨by omega,by omega⟩ h1))),?_⟩
     rcases h2 with ⟨h2,h3⟩ | h2
     ·refine .inl ⟨h2,fun j hj => ?_⟩
      by_cases hjk:j=k
      ·subst hjk
       rw [hg]
       exact fun h=>he (Option.some.inj h).symm
      ·exact h3 j (by omega)
     ·exact .inr h2
   ·exact ⟨-1,zaQ (decide_eq_false (by omega)) rfl,.inl ⟨rfl,fun j hj=>by rw [List.getElem?_eq_none (by omega)]; simp⟩⟩
 obtain ⟨i,h1,h2⟩:=key zc9 0 (by omega) (by unfold zc9; omega)
 refine ⟨i,zcY h1,?_⟩
 rcases h2 with ⟨h2,h3⟩ | h2
 ·exact .inl ⟨h2,fun j=>h3 j (by omega)⟩
 ·exact .inr h2
structure NOk (nm:List zBA):Prop where
 each:∀ n∈nm,zva n
 one:∀ (i j:Nat) (a:zBA),nm[i]?=some a→nm[j]?=some a→i=j
def frm (nm:List zBA):Iwitness_tree→zBA
 | .nil=>(⟨#[]⟩:zBA)
 | .leaf w=>nm.getD w.toNat (⟨#[]⟩:zBA)
 | .joint a b _=>((((⟨#[40]⟩:zBA)++frm nm a)++(⟨#[44]⟩:zBA))++frm nm b)++(⟨#[41]⟩:zBA)
theorem zns {nm:List zBA} {n:Nat} (h:n<nm.length):nm[n]?=some (frm nm (.leaf (n:Int))):=by
 show nm[n]?=some (nm.getD ((n:Int).toNat) _)
 rw [Int.toNat_natCast,List.getD_eq_getElem?_getD,List.getElem?_eq_getElem h]
 rfl
theorem znt {n s N:Nat} (h:s=2 ^ n) (hN:s<2 ^ N):n<N:=(Nat.pow_lt_pow_iff_right (by omega)).1 (h ▸ hN)
theorem zh1 {nm:List zBA} (hN:NOk nm):∀ {x:Iwitness_tree} {s:Nat},Nt x s→s<2 ^ nm.length→0<(frm nm x).size∧(frm nm x).size+3≤281474976710656*s
 | .nil,s,h,_=>h.elim
 | .leaf w,s,⟨n,h1,h2,h3⟩,hs=>by
  subst h2
  have:=hN.each _ (List.mem_of_getElem? (zns (znt h3 hs)))
  have h5:=(ztW h1).1
  have h6:=this.ne
  have h7:=this.sz
  omega
 | .joint a b t,s,⟨h1,h2,p,q,ha,hb,h3,h4,h5,h6⟩,hs=>by
  have e1:=zh1 hN ha (by omega)
  have e2:=zh1 hN hb (by omega)
  show 0<(((((⟨#[40]⟩:zBA)++frm nm a)++(⟨#[44]⟩:zBA))++frm nm b)++(⟨#[41]⟩:zBA)).size∧(((((⟨#[40]⟩:zBA)++frm nm a)++(⟨#[44]⟩:zBA))++frm nm b)++(⟨#[41]⟩:zBA)).size+3≤_
  simp only [ByteArray.size_append,zvf]
  omega
theorem znw {t:zai} (hN:NOk t.names):∀ {x:Iwitness_tree} {s f:Nat},Nt x s→s<2 ^ t.names.length→s<f→zbq (fun _ _=>none) zcG f x t=some (frm t.names x)
 | _,_,0,_,_,h=>by omega
 | .nil,s,f+1,h,_,_=>h.elim
 | .leaf w,s,f+1,h,hs,_=>by
  obtain ⟨n,h1,rfl,h3⟩:=h
  rw [zbk]
  unfold zcG
  refine za4 rfl (zaR (a:=frm t.names (.leaf (n:Int))) ?_ rfl)
  unfold zdY
  exact zaR (zbI (zns (znt h3 hs))) rfl
 | .joint a b t',s,f+1,h,hs,hf=>by
  obtain ⟨h1,h2,p,q,ha,hb,h3,h4,h5,h6⟩:=h
  have pp:=ha.rng
  have qq:=hb.rng
  have e1:=zh1 hN ha (by omega)
  have e2:=zh1 hN hb (by omega)
  rw [zbk]
  unfold zcG
  refine zaQ rfl (za4 rfl (zaR (znw hN (x:=a) ha (by omega) (by omega)) (zcS ?_ (zcS ?_ (zaR (znw hN (x:=b) hb (by omega) (by omega)) (zcS ?_ (zcS ?_ rfl)))))))
  all_goals (simp only [ByteArray.size_append,zvf]; omega)
theorem zlP {t:zai} (hN:NOk t.names) {x:Iwitness_tree} {s:Nat} (h:Nt x s) (hs:s<2 ^ t.names.length):zcZ t x=some (frm t.names x):=by
 have:=h.rng
 exact zaR (znw hN h hs (by unfold zc9; omega)) rfl
theorem zog (nm:List zBA) (a b:Iwitness_tree) (t:Int):(frm nm (.joint a b t)).data.toList=40::((frm nm a).data.toList++44::((frm nm b).data.toList++[41])):=by
 show (((((⟨#[40]⟩:zBA)++frm nm a)++(⟨#[44]⟩:zBA))++frm nm b)++(⟨#[41]⟩:zBA)).data.toList=_
 simp
theorem zsA:((List.range 256).all fun s=>(List.range 8).all fun w=>((zaM .u64 (zbl .u64 (s:Int) (w:Int)) 1==1)==(s &&& 2 ^ w != 0)))=true:=by decide +kernel
theorem zum {s w:Nat} (hs:s<256) (hw:w<8):(zaM .u64 (zbl .u64 (s:Int) (w:Int)) 1==1)=(s &&& 2 ^ w != 0):=by
 have:=List.all_eq_true.1 (List.all_eq_true.1 zsA s (List.mem_range.2 hs)) w (List.mem_range.2 hw)
 exact beq_iff_eq.1 this
theorem zr6 {s:zBA} {k:Nat} {c:UInt8} (h:s.data.toList[k]?=some c):znv s (k:Int)=some (c.toNat:Int):=by
 unfold znv
 rw [if_pos (by omega),Int.toNat_natCast]
 have:s.data[k]?=some c:=by rw [← Array.getElem?_toList]; exact h
 rw [this]; rfl
theorem zwJ {a b:zBA} (h:a.data.toList=b.data.toList):a=b:=ByteArray.ext (Array.toList_inj.1 h)
section
variable {t:zai} {T:zBA}
theorem zod {at_ sn ci:Int} {pre post:List UInt8} {c:UInt8} (hT:T.data.toList=pre++c::post) (hs:T.size≤1152921504606846976) (ha:at_=(pre.length:Int)) (hc:ci=(c.toNat:Int)):zbE t ⟨T,at_,sn⟩ ci=some (true,⟨T,at_+1,sn⟩):=by
 have hl:=congrArg List.length hT
 rw [zfm,List.length_append,List.length_cons] at hl
 subst ha
 subst hc
 unfold zbE
 refine zcY (za4 (decide_eq_true (by show (pre.length:Int)<(T.size:Int); omega)) (zaR (a:=(c.toNat:Int)) (zr6 (by rw [hT]; simp)) (za4 (beq_self_eq_true _) (zcS ⟨by show _≤(pre.length:Int)+1; omega,by show (pre.length:Int)+1≤_; omega⟩ rfl))))
theorem zpD {at_ sn ci:Int} {pre post:List UInt8} (hT:T.data.toList=pre++post) (ha:at_=(pre.length:Int)) (hp:∀ d r,post=d::r→(d.toNat:Int)≠ci):zbE t ⟨T,at_,sn⟩ ci=some (false,⟨T,at_,sn⟩):=by
 have hl:=congrArg List.length hT
 rw [zfm,List.length_append] at hl
 subst ha
 unfold zbE
 refine zcY ?_
 cases post with
 | nil=>exact zaQ (decide_eq_false (by show ¬ (pre.length:Int)<(T.size:Int); simp only [List.length_nil] at hl; omega)) rfl
 | cons d r =>
  simp only [List.length_cons] at hl
  exact za4 (decide_eq_true (by show (pre.length:Int)<(T.size:Int); omega)) (zaR (a:=(d.toNat:Int)) (zr6 (by rw [hT]; simp)) (zaQ (beq_eq_false_iff_ne.2 (hp d r rfl)) rfl))
theorem zj9 (hs:T.size≤1152921504606846976) {at_:Int} (sn ci:Int) (h0:0≤at_) (h1:at_≤T.size):(zbE t ⟨T,at_,sn⟩ ci=some (true,⟨T,at_+1,sn⟩)∧at_+1≤T.size)∨zbE t ⟨T,at_,sn⟩ ci=some (false,⟨T,at_,sn⟩):=by
 obtain ⟨k,rfl⟩:∃ k:Nat,at_=k:=⟨at_.toNat,by omega⟩
 have hk:k≤T.data.toList.length:=by rw [zfm]; omega
 have hT:T.data.toList=T.data.toList.take k++T.data.toList.drop k:=(List.take_append_drop k _).symm
 have hp:(k:Int)=((T.data.toList.take k).length:Int):=by rw [List.length_take]; omega
 cases hd:T.data.toList.drop k with
 | nil=>exact .inr (zpD (by rw [hd] at hT; exact hT) hp (fun d r h=>by cases h))
 | cons d r =>
  rw [hd] at hT
  by_cases hc:(d.toNat:Int)=ci
  ·refine .inl ⟨zod hT hs hp hc.symm,?_⟩
   have:=congrArg List.length hd
   rw [List.length_drop,List.length_cons,zfm] at this
   omega
  ·exact .inr (zpD hT hp (fun d' r' h=>by cases h; exact hc))
theorem zp8 {at_:Int} {pre x:List UInt8} (hT:T.data.toList=pre++x) (ha:at_=(pre.length:Int)):(zgT T at_ (T.size:Int)).data.toList=x:=by
 have hl:=congrArg List.length hT
 rw [zfm,List.length_append] at hl
 rw [ha,show (T.size:Int)=(pre.length:Int)+(x.length:Int) by omega,zkz,hT,List.drop_left,List.take_length]
theorem ztA {at_ e:Int} {pre m x:List UInt8} (hT:T.data.toList=pre++(m++x)) (ha:at_=(pre.length:Int)) (he:e=at_+(m.length:Int)):(zgT T at_ e).data.toList=m:=by
 rw [he,ha,zkz,hT,List.drop_left,List.take_left]
theorem zon {at_:Int} (h0:0≤at_) (h1:at_≤T.size):((zgT T at_ (T.size:Int)).size:Int)=(T.size:Int) - at_:=by
 obtain ⟨k,rfl⟩:∃ k:Nat,at_=k:=⟨at_.toNat,by omega⟩
 have h2:(zgT T (k:Int) (T.size:Int)).data.toList=T.data.toList.drop k:=zp8 (pre:=T.data.toList.take k) (List.take_append_drop k _).symm (by rw [List.length_take,zfm]; omega)
 rw [← zfm,h2,List.length_drop,zfm]
 omega
end
theorem zsB {p q n:Nat} (h:n &&& (p ||| q)=0):n &&& p=0∧n &&& q=0:=by
 rw [Nat.and_or_distrib_left] at h
 exact Nat.or_eq_zero_iff.1 h
theorem zkl {t:zai} (hT:TOk t) (hN:NOk t.names) {T:zBA} (hs:T.size≤1152921504606846976):∀ {x:Iwitness_tree} {s f:Nat},Nt x s→s<2 ^ t.names.length→s<f→∀ {pre post:List UInt8} {at_ sn:Int} {seen:Nat},T.data.toList=pre++((frm t.names x).data.toList++post)→Brk post→at_=(pre.length:Int)→sn=(seen:Int)→seen<256→seen &&& s=0 →
  zbq (fun _ _=>none) zbL f t ⟨T,at_,sn⟩=some (x,⟨T,at_+((frm t.names x).size:Int),((seen ||| s:Nat):Int)⟩)
 | _,_,0,_,_,h,_,_,_,_,_,_,_,_,_,_,_=>by omega
 | .nil,s,f+1,h,_,_,_,_,_,_,_,_,_,_,_,_,_=>h.elim
 | .leaf w,s,f+1,h,hsN,_,pre,post,at_,sn,seen,hp,hb,ha,hsn,hse,hd=>by
  obtain ⟨n,h1,rfl,h3⟩:=h
  have hnN:=znt h3 hsN
  have hnm:=zns hnN
  have hok:=hN.each _ (List.mem_of_getElem? hnm)
  obtain ⟨c,r,hcr,hcb⟩:=zrg hok
  have hl:=congrArg List.length hp
  rw [zfm,List.length_append,List.length_append,zfm] at hl
  have hlen:=zfm (frm t.names (.leaf (n:Int)))
  have h8:=hT.n8
  rw [zbk]
  unfold zbL
  have hm:zbE t ⟨T,at_,sn⟩ 40=some (false,⟨T,at_,sn⟩):=by
   refine zpD hp ha fun d r' hdr => ?_
   rw [hcr,List.cons_append] at hdr
   cases hdr
   intro h
   have:c=40:=UInt8.toNat_inj.1 (by show c.toNat=40; omega)
   rw [this] at hcb
   revert hcb
   decide
  obtain ⟨k,hk⟩:=zpC hok hb (zp8 hp ha) (by have:=zon (T:=T) (at_:=at_) (by omega) (by omega); omega)
  have hcm:zgT T at_ (at_+((frm t.names (.leaf (n:Int))).size:Int))=frm t.names (.leaf (n:Int)):=zwJ (ztA hp ha (by rw [hlen]))
  obtain ⟨i,i1,i2⟩:=zq6 t.names (frm t.names (.leaf (n:Int))) (by omega)
  have hi:i=(n:Int):=by
   rcases i2 with ⟨_,i2⟩ | ⟨w,i2,i3⟩
   ·exact absurd hnm (i2 n)
   ·rw [i2,hN.one w n _ i3 hnm]
  subst hi
  refine zaR hm (zaQ rfl (zcS ⟨by show 0≤at_; omega,by show at_≤(T.size:Int); omega,Int.le_refl _⟩ (zaR hk (zcS ⟨by show _≤at_+((frm t.names (.leaf (n:Int))).size:Int); omega,by show at_+((frm t.names (.leaf (n:Int))).size:Int)≤_; omega⟩ (zcS ⟨by show 0≤at_; omega,by show at_≤at_+((frm t.names (.leaf (n:Int))).size:Int); omega,by show at_+((frm t.names (.leaf (n:Int))).size:Int)≤(T.size:Int); omega⟩ (zaR (a:=(n:Int)) ?_ ?_))))))
  ·show zbu t.names (zgT T at_ (at_+((frm t.names (.leaf (n:Int))).size:Int)))=_
   rw [hcm]
   exact i1
  ·refine zaQ (decide_eq_false (by omega)) (zcS (by omega) (zaQ ?_ (zcS (by omega) (zcS ⟨by show _≤at_+((frm t.names (.leaf (n:Int))).size:Int); omega,by show at_+((frm t.names (.leaf (n:Int))).size:Int)≤_; omega⟩ ?_))))
   ·show (zaM .u64 (zbl .u64 sn (n:Int)) 1==1)=false
    rw [hsn,zum hse h1,← h3,hd]
    rfl
   ·show some (Iwitness_tree.leaf (n:Int),(⟨T,at_+((frm t.names (.leaf (n:Int))).size:Int),orI .u64 sn (zmo .u64 1 (n:Int))⟩:Gwitness_reader))=_
    have h5:=(ztW h1).2
    rw [hsn,zkc n (by omega),zmz (by omega) (by omega),h3]
 | .joint a b tt,s,f+1,h,hsN,hf,pre,post,at_,sn,seen,hp,hb,ha,hsn,hse,hd=>by
  obtain ⟨h1,h2,p,q,hta,htb,h3,h4,h5,h6⟩:=h
  have pp:=hta.rng
  have qq:=htb.rng
  obtain ⟨e1,e2⟩:=zsB (by rw [h4]; exact hd)
  have hla:=zfm (frm t.names a)
  have hlb:=zfm (frm t.names b)
  rw [zog] at hp
  rw [zbk]
  have ra:=@zkl t hT hN T hs a p f hta (by omega) (by omega)
  have rb:=@zkl t hT hN T hs b q f htb (by omega) (by omega)
  generalize zbq (fun _ _=>none) zbL f=R at ra rb ⊢
  have m1:=zod (t:=t) (T:=T) (at_:=at_) (sn:=sn) (ci:=40) (pre:=pre) (c:=40) (post:=((frm t.names a).data.toList++44::((frm t.names b).data.toList++[41]))++post) (by rw [hp]; simp) hs ha rfl
  have r1:=ra (pre:=pre++[40]) (post:=44::((frm t.names b).data.toList++41::post)) (at_:=at_+1) (sn:=sn) (seen:=seen) (by rw [hp]; simp) rfl (by rw [List.length_append]; simp only [List.length_cons,List.length_nil]; omega) hsn hse e1
  have m2:=zod (t:=t) (T:=T) (at_:=at_+1+((frm t.names a).size:Int)) (sn:=((seen ||| p:Nat):Int)) (ci:=44) (pre:=pre++40::(frm t.names a).data.toList) (c:=44) (post:=(frm t.names b).data.toList++41::post) (by rw [hp]; simp) hs (by rw [List.length_append,List.length_cons]; omega) rfl
  have hse2:seen ||| p<256:=Nat.or_lt_two_pow (n:=8) hse pp.2
  have r2:=rb (pre:=pre++40::((frm t.names a).data.toList++[44])) (post:=41::post) (at_:=at_+1+((frm t.names a).size:Int)+1) (sn:=((seen ||| p:Nat):Int)) (seen:=seen ||| p) (by rw [hp]; simp) rfl (by rw [List.length_append,List.length_cons,List.length_append]; simp only [List.length_cons,List.length_nil]; omega) rfl hse2 (by rw [Nat.and_or_distrib_right,e2,h3]; rfl)
  have m3:=zod (t:=t) (T:=T) (at_:=at_+1+((frm t.names a).size:Int)+1+((frm t.names b).size:Int)) (sn:=((seen ||| p ||| q:Nat):Int)) (ci:=41) (pre:=pre++40::((frm t.names a).data.toList++44::(frm t.names b).data.toList)) (c:=41) (post:=post) (by rw [hp]; simp) hs (by rw [List.length_append,List.length_cons,List.length_append,List.length_cons]; omega) rfl
  obtain ⟨x,x1,x2,x3⟩:=zjW hta htb h3
  have hx:x=.joint a b tt:=by
   rcases x3 with ⟨_,x3⟩ | ⟨x3,_⟩
   ·rw [x3,h1,h5]
   ·omega
  subst hx
  unfold zbL
  refine zaR m1 (za4 rfl (zaR r1 (zaQ hta.isnil (zaR m2 (zaQ rfl (zaR r2 (zaQ htb.isnil (zaR m3 (zaQ rfl (zaR x1 ?_))))))))))
  have hsz:((frm t.names (.joint a b tt)).size:Int)=1+((frm t.names a).size:Int)+1+((frm t.names b).size:Int)+1:=by
   rw [← zfm,zog]
   simp only [List.length_append,List.length_cons,List.length_nil]
   omega
  rw [hsz,← h4,← Nat.or_assoc]
  congr 2
  simp only [Gwitness_reader.mk.injEq,and_true,true_and]
  omega
set_option maxHeartbeats 1000000 in
theorem zqP {t:zai} (hT:TOk t) {T:zBA} (hs:T.size≤1152921504606846976):∀ (n f:Nat) {at_ sn:Int} {seen:Nat},0≤at_→at_≤T.size→sn=(seen:Int)→seen<2 ^ t.names.length→(T.size:Int) - at_<n→n≤f →
  ∃ x at' seen',zbq (fun _ _=>none) zbL f t ⟨T,at_,sn⟩=some (x,⟨T,at',((seen':Nat):Int)⟩)∧at_≤at'∧at'≤T.size∧seen'<2 ^ t.names.length∧(x=.nil∨∃ s,Nt x s∧s<2 ^ t.names.length∧seen &&& s=0∧seen'=seen ||| s):=by
 intro n
 have h8:=hT.n8
 have hpw:=ziW ⟨t.names.length,by omega⟩ (by have:=hT.n1; simp only; omega)
 simp only at hpw
 induction n with
 | zero=>intro f at_ sn seen h0 h1 _ _ h2; omega
 | succ n ih =>
  intro f at_ sn seen h0 h1 hsn hse h2 hf
  cases f with
  | zero=>omega
  | succ f =>
  rw [zbk]
  have ih:=@ih f
  generalize zbq (fun _ _=>none) zbL f=R at ih ⊢
  unfold zbL
  rcases zj9 (t:=t) hs sn 40 h0 h1 with ⟨m1,hm1⟩ | m1
  ·obtain ⟨x1,at1,se1,r1,a1,b1,c1,d1⟩:=ih (at_:=at_+1) (sn:=sn) (seen:=seen) (by omega) hm1 hsn hse (by omega) (by omega)
   rcases d1 with rfl | ⟨p,tp,lp,zp,ep⟩
   ·exact ⟨.nil,at1,se1,zaR m1 (za4 rfl (zaR r1 (za4 rfl rfl))),by omega,b1,c1,.inl rfl⟩
   rcases zj9 (t:=t) hs ((se1:Nat):Int) 44 (at_:=at1) (by omega) b1 with ⟨m2,hm2⟩ | m2
   ·obtain ⟨x2,at2,se2,r2,a2,b2,c2,d2⟩:=ih (at_:=at1+1) (sn:=((se1:Nat):Int)) (seen:=se1) (by omega) hm2 rfl c1 (by omega) (by omega)
    rcases d2 with rfl | ⟨q,tq,lq,zq,eq⟩
    ·exact ⟨.nil,at2,se2,zaR m1 (za4 rfl (zaR r1 (zaQ tp.isnil (zaR m2 (zaQ rfl (zaR r2 (za4 rfl rfl))))))),by omega,b2,c2,.inl rfl⟩
    rcases zj9 (t:=t) hs ((se2:Nat):Int) 41 (at_:=at2) (by omega) b2 with ⟨m3,hm3⟩ | m3
    ·obtain ⟨z1,z2⟩:=zqm (by rw [ep] at zq; exact zq)
     obtain ⟨x,j1,j2,j3⟩:=zjW tp tq z2
     have hor:=(zsR tp.rng.2 tq.rng.2 tp.rng.1 tq.rng.1 z2).2
     refine ⟨x,at2+1,se2,zaR m1 (za4 rfl (zaR r1 (zaQ tp.isnil (zaR m2 (zaQ rfl (zaR r2 (zaQ tq.isnil (zaR m3 (zaQ rfl (zaR j1 rfl)))))))))),by omega,hm3,c2,.inr ⟨p+q,j2,?_,?_,?_⟩⟩
     ·rw [← hor]
      exact Nat.or_lt_two_pow lp lq
     ·rw [← hor,Nat.and_or_distrib_left,zp,z1]
      rfl
     ·rw [eq,ep,← hor,Nat.or_assoc]
    ·exact ⟨.nil,at2,se2,zaR m1 (za4 rfl (zaR r1 (zaQ tp.isnil (zaR m2 (zaQ rfl (zaR r2 (zaQ tq.isnil (zaR m3 (za4 rfl rfl))))))))),by omega,b2,c2,.inl rfl⟩
   ·exact ⟨.nil,at1,se1,zaR m1 (za4 rfl (zaR r1 (zaQ tp.isnil (zaR m2 (za4 rfl rfl))))),by omega,b1,c1,.inl rfl⟩
  ·have hcs:=zon (T:=T) h0 h1
   have hnl:=zuv (zlE (zgT T at_ (T.size:Int)).data.toList) 0 (0,0) (by simp only; omega) (by simp only; omega)
   rw [zhO,zfm,Nat.zero_add,hcs] at hnl
   have hnd:=zjV (zgT T at_ (T.size:Int)) (by omega)
   generalize nmT 0 (0,0) (zlE (zgT T at_ (T.size:Int)).data.toList)=nm at hnl hnd
   obtain ⟨i,i1,i2⟩:=zq6 t.names (zgT T at_ (at_+nm.1)) (by omega)
   have go:∀ {X:Option (Iwitness_tree×Gwitness_reader)} {Y},X=Y→(zaA (zbu t.names (zgT T at_ (at_+nm.1))) fun _=>X)=Y:=fun h=>zaR i1 h
   rcases i2 with ⟨rfl,_⟩ | ⟨w,rfl,i2⟩
   ·refine ⟨.nil,at_,seen,?_,by omega,h1,hse,.inl rfl⟩
    rw [← hsn]
    exact zaR m1 (zaQ rfl (zcS ⟨h0,h1,Int.le_refl _⟩ (zaR hnd (zcS ⟨by show _≤at_+nm.1; omega,by show at_+nm.1≤_; omega⟩ (zcS ⟨h0,by show at_≤at_+nm.1; omega,by show at_+nm.1≤(T.size:Int); omega⟩ (zaR i1 (za4 rfl rfl)))))))
   ·have hw:w<t.names.length:=(List.getElem?_eq_some_iff.1 i2).1
    have hshr:=zum (s:=seen) (w:=w) (by omega) (by omega)
    by_cases hsw:seen &&& 2 ^ w=0
    ·have h5:=(ztW (n:=w) (by omega)).2
     have hpl:2 ^ w<2 ^ t.names.length:=(Nat.pow_lt_pow_iff_right (by omega)).2 hw
     refine ⟨.leaf (w:Int),at_+nm.1,seen ||| 2 ^ w,?_,by omega,by omega,Nat.or_lt_two_pow hse hpl,.inr ⟨2 ^ w,⟨w,by omega,rfl,rfl⟩,hpl,hsw,rfl⟩⟩
     refine zaR m1 (zaQ rfl (zcS ⟨h0,h1,Int.le_refl _⟩ (zaR hnd (zcS ⟨by show _≤at_+nm.1; omega,by show at_+nm.1≤_; omega⟩ (zcS ⟨h0,by show at_≤at_+nm.1; omega,by show at_+nm.1≤(T.size:Int); omega⟩ (zaR i1 (zaQ (decide_eq_false (by omega)) (zcS (by omega) (zaQ ?_ (zcS (by omega) (zcS ⟨by show _≤at_+nm.1; omega,by show at_+nm.1≤_; omega⟩ ?_)))))))))))
     ·show (zaM .u64 (zbl .u64 sn (w:Int)) 1==1)=false
      rw [hsn,hshr,hsw]
      rfl
     ·show some (Iwitness_tree.leaf (w:Int),(⟨T,at_+nm.1,orI .u64 sn (zmo .u64 1 (w:Int))⟩:Gwitness_reader))=_
      rw [hsn,zkc w (by omega),zmz (by omega) (by omega)]
    ·refine ⟨.nil,at_,seen,?_,by omega,h1,hse,.inl rfl⟩
     rw [← hsn]
     refine zaR m1 (zaQ rfl (zcS ⟨h0,h1,Int.le_refl _⟩ (zaR hnd (zcS ⟨by show _≤at_+nm.1; omega,by show at_+nm.1≤_; omega⟩ (zcS ⟨h0,by show at_≤at_+nm.1; omega,by show at_+nm.1≤(T.size:Int); omega⟩ (zaR i1 (zaQ (decide_eq_false (by omega)) (zcS (by omega) (za4 ?_ rfl)))))))))
     show (zaM .u64 (zbl .u64 sn (w:Int)) 1==1)=true
     rw [hsn,hshr]
     exact bne_iff_ne.2 hsw
theorem zq8:((List.range 9).all fun N=>decide (N≤zkX (2 ^ N - 1))&&(List.range 256).all fun s=>decide (2 ^ N≤s)||decide (zkX s<N)||s==2 ^ N - 1)=true:=by decide +kernel
theorem zr7 {N:Nat} (h:N<9):N≤zkX (2 ^ N - 1)∧∀ s,s<256→s<2 ^ N→¬ zkX s<N→s=2 ^ N - 1:=by
 have:=List.all_eq_true.1 zq8 N (List.mem_range.2 h)
 rw [Bool.and_eq_true,decide_eq_true_eq] at this
 refine ⟨this.1,fun s h1 h2 h3 => ?_⟩
 have:=List.all_eq_true.1 this.2 s (List.mem_range.2 h1)
 rw [Bool.or_eq_true,Bool.or_eq_true,decide_eq_true_eq,decide_eq_true_eq,beq_iff_eq] at this
 omega
theorem zsy {sp:zbY} (h:sp.Err=290):zdS sp (⟨0,0⟩:zbY)=false:=by
 cases hb:zdS sp (⟨0,0⟩:zbY) with
 | false=>rfl
 | true =>
  have:=(zf7 _ _).1 hb
  rw [this] at h
  exact absurd h (by decide)
theorem zlH:zdS (⟨0,0⟩:zbY) (⟨0,0⟩:zbY)=true:=(zf7 _ _).2 rfl
section
variable {t:zai} (hT:TOk t) (hN:NOk t.names)
include hT hN
omit hN in
theorem zrV:2≤2 ^ t.names.length∧2 ^ t.names.length≤256∧2 ^ t.names.length % 2=0:=by
 have h1:=hT.n1
 have h8:=hT.n8
 have hpw:=ziW ⟨t.names.length,by omega⟩ (by simp only; omega)
 simp only at hpw
 omega
omit hN in
theorem zoF (text:zBA) (hs:text.size≤1152921504606846976):∃ x sp,zcw t text=some (x,sp)∧(sp.Err=290∨(sp=⟨0,0⟩∧Nt x (2 ^ t.names.length - 1))):=by
 have hpw:=zrV hT
 have h8:=hT.n8
 obtain ⟨x,at',se,h1,h2,h3,h4,h5⟩:=zqP hT hs (text.size+1) zc9 (at_:=0) (sn:=0) (seen:=0) (by omega) (by omega) rfl (by omega) (by omega) (by unfold zc9; omega)
 unfold zcw
 rcases h5 with rfl | ⟨s,hx,hs2,_,hse⟩
 ·exact ⟨.nil,⟨290,at'⟩,zaR h1 (za4 rfl rfl),.inl rfl⟩
 ·by_cases hlt:at'<text.size
  ·exact ⟨.nil,⟨290,at'⟩,zaR h1 (zaQ hx.isnil (za4 (decide_eq_true hlt) rfl)),.inl rfl⟩
  ·have ho:=zn9 (s:=se) (by omega)
   by_cases hp:zkX se<t.names.length
   ·exact ⟨.nil,⟨290,at'⟩,zaR h1 (zaQ hx.isnil (zaQ (decide_eq_false hlt) (zaR ho (za4 (decide_eq_true (by omega)) rfl)))),.inl rfl⟩
   ·refine ⟨x,⟨0,0⟩,zaR h1 (zaQ hx.isnil (zaQ (decide_eq_false hlt) (zaR ho (zaQ (decide_eq_false (by omega)) rfl)))),.inr ⟨rfl,?_⟩⟩
    rw [Nat.zero_or] at hse
    have:=(zr7 (N:=t.names.length) (by omega)).2 se (by omega) h4 hp
    rw [← this,hse]
    exact hx
theorem zn6 {x:Iwitness_tree} (hx:Nt x (2 ^ t.names.length - 1)):zcw t (frm t.names x)=some (x,⟨0,0⟩):=by
 have hpw:=zrV hT
 have h8:=hT.n8
 have hsz:=zh1 hN hx (by omega)
 have h1:=zkl hT hN (T:=frm t.names x) (by omega) hx (by omega) (f:=zc9) (by unfold zc9; omega) (pre:=[]) (post:=[]) (at_:=0) (sn:=0) (seen:=0) (by simp) trivial rfl rfl (by omega) (Nat.zero_and _)
 unfold zcw
 refine zaR h1 (zaQ hx.isnil (zaQ (decide_eq_false (by show ¬ (0:Int)+((frm t.names x).size:Int)<((frm t.names x).size:Int); omega)) (zaR (a:=((zkX (2 ^ t.names.length - 1):Nat):Int)) ?_ (zaQ (decide_eq_false ?_) rfl))))
 ·show zcJ ((0 ||| (2 ^ t.names.length - 1):Nat):Int)=_
  rw [Nat.zero_or]
  exact zn9 (by omega)
 ·have:=(zr7 (N:=t.names.length) (by omega)).1
  omega
omit hN in
theorem zu5 (text:zBA) (hs:text.size≤1152921504606846976):∃ k sp,zbD t text=some (k,sp)∧(sp.Err≠0∨(sp.Err=0∧∃ x,Nt x (2 ^ t.names.length - 1)∧k=chg t x)):=by
 have hpw:=zrV hT
 obtain ⟨x,sp,h1,h2⟩:=zoF hT text hs
 unfold zbD
 rcases h2 with h2 | ⟨rfl,hx⟩
 ·exact ⟨0,sp,zaR h1 (za4 (by rw [zsy h2]; rfl) rfl),.inl (by omega)⟩
 ·exact ⟨chg t x,⟨0,0⟩,zaR h1 (zaQ (by rw [zlH]; rfl) (zaR (ztF hT hx (by omega)) rfl)),.inr ⟨rfl,x,hx,rfl⟩⟩
theorem zsc {x:Iwitness_tree} (hx:Nt x (2 ^ t.names.length - 1)):zbD t (frm t.names x)=some (chg t x,⟨0,0⟩):=by
 have hpw:=zrV hT
 unfold zbD
 exact zaR (zn6 hT hN hx) (zaQ (by rw [zlH]; rfl) (zaR (ztF hT hx (by omega)) rfl))
def zvl (t:zai) (x:Iwitness_tree):Prop:=(t.names.length=1∧x=.leaf 0)∨∃ y s,Nt y s∧s % 2=0∧1+s=2 ^ t.names.length - 1∧x=mkT s y
omit hT hN in
theorem zji {x:Iwitness_tree} (h:zvl t x):Nt x (2 ^ t.names.length - 1):=by
 rcases h with ⟨h1,rfl⟩ | ⟨y,s,hy,h1,h2,rfl⟩
 ·rw [h1]
  exact zuz
 ·rw [← h2]
  exact (zs7 hy h1).2
theorem zqG {x:Iwitness_tree} (h:zvl t x):zdI t (frm t.names x)=some (frm t.names x,⟨0,0⟩):=by
 have hpw:=zrV hT
 have hx:=zji h
 unfold zdI
 refine zaR (zn6 hT hN hx) (zaQ (by rw [zlH]; rfl) ?_)
 rcases h with ⟨h1,rfl⟩ | ⟨y,s,hy,h1,h2,rfl⟩
 ·exact zaR zpN (za4 rfl (zaR (zlP hN hx (by omega)) rfl))
 ·exact zaR (zpM hy h1) (zaQ hy.isnil (zaR (zs7 hy h1).1 (zaR (zlP hN hx (by omega)) rfl)))
end
def bsF (f:Iwitness_tree→Int) (a:Iwitness_tree×Int×Int) (x:Iwitness_tree):Iwitness_tree×Int×Int :=
 if a.1.isnil then (x,f x,1) else if f x<a.2.1 then (x,f x,1) else if f x=a.2.1 then (a.1,a.2.1,a.2.2+1) else a
theorem zop {t:zai} {dn:Iwitness_tree→Int→Int→Option (Iwitness_tree×Int×Int)}:∀ (l:List Iwitness_tree) (a:Iwitness_tree×Int×Int),(∀ x∈l,zb9 t x=some (chg t x))→0≤a.2.2→a.2.2+l.length≤1000000 →
  zbZ dn (zcs t) l a.1 a.2.1 a.2.2=dn (l.foldl (bsF (chg t)) a).1 (l.foldl (bsF (chg t)) a).2.1 (l.foldl (bsF (chg t)) a).2.2
 | [],a,_,_,_=>rfl
 | x::l,a,hc,h0,hl=>by
  rw [List.length_cons] at hl
  rw [zb3,List.foldl_cons]
  have ih:=fun (b:Iwitness_tree×Int×Int) (h1:0≤b.2.2) (h2:b.2.2≤a.2.2+1)=>zop (dn:=dn) l b (fun y hy=>hc y (.tail _ hy)) h1 (by omega)
  generalize zbZ dn (zcs t) l=ag at ih ⊢
  unfold zcs
  refine zaR (hc x (.head _)) ?_
  unfold bsF
  by_cases hn:a.1.isnil=true
  ·rw [if_pos hn]
   exact za4 hn (ih (x,chg t x,1) (by simp only; omega) (by simp only; omega))
  ·rw [if_neg hn]
   rw [Bool.not_eq_true] at hn
   refine zaQ hn ?_
   by_cases hlt:chg t x<a.2.1
   ·rw [if_pos hlt]
    exact za4 (decide_eq_true hlt) (ih (x,chg t x,1) (by simp only; omega) (by simp only; omega))
   ·rw [if_neg hlt]
    refine zaQ (decide_eq_false hlt) ?_
    by_cases he:chg t x=a.2.1
    ·rw [if_pos he]
     exact za4 (beq_iff_eq.2 he) (zcS ⟨by omega,by omega⟩ (ih (a.1,a.2.1,a.2.2+1) (by simp only; omega) (by simp only; omega)))
    ·rw [if_neg he]
     exact zaQ (beq_eq_false_iff_ne.2 he) (ih a h0 (by omega))
def BsI (f:Iwitness_tree→Int) (P:List Iwitness_tree) (a:Iwitness_tree×Int×Int):Prop :=
 a.1.isnil=false∧a.1∈P∧a.2.1=f a.1∧(∀ x∈P,a.2.1≤f x)∧a.2.2=((P.filter fun x=>f x==a.2.1).length:Int)∧P.find? (fun x=>f x==a.2.1)=some a.1
theorem ztH {f:Iwitness_tree→Int} {P:List Iwitness_tree} {a:Iwitness_tree×Int×Int} {x:Iwitness_tree} (h:BsI f P a) (hx:x.isnil=false):BsI f (P++[x]) (bsF f a x):=by
 obtain ⟨h1,h2,h3,h4,h5,h6⟩:=h
 unfold bsF
 rw [h1,if_neg (by decide)]
 by_cases hlt:f x<a.2.1
 ·rw [if_pos hlt]
  have hno:∀ y∈P,¬ (f y==f x)=true:=fun y hy h=>by
   have:=h4 y hy
   have:=beq_iff_eq.1 h
   omega
  have hf:P.filter (fun y=>f y==f x)=[]:=List.filter_eq_nil_iff.2 hno
  have hfi:P.find? (fun y=>f y==f x)=none:=List.find?_eq_none.2 hno
  refine ⟨hx,List.mem_append.2 (.inr (.head _)),rfl,?_,?_,?_⟩
  ·intro y hy
   rcases List.mem_append.1 hy with hy | hy
   ·have:=h4 y hy; simp only; omega
   ·rw [List.mem_singleton.1 hy]; exact Int.le_refl _
  ·show (1:Int)=_
   rw [List.filter_append,hf]
   simp
  ·show (P++[x]).find? (fun y=>f y==f x)=some x
   rw [List.find?_append,hfi]
   simp
 ·rw [if_neg hlt]
  by_cases he:f x=a.2.1
  ·rw [if_pos he]
   refine ⟨h1,List.mem_append.2 (.inl h2),h3,?_,?_,?_⟩
   ·intro y hy
    rcases List.mem_append.1 hy with hy | hy
    ·exact h4 y hy
    ·rw [List.mem_singleton.1 hy]; simp only; omega
   ·show a.2.2+1=_
    rw [List.filter_append,List.length_append,h5]
    simp [he]
   ·show (P++[x]).find? (fun y=>f y==a.2.1)=some a.1
    rw [List.find?_append,h6]
    rfl
  ·rw [if_neg he]
   refine ⟨h1,List.mem_append.2 (.inl h2),h3,?_,?_,?_⟩
   ·intro y hy
    rcases List.mem_append.1 hy with hy | hy
    ·exact h4 y hy
    ·rw [List.mem_singleton.1 hy]; omega
   ·rw [List.filter_append,List.length_append,h5]
    simp [he]
   ·rw [List.find?_append,h6]
    rfl
theorem zse {f:Iwitness_tree→Int}:∀ (l P:List Iwitness_tree) (a:Iwitness_tree×Int×Int),(∀ x∈l,x.isnil=false)→BsI f P a→BsI f (P++l) (l.foldl (bsF f) a)
 | [],P,a,_,h=>by rw [List.append_nil]; exact h
 | x::l,P,a,hl,h=>by
  have:=zse l (P++[x]) (bsF f a x) (fun y hy=>hl y (.tail _ hy)) (ztH h (hl x (.head _)))
  rw [List.append_assoc] at this
  exact this
theorem zwH {f:Iwitness_tree→Int} {l:List Iwitness_tree} (h0:0<l.length) (hl:∀ x∈l,x.isnil=false):BsI f l (l.foldl (bsF f) (.nil,0,0)):=by
 cases l with
 | nil=>simp at h0
 | cons x l =>
  have h1:BsI f [x] (bsF f (.nil,0,0) x):=⟨hl x (.head _),.head _,rfl,fun y hy=>by rw [List.mem_singleton.1 hy]; exact Int.le_refl _,by show (1:Int)=_; simp [bsF,Iwitness_tree.isnil],by show [x].find? (fun y=>f y==f x)=some x; simp⟩
  exact zse l [x] _ (fun y hy=>hl y (.tail _ hy)) h1
def frs (nm:List zBA) (f:Iwitness_tree→Int) (least:Int) (P:List Iwitness_tree):zBA:=((P.find? fun x=>f x==least).map (frm nm)).getD (⟨#[]⟩:zBA)
def zmR (f:Iwitness_tree→Int) (least:Int) (P:List Iwitness_tree):Int:=((P.filter fun x=>f x==least).length:Int)
theorem ztD (f:Iwitness_tree→Int) (least:Int) (P:List Iwitness_tree):0≤zmR f least P∧zmR f least P≤P.length:=by
 unfold zmR
 have:=List.length_filter_le (fun x=>f x==least) P
 omega
theorem zpG {t:zai} (hT:TOk t) (hN:NOk t.names) {r4:zBA×Int} {J ek1:Int→Int→zBA→Option Bool}:∀ (l P:List Iwitness_tree),(∀ x∈l,zvl t x∧r4.2≤chg t x)→(∀ x∈P,0<(frm t.names x).size)→P.length<200 →
  ∃ n ti fi,zbZ J (zbP t r4 ek1 J) (l.map (frm t.names)) (P.length:Int) (zmR (chg t) r4.2 P) (frs t.names (chg t) r4.2 P)=J n ti fi∧(P.length:Int)≤n∧(l≠[]→1≤n)∧(n<200→ti=zmR (chg t) r4.2 (P++l)∧fi=frs t.names (chg t) r4.2 (P++l))
 | [],P,_,_,_=>⟨_,_,_,rfl,Int.le_refl _,fun h=>absurd rfl h,fun _=>by rw [List.append_nil]; exact ⟨rfl,rfl⟩⟩
 | x::l,P,hl,hP,hp=>by
  obtain ⟨hx,hle⟩:=hl x (.head _)
  have hnt:=zji hx
  have hpw:=zrV hT
  have hsz:=(zh1 hN hnt (by omega)).1
  have h1:=zsc hT hN hnt
  have h2:=zqG hT hN hx
  have hc:=ztD (chg t) r4.2 P
  have hst:∃ ti fi,(ti=zmR (chg t) r4.2 (P++[x])∧fi=frs t.names (chg t) r4.2 (P++[x]))∧∀ (j2:Int→zBA→Option Bool),(zaL ((chg t x:Int)==r4.2) (grd (I64 (zmR (chg t) r4.2 P+1))<|zaL (decide (frs t.names (chg t) r4.2 P=(⟨#[]⟩:zBA))) (j2 (zmR (chg t) r4.2 P+1) (frm t.names x)) (j2 (zmR (chg t) r4.2 P+1) (frs t.names (chg t) r4.2 P))) (j2 (zmR (chg t) r4.2 P) (frs t.names (chg t) r4.2 P)))=j2 ti fi:=by
   by_cases he:chg t x=r4.2
   ·have e1:zmR (chg t) r4.2 (P++[x])=zmR (chg t) r4.2 P+1:=by
     unfold zmR
     rw [List.filter_append]
     simp [he]
    cases hf:P.find? (fun y=>chg t y==r4.2) with
    | none =>
     have e2:frs t.names (chg t) r4.2 P=(⟨#[]⟩:zBA):=by unfold frs; rw [hf]; rfl
     have e3:frs t.names (chg t) r4.2 (P++[x])=frm t.names x:=by
      unfold frs
      rw [List.find?_append,hf]
      simp [he]
     refine ⟨_,_,⟨rfl,rfl⟩,fun j2=>za4 (beq_iff_eq.2 he) (zcS ⟨by omega,by omega⟩ (za4 (decide_eq_true e2) ?_))⟩
     rw [e1,e3]
    | some y =>
     have hy:frs t.names (chg t) r4.2 P=frm t.names y:=by unfold frs; rw [hf]; rfl
     have hys:=hP y (List.mem_of_find?_eq_some hf)
     have e2:¬ frs t.names (chg t) r4.2 P=(⟨#[]⟩:zBA):=by
      rw [hy]
      intro h
      rw [h] at hys
      exact absurd hys (by decide)
     have e3:frs t.names (chg t) r4.2 (P++[x])=frs t.names (chg t) r4.2 P:=by
      unfold frs
      rw [List.find?_append,hf]
      rfl
     refine ⟨_,_,⟨rfl,rfl⟩,fun j2=>za4 (beq_iff_eq.2 he) (zcS ⟨by omega,by omega⟩ (zaQ (decide_eq_false e2) ?_))⟩
     rw [e1,e3]
   ·refine ⟨_,_,⟨rfl,rfl⟩,fun j2=>zaQ (beq_eq_false_iff_ne.2 he) ?_⟩
    have e1:zmR (chg t) r4.2 (P++[x])=zmR (chg t) r4.2 P:=by
     unfold zmR
     rw [List.filter_append]
     simp [he]
    have e3:frs t.names (chg t) r4.2 (P++[x])=frs t.names (chg t) r4.2 P:=by
     unfold frs
     rw [List.find?_append]
     simp [he]
    rw [e1,e3]
  obtain ⟨ti,fi,⟨hti,hfi⟩,hj⟩:=hst
  have hlen:(P++[x]).length=P.length+1:=by rw [List.length_append]; rfl
  rw [List.map_cons,zb3]
  by_cases hlast:P.length+1=200
  ·refine ⟨(P.length:Int)+1,ti,fi,?_,by omega,fun _=>by omega,fun h=>by omega⟩
   generalize zbZ J (zbP t r4 ek1 J) (l.map (frm t.names))=ag
   unfold zbP
   refine zaR h1 (zaR h2 (zaQ rfl (zaQ rfl (zaQ (by rw [decide_eq_true rfl]; rfl) (zaQ (decide_eq_false (by show ¬ chg t x<r4.2; omega)) (zcY ((hj fun ties7 first7=>grd (I64 ((P.length:Int)+1))<|zaL ((((P.length:Int)+1):Int)==200) (J ((P.length:Int)+1) ties7 first7) (ag ((P.length:Int)+1) ties7 first7)).trans (zcS ⟨by omega,by omega⟩ (za4 (beq_iff_eq.2 (by omega)) rfl)))))))))
  ·obtain ⟨n,ti2,fi2,i1,i2,i3,i4⟩:=zpG hT hN (r4:=r4) (J:=J) (ek1:=ek1) l (P++[x]) (fun y hy=>hl y (.tail _ hy)) (fun y hy=>by
    rcases List.mem_append.1 hy with hy | hy
    ·exact hP y hy
    ·rw [List.mem_singleton.1 hy]; exact hsz) (by omega)
   rw [hlen,← hti,← hfi] at i1
   refine ⟨n,ti2,fi2,?_,by omega,fun _=>by omega,fun h=>by have:=i4 h; rw [List.append_assoc] at this; exact this⟩
   generalize zbZ J (zbP t r4 ek1 J) (l.map (frm t.names))=ag at i1 ⊢
   unfold zbP
   refine zaR h1 (zaR h2 (zaQ rfl (zaQ rfl (zaQ (by rw [decide_eq_true rfl]; rfl) (zaQ (decide_eq_false (by show ¬ chg t x<r4.2; omega)) (zcY ((hj fun ties7 first7=>grd (I64 ((P.length:Int)+1))<|zaL ((((P.length:Int)+1):Int)==200) (J ((P.length:Int)+1) ties7 first7) (ag ((P.length:Int)+1) ties7 first7)).trans (zcS ⟨by omega,by omega⟩ (zaQ (beq_eq_false_iff_ne.2 (by omega)) i1)))))))))
theorem zoA:zer=some true:=by decide +kernel
theorem zmJ {t:zai} (hT:TOk t) (hN:NOk t.names):∀ (l:List Iwitness_tree),(∀ x∈l,zvl t x)→zbZ (some []) (zcn t) l=some (l.map (frm t.names))
 | [],_=>rfl
 | x::l,h=>by
  have hpw:=zrV hT
  rw [zb3,zmJ hT hN l fun y hy=>h y (.tail _ hy)]
  unfold zcn
  exact zaR (zlP hN (zji (h x (.head _))) (by omega)) rfl
def zpH (t:zai) (text best:zBA) (least:Int):Option Bool :=
  zaA (zbD t text) fun (r9:(Int×zbY)) =>
  zaA (zbD t best) fun (r10:(Int×zbY)) =>
  zaL ((r10.2.Err:Int)==0) (zaL ((r10.1:Int)==least) (zaL ((r9.2.Err:Int) != 0) (some true) (some (decide ((least:Int)≤r9.1)))) (some false)) (some false)
def zwQ (t:zai) (text best:zBA) (least:Int):Int→Int→zBA→Option Bool:=fun n1 ties1 first1 =>
  zcd (fun (j3:Option Bool)=>zaL (decide ((n1:Int)<200)) (zaA (zdJ t) fun (r8:Int)=>zaL ((ties1:Int) != r8) (some false) (zaL (!decide (first1=best)) (some false) (zaL (decide ((n1:Int)<1)) (some false) j3))) (zaL (decide ((n1:Int)<1)) (some false) j3)) (zpH t text best least)
theorem zoB {l:List zbp} {text:zBA} (hl:l.length*32≤140737488355328) (hs:text.size≤140737488355328)
  (hNew:∃ o e,zeT l=some (o,e)∧(((e=2∨e=3)∧o=none)∨(e=0∧∃ t,o=some t∧TOk t∧NOk t.names))):zdB l text=some true:=by
 obtain ⟨o,e,h1,h2⟩:=hNew
 have hcl:zde l=some l:=zcS hl rfl
 unfold zdB
 refine zaR zoA (zaQ rfl (zaR hcl (zaR h1 ?_)))
 rcases h2 with ⟨he,rfl⟩ | ⟨rfl,t,rfl,hT,hN⟩
 ·rcases he with rfl | rfl
  ·exact za4 rfl (za4 rfl (za4 rfl rfl))
  ·exact za4 rfl (za4 rfl (zaQ rfl rfl))
 ·have hpw:=zrV hT
  obtain ⟨L,l1,l2,l3,l4,l5,l6⟩:=zsu hT
  have hch:∀ x∈L,zb9 t x=some (chg t x):=fun x hx=>ztF hT (zji (l4 x hx)) (by omega)
  have hI:=zwH (f:=chg t) l2 fun x hx=>(zji (l4 x hx)).isnil
  have hb:zdm t=some (L.foldl (bsF (chg t)) (.nil,0,0)):=by
   unfold zdm
   exact zcY (zaR rfl (zaR l1 (zcY (zop L (.nil,0,0) hch (by simp only; omega) (by simp only; omega)))))
  generalize L.foldl (bsF (chg t)) (.nil,0,0)=B at hI hb
  obtain ⟨i1,i2,i3,i4,i5,i6⟩:=hI
  have hB:=zji (l4 _ i2)
  have hBest:zec t=some (frm t.names B.1,B.2.1):=zaR hb (zaQ i1 (zaR (zlP hN hB (by omega)) rfl))
  have hTies:zdJ t=some B.2.2:=zaR hb rfl
  have hforms:zdP t=some (L.map (frm t.names)):=zaR rfl (zaR l1 (zcY (zmJ hT hN L l4)))
  refine zaQ rfl (zaR rfl (zaR hBest (zcY (zaR rfl (zaR hforms (zcY (zcY (zcY ?_))))))))
  obtain ⟨n,ti,fi,r1,r2,r3,r4⟩:=zpG hT hN (r4:=(frm t.names B.1,B.2.1)) (J:=zwQ t text (frm t.names B.1) B.2.1) (ek1:=fun _ _ _=>some false) L [] (fun x hx=>⟨l4 x hx,i4 x hx⟩) (fun x hx=>by cases hx) (by decide)
  refine r1.trans ?_
  have hn1:1≤n:=r3 fun h=>by rw [h] at l2; simp at l2
  have hend:zpH t text (frm t.names B.1) B.2.1=some true:=by
   unfold zpH
   obtain ⟨k,sp,c1,c2⟩:=zu5 hT text (by omega)
   refine zaR c1 (zaR (zsc hT hN hB) (za4 rfl (za4 (beq_iff_eq.2 i3.symm) ?_)))
   rcases c2 with c2 | ⟨c2,x,hx,rfl⟩
   ·exact za4 (bne_iff_ne.2 c2) rfl
   ·obtain ⟨z,hz,hzc⟩:=zrx hT l5 l6 hx
    have:=i4 z hz
    refine zaQ (by rw [c2]; rfl) ?_
    rw [decide_eq_true (by show B.2.1≤chg t x; omega)]
  unfold zwQ
  refine zcY ?_
  by_cases hlt:n<200
  ·obtain ⟨q1,q2⟩:=r4 hlt
   refine za4 (decide_eq_true hlt) (zaR hTies (zaQ ?_ (zaQ ?_ (zaQ (decide_eq_false (by omega)) hend))))
   ·rw [q1,i5]
    simp [zmR]
   ·have:fi=frm t.names B.1:=by
     rw [q2]
     unfold frs
     rw [List.nil_append,i6]
     rfl
    rw [decide_eq_true this]
    rfl
  ·exact zaQ (decide_eq_false hlt) (zaQ (decide_eq_false (by omega)) hend)
def WOk (keys:List (List zBA)) (c:zan):Prop:=∀ (v:Nat) (k:Int),c.words[v]?=some k→k=-1∨∃ ks,keys[v]?=some ks∧0≤k∧k<ks.length
structure COk (keys:List (List zBA)) (w:Nat) (c:zan):Prop where
 len:c.words.length=w
 ok:WOk keys c
 none:c.readings=[]
theorem ztB {keys:List (List zBA)} {c:zan} {w k:Nat} {x1:List zBA} (hc:WOk keys c) (hl:c.words.length≤1000) (hw:keys[w]?=some x1) (hk:k<x1.length):∃ r,zbi keys c (w:Int) (k:Int)=some r∧(r=0∨r=3):=by
 obtain ⟨q3,hq3⟩:∃ q,x1[k]?=some q:=⟨_,List.getElem?_eq_getElem hk⟩
 have key:∀ (f v:Nat),v≤c.words.length→c.words.length - v<f→∃ r,zbq (fun _=>none) (zb8 keys c (w:Int) (k:Int) (some 3)) f (v:Int)=some r∧(r=0∨r=3):=by
  intro f
  induction f with
  | zero=>intro v _ h; omega
  | succ f ih =>
   intro v hv hf
   rw [zbk]
   by_cases hlt:v<c.words.length
   ·obtain ⟨r,r1,r2⟩:=ih (v+1) (by omega) (by omega)
    generalize zbq (fun _=>none) (zb8 keys c (w:Int) (k:Int) (some 3)) f=ag at r1 ⊢
    have hnext:grd (I64 ((v:Int)+1)) (ag ((v:Int)+1))=some r:=zcS ⟨by omega,by omega⟩ r1
    obtain ⟨q,hq⟩:∃ q,c.words[v]?=some q:=⟨_,List.getElem?_eq_getElem hlt⟩
    unfold zb8
    by_cases h0:0≤q
    ·rcases hc v q hq with h | ⟨ks,h1,h2,h3⟩
     ·omega
     ·obtain ⟨n,rfl⟩:∃ n:Nat,q=n:=⟨q.toNat,by omega⟩
      obtain ⟨q2,hq2⟩:∃ q,ks[n]?=some q:=⟨_,List.getElem?_eq_getElem (by omega)⟩
      by_cases he:q2=q3
      ·exact ⟨0,za4 (decide_eq_true (by omega)) (zcY (zaR (zbI hq) (za4 (decide_eq_true h0) (zaR (zbI h1) (zaR (zbI hq2) (zaR (zbI hw) (zaR (zbI hq3) (za4 (decide_eq_true he) rfl)))))))),.inl rfl⟩
      ·exact ⟨r,za4 (decide_eq_true (by omega)) (zcY (zaR (zbI hq) (za4 (decide_eq_true h0) (zaR (zbI h1) (zaR (zbI hq2) (zaR (zbI hw) (zaR (zbI hq3) (zaQ (decide_eq_false he) hnext)))))))),r2⟩
    ·exact ⟨r,za4 (decide_eq_true (by omega)) (zcY (zaR (zbI hq) (zaQ (decide_eq_false h0) hnext))),r2⟩
   ·refine ⟨3,?_,.inr rfl⟩
    unfold zb8
    exact zaQ (decide_eq_false (by omega)) rfl
 obtain ⟨r,r1,r2⟩:=key zc9 0 (by omega) (by unfold zc9; omega)
 exact ⟨r,zcY r1,r2⟩
theorem zmF {R A:Type} {t:(A→Option R)→Option R} {k:A→Option R} (a:A) (h:∀ j,t j=j a):zcd t k=k a:=h k
theorem zpK {n m i k:Nat} (hi:i≤n) (hk:k≤m):i*(m+1)+k<(n+1)*(m+1):=by
 have:i*(m+1)≤n*(m+1):=Nat.mul_le_mul_right _ hi
 rw [Nat.add_mul,Nat.one_mul]
 omega
theorem zs9 {m i k i' k':Nat} (hk:k≤m) (hk':k'≤m) (h:i*(m+1)+k=i'*(m+1)+k'):i=i'∧k=k':=by
 have h1:(i*(m+1)+k) / (m+1)=(i'*(m+1)+k') / (m+1):=by rw [h]
 rw [Nat.mul_comm i,Nat.mul_comm i',Nat.mul_add_div (by omega),Nat.mul_add_div (by omega),Nat.div_eq_of_lt (by omega),Nat.div_eq_of_lt (by omega)] at h1
 have h2:i=i':=by omega
 subst h2
 exact ⟨rfl,by omega⟩
theorem zr5 {l:List Int} {j:Nat} (h:j<l.length):zeD l (j:Int)=some (l.getD j 0):=by
 refine zbI ?_
 rw [List.getD_eq_getElem?_getD,List.getElem?_eq_getElem h]
 rfl
theorem zwS {n m i k:Nat} {l:List Int} (hn:n≤256) (hm:m≤256) (hi:i≤n) (hk:k≤m) (hl:l.length=(n+1)*(m+1)):za9 (i:Int) (k:Int) l (m:Int)=some ((i*(m+1)+k:Nat):Int)∧i*(m+1)+k<l.length:=by
 have h1:=zpK (n:=n) (m:=m) hi hk
 have h2:i*(m+1)≤256*257:=Nat.mul_le_mul (by omega) (by omega)
 refine ⟨?_,by omega⟩
 have e:((i:Int)*((m:Int)+1)+(k:Int))=((i*(m+1)+k:Nat):Int):=by
  rw [Int.natCast_add,Int.natCast_mul,Int.natCast_add]
  rfl
 have e2:((i:Int)*((m:Int)+1))=((i*(m+1):Nat):Int):=by
  rw [Int.natCast_mul,Int.natCast_add]
  rfl
 unfold za9
 refine zcS ⟨by omega,by omega⟩ (zcS ⟨by rw [e2]; omega,by rw [e2]; omega⟩ (zcS ⟨by rw [e]; omega,by rw [e]; omega⟩ ?_))
 rw [e]
 exact zaR (zr5 (by omega)) rfl
def cell (m:Nat) (l:List Int) (i k:Nat):Int:=l.getD (i*(m+1)+k) 0
theorem zsd {n m i k:Nat} {l:List Int} (hi:i≤n) (hk:k≤m) (hl:l.length=(n+1)*(m+1)):zeD l ((i*(m+1)+k:Nat):Int)=some (cell m l i k):=zr5 (by rw [hl]; exact zpK hi hk)
theorem zrt {n m i k i' k':Nat} {l:List Int} (v:Int) (hi:i≤n) (hk:k≤m) (hk':k'≤m) (hl:l.length=(n+1)*(m+1)):cell m (l.set (i*(m+1)+k) v) i' k'=if i'=i∧k'=k then v else cell m l i' k':=by
 unfold cell
 rw [List.getD_eq_getElem?_getD,List.getD_eq_getElem?_getD,List.getElem?_set]
 by_cases h:i'=i∧k'=k
 ·obtain ⟨rfl,rfl⟩:=h
  rw [if_pos rfl,if_pos (by rw [hl]; exact zpK hi hk),if_pos ⟨rfl,rfl⟩]
  rfl
 ·rw [if_neg (fun e=>h (by obtain ⟨a,b⟩:=zs9 hk hk' e; exact ⟨a.symm,b.symm⟩)),if_neg h]
def DP (cs:Nat→Nat→Int) (n m:Nat) (l:List Int) (i k:Nat):Prop :=
 0≤cell m l i k∧cell m l i k≤2*((n:Int) - i+m - k)∧(i<n∨k<m→(i<n∧k<m∧cell m l i k=cs i k+cell m l (i+1) (k+1))∨(i<n∧cell m l i k=2+cell m l (i+1) k)∨(k<m∧cell m l i k=2+cell m l i (k+1)))
theorem DP.congr {cs:Nat→Nat→Int} {n m i k:Nat} {l l':List Int} (h:DP cs n m l i k) (h0:cell m l' i k=cell m l i k) (h1:cell m l' (i+1) (k+1)=cell m l (i+1) (k+1)) (h2:cell m l' (i+1) k=cell m l (i+1) k) (h3:cell m l' i (k+1)=cell m l i (k+1)):DP cs n m l' i k:=by
 unfold DP at h ⊢
 rw [h0,h1,h2,h3]
 exact h
section
variable {t:zai} {w:Nat} {x1:List zBA} {cs:Nat→Nat→Int} {n m:Nat} (hn:n≤256) (hm:m≤256) (hnt:t.columns.length=n) (hmx:x1.length=m)
 (hcs:∀ i k,i<n→k<m→∃ c,t.columns[i]?=some c∧zbi t.keys c (w:Int) (k:Int)=some (cs i k)∧(cs i k=0∨cs i k=3))
include hn hm hnt hmx hcs
set_option maxHeartbeats 2000000 in
theorem zs8 {i:Nat} (hi:i≤n) {j2:List Int→Option zai}:∀ (kk f:Nat) (l:List Int) (k3:Int),kk≤m+1→kk<f→k3=(kk:Int) - 1→l.length=(n+1)*(m+1)→(∀ i' k',i<i'→i'≤n→k'≤m→DP cs n m l i' k')→(∀ k',kk≤k'→k'≤m→DP cs n m l i k') →
  ∃ l',l'.length=(n+1)*(m+1)∧(∀ i' k',i≤i'→i'≤n→k'≤m→DP cs n m l' i' k')∧zbq (fun _ _=>none) (zcg t (w:Int) x1 (i:Int) j2) f l k3=j2 l':=by
 intro kk
 induction kk with
 | zero =>
  intro f l k3 _ hf hk hl h1 h2
  cases f with
  | zero=>omega
  | succ f =>
  refine ⟨l,hl,fun i' k' e1 e2 e3 => ?_,?_⟩
  ·by_cases e:i'=i
   ·subst e; exact h2 k' (by omega) e3
   ·exact h1 i' k' (by omega) e2 e3
  ·rw [zbk]
   unfold zcg
   exact zaQ (decide_eq_false (by omega)) rfl
 | succ k ih =>
  intro f l k3 hkm hf hk hl h1 h2
  cases f with
  | zero=>omega
  | succ f =>
  obtain rfl:k3=(k:Int):=by omega
  rw [zbk]
  have ih:=fun l' (e1:l'.length=(n+1)*(m+1)) e2 e3=>ih f l' ((k:Int) - 1) (by omega) (by omega) rfl e1 e2 e3
  generalize zbq (fun _ _=>none) (zcg t (w:Int) x1 (i:Int) j2) f=ag at ih ⊢
  obtain ⟨b0,hb0⟩:∃ b,b=2*((((n:Int) - (i:Int))+(m:Int)) - (k:Int)):=⟨_,rfl⟩
  have hat:=fun (i' k':Nat) (e1:i'≤n) (e2:k'≤m)=>(zwS (l:=l) hn hm e1 e2 hl).1
  have hce:=fun (i' k':Nat) (e1:i'≤n) (e2:k'≤m)=>zsd (l:=l) e1 e2 hl
  obtain ⟨b1,hb1,g1⟩:∃ b1,(if i<n∧k<m then b1=min b0 (cs i k+cell m l (i+1) (k+1)) else b1=b0)∧∀ (j3:Int→Option zai),(zaL (decide (((i:Int):Int)<(n:Int))) (zaL (decide (((k:Int):Int)<(m:Int))) (zaA (zeD t.columns (i:Int)) fun (x2:zan)=>zaA (zbi t.keys x2 (w:Int) (k:Int)) fun (r1:Int)=>grd (I64 ((i:Int)+1))<|grd (I64 ((k:Int)+1))<|zaA (za9 ((i:Int)+1) ((k:Int)+1) l (m:Int)) fun (r2:Int)=>zaA (zeD l r2) fun (q1:Int)=>grd (I64 (r1+q1))<|j3 (min b0 (r1+q1))) (j3 b0)) (j3 b0))=j3 b1:=by
   by_cases hin:i<n
   ·by_cases hkm2:k<m
    ·obtain ⟨c,c1,c2,c3⟩:=hcs i k hin hkm2
     have hd:=h1 (i+1) (k+1) (by omega) (by omega) (by omega)
     refine ⟨min b0 (cs i k+cell m l (i+1) (k+1)),by rw [if_pos ⟨hin,hkm2⟩],fun j3=>za4 (decide_eq_true (by omega)) (za4 (decide_eq_true (by omega)) (zaR (zbI c1) (zaR c2 (zcS ⟨by omega,by omega⟩ (zcS ⟨by omega,by omega⟩ (zaR (hat (i+1) (k+1) (by omega) (by omega)) (zaR (hce (i+1) (k+1) (by omega) (by omega)) (zcS ⟨?_,?_⟩ rfl))))))))⟩
     ·have:=hd.1; have:=hd.2.1; omega
     ·have:=hd.1; have:=hd.2.1; omega
    ·exact ⟨b0,by rw [if_neg (by omega)],fun j3=>za4 (decide_eq_true (by omega)) (zaQ (decide_eq_false (by omega)) rfl)⟩
   ·exact ⟨b0,by rw [if_neg (by omega)],fun j3=>zaQ (decide_eq_false (by omega)) rfl⟩
  obtain ⟨b2,hb2,g2⟩:∃ b2,(if i<n then b2=min b1 (2+cell m l (i+1) k) else b2=b1)∧∀ (j4:Int→Option zai),(zaL (decide (((i:Int):Int)<(n:Int))) (grd (I64 ((i:Int)+1))<|zaA (za9 ((i:Int)+1) (k:Int) l (m:Int)) fun (r3:Int)=>zaA (zeD l r3) fun (q2:Int)=>grd (I64 (2+q2))<|j4 (min b1 (2+q2))) (j4 b1))=j4 b2:=by
   by_cases hin:i<n
   ·have hd:=h1 (i+1) k (by omega) (by omega) (by omega)
    refine ⟨min b1 (2+cell m l (i+1) k),by rw [if_pos hin],fun j4=>za4 (decide_eq_true (by omega)) (zcS ⟨by omega,by omega⟩ (zaR (hat (i+1) k (by omega) (by omega)) (zaR (hce (i+1) k (by omega) (by omega)) (zcS ⟨?_,?_⟩ rfl))))⟩
    ·have:=hd.1; have:=hd.2.1; omega
    ·have:=hd.1; have:=hd.2.1; omega
   ·exact ⟨b1,by rw [if_neg hin],fun j4=>zaQ (decide_eq_false (by omega)) rfl⟩
  obtain ⟨b3,hb3,g3⟩:∃ b3,(if k<m then b3=min b2 (2+cell m l i (k+1)) else b3=b2)∧∀ (j5:Int→Option zai),(zaL (decide (((k:Int):Int)<(m:Int))) (grd (I64 ((k:Int)+1))<|zaA (za9 (i:Int) ((k:Int)+1) l (m:Int)) fun (r4:Int)=>zaA (zeD l r4) fun (q3:Int)=>grd (I64 (2+q3))<|j5 (min b2 (2+q3))) (j5 b2))=j5 b3:=by
   by_cases hkm2:k<m
   ·have hd:=h2 (k+1) (by omega) (by omega)
    refine ⟨min b2 (2+cell m l i (k+1)),by rw [if_pos hkm2],fun j5=>za4 (decide_eq_true (by omega)) (zcS ⟨by omega,by omega⟩ (zaR (hat i (k+1) (by omega) (by omega)) (zaR (hce i (k+1) (by omega) (by omega)) (zcS ⟨?_,?_⟩ rfl))))⟩
    ·have:=hd.1; have:=hd.2.1; omega
    ·have:=hd.1; have:=hd.2.1; omega
   ·exact ⟨b2,by rw [if_neg hkm2],fun j5=>zaQ (decide_eq_false (by omega)) rfl⟩
  have hset:=fun (i' k':Nat) (e:k'≤m)=>zrt (l:=l) (i':=i') (k':=k') b3 hi (by omega:k≤m) e hl
  have hlen:(l.set (i*(m+1)+k) b3).length=(n+1)*(m+1):=by rw [List.length_set]; exact hl
  obtain ⟨l',l1,l2,l3⟩:=ih (l.set (i*(m+1)+k) b3) hlen (fun i' k' e1 e2 e3=>by
    have hd:=h1 i' k' e1 e2 e3
    by_cases hk'm:k'<m
    ·exact hd.congr (by rw [hset _ _ e3,if_neg (by omega)]) (by rw [hset _ _ (by omega),if_neg (by omega)]) (by rw [hset _ _ e3,if_neg (by omega)]) (by rw [hset _ _ (by omega),if_neg (by omega)])
    ·refine ⟨by rw [hset _ _ e3,if_neg (by omega)]; exact hd.1,by rw [hset _ _ e3,if_neg (by omega)]; exact hd.2.1,fun hor => ?_⟩
     rcases hd.2.2 hor with ⟨_,a,_⟩ | ⟨a,b⟩ | ⟨a,_⟩
     ·omega
     ·exact .inr (.inl ⟨a,by rw [hset _ _ e3,hset _ _ e3,if_neg (by omega),if_neg (by omega)]; exact b⟩)
     ·omega) (fun k' e1 e2=>by
    by_cases hkk:k'=k
    ·subst hkk
     unfold DP
     rw [hset i k' e2,if_pos ⟨rfl,rfl⟩,hset (i+1) k' e2,if_neg (by omega)]
     have d1:i<n→0≤cell m l (i+1) k'∧cell m l (i+1) k'≤2*((n:Int) - (i+1)+m - k'):=fun h=>by have:=h1 (i+1) k' (by omega) (by omega) e2; exact ⟨this.1,by have:=this.2.1; omega⟩
     have d2:k'<m→cell m (l.set (i*(m+1)+k') b3) i (k'+1)=cell m l i (k'+1)∧0≤cell m l i (k'+1)∧cell m l i (k'+1)≤2*((n:Int) - i+m - (k'+1)):=fun h=>by have:=h2 (k'+1) (by omega) (by omega); exact ⟨by rw [hset i (k'+1) (by omega),if_neg (by omega)],this.1,by have:=this.2.1; omega⟩
     have d3:i<n→k'<m→cell m (l.set (i*(m+1)+k') b3) (i+1) (k'+1)=cell m l (i+1) (k'+1)∧0≤cell m l (i+1) (k'+1)∧0≤cs i k':=fun h h'=>by
      have:=h1 (i+1) (k'+1) (by omega) (by omega) (by omega)
      obtain ⟨c,_,_,c3⟩:=hcs i k' h h'
      exact ⟨by rw [hset (i+1) (k'+1) (by omega),if_neg (by omega)],this.1,by omega⟩
     generalize cell m (l.set (i*(m+1)+k') b3) (i+1) (k'+1)=y11 at d3 ⊢
     generalize cell m (l.set (i*(m+1)+k') b3) i (k'+1)=y01 at d2 ⊢
     generalize cell m l (i+1) (k'+1)=z11 at d3 hb1
     generalize cell m l i (k'+1)=z01 at d2 hb3
     generalize cell m l (i+1) k'=z10 at d1 hb2 ⊢
     by_cases hin:i<n
     ·rw [if_pos hin] at hb2
      obtain ⟨p1,p2⟩:=d1 hin
      by_cases hkm2:k'<m
      ·rw [if_pos hkm2] at hb3
       rw [if_pos ⟨hin,hkm2⟩] at hb1
       obtain ⟨q1,q2,q3⟩:=d2 hkm2
       obtain ⟨s1,s2,s3⟩:=d3 hin hkm2
       subst q1 s1
       refine ⟨by omega,by omega,fun _ => ?_⟩
       by_cases t3:b3=2+y01
       ·exact .inr (.inr ⟨hkm2,t3⟩)
       by_cases t2:b3=2+z10
       ·exact .inr (.inl ⟨hin,t2⟩)
       ·exact .inl ⟨hin,hkm2,by omega⟩
      ·rw [if_neg hkm2] at hb3
       rw [if_neg (by omega)] at hb1
       exact ⟨by omega,by omega,fun _=>.inr (.inl ⟨hin,by omega⟩)⟩
     ·rw [if_neg hin] at hb2
      rw [if_neg (by omega)] at hb1
      by_cases hkm2:k'<m
      ·rw [if_pos hkm2] at hb3
       obtain ⟨q1,q2,q3⟩:=d2 hkm2
       subst q1
       exact ⟨by omega,by omega,fun _=>.inr (.inr ⟨hkm2,by omega⟩)⟩
      ·rw [if_neg hkm2] at hb3
       exact ⟨by omega,by omega,fun h=>by omega⟩
    ·have hd:=h2 k' (by omega) e2
     by_cases hk'm:k'<m
     ·exact hd.congr (by rw [hset _ _ e2,if_neg (by omega)]) (by rw [hset _ _ (by omega),if_neg (by omega)]) (by rw [hset _ _ e2,if_neg (by omega)]) (by rw [hset _ _ (by omega),if_neg (by omega)])
     ·refine ⟨by rw [hset _ _ e2,if_neg (by omega)]; exact hd.1,by rw [hset _ _ e2,if_neg (by omega)]; exact hd.2.1,fun hor => ?_⟩
      rcases hd.2.2 hor with ⟨_,a,_⟩ | ⟨a,b⟩ | ⟨a,_⟩
      ·omega
      ·exact .inr (.inl ⟨a,by rw [hset _ _ e2,hset _ _ e2,if_neg (by omega),if_neg (by omega)]; exact b⟩)
      ·omega)
  refine ⟨l',l1,l2,?_⟩
  unfold zcg
  rw [hnt,hmx]
  refine za4 (decide_eq_true (by omega)) ((zmF b1 fun j3=>zcS ⟨by omega,by omega⟩ (zcS ⟨by omega,by omega⟩ (zcS ⟨by omega,by omega⟩ (zcS ⟨by omega,by omega⟩ (by rw [← hb0]; exact g1 j3))))).trans ?_)
  refine (zmF b2 g2).trans ?_
  refine (zmF b3 g3).trans ?_
  refine zaR (hat i k hi (by omega)) (zaR (hce i k hi (by omega)) (zcS ⟨by omega,by omega⟩ ?_))
  rw [Int.toNat_natCast]
  exact l3
end
section
variable {t:zai} {w:Nat} {x1:List zBA} {cs:Nat→Nat→Int} {n m:Nat} (hn:n≤256) (hm:m≤256) (hnt:t.columns.length=n) (hmx:x1.length=m)
 (hcs:∀ i k,i<n→k<m→∃ c,t.columns[i]?=some c∧zbi t.keys c (w:Int) (k:Int)=some (cs i k)∧(cs i k=0∨cs i k=3))
include hn hm hnt hmx hcs
theorem zqU {j1:List Int→Option zai}:∀ (ii f:Nat) (l:List Int) (i3:Int),ii≤n+1→ii<f→i3=(ii:Int) - 1→l.length=(n+1)*(m+1)→(∀ i' k',ii≤i'→i'≤n→k'≤m→DP cs n m l i' k') →
  ∃ l',l'.length=(n+1)*(m+1)∧(∀ i' k',i'≤n→k'≤m→DP cs n m l' i' k')∧zbq (fun _ _=>none) (zch t (w:Int) x1 j1) f l i3=j1 l':=by
 intro ii
 induction ii with
 | zero =>
  intro f l i3 _ hf hi hl h1
  cases f with
  | zero=>omega
  | succ f =>
  refine ⟨l,hl,fun i' k' e2 e3=>h1 i' k' (by omega) e2 e3,?_⟩
  rw [zbk]
  unfold zch
  exact zaQ (decide_eq_false (by omega)) rfl
 | succ i ih =>
  intro f l i3 hin hf hi hl h1
  cases f with
  | zero=>omega
  | succ f =>
  obtain rfl:i3=(i:Int):=by omega
  rw [zbk]
  have ih:=fun l' (e1:l'.length=(n+1)*(m+1)) e2=>ih f l' ((i:Int) - 1) (by omega) (by omega) rfl e1 e2
  generalize zbq (fun _ _=>none) (zch t (w:Int) x1 j1) f=ag at ih ⊢
  obtain ⟨l2,a1,a2,a3⟩:=zs8 hn hm hnt hmx hcs (i:=i) (by omega) (j2:=fun at5=>grd (I64 ((i:Int) - 1))<|ag at5 ((i:Int) - 1)) (m+1) zc9 l (m:Int) (by omega) (by unfold zc9; omega) (by omega) hl (fun i' k' e1 e2 e3=>h1 i' k' (by omega) e2 e3) (fun k' e1 e2=>by omega)
  obtain ⟨l',b1,b2,b3⟩:=ih l2 a1 (fun i' k' e1 e2 e3=>a2 i' k' (by omega) e2 e3)
  refine ⟨l',b1,b2,?_⟩
  unfold zch
  rw [hmx]
  refine za4 (decide_eq_true (by omega)) (zcY (a3.trans ?_))
  exact zcS ⟨by omega,by omega⟩ b3
end
theorem zov {w:Nat} (hw:w≤8) {j:List Int→Option zai}:∀ (r f x:Nat),x≤w→w - x≤r→r<f→zbq (fun _ _=>none) (zbS (w:Int) j) f (List.replicate x (-1)) (x:Int)=j (List.replicate w (-1)):=by
 intro r
 induction r with
 | zero =>
  intro f x h1 h2 h3
  cases f with
  | zero=>omega
  | succ f =>
  obtain rfl:x=w:=by omega
  rw [zbk]
  unfold zbS
  exact zaQ (decide_eq_false (by omega)) rfl
 | succ r ih =>
  intro f x h1 h2 h3
  cases f with
  | zero=>omega
  | succ f =>
  rw [zbk]
  by_cases hx:x=w
  ·subst hx
   unfold zbS
   exact zaQ (decide_eq_false (by omega)) rfl
  ·have ih:=ih f (x+1) (by omega) (by omega) (by omega)
   generalize zbq (fun _ _=>none) (zbS (w:Int) j) f=ag at ih ⊢
   unfold zbS
   refine za4 (decide_eq_true (by omega)) (zcS (by rw [List.length_replicate]; omega) (zcS ⟨by omega,by omega⟩ ?_))
   rw [List.replicate_succ'] at ih
   exact ih
theorem znq {keys:List (List zBA)} {w:Nat} {c:zan} (hc:COk keys w c) {k:Int} (hk:k=-1∨∃ ks,keys[w]?=some ks∧0≤k∧k<ks.length):COk keys (w+1) ⟨c.words++[k],[]⟩:=by
 refine ⟨by show (c.words++[k]).length=_; rw [List.length_append,hc.len]; rfl,?_,rfl⟩
 intro v q hq
 have hq:(c.words++[k])[v]?=some q:=hq
 by_cases hv:v<c.words.length
 ·rw [List.getElem?_append_left hv] at hq
  exact hc.ok v q hq
 ·rw [List.getElem?_append_right (by omega)] at hq
  have hv2:v - c.words.length=0:=by
   have:=(List.getElem?_eq_some_iff.1 hq).1
   simp only [List.length_cons,List.length_nil] at this
   omega
  rw [hv2] at hq
  cases hq
  have:v=w:=by have:=hc.len; omega
  subst this
  exact hk
theorem zur (keys:List (List zBA)) (w:Nat):COk keys w ⟨List.replicate w (-1),[]⟩:=by
 refine ⟨List.length_replicate,?_,rfl⟩
 intro v q hq
 exact .inl (List.eq_of_mem_replicate (List.mem_of_getElem? hq))
section
variable {t:zai} {w:Nat} {x1:List zBA} {cs:Nat→Nat→Int} {n m:Nat} (hn:n≤256) (hm:m≤256) (hw:w≤8) (hnt:t.columns.length=n) (hmx:x1.length=m) (hx1:t.keys[w]?=some x1) (hcol:∀ c∈t.columns,COk t.keys w c)
 (hcs:∀ i k,i<n→k<m→∃ c,t.columns[i]?=some c∧zbi t.keys c (w:Int) (k:Int)=some (cs i k)∧(cs i k=0∨cs i k=3))
 {l:List Int} (hl:l.length=(n+1)*(m+1)) (hdp:∀ i' k',i'≤n→k'≤m→DP cs n m l i' k')
include hn hm hw hnt hmx hx1 hcol hcs hl hdp
set_option maxHeartbeats 2000000 in
theorem zq5 {j6:Nat→List zan→Option zai}:∀ (r f d:Nat) (out:List zan) (i k:Nat),i≤n→k≤m→(n - i)+(m - k)≤r→r<f→d=i→out.length≤i+k→(∀ c∈out,COk t.keys (w+1) c) →
    ∃ d' out',(∀ c∈out',COk t.keys (w+1) c)∧zbq (fun _ _ _ _=>none) (zbT t (w:Int) x1 l j6) f d out (i:Int) (k:Int)=j6 d' out':=by
  have hat:=fun (i' k':Nat) (e1:i'≤n) (e2:k'≤m)=>(zwS (l:=l) hn hm e1 e2 hl).1
  have hce:=fun (i' k':Nat) (e1:i'≤n) (e2:k'≤m)=>zsd (l:=l) e1 e2 hl
  intro r
  induction r with
  | zero =>
    intro f d out i k h1 h2 h3 h4 h5 h6 h7
    cases f with
    | zero=>omega
    | succ f =>
    refine ⟨d,out,h7,?_⟩
    rw [zbk]
    unfold zbT
    rw [hnt,hmx]
    exact zcY (zaQ (decide_eq_false (by omega)) (zaQ (decide_eq_false (by omega)) rfl))
  | succ r ih =>
    intro f d out i k h1 h2 h3 h4 h5 h6 h7
    cases f with
    | zero=>omega
    | succ f =>
    rw [zbk]
    by_cases hend:¬ (i<n∨k<m)
    · refine ⟨d,out,h7,?_⟩
      unfold zbT
      rw [hnt,hmx]
      exact zcY (zaQ (decide_eq_false (by omega)) (zaQ (decide_eq_false (by omega)) rfl))
    have hend:i<n∨k<m:=Classical.not_not.1 hend
    have hD:=hdp i k h1 h2
    have hih:=fun d' out' i' k' e1 e2 e3 e4 e5 e6=>ih f d' out' i' k' e1 e2 e3 (by omega) e4 e5 e6
    generalize zbq (fun _ _ _ _=>none) (zbT t (w:Int) x1 l j6) f=ag at hih ⊢
    obtain ⟨b8,hb8,g8⟩:∃ b8:Bool,(b8=true→i<n∧k<m)∧(b8=false→i<n→k<m→cell m l i k≠cs i k+cell m l (i+1) (k+1))∧∀ (j8:Bool→Option zai),(zaL (decide (((i:Int):Int)<(n:Int))) (zaL (decide (((k:Int):Int)<(m:Int))) (zaA (zeD t.columns (i:Int)) fun (x4:zan)=>grd (d=((i:Int):Int).toNat)<|zaA (zbi t.keys x4 (w:Int) (k:Int)) fun (r7:Int)=>grd (I64 ((i:Int)+1))<|grd (I64 ((k:Int)+1))<|zaA (za9 ((i:Int)+1) ((k:Int)+1) l (m:Int)) fun (r8:Int)=>zaA (zeD l r8) fun (q6:Int)=>grd (I64 (r7+q6))<|j8 ((cell m l i k:Int)==(r7+q6))) (j8 false)) (j8 false))=j8 b8:=by
      by_cases hin:i<n
      · by_cases hkm:k<m
        · obtain ⟨c,c1,c2,c3⟩:=hcs i k hin hkm
          have hd:=hdp (i+1) (k+1) (by omega) (by omega)
          refine ⟨_,fun _=>⟨hin,hkm⟩,fun h _ _=>beq_eq_false_iff_ne.1 h,fun j8=>za4 (decide_eq_true (by omega)) (za4 (decide_eq_true (by omega)) (zaR (zbI c1) (zcS (by omega) (zaR c2 (zcS ⟨by omega,by omega⟩ (zcS ⟨by omega,by omega⟩ (zaR (hat (i+1) (k+1) (by omega) (by omega)) (zaR (hce (i+1) (k+1) (by omega) (by omega)) (zcS ⟨?_,?_⟩ rfl)))))))))⟩
          · have:=hd.1; have:=hd.2.1; omega
          · have:=hd.1; have:=hd.2.1; omega
        · exact ⟨false,(fun h=>by cases h),fun _ _ h=>absurd h hkm,fun j8=>za4 (decide_eq_true (by omega)) (zaQ (decide_eq_false (by omega)) rfl)⟩
      · exact ⟨false,(fun h=>by cases h),fun _ h=>absurd h hin,fun j8=>zaQ (decide_eq_false (by omega)) rfl⟩
    obtain ⟨hb8',g8⟩:=g8
    obtain ⟨b9,hb9,hb9',g9⟩:∃ b9:Bool,(b9=true→i<n)∧(b9=false→i<n→cell m l i k≠2+cell m l (i+1) k)∧∀ (j9:Bool→Option zai),(zaL (decide (((i:Int):Int)<(n:Int))) (grd (I64 ((i:Int)+1))<|zaA (za9 ((i:Int)+1) (k:Int) l (m:Int)) fun (r9:Int)=>zaA (zeD l r9) fun (q7:Int)=>grd (I64 (2+q7))<|j9 ((cell m l i k:Int)==(2+q7))) (j9 false))=j9 b9:=by
      by_cases hin:i<n
      · have hd:=hdp (i+1) k (by omega) (by omega)
        refine ⟨_,fun _=>hin,fun h _=>beq_eq_false_iff_ne.1 h,fun j9=>za4 (decide_eq_true (by omega)) (zcS ⟨by omega,by omega⟩ (zaR (hat (i+1) k (by omega) (by omega)) (zaR (hce (i+1) k (by omega) (by omega)) (zcS ⟨?_,?_⟩ rfl))))⟩
        · have:=hd.1; have:=hd.2.1; omega
        · have:=hd.1; have:=hd.2.1; omega
      · exact ⟨false,(fun h=>by cases h),fun _ h=>absurd h hin,fun j9=>zaQ (decide_eq_false (by omega)) rfl⟩
    have hgo:∃ d' out',(∀ c∈out',COk t.keys (w+1) c)∧(zaA (za9 (i:Int) (k:Int) l (m:Int)) fun (r6:Int)=>zaA (zeD l r6) fun (q5:Int) =>
      zcd (fun (j8:Bool→Option zai)=>zaL (decide (((i:Int):Int)<(n:Int))) (zaL (decide (((k:Int):Int)<(m:Int))) (zaA (zeD t.columns (i:Int)) fun (x4:zan)=>grd (d=((i:Int):Int).toNat)<|zaA (zbi t.keys x4 (w:Int) (k:Int)) fun (r7:Int)=>grd (I64 ((i:Int)+1))<|grd (I64 ((k:Int)+1))<|zaA (za9 ((i:Int)+1) ((k:Int)+1) l (m:Int)) fun (r8:Int)=>zaA (zeD l r8) fun (q6:Int)=>grd (I64 (r7+q6))<|j8 ((q5:Int)==(r7+q6))) (j8 false)) (j8 false)) (fun (x3:Bool) =>
      zaL (x3) (zaA (zeD t.columns (i:Int)) fun (x5:zan)=>grd (d=((i:Int):Int).toNat)<|grd (x5.words.length+1≤2147483648)<|grd (out.length+1≤2147483648)<|grd (I64 ((i:Int)+1))<|grd (I64 ((k:Int)+1))<|ag (d+1) (out++[(⟨x5.words++[(k:Int)],([]:List Int)⟩:zan)]) ((i:Int)+1) ((k:Int)+1))
       (zcd (fun (j9:Bool→Option zai)=>zaL (decide (((i:Int):Int)<(n:Int))) (grd (I64 ((i:Int)+1))<|zaA (za9 ((i:Int)+1) (k:Int) l (m:Int)) fun (r9:Int)=>zaA (zeD l r9) fun (q7:Int)=>grd (I64 (2+q7))<|j9 ((q5:Int)==(2+q7))) (j9 false)) (fun (x6:Bool) =>
        zaL (x6) (zaA (zeD t.columns (i:Int)) fun (x7:zan)=>grd (d=((i:Int):Int).toNat)<|grd (x7.words.length+1≤2147483648)<|grd (out.length+1≤2147483648)<|grd (I64 ((i:Int)+1))<|ag (d+1) (out++[(⟨x7.words++[(-1)],([]:List Int)⟩:zan)]) ((i:Int)+1) (k:Int))
         (zcd (fun (j10:(List Int)→Option zai)=>zbq (fun _ _=>none) (zbS (w:Int) j10) zc9 ([]:List Int) 0) (fun (words1:List Int)=>grd (words1.length+1≤2147483648)<|grd (out.length+1≤2147483648)<|grd (I64 ((k:Int)+1))<|ag d (out++[(⟨words1++[(k:Int)],([]:List Int)⟩:zan)]) (i:Int) ((k:Int)+1)))))))=j6 d' out':=by
      have hmem:∀ c:zan,COk t.keys (w+1) c→∀ y∈out++[c],COk t.keys (w+1) y:=fun c hc y hy=>by
        rcases List.mem_append.1 hy with hy | hy
        · exact h7 y hy
        · rw [List.mem_singleton.1 hy]; exact hc
      have hlo:∀ c:zan,(out++[c]).length=out.length+1:=fun c=>by rw [List.length_append]; rfl
      cases hx3:b8 with
      | true =>
        obtain ⟨hin,hkm⟩:=hb8 hx3
        obtain ⟨c,hc⟩:∃ c,t.columns[i]?=some c:=⟨_,List.getElem?_eq_getElem (by omega)⟩
        have hcc:=hcol c (List.mem_of_getElem? hc)
        have hcl:=hcc.len
        obtain ⟨d',out',o1,o2⟩:=hih (d+1) (out++[⟨c.words++[(k:Int)],[]⟩]) (i+1) (k+1) (by omega) (by omega) (by omega) (by omega) (by rw [hlo]; omega) (hmem _ (znq hcc (.inr ⟨x1,hx1,by omega,by omega⟩)))
        refine ⟨d',out',o1,zaR (hat i k h1 h2) (zaR (hce i k h1 h2) ((zmF b8 g8).trans ?_))⟩
        rw [hx3]
        exact za4 rfl (zaR (zbI hc) (zcS (by omega) (zcS (by omega) (zcS (by omega) (zcS ⟨by omega,by omega⟩ (zcS ⟨by omega,by omega⟩ o2))))))
      | false =>
        cases hx6:b9 with
        | true =>
          have hin:=hb9 hx6
          obtain ⟨c,hc⟩:∃ c,t.columns[i]?=some c:=⟨_,List.getElem?_eq_getElem (by omega)⟩
          have hcc:=hcol c (List.mem_of_getElem? hc)
          have hcl:=hcc.len
          obtain ⟨d',out',o1,o2⟩:=hih (d+1) (out++[⟨c.words++[(-1)],[]⟩]) (i+1) k (by omega) (by omega) (by omega) (by omega) (by rw [hlo]; omega) (hmem _ (znq hcc (.inl rfl)))
          refine ⟨d',out',o1,zaR (hat i k h1 h2) (zaR (hce i k h1 h2) ((zmF b8 g8).trans ?_))⟩
          rw [hx3]
          refine zaQ rfl ((zmF b9 g9).trans ?_)
          rw [hx6]
          exact za4 rfl (zaR (zbI hc) (zcS (by omega) (zcS (by omega) (zcS (by omega) (zcS ⟨by omega,by omega⟩ o2)))))
        | false =>
          have hkm:k<m:=by
            rcases hD.2.2 hend with ⟨a,b,c⟩ | ⟨a,b⟩ | ⟨a,_⟩
            · exact absurd c (hb8' hx3 a b)
            · exact absurd b (hb9' hx6 a)
            · exact a
          obtain ⟨d',out',o1,o2⟩:=hih d (out++[⟨List.replicate w (-1)++[(k:Int)],[]⟩]) i (k+1) (by omega) (by omega) (by omega) (by omega) (by rw [hlo]; omega) (hmem _ (znq (zur t.keys w) (.inr ⟨x1,hx1,by omega,by omega⟩)))
          refine ⟨d',out',o1,zaR (hat i k h1 h2) (zaR (hce i k h1 h2) ((zmF b8 g8).trans ?_))⟩
          rw [hx3]
          refine zaQ rfl ((zmF b9 g9).trans ?_)
          rw [hx6]
          refine zaQ rfl (zcY ((zov hw (w+1) zc9 0 (by omega) (by omega) (by unfold zc9; omega)).trans ?_))
          exact zcS (by rw [List.length_replicate]; omega) (zcS (by omega) (zcS ⟨by omega,by omega⟩ o2))
    obtain ⟨d',out',o1,o2⟩:=hgo
    refine ⟨d',out',o1,?_⟩
    unfold zbT
    rw [hnt,hmx]
    refine zcY ?_
    by_cases hin:i<n
    · exact za4 (decide_eq_true (by omega)) o2
    · exact zaQ (decide_eq_false (by omega)) (za4 (decide_eq_true (by omega)) o2)
end
theorem zvP {t:zai} {w:Nat} {x1:List zBA} (hn:t.columns.length≤256) (hm:x1.length≤256) (hw:w≤8) (hx1:t.keys[w]?=some x1) (hcol:∀ c∈t.columns,COk t.keys w c):∃ out,zdV t (w:Int)=some ⟨t.names,t.texts,t.spans,t.keys,out⟩∧∀ c∈out,COk t.keys (w+1) c:=by
 obtain ⟨n,hnt⟩:∃ n,t.columns.length=n:=⟨_,rfl⟩
 obtain ⟨m,hmx⟩:∃ m,x1.length=m:=⟨_,rfl⟩
 rw [hnt] at hn
 rw [hmx] at hm
 have hcs:∀ i k,i<n→k<m→∃ c,t.columns[i]?=some c∧zbi t.keys c (w:Int) (k:Int)=some ((t.columns[i]?.bind fun c=>zbi t.keys c (w:Int) (k:Int)).getD 3)∧((t.columns[i]?.bind fun c=>zbi t.keys c (w:Int) (k:Int)).getD 3=0∨(t.columns[i]?.bind fun c=>zbi t.keys c (w:Int) (k:Int)).getD 3=3):=by
  intro i k hi hk
  obtain ⟨c,hc⟩:∃ c,t.columns[i]?=some c:=⟨_,List.getElem?_eq_getElem (by omega)⟩
  have hcc:=hcol c (List.mem_of_getElem? hc)
  obtain ⟨r,r1,r2⟩:=ztB hcc.ok (by have:=hcc.len; omega) hx1 (k:=k) (by omega)
  refine ⟨c,hc,?_⟩
  rw [hc]
  show _=some ((zbi t.keys c (w:Int) (k:Int)).getD 3)∧_
  show _=_∧((zbi t.keys c (w:Int) (k:Int)).getD 3=0∨(zbi t.keys c (w:Int) (k:Int)).getD 3=3)
  rw [r1]
  exact ⟨rfl,r2⟩
 have hmul:(n+1)*(m+1)≤257*257:=Nat.mul_le_mul (by omega) (by omega)
 have e:(((n:Int)+1)*((m:Int)+1))=(((n+1)*(m+1):Nat):Int):=by
  rw [Int.natCast_mul,Int.natCast_add,Int.natCast_add]
  rfl
 unfold zdV
 obtain ⟨l,l1,l2,l3⟩:=zqU hn hm hnt hmx hcs (j1:=fun (at1:List Int)=>zcd (fun (j6:Nat→(List zan)→Option zai)=>zbq (fun _ _ _ _=>none) (zbT t (w:Int) x1 at1 j6) zc9 0 ([]:List zan) 0 0) (fun (d1:Nat) (out1:List zan)=>some (⟨t.names,t.texts,t.spans,t.keys,out1⟩:zai))) (n+1) zc9 (List.replicate (((n:Int)+1)*((m:Int)+1):Int).toNat 0) (n:Int) (by omega) (by unfold zc9; omega) (by omega) (by rw [List.length_replicate,e,Int.toNat_natCast]) (fun i' k' e1 e2=>by omega)
 obtain ⟨d',out',o1,o2⟩:=zq5 hn hm hw hnt hmx hx1 hcol hcs l1 l2 (j6:=fun (d1:Nat) (out1:List zan)=>some (⟨t.names,t.texts,t.spans,t.keys,out1⟩:zai)) (n+m) zc9 0 [] 0 0 (by omega) (by omega) (by omega) (by unfold zc9; omega) rfl (by simp) (fun c hc=>by cases hc)
 refine ⟨out',zaR (zbI hx1) (zcY ?_),o1⟩
 rw [hnt,hmx]
 refine zcS ⟨by omega,by omega⟩ (zcS ⟨by omega,by omega⟩ (zcS ⟨by rw [e]; omega,by rw [e]; omega⟩ (zcS ⟨by rw [e]; omega,by rw [e]; omega⟩ (l3.trans (zcY o2)))))
def tab:List (Int×Int×Int):=[(65,768,192),(69,768,200),(73,768,204),(79,768,210),(85,768,217),(97,768,224),(101,768,232),(105,768,236),(111,768,242),(117,768,249),(1045,768,1024),(1048,768,1037),(1077,768,1104),(1080,768,1117),(65,769,193),(69,769,201),(73,769,205),(79,769,211),(85,769,218),(89,769,221),(97,769,225),(101,769,233),(105,769,237),(111,769,243),(117,769,250),(121,769,253),(67,769,262),(76,769,313),(78,769,323),(82,769,340),(83,769,346),(90,769,377),(99,769,263),(108,769,314),(110,769,324),(114,769,341),(115,769,347),(122,769,378),(913,769,902),(917,769,904),(919,769,905),(921,769,906),(927,769,908),(933,769,910),(937,769,911),(945,769,940),(949,769,941),(951,769,942),(953,769,943),(959,769,972),(965,769,973),(969,769,974),(1043,769,1027),(1050,769,1036),(1075,769,1107),(1082,769,1116),(970,769,912),(971,769,944),(65,770,194),(69,770,202),(73,770,206),(79,770,212),(85,770,219),(97,770,226),(101,770,234),(105,770,238),(111,770,244),(117,770,251),(67,770,264),(71,770,284),(72,770,292),(74,770,308),(83,770,348),(87,770,372),(89,770,374),(99,770,265),(103,770,285),(104,770,293),(106,770,309),(115,770,349),(119,770,373),(121,770,375),(65,771,195),(78,771,209),(79,771,213),(97,771,227),(110,771,241),(111,771,245),(73,771,296),(85,771,360),(105,771,297),(117,771,361),(65,772,256),(69,772,274),(73,772,298),(79,772,332),(85,772,362),(97,772,257),(101,772,275),(105,772,299),(111,772,333),(117,772,363),(65,774,258),(69,774,276),(71,774,286),(73,774,300),(79,774,334),(85,774,364),(97,774,259),(101,774,277),(103,774,287),(105,774,301),(111,774,335),(117,774,365),(1048,774,1049),(1059,774,1038),(1080,774,1081),(1091,774,1118),(67,775,266),(69,775,278),(71,775,288),(73,775,304),(90,775,379),(99,775,267),(101,775,279),(103,775,289),(122,775,380),(65,776,196),(69,776,203),(73,776,207),(79,776,214),(85,776,220),(97,776,228),(101,776,235),(105,776,239),(111,776,246),(117,776,252),(121,776,255),(89,776,376),(1045,776,1025),(1030,776,1031),(1077,776,1105),(1110,776,1111),(921,776,938),(933,776,939),(953,776,970),(965,776,971),(65,778,197),(85,778,366),(97,778,229),(117,778,367),(79,779,336),(85,779,368),(111,779,337),(117,779,369),(67,780,268),(68,780,270),(69,780,282),(76,780,317),(78,780,327),(82,780,344),(83,780,352),(84,780,356),(90,780,381),(99,780,269),(100,780,271),(101,780,283),(108,780,318),(110,780,328),(114,780,345),(115,780,353),(116,780,357),(122,780,382),(67,807,199),(71,807,290),(75,807,310),(76,807,315),(78,807,325),(82,807,342),(83,807,350),(84,807,354),(99,807,231),(103,807,291),(107,807,311),(108,807,316),(110,807,326),(114,807,343),(115,807,351),(116,807,355),(65,808,260),(69,808,280),(73,808,302),(85,808,370),(97,808,261),(101,808,281),(105,808,303),(117,808,371)]
def zve:List (zaz×Int):=tab.map fun t=>(⟨t.1,t.2.1⟩,t.2.2)
def tabS:List (Int×zaz):=tab.map fun t=>(t.2.2,⟨t.1,t.2.1⟩)
theorem zqJ:zgd=some (zve,tabS):=by decide +kernel
def mrk (r:Int):Bool:=decide (768≤r∧r≤879)
theorem zeX (r:Int) (h:zcT r=true):0≤r∧r<1120∧¬ (768≤r∧r≤879):=by
 unfold zcT at h
 rw [Bool.or_eq_true,zkr,zmn] at h
 unfold zkt zlg at h
 refine ⟨?_,?_,?_⟩ <;> omega
theorem zvR (r:Int):((kind r:Int)==1)=zcT r:=by
 cases h:zcT r with
 | true =>
  have:=zeX r h
  have e:kind r=1:=by unfold kind zoP; rw [if_neg (by omega),if_pos h]
  rw [e]; rfl
 | false =>
  rw [beq_eq_false_iff_ne]
  unfold kind zoP
  rw [h]
  simp only [Bool.false_eq_true,if_false]
  (repeat' split) <;> omega
theorem zvQ (r:Int):((kind r:Int)==2)=mrk r:=by
 unfold mrk
 by_cases h:768≤r∧r≤879
 ·rw [decide_eq_true h,beq_iff_eq]
  have hl:zcT r=false:=by
   cases h':zcT r with
   | false=>rfl
   | true=>exact absurd h (zeX r h').2.2
  unfold kind zoP
  rw [if_neg (by omega),hl,if_neg (by simp),if_pos h]
 ·rw [decide_eq_false h,beq_eq_false_iff_ne]
  unfold kind zoP
  (repeat' split) <;> omega
theorem zlO (u:zaC) (h:I32 u.base):zc3 u=some (zcT u.base):=by
 unfold zc3
 by_cases h0:0≤u.base
 ·exact za4 (decide_eq_true h0) (zcS h (congrArg some (zvR _)))
 ·refine zaQ (decide_eq_false h0) (congrArg some ?_)
  cases h':zcT u.base with
  | false=>rfl
  | true=>exact absurd (zeX _ h').1 h0
def lows:List (Int×Int):=[(790,793),(796,800),(803,819),(825,828),(837,841),(845,846),(851,854),(857,858)]
def zux (r:Int):Bool:=lows.any fun p=>decide (p.1≤r)&&decide (r≤p.2)
theorem zvO (r:Int):zgR r=some (zux r):=by
 have h:r<790∨(790≤r∧r≤793)∨(793<r∧r<796)∨(796≤r∧r≤800)∨(800<r∧r<803)∨(803≤r∧r≤819)∨(819<r∧r<825)∨(825≤r∧r≤828)∨(828<r∧r<837)∨(837≤r∧r≤841)∨(841<r∧r<845)∨(845≤r∧r≤846)∨(846<r∧r<851)∨(851≤r∧r≤854)∨(854<r∧r<857)∨(857≤r∧r≤858)∨858<r:=by omega
 unfold zgR
 simp only [zcd,zaL,zux,lows,List.any_cons,List.any_nil,Bool.or_false]
 rcases h with h | h | h | h | h | h | h | h | h | h | h | h | h | h | h | h | h <;> simp (disch:=omega) only [decide_eq_true,decide_eq_false,cond_true,cond_false,Bool.and_true,Bool.and_false,Bool.true_and,Bool.false_and,Bool.true_or,Bool.false_or,Bool.or_true,Bool.or_false]
section
variable {κ ν:Type} [DecidableEq κ]
theorem zjm {k:κ} {v:ν}:∀ {L:List (κ×ν)},zgP k L=some v→(k,v)∈L
 | [],h=>by cases h
 | p::L,h=>by
  unfold zgP at h
  split at h
  ·rename_i e; cases h; rw [e]; exact List.mem_cons_self ..
  ·exact List.mem_cons_of_mem _ (zjm h)
end
def zhF (rcall:Int→Option (List Int)) (r:Int):Option (List Int) :=
 match zgP r tabS with
 | none=>some [r]
 | some p=>zaA (rcall p.e0) fun l=>grd (l.length+1≤2147483648)<|some (l++[p.e1])
theorem znm (rcall:(List (Int×zaz))→Int→Option (List Int)) (r:Int):zen rcall tabS r=zhF (rcall tabS) r:=by
 unfold zen zhF
 cases zgP r tabS with
 | none=>exact za4 rfl rfl
 | some p=>exact zaQ rfl rfl
def spF:Nat→Int→Option (List Int)
 | 0,_=>none
 | n+1,r=>zhF (spF n) r
theorem zn8:∀ (n:Nat) (r:Int),zbq (fun _ _=>none) zen n tabS r=spF n r
 | 0,r=>rfl
 | n+1,r=>by
  rw [zoN,znm]
  show zhF _ r=zhF _ r
  congr 1; funext x; exact zn8 n x
def zel (r:Int):List Int :=
 match zgP r tabS with
 | none=>[r]
 | some p=>(match zgP p.e0 tabS with
  | none=>[p.e0]
  | some q=>[q.e0,q.e1])++[p.e1]
def zw6:Bool:=tabS.all fun p=>match zgP p.2.e0 tabS with | none=>true | some q=>decide (zgP q.e0 tabS=none)
theorem zty:zw6=true:=by decide +kernel
theorem zpe (n:Nat) (r:Int):spF (n+3) r=some (zel r):=by
 show zhF (spF (n+2)) r=_
 unfold zhF zel
 cases h:zgP r tabS with
 | none=>rfl
 | some p =>
  have hd:=List.all_eq_true.1 zty _ (zjm h)
  simp only at hd
  refine zaR (a:=match zgP p.e0 tabS with | none=>[p.e0] | some q=>[q.e0,q.e1]) ?_ (zcS (by cases zgP p.e0 tabS <;> simp) rfl)
  show zhF (spF (n+1)) p.e0=_
  unfold zhF
  cases h2:zgP p.e0 tabS with
  | none=>rfl
  | some q =>
   rw [h2] at hd
   simp only [decide_eq_true_eq] at hd
   refine zaR (a:=[q.e0]) ?_ (zcS (by simp) rfl)
   show zhF (spF n) q.e0=_
   unfold zhF
   rw [hd]
theorem zqT (r:Int):zeZ tabS r=some (zel r):=by
 unfold zeZ
 rw [zn8]
 obtain ⟨n,hn,_⟩:=zpQ 3 (by omega)
 rw [hn]; exact zpe n r
def itG (s:zBA) (p:Pc):ziJ:=⟨if p.broken then -1 else (p.r:Int),s.extract p.i (p.i+p.w),p.i⟩
def zkp (s:zBA):List ziJ:=(pcs s.data.toList).map (itG s)
theorem zsQ {s:zBA} {p:Pc} (hp:p∈pcs s.data.toList):p.i+p.w≤s.size:=by
 obtain ⟨g1,g2,hok⟩:=zf6 s.data.toList p hp
 have hlen:s.data.toList.length=s.size:=by rw [Array.length_toList]; rfl
 omega
theorem zjG (s:zBA):(pcs s.data.toList).length≤s.size:=by
 have:=ziy s; unfold zjl at this; simpa using this
abbrev Itm:=ziJ
def isL (x:Itm):Bool:=zcT x.Rune
def isM (x:Itm):Bool:=mrk x.Rune
def zvh (x:Itm):Bool:=zux x.Rune
theorem zgF {r:Int} (h:mrk r=true):zcT r=false:=by
 cases e:zcT r with
 | false=>rfl
 | true=>have:=zeX r e; unfold mrk at h; simp at h; omega
def zuo (r:Int):Bool:=match zel r with
 | []=>false
 | b::ms=>zcT b&&decide (zgP b tabS=none)&&ms.all mrk&&decide ((b::ms).length≤3)
theorem zun:(tabS.all fun p=>zuo p.1)=true:=by decide +kernel
theorem zsv:(tabS.all fun p=>decide (0≤p.1∧p.1≤2000∧0≤p.2.e0∧p.2.e0≤2000∧0≤p.2.e1∧p.2.e1≤2000)&&zcT p.1)=true:=by decide +kernel
theorem ziA {r:Int} (h:zcT r=true):∃ b ms,zel r=b::ms∧zcT b=true∧zgP b tabS=none∧(∀ m∈ms,mrk m=true)∧ms.length≤2:=by
 cases e:zgP r tabS with
 | none=>exact ⟨r,[],by unfold zel; rw [e],h,e,by simp,by simp⟩
 | some p =>
  have h1:=List.all_eq_true.1 zun _ (zjm e)
  unfold zuo at h1
  simp only at h1
  cases hp:zel r with
  | nil=>rw [hp] at h1; cases h1
  | cons b ms =>
   rw [hp] at h1
   simp only [Bool.and_eq_true,decide_eq_true_eq,List.all_eq_true,List.length_cons] at h1
   exact ⟨b,ms,rfl,h1.1.1.1,h1.1.1.2,h1.1.2,by omega⟩
theorem zmv (r:Int):(zel r).length≤3∧1≤(zel r).length:=by
 unfold zel
 (repeat' split) <;> simp
theorem zn1 {k:Int} {p:zaz} (h:zgP k tabS=some p):(0≤p.e0∧p.e0≤2000)∧(0≤p.e1∧p.e1≤2000)∧zcT k=true:=by
 have:=List.all_eq_true.1 zsv _ (zjm h)
 simp only [Bool.and_eq_true,decide_eq_true_eq] at this
 obtain ⟨⟨h1,h2,h3,h4,h5,h6⟩,h7⟩:=this
 exact ⟨⟨h3,h4⟩,⟨h5,h6⟩,h7⟩
theorem zmw {r:Int} (h:I32 r):∀ y∈zel r,I32 y:=by
 intro y hy
 unfold zel at hy
 split at hy
 ·simp at hy; subst hy; exact h
 ·rename_i p hp
  obtain ⟨h1,h2,_⟩:=zn1 hp
  split at hy
  ·simp at hy; rcases hy with rfl | rfl <;> exact ⟨by omega,by omega⟩
  ·rename_i q hq
   obtain ⟨h3,h4,_⟩:=zn1 hq
   simp at hy; rcases hy with rfl | rfl | rfl <;> exact ⟨by omega,by omega⟩
def clF:Option (Itm×List Itm)→List Itm→List (Itm×List Itm)
 | none,[]=>[]
 | some c,[]=>[c]
 | none,x::xs=>clF (some (x,[])) xs
 | some c,x::xs=>if isL c.1&&isM x then clF (some (c.1,c.2++[x])) xs else c::clF (some (x,[])) xs
def cl (xs:List Itm):List (Itm×List Itm):=clF none xs
def loI (ms:List Itm):List Itm:=ms.filter zvh
def hiI (ms:List Itm):List Itm:=ms.filter fun x=>!zvh x
def apI (x:Itm):List Itm:=if isL x then (zel x.Rune).map fun r=>⟨r,Utf8.encode r,x.At⟩ else [x]
def apL (l:List Itm):List Itm:=l.flatMap apI
theorem ztL (x:Itm):(apI x).length≤3:=by
 unfold apI
 split
 ·simp; exact (zmv _).1
 ·simp
theorem ztK (l:List Itm):(apL l).length≤3*l.length:=by
 unfold apL
 induction l with
 | nil=>simp
 | cons x l ih=>rw [List.flatMap_cons,List.length_append,List.length_cons]; have:=ztL x; omega
def zl7 (b:zBA):Int:=((b.data.toList.headD 0).toNat:Int)
def toU (c:Itm×List Itm):zaC:=if c.1.Rune<0 then ⟨c.1.At,zl7 c.1.Text,-1,[],[]⟩ else ⟨c.1.At,0,c.1.Rune,(loI c.2).map (·.Rune),(hiI c.2).map (·.Rune)⟩
def zeN (u:zaC) (r:Int):zaC:=if zux r then ⟨u.at_,u.broken,u.base,u.low++[r],u.high⟩ else ⟨u.at_,u.broken,u.base,u.low,u.high++[r]⟩
theorem zrY (u:zaC) (r:Int) (h1:u.low.length≤2000000000) (h2:u.high.length≤2000000000):zd0 u r=some (zeN u r):=by
 unfold zd0
 refine zaR (zvO r) ?_
 unfold zeN
 cases zux r with
 | true=>exact za4 rfl (zcS (by omega) rfl)
 | false=>exact zaQ rfl (zcS (by omega) rfl)
theorem zoc (x:Itm) (hx:0≤x.Rune) (ms:List Itm) (y:Itm):zeN (toU (x,ms)) y.Rune=toU (x,ms++[y]):=by
 unfold zeN toU loI hiI
 simp only [if_neg (show ¬ x.Rune<0 by omega),List.filter_append]
 show (if zvh y then _ else _)=_
 cases h:zvh y <;> simp [h]
theorem zoL (u:zaC) (ms:List Int) (r6:List Int) (b:Int) (hr:r6=b::ms) (hl:u.low.length+u.high.length+ms.length≤1000000000) (J:Int→Int→Int→(List Int)→(List Int)→Option (List zaC)) :
  zbq (fun _ _ _ _ _ _=>none) (zdx J r6) zc9 u.at_ u.broken u.base u.low u.high 0=J (ms.foldl zeN u).at_ (ms.foldl zeN u).broken (ms.foldl zeN u).base (ms.foldl zeN u).low (ms.foldl zeN u).high:=by
 have hc:zp9 r6 1 (r6.length:Int)=ms:=by
  subst hr; unfold zp9; simp
 have key:∀ (n k:Nat) (u:zaC),k≤ms.length→ms.length - k<n→u.low.length+u.high.length+(ms.length - k)≤1000000000 →
   zbq (fun _ _ _ _ _ _=>none) (zdx J r6) n u.at_ u.broken u.base u.low u.high (k:Int)=J ((ms.drop k).foldl zeN u).at_ ((ms.drop k).foldl zeN u).broken ((ms.drop k).foldl zeN u).base ((ms.drop k).foldl zeN u).low ((ms.drop k).foldl zeN u).high:=by
  intro n
  induction n with
  | zero=>intro k u _ h; omega
  | succ n ih =>
   intro k u hk hn hb
   rw [zoN]
   generalize zbq (fun _ _ _ _ _ _=>none) (zdx J r6) n=ag at ih ⊢
   unfold zdx
   rw [hc]
   by_cases h:k<ms.length
   ·have hx:ms[k]?=some ms[k]:=List.getElem?_eq_getElem h
    refine za4 (zsX hx) (zaR (zpE hx) (zaR (zrY u _ (by omega) (by omega)) (zcS (zmE (by omega)) ?_)))
    have hm:(zeN u ms[k]).low.length+(zeN u ms[k]).high.length=u.low.length+u.high.length+1:=by
     unfold zeN; split <;> simp <;> omega
    have:=ih (k+1) (zeN u ms[k]) (by omega) (by omega) (by omega)
    push_cast at this
    rw [this,List.drop_eq_getElem_cons h]; rfl
   ·have:k=ms.length:=by omega
    subst this
    exact zaQ zsY (by rw [List.drop_length]; rfl)
 have:=key zc9 0 u (Nat.zero_le _) (by have:=zoo (n:=ms.length) (by omega); omega) (by omega)
 simpa using this
def zmZ (s:zBA) (l:List zaC) (p:zaY):List zaC :=
 if p.Broken then l++[⟨p.At,(znv s p.At).getD 0,-1,[],[]⟩]
 else match l.getLast? with
  | some u=>if zcT u.base&&mrk p.Rune then l.set (l.length - 1) (zeN u p.Rune) else l++[if zcT p.Rune then (zel p.Rune).tail.foldl zeN ⟨p.At,0,(zel p.Rune).headD 0,[],[]⟩ else ⟨p.At,0,p.Rune,[],[]⟩]
  | none=>l++[if zcT p.Rune then (zel p.Rune).tail.foldl zeN ⟨p.At,0,(zel p.Rune).headD 0,[],[]⟩ else ⟨p.At,0,p.Rune,[],[]⟩]
def zvk (k:Nat) (l:List zaC):Prop:=l.length≤k∧∀ u∈l,u.low.length+u.high.length≤3*k∧I32 u.base
theorem zmD (u:zaC) (r:Int):(zeN u r).low.length+(zeN u r).high.length=u.low.length+u.high.length+1∧(zeN u r).base=u.base:=by
 unfold zeN; split <;> simp <;> omega
theorem zoM (ms:List Int):∀ u:zaC,(ms.foldl zeN u).low.length+(ms.foldl zeN u).high.length=u.low.length+u.high.length+ms.length∧(ms.foldl zeN u).base=u.base:=by
 induction ms with
 | nil=>intro u; simp
 | cons m ms ih=>intro u; have:=ih (zeN u m); have h2:=zmD u m; rw [List.foldl_cons]; simp only [List.length_cons]; constructor; omega; rw [this.2,h2.2]
theorem zpB (p:zaY) (hp:I32 p.Rune) (k:Nat):((if zcT p.Rune then (zel p.Rune).tail.foldl zeN ⟨p.At,0,(zel p.Rune).headD 0,[],[]⟩ else ⟨p.At,0,p.Rune,[],[]⟩:zaC).low.length+(if zcT p.Rune then (zel p.Rune).tail.foldl zeN ⟨p.At,0,(zel p.Rune).headD 0,[],[]⟩ else ⟨p.At,0,p.Rune,[],[]⟩:zaC).high.length≤3*(k+1))∧I32 (if zcT p.Rune then (zel p.Rune).tail.foldl zeN ⟨p.At,0,(zel p.Rune).headD 0,[],[]⟩ else ⟨p.At,0,p.Rune,[],[]⟩:zaC).base:=by
 cases h:zcT p.Rune with
 | false=>simp only [Bool.false_eq_true,if_false]; exact ⟨by simp,hp⟩
 | true =>
  simp only [if_true]
  have h1:=zoM (zel p.Rune).tail ⟨p.At,0,(zel p.Rune).headD 0,[],[]⟩
  have h2:=zmv p.Rune
  have h3:(zel p.Rune).tail.length≤2:=by rw [List.length_tail]; omega
  refine ⟨by rw [h1.1]; simp; omega,?_⟩
  rw [h1.2]
  have h4:=zmw hp
  cases hq:zel p.Rune with
  | nil=>rw [hq] at h2; simp at h2
  | cons b ms=>exact h4 b (by rw [hq]; exact List.mem_cons_self ..)
theorem zrz (s:zBA) (k:Nat) (p:zaY) (l:List zaC) (hp:I32 p.Rune) (h:zvk k l):zvk (k+1) (zmZ s l p):=by
 obtain ⟨h1,h2⟩:=h
 have app:∀ u:zaC,(u.low.length+u.high.length≤3*(k+1)∧I32 u.base)→zvk (k+1) (l++[u]):=fun u hu=>⟨by simp; omega,fun v hv=>by
  rcases List.mem_append.1 hv with hv | hv
  ·have:=h2 v hv; exact ⟨by omega,this.2⟩
  ·simp at hv; subst hv; exact hu⟩
 unfold zmZ
 split
 ·exact app _ ⟨by simp,(show I32 (-1) from ⟨by omega,by omega⟩)⟩
 ·split
  ·rename_i u hu
   split
   ·have hm:=List.mem_of_getLast? hu
    refine ⟨by simp; omega,fun v hv => ?_⟩
    rcases List.mem_or_eq_of_mem_set hv with hv | rfl
    ·have:=h2 v hv; exact ⟨by omega,this.2⟩
    ·have:=h2 u hm; have h3:=zmD u p.Rune; exact ⟨by omega,by rw [h3.2]; exact this.2⟩
   ·exact app _ (zpB p hp k)
  ·exact app _ (zpB p hp k)
theorem zoy (s:zBA) (hs:s.size≤65536):zfn s=some (((pcs s.data.toList).map pcG).foldl (zmZ s) []):=by
 unfold zfn
 refine zcY (zaR zqJ (zaR (a:=s) rfl (zaR (zsP s (by omega)) (zcY ?_))))
 have hc:=zjG s
 have hr:∀ p∈(pcs s.data.toList).map pcG,I32 p.Rune∧(p.Broken=true→znv s p.At=some ((znv s p.At).getD 0)):=by
  intro p hp
  obtain ⟨q,hq,rfl⟩:=List.mem_map.1 hp
  obtain ⟨g1,g2,hok⟩:=zf6 s.data.toList q hq
  have hv:=hok.valid
  have hlen:s.data.toList.length=s.size:=by rw [Array.length_toList]; rfl
  refine ⟨⟨by simp only [pcG]; omega,by simp only [pcG]; omega⟩,fun _ => ?_⟩
  have hw:=hok.pos
  rw [show (pcG q).At=(q.i:Int) from rfl,zpP (n:=q.i) rfl (by omega)]; rfl
 have key:∀ (ps:List zaY) (k:Nat) (l:List zaC),zvk k l→k+ps.length≤65536→(∀ p∈ps,I32 p.Rune∧(p.Broken=true→znv s p.At=some ((znv s p.At).getD 0)))→zbZ (some:List zaC→_) (zd4 s (zve,tabS)) ps l=some (ps.foldl (zmZ s) l):=by
  intro ps
  induction ps with
  | nil=>intro k l _ _ _; rfl
  | cons p ps ih =>
   intro k l hb hk hp
   obtain ⟨hp1,hp2⟩:=hp p (List.mem_cons_self ..)
   obtain ⟨hb1,hb2⟩:=hb
   simp only [List.length_cons] at hk
   rw [zb3,List.foldl_cons,← ih (k+1) (zmZ s l p) (zrz s k p l hp1 ⟨hb1,hb2⟩) (by omega) (fun q hq=>hp q (List.mem_cons_of_mem _ hq))]
   generalize zbZ (some:List zaC→_) (zd4 s (zve,tabS)) ps=ag
   unfold zd4 zmZ
   cases hB:p.Broken with
   | true=>exact za4 rfl (zaR (hp2 hB) (zcS (by omega) (by simp)))
   | false =>
    simp only [Bool.false_eq_true,if_false]
    refine zaQ rfl (zcY ?_)
    have new:(zcd (fun (j3:Int→Int→Int→(List Int)→(List Int)→Option (List zaC)) =>
      zaA (zc3 (⟨p.At,0,p.Rune,([]:List Int),([]:List Int)⟩:zaC)) fun (r5:Bool) =>
      zaL (r5) (zaA (zeZ (zve,tabS).2 p.Rune) fun (r6:(List Int)) =>
       zaA (zeD r6 0) fun (q1:Int)=>grd (0≤(1:Int)∧(1:Int)≤(r6.length:Int)∧((r6.length:Int):Int)≤(r6.length:Int)) <|
       zbq (fun _ _ _ _ _ _=>none) (zdx j3 r6) zc9 p.At 0 q1 ([]:List Int) ([]:List Int) 0) (j3 p.At 0 p.Rune ([]:List Int) ([]:List Int)))
      (fun (u1:Int) (u2:Int) (u3:Int) (u4:List Int) (u5:List Int)=>grd (l.length+1≤2147483648)<|ag (l++[(⟨u1,u2,u3,u4,u5⟩:zaC)]))) =
      ag (l++[if zcT p.Rune then (zel p.Rune).tail.foldl zeN ⟨p.At,0,(zel p.Rune).headD 0,[],[]⟩ else ⟨p.At,0,p.Rune,[],[]⟩]):=by
     refine zcY (zaR (zlO _ hp1) ?_)
     show zaL (zcT p.Rune) _ _=_
     cases hL:zcT p.Rune with
     | false=>exact zaQ rfl (zcS (by omega) (by simp))
     | true =>
      obtain ⟨b,ms,hq,_,_,_,hms⟩:=ziA hL
      refine za4 rfl (zaR (zqT _) (zaR (a:=b) (by rw [hq]; rfl) (zcS (by rw [hq]; simp only [List.length_cons]; omega) ?_)))
      refine (zoL (⟨p.At,0,b,[],[]⟩:zaC) ms (zel p.Rune) b hq (by simp; omega) _).trans (zcS (by omega) ?_)
      rw [hq]; simp
    cases hl:l.getLast? with
    | none =>
     have:l=[]:=List.getLast?_eq_none_iff.1 hl
     subst this
     exact zaQ (by decide) new
    | some u =>
     have hne:l≠[]:=by intro h; subst h; cases hl
     have hlen:0<l.length:=List.length_pos_iff.2 hne
     have hm:=List.mem_of_getLast? hl
     have hu:=hb2 u hm
     have hg:zeD l ((l.length:Int) - 1)=some u:=ztb (n:=l.length - 1) (by omega) (by rw [← List.getLast?_eq_getElem?]; exact hl)
     refine za4 (decide_eq_true (by omega)) (zcS ⟨by omega,by omega⟩ (zaR hg (zaR (zlO u hu.2) ?_)))
     cases hL:zcT u.base with
     | false=>exact zaQ rfl (by simpa [hL] using new)
     | true =>
      refine za4 rfl (zcS hp1 ?_)
      rw [zvQ]
      cases hM:mrk p.Rune with
      | false=>exact zaQ rfl (by simpa [hL,hM] using new)
      | true =>
       refine za4 rfl (zcS ⟨by omega,by omega⟩ (zaR hg (zaR (zrY u _ (by omega) (by omega)) ?_)))
       simp only [Bool.and_self,if_true]
       rw [show ((l.length:Int) - 1).toNat=l.length - 1 by omega]
       simp [hL]
 have:=key ((pcs s.data.toList).map pcG) 0 [] ⟨by simp,by simp⟩ (by simp; omega) hr
 exact this
theorem zpJ {s:zBA} {p:Pc} (hp:p∈pcs s.data.toList):(p.broken=true→(itG s p).Rune=-1∧(itG s p).Text.size=1∧zl7 (itG s p).Text=(znv s p.i).getD 0)∧(p.broken=false→(itG s p).Rune=p.r∧(itG s p).Text=Utf8.encode (p.r:Int)):=by
 obtain ⟨g1,g2,hok⟩:=zf6 s.data.toList p hp
 have hlen:s.data.toList.length=s.size:=by rw [Array.length_toList]; rfl
 have hf:=zsQ hp
 have hw:=hok.pos
 constructor
 ·intro hb
  have hw1:p.w=1:=by unfold Pc.broken at hb; simp at hb; exact hb.2
  refine ⟨by simp [itG,hb],by simp [itG,hw1]; omega,?_⟩
  have e:(itG s p).Text.data.toList=(s.data.toList.drop p.i).take p.w:=by
   show (s.extract p.i (p.i+p.w)).data.toList=_
   rw [Lib.extract_data]; simp
  unfold zl7
  rw [e,hw1,zpP (n:=p.i) rfl (by omega)]
  have hi:p.i<s.data.toList.length:=by omega
  rw [List.drop_eq_getElem_cons hi]
  simp
  rfl
 ·intro hb
  refine ⟨by simp [itG,hb],?_⟩
  have hnb:¬ (p.r=65533∧p.w=1):=by
   unfold Pc.broken at hb; simpa using hb
  apply ByteArray.ext; apply Array.toList_inj.1
  show (s.extract p.i (p.i+p.w)).data.toList=_
  rw [Lib.extract_data]
  have h1:=hok.bytes hnb
  rw [zg3,h1]
  simp
theorem zrs (cur:Option (Itm×List Itm)) (x:Itm) (xs:List Itm) (h:∀ c,cur=some c→(isL c.1&&isM x)=false):clF cur (x::xs)=cur.toList++clF (some (x,[])) xs:=by
 cases cur with
 | none=>rfl
 | some c =>
  show (if isL c.1&&isM x then clF (some (c.1,c.2++[x])) xs else c::clF (some (x,[])) xs)=_
  rw [h c rfl]; rfl
theorem zmT (x:Itm) (hx:isL x=true) (xs:List Itm):∀ (ms ks:List Itm),(∀ m∈ms,isM m=true)→clF (some (x,ks)) (ms++xs)=clF (some (x,ks++ms)) xs
 | [],ks,_=>by simp
 | m::ms,ks,h=>by
  rw [List.cons_append]
  show (if isL x&&isM m then clF (some (x,ks++[m])) (ms++xs) else _)=_
  rw [hx,h m (List.mem_cons_self ..)]
  simp only [Bool.and_self,if_true]
  rw [zmT x hx xs ms (ks++[m]) (fun z hz=>h z (List.mem_cons_of_mem _ hz))]
  simp
theorem zmC (x:Itm) (hx:0≤x.Rune):∀ (ms ks:List Itm),(ms.map (·.Rune)).foldl zeN (toU (x,ks))=toU (x,ks++ms)
 | [],ks=>by simp
 | m::ms,ks=>by
  rw [List.map_cons,List.foldl_cons,zoc x hx,zmC x hx ms]; simp
theorem znZ (c:Itm×List Itm) (h:0≤c.1.Rune):(toU c).base=c.1.Rune:=by
 unfold toU; rw [if_neg (by omega)]
theorem zld (c:Itm×List Itm):zcT (toU c).base=isL c.1:=by
 unfold toU isL
 split
 ·rename_i h
  have h1:zcT (-1)=false:=by decide
  have h2:zcT c.1.Rune=false:=by
   cases e:zcT c.1.Rune with
   | false=>rfl
   | true=>have:=(zeX _ e).1; omega
  rw [h2]; exact h1
 ·rfl
theorem znV (s:zBA):∀ (ps:List Pc) (cur:Option (Itm×List Itm)) (L:List zaC),(∀ p∈ps,p∈pcs s.data.toList)→(cur=none→L=[]) →
  (ps.map pcG).foldl (zmZ s) (L++cur.toList.map toU)=L++(clF cur (apL (ps.map (itG s)))).map toU
 | [],cur,L,_,_=>by
  cases cur <;> simp [apL,clF]
 | p::ps,cur,L,hp,hcur=>by
  rw [List.map_cons,List.foldl_cons,List.map_cons]
  have hap:apL (itG s p::ps.map (itG s))=apI (itG s p)++apL (ps.map (itG s)):=by unfold apL; rw [List.flatMap_cons]
  rw [hap]
  obtain ⟨hb1,hb2⟩:=zpJ (hp p (List.mem_cons_self ..))
  have tail:=fun cur' L' hc=>znV s ps cur' L' (fun q hq=>hp q (List.mem_cons_of_mem _ hq)) hc
  have hv:p.broken=false→0≤(itG s p).Rune:=fun h=>by rw [(hb2 h).1]; omega
  have new:∀ (x:Itm) (ms:List Itm),(isL x=false→ms=[])→(∀ m∈ms,isM m=true)→(∀ c,cur=some c→(isL c.1&&isM x)=false)→zmZ s (L++cur.toList.map toU) (pcG p)=(L++cur.toList.map toU)++[toU (x,ms)]→apI (itG s p)=x::ms →
    (ps.map pcG).foldl (zmZ s) (zmZ s (L++cur.toList.map toU) (pcG p))=L++(clF cur (apI (itG s p)++apL (ps.map (itG s)))).map toU:=by
   intro x ms h1 h2 h3 h4 h5
   rw [h4,h5,List.cons_append,zrs cur x _ h3]
   have h6:clF (some (x,[])) (ms++apL (ps.map (itG s)))=clF (some (x,ms)) (apL (ps.map (itG s))):=by
    cases hx:isL x with
    | true=>rw [zmT x hx _ ms [] h2]; rfl
    | false=>rw [h1 hx]; rfl
   have:=tail (some (x,ms)) (L++cur.toList.map toU) (by simp)
   rw [show (L++cur.toList.map toU)++[toU (x,ms)]=(L++cur.toList.map toU)++(some (x,ms)).toList.map toU from rfl,this,h6]
   simp
  cases hB:p.broken with
  | true =>
   obtain ⟨e1,e2,e3⟩:=hb1 hB
   have hL:isL (itG s p)=false:=by unfold isL; rw [e1]; decide
   have hM:isM (itG s p)=false:=by unfold isM; rw [e1]; decide
   refine new (itG s p) [] (fun _=>rfl) (by simp) (fun c _=>by rw [hM,Bool.and_false]) ?_ (by unfold apI; rw [hL]; rfl)
   unfold zmZ
   rw [show (pcG p).Broken=true from hB]
   simp only [if_true]
   have:toU (itG s p,[])=⟨(itG s p).At,zl7 (itG s p).Text,-1,[],[]⟩:=by unfold toU; rw [if_pos (by rw [e1]; omega)]
   rw [this,e3]; rfl
  | false =>
   obtain ⟨e1,e2⟩:=hb2 hB
   have h0:0≤(itG s p).Rune:=hv hB
   have hpr:(pcG p).Rune=(itG s p).Rune:=by rw [e1]; rfl
   have hnew:∃ x ms,apI (itG s p)=x::ms∧(isL x=false→ms=[])∧(∀ m∈ms,isM m=true)∧isL x=isL (itG s p)∧isM x=isM (itG s p) ∧
     (if zcT (pcG p).Rune then (zel (pcG p).Rune).tail.foldl zeN ⟨(pcG p).At,0,(zel (pcG p).Rune).headD 0,[],[]⟩ else ⟨(pcG p).At,0,(pcG p).Rune,[],[]⟩)=toU (x,ms):=by
    rw [hpr]
    cases hL:isL (itG s p) with
    | false =>
     have hL':zcT (itG s p).Rune=false:=hL
     refine ⟨itG s p,[],by unfold apI; rw [hL]; rfl,fun _=>rfl,by simp,hL,rfl,?_⟩
     rw [hL']
     unfold toU
     rw [if_neg (show ¬ (itG s p,([]:List Itm)).1.Rune<0 by show ¬ (itG s p).Rune<0; omega)]
     rfl
    | true =>
     have hL':zcT (itG s p).Rune=true:=hL
     obtain ⟨b,ms,hq,hb,_,hms,_⟩:=ziA hL'
     have hb0:=(zeX b hb).1
     refine ⟨⟨b,Utf8.encode b,(itG s p).At⟩,ms.map fun r=>⟨r,Utf8.encode r,(itG s p).At⟩,by unfold apI; rw [hL,hq]; rfl,(fun h=>by rw [show isL (⟨b,Utf8.encode b,(itG s p).At⟩:Itm)=true from hb] at h; cases h),?_,hb,?_,?_⟩
     ·intro m hm
      obtain ⟨r,hr,rfl⟩:=List.mem_map.1 hm
      exact hms r hr
     ·have hM1:isM (itG s p)=false:=by
       cases e:isM (itG s p) with
       | false=>rfl
       | true=>have:=zgF (show mrk (itG s p).Rune=true from e); rw [hL'] at this; cases this
      have hM2:isM (⟨b,Utf8.encode b,(itG s p).At⟩:Itm)=false:=by
       cases e:isM (⟨b,Utf8.encode b,(itG s p).At⟩:Itm) with
       | false=>rfl
       | true=>have:=zgF (show mrk b=true from e); rw [hb] at this; cases this
      rw [hM1,hM2]
     ·rw [hL',hq]
      have:=zmC ⟨b,Utf8.encode b,(itG s p).At⟩ hb0 (ms.map fun r=>⟨r,Utf8.encode r,(itG s p).At⟩) []
      have hm:(ms.map fun r=>(⟨r,Utf8.encode r,(itG s p).At⟩:Itm)).map (·.Rune)=ms:=by rw [List.map_map]; simp [Function.comp_def]
      rw [hm] at this
      rw [List.nil_append] at this
      rw [← this]
      have ht:toU (⟨b,Utf8.encode b,(itG s p).At⟩,[])=⟨(itG s p).At,0,b,[],[]⟩:=by
       unfold toU; rw [if_neg (show ¬ b<0 by omega)]; rfl
      rw [ht]; rfl
   obtain ⟨x,ms,ha,hm1,hm2,hm3,hm4,hnew⟩:=hnew
   cases cur with
   | none =>
    have hL:=hcur rfl
    subst hL
    refine new x ms hm1 hm2 (fun c h=>by cases h) ?_ ha
    unfold zmZ
    rw [show (pcG p).Broken=false from hB]
    simp only [Bool.false_eq_true,if_false,Option.toList_none,List.map_nil,List.append_nil,List.getLast?_nil]
    rw [hnew]
   | some c =>
    have hlast:(L++[toU c]).getLast?=some (toU c):=by simp
    cases hk:(isL c.1&&isM x) with
    | false =>
     refine new x ms hm1 hm2 (fun c' h=>by cases h; exact hk) ?_ ha
     show zmZ s (L++[toU c]) (pcG p)=(L++[toU c])++[toU (x,ms)]
     unfold zmZ
     rw [show (pcG p).Broken=false from hB,hlast]
     simp only [Bool.false_eq_true,if_false]
     rw [zld,show mrk (pcG p).Rune=isM x by rw [hm4,hpr]; rfl,hk,hnew]
     simp
    | true =>
     have hk':=hk
     rw [Bool.and_eq_true] at hk'
     have hMx:isM (itG s p)=true:=by rw [← hm4]; exact hk'.2
     have hLx:isL (itG s p)=false:=zgF hMx
     have hax:apI (itG s p)=[itG s p]:=by unfold apI; rw [hLx]; rfl
     rw [hax,List.singleton_append]
     have hadd:zmZ s (L++(some c).toList.map toU) (pcG p)=L++(some (c.1,c.2++[itG s p])).toList.map toU:=by
      show zmZ s (L++[toU c]) (pcG p)=L++[toU (c.1,c.2++[itG s p])]
      unfold zmZ
      rw [show (pcG p).Broken=false from hB,hlast]
      simp only [Bool.false_eq_true,if_false]
      rw [zld,show mrk (pcG p).Rune=isM x by rw [hm4,hpr]; rfl,hk]
      simp only [if_true]
      have h0c:0≤c.1.Rune:=(zeX _ hk'.1).1
      rw [hpr,zoc c.1 h0c c.2 (itG s p)]
      simp
     rw [hadd,tail _ _ (by simp)]
     congr 2
     show _=clF (some c) (itG s p::apL (ps.map (itG s)))
     show _=(if isL c.1&&isM (itG s p) then clF (some (c.1,c.2++[itG s p])) (apL (ps.map (itG s))) else _)
     rw [hk'.1,hMx]; rfl
def zrr (s:zBA):List (Itm×List Itm):=cl (apL (zkp s))
theorem zss (s:zBA) (hs:s.size≤65536):zfn s=some ((zrr s).map toU):=by
 rw [zoy s hs]
 have:=znV s (pcs s.data.toList) none [] (fun p hp=>hp) (fun _=>rfl)
 simp only [Option.toList_none,List.map_nil,List.append_nil,List.nil_append] at this
 rw [this]; rfl
section
variable {α β:Type}
def J (f:α→zBA) (l:List α):zBA:=l.foldl (fun s x=>s++f x) ByteArray.empty
theorem ztT (f:α→zBA):∀ (l:List α) (b:zBA),l.foldl (fun s x=>s++f x) b=b++J f l
 | [],b=>by simp [J]
 | x::l,b=>by
  unfold J
  rw [List.foldl_cons,ztT f l,List.foldl_cons,ztT f l (ByteArray.empty++f x),ByteArray.empty_append,ByteArray.append_assoc]
theorem zot (f:α→zBA) (x:α) (l:List α):J f (x::l)=f x++J f l:=by
 show (l.foldl _ (ByteArray.empty++f x))=_
 rw [ztT,ByteArray.empty_append]
theorem zvb (f:β→zBA) (g:α→β):∀ l:List α,J f (l.map g)=J (fun x=>f (g x)) l
 | []=>rfl
 | x::l=>by rw [List.map_cons,zot,zot,zvb f g l]
theorem zqu {f g:α→zBA}:∀ {l:List α},(∀ x∈l,f x=g x)→J f l=J g l
 | [],_=>rfl
 | x::l,h=>by rw [zot,zot,h x (List.mem_cons_self ..),zqu (fun y hy=>h y (List.mem_cons_of_mem _ hy))]
end
theorem zmM (r:Int):(Utf8.encode r).size≤4:=by
 rw [zgm]; exact (zir r).2
def wr (of:zaC→zBA) (u:zaC):zBA:=if u.base<0 then zgp [u.broken] else of u
theorem zqC (of:zaC→zBA) (l:List zaC) (hl:l.length≤1048576) (h:∀ u∈l,u.base<0∧U8 u.broken∨0≤u.base∧zfo u=some (of u)∧(of u).size≤1048576):zdK l=some (J (wr of) l):=by
 unfold zdK
 refine zcY ((zuy (xs:=l) (f:=fun b u=>b++wr of u) (J:=some) (fun k b=>b.size≤k*1048576) ?_ ?_ ?_ (zoo (by omega)) (by decide)).trans rfl)
 ·intro ag k u b hu hb
  have hk:=zrZ hu
  unfold zcL
  refine za4 (zsX hu) (zcY (zaR (zpE hu) ?_))
  rcases h u (List.mem_of_getElem? hu) with ⟨h1,h2⟩ | ⟨h1,h2,h3⟩
  ·exact za4 (decide_eq_true h1) (zcS (by omega) (zcS (by simpa using h2) (zcS (zmE (by omega)) (by simp only [wr,if_pos h1]))))
  ·exact zaQ (decide_eq_false (by omega)) (zaR h2 (zcS (by omega) (zcS (zmE (by omega)) (by simp only [wr,if_neg (show ¬ u.base<0 by omega)]))))
 ·intro k u b hu hb
  have hw:(wr of u).size≤1048576:=by
   rcases h u (List.mem_of_getElem? hu) with ⟨h1,h2⟩ | ⟨h1,h2,h3⟩
   ·unfold wr; rw [if_pos h1,zmV]; simp
   ·unfold wr; rw [if_neg (by omega)]; exact h3
  rw [ByteArray.size_append]; omega
 ·intro ag b _; unfold zcL; exact zaQ zsY rfl
def okT (x:Itm):Prop:=I32 x.Rune∧((x.Rune<0∧x.Text.size=1)∨(0≤x.Rune∧x.Text=Utf8.encode x.Rune))
theorem zqY {s:zBA}:∀ x∈zkp s,okT x:=by
 intro x hx
 unfold zkp at hx
 obtain ⟨p,hp,rfl⟩:=List.mem_map.1 hx
 obtain ⟨h1,h2⟩:=zpJ hp
 obtain ⟨g1,g2,hok⟩:=zf6 s.data.toList p hp
 have hv:=hok.valid
 cases hb:p.broken with
 | true=>obtain ⟨e1,e2,_⟩:=h1 hb; exact ⟨by rw [e1]; exact ⟨by omega,by omega⟩,.inl ⟨by omega,e2⟩⟩
 | false =>
  obtain ⟨e1,e2⟩:=h2 hb
  refine ⟨by rw [e1]; exact ⟨by omega,by omega⟩,.inr ⟨by omega,by rw [e2,e1]⟩⟩
theorem zus {l:List Itm} (h:∀ x∈l,okT x):∀ x∈apL l,okT x:=by
 intro y hy
 unfold apL at hy
 obtain ⟨x,hx,hy⟩:=List.mem_flatMap.1 hy
 unfold apI at hy
 split at hy
 ·rename_i hL
  obtain ⟨r,hr,rfl⟩:=List.mem_map.1 hy
  obtain ⟨b,ms,hq,hb,_,hms,_⟩:=ziA (show zcT x.Rune=true from hL)
  have h0:0≤r:=by
   rw [hq] at hr
   rcases List.mem_cons.1 hr with rfl | hr
   ·exact (zeX _ hb).1
   ·have:=hms r hr; unfold mrk at this; simp at this; omega
  exact ⟨zmw (h x hx).1 r hr,.inr ⟨h0,rfl⟩⟩
 ·simp at hy; subst hy; exact h _ hx
theorem zl5:∀ (xs:List Itm) (cur:Option (Itm×List Itm)) (c:Itm×List Itm),c∈clF cur xs→(∀ d,cur=some d→isL d.1=false→d.2=[])→((c.1∈xs∨∃ d,cur=some d∧c.1=d.1)∧(∀ m∈c.2,(isM m=true∧m∈xs)∨∃ d,cur=some d∧m∈d.2)∧(isL c.1=false→c.2=[]))
 | [],none,c,h,_=>by cases h
 | [],some d,c,h,hd=>by
  simp [clF] at h; subst h
  exact ⟨.inr ⟨c,rfl,rfl⟩,fun m hm=>.inr ⟨c,rfl,hm⟩,hd c rfl⟩
 | x::xs,none,c,h,_=>by
  obtain ⟨h1,h2,h3⟩:=zl5 xs (some (x,[])) c h (fun d hd _=>by cases hd; rfl)
  refine ⟨.inl ?_,fun m hm=>.inl ?_,h3⟩
  ·rcases h1 with h1 | ⟨d,hd,h1⟩
   ·exact List.mem_cons_of_mem _ h1
   ·cases hd; rw [h1]; exact List.mem_cons_self ..
  ·rcases h2 m hm with ⟨a,b⟩ | ⟨d,hd,h2⟩
   ·exact ⟨a,List.mem_cons_of_mem _ b⟩
   ·cases hd; cases h2
 | x::xs,some d,c,h,hd=>by
  have h':c∈(if isL d.1&&isM x then clF (some (d.1,d.2++[x])) xs else d::clF (some (x,[])) xs):=h
  cases hk:(isL d.1&&isM x) with
  | true =>
   rw [hk] at h'
   rw [Bool.and_eq_true] at hk
   obtain ⟨h1,h2,h3⟩:=zl5 xs (some (d.1,d.2++[x])) c h' (fun e he hl=>by cases he; rw [hk.1] at hl; cases hl)
   refine ⟨?_,fun m hm => ?_,h3⟩
   ·rcases h1 with h1 | ⟨e,he,h1⟩
    ·exact .inl (List.mem_cons_of_mem _ h1)
    ·cases he; exact .inr ⟨d,rfl,h1⟩
   ·rcases h2 m hm with ⟨a,b⟩ | ⟨e,he,h2⟩
    ·exact .inl ⟨a,List.mem_cons_of_mem _ b⟩
    ·cases he
     rcases List.mem_append.1 h2 with h2 | h2
     ·exact .inr ⟨d,rfl,h2⟩
     ·simp at h2; subst h2; exact .inl ⟨hk.2,List.mem_cons_self ..⟩
  | false =>
   rw [hk] at h'
   rcases List.mem_cons.1 h' with rfl | h'
   ·exact ⟨.inr ⟨c,rfl,rfl⟩,fun m hm=>.inr ⟨c,rfl,hm⟩,hd c rfl⟩
   ·obtain ⟨h1,h2,h3⟩:=zl5 xs (some (x,[])) c h' (fun e he _=>by cases he; rfl)
    refine ⟨.inl ?_,fun m hm=>.inl ?_,h3⟩
    ·rcases h1 with h1 | ⟨e,he,h1⟩
     ·exact List.mem_cons_of_mem _ h1
     ·cases he; rw [h1]; exact List.mem_cons_self ..
    ·rcases h2 m hm with ⟨a,b⟩ | ⟨e,he,h2⟩
     ·exact ⟨a,List.mem_cons_of_mem _ b⟩
     ·cases he; cases h2
theorem zu3 {xs:List Itm} {c:Itm×List Itm} (h:c∈cl xs):c.1∈xs∧(∀ m∈c.2,isM m=true∧m∈xs)∧(isL c.1=false→c.2=[]):=by
 obtain ⟨h1,h2,h3⟩:=zl5 xs none c h (fun d hd=>by cases hd)
 refine ⟨?_,fun m hm => ?_,h3⟩
 ·rcases h1 with h1 | ⟨d,hd,_⟩
  ·exact h1
  ·cases hd
 ·rcases h2 m hm with h2 | ⟨d,hd,_⟩
  ·exact h2
  ·cases hd
theorem zl6:∀ (xs:List Itm) (cur:Option (Itm×List Itm)),(clF cur xs).length≤xs.length+cur.toList.length∧∀ c∈clF cur xs,c.2.length≤xs.length+(cur.toList.map (·.2.length)).sum
 | [],none=>by simp [clF]
 | [],some d=>by simp [clF]
 | x::xs,none=>by
  have:=zl6 xs (some (x,[]))
  refine ⟨?_,fun c hc => ?_⟩
  ·have h1:=this.1; show (clF (some (x,[])) xs).length≤_; simp at h1 ⊢; omega
  ·have h1:=this.2 c hc; simp at h1 ⊢; omega
 | x::xs,some d=>by
  have a:=zl6 xs (some (d.1,d.2++[x]))
  have b:=zl6 xs (some (x,[]))
  show (if isL d.1&&isM x then clF (some (d.1,d.2++[x])) xs else d::clF (some (x,[])) xs).length≤_∧_
  show _∧∀ c∈(if isL d.1&&isM x then clF (some (d.1,d.2++[x])) xs else d::clF (some (x,[])) xs),_
  split
  ·refine ⟨by have:=a.1; simp at this ⊢; omega,fun c hc=>by have:=a.2 c hc; simp at this ⊢; omega⟩
  ·refine ⟨by have:=b.1; simp at this ⊢; omega,fun c hc => ?_⟩
   rcases List.mem_cons.1 hc with rfl | hc
   ·simp
   ·have:=b.2 c hc; simp at this ⊢; omega
theorem zu4 (xs:List Itm):(cl xs).length≤xs.length∧∀ c∈cl xs,c.2.length≤xs.length:=by
 have:=zl6 xs none
 simpa [cl] using this
theorem zqc {s:zBA} (hs:s.size≤65536):(zrr s).length≤196608∧∀ c∈zrr s,okT c.1∧(∀ m∈c.2,isM m=true∧okT m)∧(isL c.1=false→c.2=[])∧c.2.length≤196608:=by
 have h1:=zu4 (apL (zkp s))
 have h2:=ztK (zkp s)
 have h3:(zkp s).length≤s.size:=by unfold zkp; simpa using zjG s
 have hok:=zus (zqY (s:=s))
 refine ⟨by unfold zrr; omega,fun c hc => ?_⟩
 obtain ⟨g1,g2,g3⟩:=zu3 hc
 exact ⟨hok _ g1,fun m hm=>⟨(g2 m hm).1,hok _ (g2 m hm).2⟩,g3,by have:=h1.2 c hc; omega⟩
theorem zmj (c:Itm×List Itm) (h:okT c.1):(toU c).base<0∧U8 (toU c).broken∧c.1.Rune<0∧zgp [(toU c).broken]=c.1.Text∨0≤(toU c).base∧0≤c.1.Rune∧c.1.Text=Utf8.encode c.1.Rune∧toU c=⟨c.1.At,0,c.1.Rune,(loI c.2).map (·.Rune),(hiI c.2).map (·.Rune)⟩:=by
 rcases h.2 with ⟨h1,h2⟩ | ⟨h1,h2⟩
 ·left
  have e:toU c=⟨c.1.At,zl7 c.1.Text,-1,[],[]⟩:=by unfold toU; rw [if_pos h1]
  rw [e]
  refine ⟨by show (-1:Int)<0; omega,?_,h1,?_⟩
  ·show U8 (zl7 c.1.Text); unfold zl7; constructor
   ·omega
   ·have:=(c.1.Text.data.toList.headD 0).toNat_lt; omega
  ·show zgp [zl7 c.1.Text]=_
   apply ByteArray.ext; apply Array.toList_inj.1
   have hl:c.1.Text.data.toList.length=1:=by rw [Array.length_toList]; exact h2
   cases hq:c.1.Text.data.toList with
   | nil=>rw [hq] at hl; cases hl
   | cons b l =>
    rw [hq] at hl
    have:l=[]:=List.eq_nil_of_length_eq_zero (by simpa using hl)
    subst this
    unfold zgp zl7
    rw [hq]; simp
 ·right
  have e:toU c=⟨c.1.At,0,c.1.Rune,(loI c.2).map (·.Rune),(hiI c.2).map (·.Rune)⟩:=by unfold toU; rw [if_neg (by omega)]
  rw [e]
  exact ⟨h1,h1,h2,rfl⟩
def plT:List (Int×List UInt8):=[(223,[115,115]),(230,[97,101]),(248,[111]),(240,[100]),(254,[116,104]),(273,[100]),(295,[104]),(305,[105]),(307,[105,106]),(312,[113]),(320,[108]),(322,[108]),(329,[110]),(331,[110,103]),(339,[111,101]),(359,[116]),(383,[115]),(962,[207,131])]
def ziX (r:Int):zBA:=match zgP r plT with | some b=>⟨b.toArray⟩ | none=>Utf8.encode r
theorem znn (r:Int):(ziX r).size≤4:=by
 unfold ziX
 split
 ·rename_i b hb
  have h:∀ p∈plT,p.2.length≤4:=by decide
  have:=h _ (zjm hb)
  show (b.toArray).size≤4; simpa using this
 ·exact zmM r
def zte (x:Itm):Itm:=if isL x then ⟨x.Rune,ziX (zif x.Rune),x.At⟩ else x
def plS (sm:Int) (j1:Option zBA) (ag1:Int→Bool→Nat→Option zBA) (from3:Int) (head3:Bool) (m3:Nat):Option zBA := zaL (decide (m3<(pcs zLit0.data.toList).length)) ( zaA ((pcs zLit0.data.toList)[m3]?) fun (p1:Pc) => zcd (fun (j2:Int→Option zBA) => zaL (((p1.r:Int):Int)==32) ( zaL (decide ((0:Int)≤from3)) ( grd (0≤(from3:Int)∧(from3:Int)≤(p1.i:Int)∧((p1.i:Int):Int)≤(zLit0.size:Int)) <| some (zgT zLit0 from3 (p1.i:Int))
) ( zaL (((p1.r:Int):Int)==32) ( j2 from3
) ( zaL (head3) ( zaL (((p1.r:Int):Int)==sm) ( grd (I64 ((p1.i:Int)+((Utf8.encode (p1.r:Int)).size:Int))) <| j2 ((p1.i:Int)+((Utf8.encode (p1.r:Int)).size:Int))
) ( j2 from3
)
) ( j2 from3
)
)
)
) ( zaL (((p1.r:Int):Int)==32) ( j2 from3
) ( zaL (head3) ( zaL (((p1.r:Int):Int)==sm) ( grd (I64 ((p1.i:Int)+((Utf8.encode (p1.r:Int)).size:Int))) <| j2 ((p1.i:Int)+((Utf8.encode (p1.r:Int)).size:Int))
) ( j2 from3
)
) ( j2 from3
)
)
)
) (fun (from4:Int) => ag1 from4 (((p1.r:Int):Int)==32) (m3+1)
)
) ( j1
)
def othP:List Pc:=pcs zLit0.data.toList
def plL (sm:Int):Option zBA:=zbq (fun _ _ _=>none) (plS sm (some (Utf8.encode sm))) zc9 (-1) true 0
def hds:List Pc→Bool→List Int
 | [],_=>[]
 | p::ps,h=>(if (p.r==32) then [] else if h then [(p.r:Int)] else [])++hds ps (p.r==32)
theorem zuB:hds othP true=plT.map Prod.fst:=by decide +kernel
theorem zqR:(plT.all fun p=>decide (plL p.1=some (ziX p.1)))=true:=by decide +kernel
theorem zqQ (sm:Int) (J:Option zBA):∀ (n m:Nat) (h:Bool),m≤othP.length→othP.length - m<n→sm ∉ hds (othP.drop m) h→zbq (fun _ _ _=>none) (plS sm J) n (-1) h m=J:=by
 intro n
 induction n with
 | zero=>intro m h _ hn; omega
 | succ n ih =>
  intro m h hm hn hs
  rw [zoN]
  generalize zbq (fun _ _ _=>none) (plS sm J) n=ag at ih ⊢
  unfold plS
  by_cases hlt:m<othP.length
  ·have hx:othP[m]?=some othP[m]:=List.getElem?_eq_getElem hlt
   rw [List.drop_eq_getElem_cons hlt] at hs
   generalize othP[m]=p at hx hs
   unfold hds at hs
   rw [List.mem_append,not_or] at hs
   have e:((p.r:Int)==32)=(p.r==32):=by rw [Bool.eq_iff_iff]; simp; omega
   refine za4 (decide_eq_true hlt) (zaR hx (zcY ?_))
   have nx:ag (-1) ((p.r:Int)==32) (m+1)=J:=ih (m+1) _ (by omega) (by omega) (by rw [e]; exact hs.2)
   cases h32:((p.r:Int)==32) with
   | true =>
    rw [h32] at nx
    exact za4 rfl (zaQ (by decide) (za4 rfl nx))
   | false =>
    rw [h32] at nx
    refine zaQ rfl (zaQ rfl ?_)
    cases h with
    | false=>exact zaQ rfl nx
    | true =>
     have h1:=hs.1
     rw [← e,h32] at h1
     refine za4 rfl (zaQ ?_ nx)
     rw [beq_eq_false_iff_ne]
     intro e2
     exact h1 (by simp [e2])
  ·exact zaQ (decide_eq_false hlt) rfl
theorem zvM (sm:Int):plL sm=some (ziX sm):=by
 by_cases h:sm∈plT.map Prod.fst
 ·obtain ⟨p,hp,rfl⟩:=List.mem_map.1 h
  exact of_decide_eq_true (List.all_eq_true.1 zqR p hp)
 ·have:plL sm=some (Utf8.encode sm):=zqQ sm _ zc9 0 true (Nat.zero_le _) (by
   have:othP.length≤100000:=by decide +kernel
   unfold zc9; omega) (by rw [List.drop_zero,zuB]; exact h)
  rw [this]
  unfold ziX
  cases hg:zgP sm plT with
  | none=>rfl
  | some b=>exact absurd (List.mem_map.2 ⟨_,zjm hg,rfl⟩) h
theorem zsO (u:zaC) (hu:I32 u.base):zfo u=some (if zcT u.base then ziX (zif u.base) else Utf8.encode u.base):=by
 unfold zfo
 refine zaR (zlO u hu) ?_
 cases hL:zcT u.base with
 | false=>exact za4 rfl rfl
 | true=>exact zaQ rfl (zcY (zcS hu (zvM (zif u.base))))
def zoS (c:Itm×List Itm):zBA:=(zte c.1).Text
def ztd (s:zBA):zBA:=J zoS (zrr s)
theorem zvz (of:zaC→zBA) (g:Itm×List Itm→zBA) (s:zBA) (hs:s.size≤65536) (h:∀ c∈zrr s,0≤c.1.Rune→of (toU c)=g c) (hneg:∀ c∈zrr s,c.1.Rune<0→g c=c.1.Text):J (wr of) ((zrr s).map toU)=J g (zrr s):=by
 rw [zvb]
 refine zqu fun c hc => ?_
 obtain ⟨h1,h2,h3,_⟩:=(zqc hs).2 c hc
 unfold wr
 rcases zmj c h1 with ⟨g1,_,g3,g4⟩ | ⟨g1,g2,g3,g4⟩
 ·rw [if_pos g1,g4,hneg c hc g3]
 ·rw [if_neg (by omega),h c hc g2]
theorem zkY {x:Itm} (h:x.Rune<0):isL x=false:=by
 cases e:isL x with
 | false=>rfl
 | true=>have:=(zeX x.Rune e).1; omega
theorem zoh (c:Itm×List Itm) (h:okT c.1):(0≤c.1.Rune→(if zcT (toU c).base then ziX (zif (toU c).base) else Utf8.encode (toU c).base)=zoS c)∧(c.1.Rune<0→zoS c=c.1.Text):=by
 constructor
 ·intro h0
  have hb:=znZ c h0
  rw [hb]
  unfold zoS zte isL
  rcases h.2 with ⟨h1,_⟩ | ⟨_,h2⟩
  ·omega
  ·cases zcT c.1.Rune with
   | true=>rfl
   | false=>simp [h2]
 ·intro h0
  unfold zoS zte; rw [zkY h0]; rfl
theorem zuC (s:zBA) (hs:s.size≤65536):zfM s=some (ztd s):=by
 unfold zfM
 obtain ⟨hl,hc⟩:=zqc hs
 refine zaR (zss s hs) (zaR (zqC (fun u=>if zcT u.base then ziX (zif u.base) else Utf8.encode u.base) _ (by rw [List.length_map]; omega) ?_) ?_)
 ·intro u hu
  obtain ⟨c,hcm,rfl⟩:=List.mem_map.1 hu
  obtain ⟨h1,_⟩:=hc c hcm
  rcases zmj c h1 with ⟨g1,g2,_⟩ | ⟨g1,g2,g3,g4⟩
  ·exact .inl ⟨g1,g2⟩
  ·refine .inr ⟨g1,zsO _ (by rw [znZ c g2]; exact h1.1),?_⟩
   split
   ·have:=znn (zif (toU c).base); omega
   ·have:=zmM (toU c).base; omega
 ·rw [zvz _ zoS s hs (fun c hcm h0=>(zoh c (hc c hcm).1).1 h0) (fun c hcm h0=>(zoh c (hc c hcm).1).2 h0)]; rfl
theorem zuA {R A B:Type} {t:(A→B→Option R)→Option R} {k:A→B→Option R} (a:A) (b:B) (h:∀ j,t j=j a b):zcd t k=k a b:=h k
theorem zq0 {keys:List (List zBA)} {c:zan} {N:Nat} (hc:COk keys N c) (hN:N≤8):∃ l,zdX keys c=some ⟨c.words,l⟩∧Rok N l:=by
 have hcl:=hc.len
 have key:∀ (r f x:Nat) (l:List Int) (seen:List zBA),x≤N→N - x≤r→r<f→l.length=x→seen.length≤x→(∀ v∈l,0≤v∧v≤8)→∃ l',zbq (fun _ _ _=>none) (zbH keys c) f l seen (x:Int)=some ⟨c.words,l'⟩∧Rok N l':=by
  intro r
  induction r with
  | zero =>
   intro f x l seen h1 h2 h3 h4 h5 h6
   cases f with
   | zero=>omega
   | succ f =>
   rw [zbk]
   unfold zbH
   exact ⟨l,zaQ (decide_eq_false (by omega)) rfl,by omega,h6⟩
  | succ r ih =>
   intro f x l seen h1 h2 h3 h4 h5 h6
   cases f with
   | zero=>omega
   | succ f =>
   rw [zbk]
   by_cases hx:x<N
   ·have ih:=fun l' seen' e1 e2 e3=>ih f (x+1) l' seen' (by omega) (by omega) (by omega) e1 e2 e3
    generalize zbq (fun _ _ _=>none) (zbH keys c) f=ag at ih ⊢
    obtain ⟨q,hq⟩:∃ q,c.words[x]?=some q:=⟨_,List.getElem?_eq_getElem (by omega)⟩
    obtain ⟨seen',n2,s1,s2,s3⟩:∃ (seen':List zBA) (n2:Int),seen'.length≤x+1∧(0≤n2∧n2≤8)∧∀ (j1:List zBA→Int→Option zan),(zaA (zeD c.words (x:Int)) fun (q1:Int)=>zaL (decide ((0:Int)≤q1)) (zaA (zeD keys (x:Int)) fun (x4:List zBA)=>zaA (zeD x4 q1) fun (q2:zBA)=>zaA (zbu seen q2) fun (r1:Int)=>grd (I64 (r1+1))<|zaL (((r1+1):Int)==0) (zaA (zeD keys (x:Int)) fun (x5:List zBA)=>zaA (zeD x5 q1) fun (q3:zBA)=>grd (seen.length+1≤2147483648)<|j1 (seen++[q3]) ((seen++[q3]).length:Int)) (j1 seen (r1+1))) (j1 seen 0))=j1 seen' n2:=by
     by_cases h0:0≤q
     ·rcases hc.ok x q hq with h | ⟨ks,k1,k2,k3⟩
      ·omega
      ·obtain ⟨n,rfl⟩:∃ n:Nat,q=n:=⟨q.toNat,by omega⟩
       obtain ⟨q2,hq2⟩:∃ q,ks[n]?=some q:=⟨_,List.getElem?_eq_getElem (by omega)⟩
       obtain ⟨i,i1,i2⟩:=zq6 seen q2 (by omega)
       rcases i2 with ⟨rfl,_⟩ | ⟨w,rfl,i2⟩
       ·have hl2:(seen++[q2]).length=seen.length+1:=by rw [List.length_append]; rfl
        exact ⟨seen++[q2],((seen++[q2]).length:Int),by omega,by omega,fun j1=>zaR (zbI hq) (za4 (decide_eq_true h0) (zaR (zbI k1) (zaR (zbI hq2) (zaR i1 (zcS ⟨by omega,by omega⟩ (za4 rfl (zaR (zbI k1) (zaR (zbI hq2) (zcS (by omega) rfl)))))))))⟩
       ·have hw:=(List.getElem?_eq_some_iff.1 i2).1
        exact ⟨seen,(w:Int)+1,by omega,by omega,fun j1=>zaR (zbI hq) (za4 (decide_eq_true h0) (zaR (zbI k1) (zaR (zbI hq2) (zaR i1 (zcS ⟨by omega,by omega⟩ (zaQ (beq_eq_false_iff_ne.2 (by omega)) rfl))))))⟩
     ·exact ⟨seen,0,by omega,by omega,fun j1=>zaR (zbI hq) (zaQ (decide_eq_false h0) rfl)⟩
    obtain ⟨l',l1,l2⟩:=ih (l++[n2]) seen' (by rw [List.length_append,h4]; rfl) s1 (fun v hv=>by
     rcases List.mem_append.1 hv with hv | hv
     ·exact h6 v hv
     ·rw [List.mem_singleton.1 hv]; exact s2)
    refine ⟨l',?_,l2⟩
    unfold zbH
    refine za4 (decide_eq_true (by omega)) ((zuA seen' n2 s3).trans ?_)
    exact zcS (by omega) (zcS ⟨by omega,by omega⟩ l1)
   ·unfold zbH
    exact ⟨l,zaQ (decide_eq_false (by omega)) rfl,by omega,h6⟩
 have h:=key N zc9 0 c.readings [] (by omega) (by omega) (by unfold zc9; omega) (by rw [hc.none]; rfl) (by simp) (fun v hv=>by rw [hc.none] at hv; cases hv)
 exact h
theorem zq1 {keys:List (List zBA)} {T0:List zan} {N n:Nat} (hN:N≤8) (hn:T0.length=n) (hn2:n≤256) {j5:List zan→Option ((Option zai)×Int)}:∀ (r f x:Nat) (T:List zan),T.length=n→x≤n→n - x≤r→r<f→(∀ (i:Nat) c,T[i]?=some c→i<x→Rok N c.readings)→(∀ (i:Nat) c,T[i]?=some c→x≤i→COk keys N c) →
  ∃ T',zbq (fun _ _=>none) (zc6 keys T0 j5) f T (x:Int)=j5 T'∧T'.length=n∧∀ c∈T',Rok N c.readings:=by
 intro r
 induction r with
 | zero =>
  intro f x T h1 h2 h3 h4 h5 h6
  cases f with
  | zero=>omega
  | succ f =>
  rw [zbk]
  unfold zc6
  refine ⟨T,zaQ (decide_eq_false (by omega)) rfl,h1,fun c hc => ?_⟩
  obtain ⟨i,hi⟩:=List.mem_iff_getElem?.1 hc
  have:=(List.getElem?_eq_some_iff.1 hi).1
  exact h5 i c hi (by omega)
 | succ r ih =>
  intro f x T h1 h2 h3 h4 h5 h6
  cases f with
  | zero=>omega
  | succ f =>
  rw [zbk]
  by_cases hx:x<n
  ·obtain ⟨c,hc⟩:∃ c,T[x]?=some c:=⟨_,List.getElem?_eq_getElem (by omega)⟩
   obtain ⟨l,l1,l2⟩:=zq0 (h6 x c hc (Nat.le_refl _)) hN
   have hg:∀ (i:Nat) d,(T.set x ⟨c.words,l⟩)[i]?=some d→(i=x∧d=⟨c.words,l⟩)∨(i≠x∧T[i]?=some d):=by
    intro i d hd
    rw [List.getElem?_set] at hd
    by_cases hix:x=i
    ·rw [if_pos hix] at hd
     split at hd
     ·cases hd; exact .inl ⟨hix.symm,rfl⟩
     ·cases hd
    ·rw [if_neg hix] at hd
     exact .inr ⟨fun h=>hix h.symm,hd⟩
   obtain ⟨T',t1,t2,t3⟩:=ih f (x+1) (T.set x ⟨c.words,l⟩) (by rw [List.length_set]; exact h1) (by omega) (by omega) (by omega) (fun i d hd hi=>by
    rcases hg i d hd with ⟨_,rfl⟩ | ⟨hne,hd⟩
    ·exact l2
    ·exact h5 i d hd (by omega)) (fun i d hd hi=>by
    rcases hg i d hd with ⟨h,_⟩ | ⟨hne,hd⟩
    ·omega
    ·exact h6 i d hd (by omega))
   refine ⟨T',?_,t2,t3⟩
   generalize zbq (fun _ _=>none) (zc6 keys T0 j5) f=ag at t1 ⊢
   unfold zc6
   exact za4 (decide_eq_true (by omega)) (zaR (zbI hc) (zaR l1 (zcS ⟨by omega,by omega⟩ t1)))
  ·unfold zc6
   refine ⟨T,zaQ (decide_eq_false (by omega)) rfl,h1,fun c hc => ?_⟩
   obtain ⟨i,hi⟩:=List.mem_iff_getElem?.1 hc
   have:=(List.getElem?_eq_some_iff.1 hi).1
   exact h5 i c hi (by omega)
theorem zsZ {l1:List zbp} {names texts:List zBA} {spans:List (List za0)} {keys:List (List zBA)} {N:Nat} (hl:l1.length=N) (hN:N≤8) (hk:keys.length=N) (hks:∀ ks∈keys,ks.length≤256)
  {j4:List zBA→List zBA→List (List za0)→List (List zBA)→List zan→Option ((Option zai)×Int)}:∀ (r f w:Nat) (cols:List zan),w≤N→N - w≤r→r<f→cols.length≤256→(∀ c∈cols,COk keys w c) →
   zbq (fun _ _ _ _ _ _=>none) (zcq l1 j4) f names texts spans keys cols (w:Int)=some (none,3)∨∃ cols',zbq (fun _ _ _ _ _ _=>none) (zcq l1 j4) f names texts spans keys cols (w:Int)=j4 names texts spans keys cols'∧cols'.length≤256∧∀ c∈cols',COk keys N c:=by
 intro r
 induction r with
 | zero =>
  intro f w cols h1 h2 h3 h4 h5
  cases f with
  | zero=>omega
  | succ f =>
  obtain rfl:w=N:=by omega
  rw [zbk]
  unfold zcq
  exact .inr ⟨cols,zaQ (decide_eq_false (by omega)) rfl,h4,h5⟩
 | succ r ih =>
  intro f w cols h1 h2 h3 h4 h5
  cases f with
  | zero=>omega
  | succ f =>
  rw [zbk]
  by_cases hw:w<N
  ·obtain ⟨x1,hx1⟩:∃ x,keys[w]?=some x:=⟨_,List.getElem?_eq_getElem (by omega)⟩
   obtain ⟨out,o1,o2⟩:=zvP (t:=⟨names,texts,spans,keys,cols⟩) (w:=w) h4 (hks x1 (List.mem_of_getElem? hx1)) (by omega) hx1 h5
   by_cases hlen:256<out.length
   ·refine .inl ?_
    unfold zcq
    exact za4 (decide_eq_true (by omega)) (zaR o1 (za4 (decide_eq_true (by show (256:Int)<(out.length:Int); omega)) rfl))
   ·have ih:=ih f (w+1) out (by omega) (by omega) (by omega) (by omega) o2
    generalize zbq (fun _ _ _ _ _ _=>none) (zcq l1 j4) f=ag at ih ⊢
    have hgo:zcq l1 j4 ag names texts spans keys cols (w:Int)=ag names texts spans keys out ((w+1:Nat):Int):=by
     unfold zcq
     exact za4 (decide_eq_true (by omega)) (zaR o1 (zaQ (decide_eq_false (by show ¬ (256:Int)<(out.length:Int); omega)) (zcS ⟨by omega,by omega⟩ rfl)))
    rw [hgo]
    exact ih
  ·obtain rfl:w=N:=by omega
   unfold zcq
   exact .inr ⟨cols,zaQ (decide_eq_false (by omega)) rfl,h4,h5⟩
theorem zmg {q1:zbp} (hs:q1.Text.size≤65536) {ek dn:List za0→List zBA→Option ((Option zai)×Int)}:∀ (ws:List (Nat×Nat)) (spans:List za0) (keys:List zBA),(∀ p∈ws,p.1≤p.2∧p.2≤q1.Text.size)→spans.length=keys.length→spans.length≤256 →
  (∃ s k,zbZ dn (zcP q1 ek) ws spans keys=ek s k)∨∃ s k,zbZ dn (zcP q1 ek) ws spans keys=dn s k∧k.length≤256
 | [],spans,keys,_,h1,h2=>.inr ⟨spans,keys,rfl,by omega⟩
 | p::ws,spans,keys,hw,h1,h2=>by
  rw [zb3]
  by_cases h256:spans.length=256
  ·refine .inl ⟨spans,keys,?_⟩
   unfold zcP
   exact za4 (beq_iff_eq.2 (by omega)) rfl
  ·have hp:=hw p (.head _)
   have hsz:(zgT q1.Text (p.1:Int) (p.2:Int)).size≤65536:=by
    unfold zgT
    rw [ByteArray.size_extract]
    omega
   have ih:=zmg hs (ek:=ek) (dn:=dn) ws (spans++[⟨(p.1:Int),(p.2:Int)⟩]) (keys++[ztd (zgT q1.Text (p.1:Int) (p.2:Int))]) (fun y hy=>hw y (.tail _ hy)) (by simp only [List.length_append,List.length_cons,List.length_nil]; omega) (by simp only [List.length_append,List.length_cons,List.length_nil]; omega)
   generalize zbZ dn (zcP q1 ek) ws=ag at ih ⊢
   have hgo:zcP q1 ek p ag spans keys=ag (spans++[⟨(p.1:Int),(p.2:Int)⟩]) (keys++[ztd (zgT q1.Text (p.1:Int) (p.2:Int))]):=by
    unfold zcP
    exact zaQ (beq_eq_false_iff_ne.2 (by omega)) (zcS (by omega) (zcS ⟨by omega,by omega,by omega⟩ (zaR (zuC _ hsz) (zcS (by omega) rfl))))
   rw [hgo]
   exact ih
theorem zsT:NOk []:=⟨fun n hn=>(nomatch hn),fun i j a hi _=>(by rw [List.getElem?_nil] at hi; cases hi)⟩
theorem zq2 {names:List zBA} (h:NOk names) {n:zBA} (hn:zva n) (hne:∀ j:Nat,names[j]?≠some n):NOk (names++[n]):=by
 refine ⟨fun m hm => ?_,fun i j a hi hj => ?_⟩
 ·rcases List.mem_append.1 hm with hm | hm
  ·exact h.each m hm
  ·rw [List.mem_singleton.1 hm]; exact hn
 ·have hi2:=(List.getElem?_eq_some_iff.1 hi).1
  have hj2:=(List.getElem?_eq_some_iff.1 hj).1
  rw [List.length_append,List.length_cons,List.length_nil] at hi2 hj2
  by_cases h1:i<names.length
  ·rw [List.getElem?_append_left h1] at hi
   by_cases h2:j<names.length
   ·rw [List.getElem?_append_left h2] at hj
    exact h.one i j a hi hj
   ·rw [List.getElem?_append_right (by omega),show j - names.length=0 by omega] at hj
    cases hj
    exact absurd hi (hne i)
  ·rw [List.getElem?_append_right (by omega),show i - names.length=0 by omega] at hi
   cases hi
   by_cases h2:j<names.length
   ·rw [List.getElem?_append_left h2] at hj
    exact absurd hj (hne j)
   ·omega
set_option maxHeartbeats 1000000 in
theorem zqI {l1:List zbp} {N:Nat} (hl:l1.length=N) (hN:N≤8) (hsz:∀ q∈l1,q.Name.size≤140737488355328)
  {j1:List zBA→List zBA→List (List za0)→List (List zBA)→Option ((Option zai)×Int)}:∀ (r f x:Nat) (names texts:List zBA) (spans:List (List za0)) (keys:List (List zBA)),x≤N→N - x≤r→r<f→names.length=x→texts.length=x→spans.length=x→keys.length=x→NOk names→(∀ ks∈keys,ks.length≤256) →
   (∃ e,(e=2∨e=3)∧zbq (fun _ _ _ _ _=>none) (zbC l1 j1) f names texts spans keys (x:Int)=some (none,e))∨∃ names' texts' spans' keys',zbq (fun _ _ _ _ _=>none) (zbC l1 j1) f names texts spans keys (x:Int)=j1 names' texts' spans' keys'∧names'.length=N∧keys'.length=N∧NOk names'∧∀ ks∈keys',ks.length≤256:=by
 intro r
 induction r with
 | zero =>
  intro f x names texts spans keys h1 h2 h3 h4 h5 h6 h7 h8 h9
  cases f with
  | zero=>omega
  | succ f =>
  rw [zbk]
  refine .inr ⟨names,texts,spans,keys,?_,by omega,by omega,h8,h9⟩
  unfold zbC
  exact zaQ (decide_eq_false (by omega)) rfl
 | succ r ih =>
  intro f x names texts spans keys h1 h2 h3 h4 h5 h6 h7 h8 h9
  cases f with
  | zero=>omega
  | succ f =>
  rw [zbk]
  by_cases hx:¬ x<N
  ·refine .inr ⟨names,texts,spans,keys,?_,by omega,by omega,h8,h9⟩
   unfold zbC
   exact zaQ (decide_eq_false (by omega)) rfl
  have hx:x<N:=Classical.not_not.1 hx
  obtain ⟨q,hq⟩:∃ q,l1[x]?=some q:=⟨_,List.getElem?_eq_getElem (by omega)⟩
  have hqs:=hsz q (List.mem_of_getElem? hq)
  have hnm:=zjV q.Name (by omega)
  generalize hr:nmT 0 (0,0) (zlE q.Name.data.toList)=r1 at hnm
  by_cases c1:r1.2<1
  ·exact .inl ⟨2,.inl rfl,by unfold zbC; exact za4 (decide_eq_true (by omega)) (zcY (zaR (zbI hq) (zaR hnm (za4 (decide_eq_true c1) rfl))))⟩
  by_cases c2:16<r1.2
  ·exact .inl ⟨2,.inl rfl,by unfold zbC; exact za4 (decide_eq_true (by omega)) (zcY (zaR (zbI hq) (zaR hnm (zaQ (decide_eq_false c1) (za4 (decide_eq_true c2) rfl)))))⟩
  by_cases c3:¬ r1.1=(q.Name.size:Int)
  ·exact .inl ⟨2,.inl rfl,by unfold zbC; exact za4 (decide_eq_true (by omega)) (zcY (zaR (zbI hq) (zaR hnm (zaQ (decide_eq_false c1) (zaQ (decide_eq_false c2) (za4 (bne_iff_ne.2 c3) rfl))))))⟩
  have c3:=Classical.not_not.1 c3
  obtain ⟨i,i1,i2⟩:=zq6 names q.Name (by omega)
  have hcon:zcB names q.Name=some (decide ((0:Int)≤i)):=zaR i1 rfl
  have hb3:(r1.1 != (q.Name.size:Int))=false:=by rw [c3]; exact bne_self_eq_false _
  rcases i2.symm with ⟨w,rfl,_⟩ | ⟨rfl,hne⟩
  ·exact .inl ⟨2,.inl rfl,by unfold zbC; exact za4 (decide_eq_true (by omega)) (zcY (zaR (zbI hq) (zaR hnm (zaQ (decide_eq_false c1) (zaQ (decide_eq_false c2) (zaQ hb3 (zaR hcon (za4 (decide_eq_true (by omega)) rfl))))))))⟩
  by_cases c4:65536<q.Text.size
  ·exact .inl ⟨3,.inr rfl,by unfold zbC; exact za4 (decide_eq_true (by omega)) (zcY (zaR (zbI hq) (zaR hnm (zaQ (decide_eq_false c1) (zaQ (decide_eq_false c2) (zaQ hb3 (zaR hcon (zaQ rfl (za4 (decide_eq_true (by omega)) rfl)))))))))⟩
  have hok:=zsW hqs hnm c3 c1
  obtain ⟨J2,hJ2⟩:∃ J:List za0→List zBA→Option ((Option zai)×Int),J=fun (spans1:List za0) (keys1:List zBA)=>grd (names.length+1≤2147483648)<|grd (texts.length+1≤2147483648)<|grd (spans.length+1≤2147483648)<|grd (keys.length+1≤2147483648)<|grd (I64 ((x:Int)+1))<|zbq (fun _ _ _ _ _=>none) (zbC l1 j1) f (names++[q.Name]) (texts++[q.Text]) (spans++[spans1]) (keys++[keys1]) ((x:Int)+1):=⟨_,rfl⟩
  have hgo:zbC l1 j1 (zbq (fun _ _ _ _ _=>none) (zbC l1 j1) f) names texts spans keys (x:Int)=zbZ J2 (zcP q fun _ _=>some (none,3)) (zsr q.Text) [] []:=by
   rw [hJ2]
   generalize zbq (fun _ _ _ _ _=>none) (zbC l1 j1) f=ag
   unfold zbC
   exact za4 (decide_eq_true (by omega)) (zcY (zaR (zbI hq) (zaR hnm (zaQ (decide_eq_false c1) (zaQ (decide_eq_false c2) (zaQ hb3 (zaR hcon (zaQ rfl (zaQ (decide_eq_false (by omega)) (zcY (zcS (by omega) (zcY (zcY rfl)))))))))))))
  rw [hgo]
  rcases zmg (q1:=q) (by omega) (ek:=fun _ _=>some (none,3)) (dn:=J2) (zsr q.Text) [] [] (zsq q.Text) rfl (by decide) with ⟨s,k,e⟩ | ⟨s,k,e,hk⟩
  ·exact .inl ⟨3,.inr rfl,e⟩
  ·have ih:=ih f (x+1) (names++[q.Name]) (texts++[q.Text]) (spans++[s]) (keys++[k]) (by omega) (by omega) (by omega) (by rw [List.length_append,h4]; rfl) (by rw [List.length_append,h5]; rfl) (by rw [List.length_append,h6]; rfl) (by rw [List.length_append,h7]; rfl) (zq2 h8 hok hne) (fun ks hks=>by
    rcases List.mem_append.1 hks with hks | hks
    ·exact h9 ks hks
    ·rw [List.mem_singleton.1 hks]; exact hk)
   have hJ:J2 s k=zbq (fun _ _ _ _ _=>none) (zbC l1 j1) f (names++[q.Name]) (texts++[q.Text]) (spans++[s]) (keys++[k]) ((x+1:Nat):Int):=by
    rw [hJ2]
    exact zcS (by omega) (zcS (by omega) (zcS (by omega) (zcS (by omega) (zcS ⟨by omega,by omega⟩ rfl))))
   rw [e,hJ]
   exact ih
def zsV (t27 t28:List zBA) (t29:List (List za0)) (t30:List (List zBA)) (t31:List zan):Option ((Option zai)×Int) :=
 zcd (fun (j5:(List zan)→Option ((Option zai)×Int))=>zbq (fun _ _=>none) (zc6 t30 t31 j5) zc9 t31 0) (fun (t51:List zan)=>some ((some (⟨t27,t28,t29,t30,t51⟩:zai)),0))
def zuw (l:List zbp) (t1 t2:List zBA) (t3:List (List za0)) (t4:List (List zBA)):Option ((Option zai)×Int) :=
 zcd (fun (j4:(List zBA)→(List zBA)→(List (List za0))→(List (List zBA))→(List zan)→Option ((Option zai)×Int))=>zbq (fun _ _ _ _ _ _=>none) (zcq l j4) zc9 t1 t2 t3 t4 ([]:List zan) 0) zsV
theorem zvN (l:List zbp) (hsz:∀ q∈l,q.Name.size≤140737488355328):∃ o e,zeT l=some (o,e)∧(((e=2∨e=3)∧o=none)∨(e=0∧∃ t,o=some t∧TOk t∧NOk t.names)):=by
 unfold zeT
 by_cases h0:l.length=0
 ·exact ⟨none,2,za4 (beq_iff_eq.2 (by omega)) rfl,.inl ⟨.inl rfl,rfl⟩⟩
 by_cases h8:8<l.length
 ·exact ⟨none,3,zaQ (beq_eq_false_iff_ne.2 (by omega)) (za4 (decide_eq_true (by omega)) rfl),.inl ⟨.inr rfl,rfl⟩⟩
 obtain ⟨N,hN⟩:∃ N,l.length=N:=⟨_,rfl⟩
 have hfu:N<zc9:=by unfold zc9; omega
 have main:∃ o e,zbq (fun _ _ _ _ _=>none) (zbC l (zuw l)) zc9 ([]:List zBA) ([]:List zBA) ([]:List (List za0)) ([]:List (List zBA)) ((0:Nat):Int)=some (o,e)∧(((e=2∨e=3)∧o=none)∨(e=0∧∃ t,o=some t∧TOk t∧NOk t.names)):=by
  rcases zqI hN (by omega) hsz (j1:=zuw l) N zc9 0 [] [] [] [] (by omega) (by omega) hfu rfl rfl rfl rfl zsT (fun ks hks=>by cases hks) with ⟨e,he,h⟩ | ⟨nm,tx,sp,ky,h,k1,k2,k3,k4⟩
  ·exact ⟨none,e,h,.inl ⟨he,rfl⟩⟩
  ·rw [h]
   rcases zsZ (l1:=l) (names:=nm) (texts:=tx) (spans:=sp) (keys:=ky) hN (by omega) k2 k4 (j4:=zsV) N zc9 0 [] (by omega) (by omega) hfu (by simp) (fun c hc=>by cases hc) with h2 | ⟨cols,h2,m1,m2⟩
   ·exact ⟨none,3,zcY h2,.inl ⟨.inr rfl,rfl⟩⟩
   ·obtain ⟨T',t1,t2,t3⟩:=zq1 (keys:=ky) (T0:=cols) (N:=N) (n:=cols.length) (by omega) rfl m1 (j5:=fun (t51:List zan)=>some ((some (⟨nm,tx,sp,ky,t51⟩:zai)),0)) cols.length zc9 0 cols rfl (by omega) (by omega) (by unfold zc9; omega) (fun i c _ h=>by omega) (fun i c hc _=>m2 c (List.mem_of_getElem? hc))
    have h3:zsV nm tx sp ky cols=some (some ⟨nm,tx,sp,ky,T'⟩,0):=zcY t1
    exact ⟨some ⟨nm,tx,sp,ky,T'⟩,0,zcY (h2.trans h3),.inr ⟨rfl,_,rfl,⟨by show 1≤nm.length; omega,by show nm.length≤8; omega,by show T'.length≤256; omega,fun c hc=>by show Rok nm.length c.readings; rw [k1]; exact t3 c hc⟩,k3⟩⟩
 obtain ⟨o,e,h1,h2⟩:=main
 exact ⟨o,e,zaQ (beq_eq_false_iff_ne.2 (by omega)) (zaQ (decide_eq_false (by omega)) (zcY h1)),h2⟩
section
open Go.Shelf
theorem zpa (l:List zbp) (text:zBA) (hl:l.length*32≤140737488355328) (hs:text.size≤140737488355328) (hn:∀ q∈l,q.Name.size≤140737488355328):zdB l text=some true:=zoB hl hs (zvN l hn)
theorem topTree_any (hd:Hd) (zs:List zbp) (text:zBA) {vv:Value} {o:Nat} (w:World) (hw:VwO vv o hd.v zs) (hr:(zgv enc_Gapi_Witness 2 vv o zs).P (fun b=>b<w.heap.size) w) (hb:∀ q∈zs,q.Name.size≤140737488351232) (hl:zs.length*32≤140737488351232) (h0:text.size≤140737488351232) (htz:tz64A.P (fun k=>k=Tryz.laysNm727_ren.g 1) w) :
  Calls prog 3 #[hd.v,.string text] w fun e w'=>e=.returned (.bool true)∧Below w.heap.size w w' :=
 FnR.p (zhv hw (zpa zs text (by omega) (by omega) fun q hq=>by have:=hb q hq; omega)) w (fun A hA=>by
  rcases List.mem_cons.1 hA with rfl | hA
  ·exact ⟨_,hr,fun _ _ h=>h⟩
  ·rcases List.mem_singleton.1 hA with rfl
   exact ⟨_,htz,fun _ _ h=>h⟩)
end
end Go.Proofs.YtdnalnmahlakkaaGreatDoor
