/-
  Texts laid together: LcH, Kr, Kt, Ku, Kv, Kw, Kx, LcG, Ky, LcM, Va, LcO, Vb, Vc, Vd, Ve, Vf, Vg, Vh, Vi, Vj, LcN, Vk, Vm, Vn, Vp, LcX, Vq, LcY, PlCollateReads. Nothing is assumed.
-/
import Derived.Test.YtifpjbgnikjglaaGreatDoorCollateReads5
import Derived.Test.YtifpjbgnikjglaaGreatDoorCollateReads3
import Derived.Test.YtifpjbgnikjglaaGreatDoorCollateReads4
import Derived.Test.YtifpjbgnikjglaaGreatDoorCollateReads2
set_option maxRecDepth 100000
set_option maxHeartbeats 4000000
namespace Go.Proofs.YtifpjbgnikjglaaGreatDoor
open Go.RowKit Go.Lib
open Tryz
set_option linter.unusedVariables false
set_option linter.unusedSimpArgs false
open _root_.Bool renaming or_eq_true→dK,false_or→ik,and_eq_true→aR,true_and→jp
open _root_.ByteArray renaming size_append→aK,empty→aA,append_empty→bW,append_assoc→dS
open _root_.Go.IntWalk renaming i64_in→ai
open _root_.Go.Proofs.Tryz renaming underlying29→jW,underlying36→aD,underlying77→bc,results60→hQ,underlying21→bg,underlying9→an,underlying58→cV,results27→fR,results3→iN
open bM renaming nil→bK
open Hd renaming nil→ew
open Rd renaming nil→mB
open ap renaming nil→ad
open Vw renaming get→cI
open aN renaming one1→aI
open _root_.Go.Utf8 renaming encode→af
open _root_.Go.Value renaming string→aa,int→ax,bool→am
open _root_.Int renaming le_refl→jt
open _root_.List renaming all_eq_true→bz,mem_cons→bE,mem_append→bO,mem_cons_self→aB,mem_cons_of_mem→aq,mem_flatMap→fm,mem_singleton→cB,mem_map→aW,length_append→ah,length_cons→aj,flatMap_cons→aG,length_map→aF,length_nil→bl,nil_append→bt,append_nil→aQ,cons_append→bp,append_assoc→aM,map_cons→aE,map_map→ce,map_congr_left→dF,length→gi,getElem?_map→bV,length_pos_iff→c6,getElem?_eq_some_iff→au,mem_of_getElem?→aJ,foldl_cons→bQ,length_take→cj,length_drop→ck,takeWhile_cons→dM,head?_dropWhile_not→nM,drop_drop→eS,take_left→jv,replicate→bA,length_replicate→oW,getElem?_range→kh,getD_eq_getElem?_getD→cC,take_append_drop→dH,drop_zero→oO
open _root_.Nat renaming le_refl→bJ,zero_add→cg,zero_le→cH,lt_succ_self→av
open _root_.Option renaming getD_some→iX
open _root_.Or renaming inr→iI
open _root_.UInt8 renaming toNat_inj→mc
def vp  : Option Bool := aX (vm (⟨#[112,117,116,32,99,104,32,97,102,116,101,114,32,99]⟩:ab)) fun (r1:((Option cK)×zat))=> aX (r1.1) fun (p1:cK)=> aX (CM p1 (⟨#[99,122]⟩:ab) (⟨#[99,104,97]⟩:ab)) fun (r2:(Int×Int))=> aU (px r1.2 (⟨0,0⟩:zat)) ( aU ((r2.1:Int)==(-1)) ( aU ((r2.2:Int)==1) ( aX (CN p1 (⟨#[99,104,111,112]⟩:ab)) fun (r3:ab)=> some (decide (r3=(⟨#[67,72]⟩:ab)))
) ( some false
)
) ( some false
)
) ( some false
)
theorem C5  {r:Bool} (h:vp=some r):dO prog 7 [] (.bool r):=by
 unfold vp at h
 refine dO.intro func7 rfl ntmps7 (by simp) ?_
 intro w0 K
 refine aC (ac 1 rfl (cv ?_))
 obtain⟨a,q,h⟩:=bj h
 refine fY (vs:=[.string (⟨#[112,117,116,32,99,104,32,97,102,116,101,114,32,99]⟩:ab)]) rfl dc rfl rfl rfl EZ (HW q) ad ?_
 rintro u
 refine mj (L':=[lU pz pA 72 u a.1]) (aH [0] kr rfl) (ac 1 rfl (fS rfl dc rfl rfl (fS rfl dc rfl rfl ?_)))
 refine eN qR rfl dc (fun b1=>?_)
 refine ac 1 rfl (eH (k:=1) (vs:=(ku a.2)) (l':=(ku a.2)) jK rfl rfl rfl rfl rfl (show _≤_ by simp) rfl rfl ?_)
 refine cv (ac 1 rfl ?_)
 obtain⟨p1,o,h⟩:=bj h
 refine sM (As:=[lU pz pA 72 u a.1]) (aH [0] kr rfl) (Ab o) ?_
 rintro⟨j,i,g,d,c,b⟩ l
 have t:=h
 subst l
 have h:=t
 obtain⟨r2,n,h⟩:=bj h
 refine nj (v:=.tuple #[zI r2.1,zI r2.2]) (vs:=[zP j,.string (⟨#[99,122]⟩:ab),.string (⟨#[99,104,97]⟩:ab)]) (mB:Rd _ _ []) rfl dc rfl rfl rfl KL (PF (bo1:=j) (o1:=p1) (o1_h0:=i) (o1_h1:=g) (o1_h2:=d) (o1_h3:=c) (o1_h4:=b) n) (.own (aH [2] kr rfl) (fun _ _ h=>aI.1 h) (.own (aH [3] kr rfl) (fun _ _ h=>aI.1 h) (.own (aH [4] kr rfl) (fun _ _ h=>aI.1 h) (.own (aH [5] kr rfl) (fun _ _ h=>aI.1 h) (.own (aH [6] kr rfl) (fun _ _ h=>aI.1 h) (.own (aH [7] kr rfl) (fun _ _ h=>aI.1 h) .nil)))))) ?_
 refine ac 1 rfl (fS rfl dc rfl rfl (fS rfl dc rfl rfl (ac 2 rfl (cv (gM (k:=1) (cs:=(ku a.2)) jJ rfl dc rfl rfl rfl rfl ?_)))))
 refine eU (v:=.agg #[zI 0,zI 0]) (ps:=[]) rfl dc rfl (fun _=>by kernel_rfl) ?_
 refine aO rfl (L9 a.2 (⟨0,0⟩:zat)) (ac 1 rfl ?_)
 refine dG (s:=17) rfl h (fun h=>?_) (fun h=>?_)
 ·
  refine ac 1 rfl (aO rfl eE (ac 2 rfl ?_))
  refine dG (s:=21) rfl h (fun h=>?_) (fun h=>?_)
  ·
   refine ac 1 rfl (aO rfl eE (ac 2 rfl ?_))
   refine dG (s:=25) rfl h (fun h=>?_) (fun h=>?_)
   ·
    refine ac 1 rfl ?_
    obtain⟨r3,m,h⟩:=bj h
    refine nj (v:=.string r3) (vs:=[zP j,.string (⟨#[99,104,111,112]⟩:ab)]) (mB:Rd _ _ []) rfl dc rfl rfl rfl KM (PG (bo1:=j) (o1:=p1) (o1_h0:=i) (o1_h1:=g) (o1_h2:=d) (o1_h3:=c) (o1_h4:=b) m) (.own (aH [2] kr rfl) (fun _ _ h=>aI.1 h) (.own (aH [3] kr rfl) (fun _ _ h=>aI.1 h) (.own (aH [4] kr rfl) (fun _ _ h=>aI.1 h) (.own (aH [5] kr rfl) (fun _ _ h=>aI.1 h) (.own (aH [6] kr rfl) (fun _ _ h=>aI.1 h) (.own (aH [7] kr rfl) (fun _ _ h=>aI.1 h) .nil)))))) ?_
    refine aO rfl lf (ac 2 rfl (az (bI ?_)))
    cases h
    exact dk 0 results7
   refine ac 5 rfl (az (bI ?_))
   cases h
   exact dk 0 results7
  refine ac 9 rfl (az (bI ?_))
  cases h
  exact dk 0 results7
 refine ac 13 rfl (bU ?_)
 refine cz (bI ?_)
 cases h
 exact dk 0 results7
theorem C6:vp=some true:=by decide +kernel
section
section snoc
variable {α:Type}
end snoc
structure R2 (o:zc) (y:Tk):Prop where
 lt:kK y=false
 mm:pb y=false
 dg:HF y=false
 k1:kT y≠1
 k3:kT y≠3
 kb:¬ (kT y=5∨kT y=4∨kT y=6)
 k11:kT y≠11
 no:∀f,o.p (f++af (ee y.1))=none∧o.f (f++af (ee y.1))=none
theorem Qv:((List.range 1120).all fun n=>!(dw (n:Int)||eC (n:Int))||((af (n:Int)).data.toList.all fun c=>decide (65≤c.toNat)))=true:=by decide +kernel
theorem Qx {r:Int} (h:dw r=true∨eC r=true):∀c∈(af r).data.toList,65≤c.toNat:=by
 have h1:0≤r∧r<1120:=by
  rcases h with h | h
  ·have:=mG r h;omega
  ·unfold eC at h;have:=of_decide_eq_true h;omega
 have:=bz.1 Qv r.toNat (List.mem_range.2 (by omega))
 rw[show ((r.toNat:Nat):Int)=r by omega,(show (dw r||eC r)=true by rw[dK];exact h),Bool.not_true,ik] at this
 intro c hc
 exact of_decide_eq_true (bz.1 this c hc)
theorem H6 {t:dV} (ht:nF t) (h:0≤(tkT t).1):(tkT t).2=af (tkT t).1:=by
 rcases ht with ht | ht
 ·have a:=s0 ht
  have e:=GZ ht
  unfold zfM jR at e
  have e2:=aL (fun x:bd=>x.Text) e
  dsimp only at e2
  have b:(tkT t).1=(t.r:Int):=by unfold tkT;rw[a];rfl
  rw[b,← e2];rfl
 ·exfalso
  have:(tkT t).1=-1:=by unfold tkT;rw[ht];rfl
  omega
theorem H7:∀ (l:List Tk) (k:Nat),lO k l=true→∀x∈l,kK x=true∨pb x=true
 | [],k,_,x,hx=>by cases hx
 | y::l,k,h,x,hx=>by
  rw[lO,aR,aR,dK,aR] at h
  rcases bE.1 hx with rfl | hx
  ·rcases h.1.2 with h | h
   ·exact .inl h
   ·exact .inr h.2
  ·exact H7 l (k+1) h.2 x hx
end
theorem Qy {x:Tk} (h:kK x=false):gI x=x:=by unfold gI;rw[h];rfl
section
variable {p:Tk→Bool} (hp:∀x,p (gI x)=p x)
include hp
end
theorem vq {u:ab} (h:qx u):u.size≤32:=by have:=xv u;rw[h.2] at this;exact this
theorem H8 {u:ab} (h:qx u):lO 0 (ky u)=true∧iL u=u∧lZ u=u:=by
 have a:=vq h
 obtain⟨h1,h2⟩:=h
 unfold zdT at h2
 by_cases hk:lO 0 (ky u)=true
 ·rw[ay hk] at h2
  have:=CS u (by omega)
  rw[h2] at this
  exact⟨hk,h2,this⟩
 ·rw[ar hk] at h2
  exact absurd h2.symm h1
theorem H9 {u:ab} (h:qx u):zdT (zoJ u)=u:=by
 have a:=vq h
 have e:=O3 u (by omega)
 have h2:=h.2
 unfold zdT iL ky oI at h2 ⊢
 rw[e];exact h2
theorem QA {u:ab} (h:qx u):zoJ u≠zeB:=by
 intro e
 have h2:=H9 h
 rw[e] at h2
 have:zdT zeB=zeB:=by decide +kernel
 rw[this] at h2
 exact h.1 h2.symm
theorem Ia {c:UInt8}:∀ {ts:List dV},c∈ep ts→∃t∈ts,c∈t.bs
 | [],h=>nomatch (show c∈([]:List UInt8) from h)
 | t::ts,h=>by
  rw[qk] at h
  rcases bO.1 h with h | h
  ·exact⟨t,aB ..,h⟩
  ·obtain⟨u,hu,hc⟩:=Ia h
   exact⟨u,aq _ hu,hc⟩
theorem Ib {t:dV} (ht:nF t) (h:kK (tkT t)=true∨pb (tkT t)=true):∀c∈t.bs,65≤c.toNat:=by
 have hr:0≤(tkT t).1:=by
  rcases h with h | h
  ·have:=mG _ (show dw (tkT t).1=true from h);omega
  ·have h:eC (tkT t).1=true:=h
   unfold eC at h
   have:=of_decide_eq_true h;omega
 have e:=H6 ht hr
 intro c hc
 have a:=Qx (r:=(tkT t).1) h c
 rw[← e] at a
 exact a (by show c∈(⟨t.bs.toArray⟩:ab).data.toList;simpa using hc)
theorem QB {u:ab} (h:qx u):∀c∈(zoJ u).data.toList,65≤c.toNat:=by
 have k:=vq h
 intro c hc
 rw[B9 u (by omega)] at hc
 obtain⟨t,ht,hc⟩:=Ia hc
 obtain⟨d,hd,ht⟩:=fm.1 ht
 rcases y6 (ql _) d hd with⟨b,i,a⟩ | ⟨b,i,v,a,g4⟩
 ·obtain⟨hv,j⟩:=pN.val d b a i t ht
  have e:tkT t=((t.r:Int),⟨t.bs.toArray⟩):=by unfold tkT;rw[s0 hv];rfl
  exact Ib (.inl hv) (by unfold kK pb;rw[e];exact j) c hc
 ·have e1:∀g,gZ g d=[v]:=fun g=>by unfold gZ;rw[b,g4,tv a];rfl
  rw[e1,cB] at ht
  subst ht
  have hm:t∈oI u:=by
   rw[CO u (by omega)]
   exact fm.2 ⟨d,hd,by rw[e1];exact cB.2 rfl⟩
  exact Ib a (H7 _ _ (H8 h).1 _ (aW.2 ⟨t,hm,rfl⟩)) c hc
theorem Ic:∀ {ts:List dV},(∀t∈ts,t.bs.length≤4)→(ep ts).length≤4*ts.length
 | [],_=>bJ _
 | t::ts,h=>by
  have h1:=h t (aB ..)
  have h2:=Ic fun u hu=>h u (aq _ hu)
  rw[qk,ah,aj];omega
theorem Ie {f g:bd×List bd→List dV}:∀ {l:List (bd×List bd)},(∀c∈l,(f c).length≤(g c).length)→(l.flatMap f).length≤(l.flatMap g).length
 | [],_=>bJ _
 | c::l,h=>by
  have h1:=h c (aB ..)
  have h2:=Ie fun u hu=>h u (aq _ hu)
  rw[aG,aG,ah,ah];omega
theorem QC (c:bd×List bd):(gZ gT c).length≤(gZ gA c).length:=by
 unfold gZ
 split
 ·rw[aF,aF]
  have h1:=u0 ((loI c.2).map (·.Rune)) (c.1.Rune,[],true)
  have h2:=u0 ((hiI c.2).map (·.Rune)) ((((loI c.2).map (·.Rune)).foldl fg (c.1.Rune,[],true)).1,(((loI c.2).map (·.Rune)).foldl fg (c.1.Rune,[],true)).2.1,true)
  have a:=pI c.2
  have b:=ze c
  rw[ah] at a
  simp only[aF,bl] at h1 h2
  unfold gT gA
  rw[aF,aj]
  show _+1≤_
  omega
 ·exact bJ _
theorem QD {u:ab} (h:qx u):(zoJ u).size≤32:=by
 have m:=vq h
 have hk:=(H8 h).1
 have k:=zk _ 0 (by omega) hk
 have j:(ky u).length=(oI u).length:=by unfold ky;rw[aF]
 rw[j,CO u (by omega)] at k
 have h2:=Ie (l:=iQ (gj u.data.toList)) (f:=gZ gT) (g:=gZ gA) (fun c _=>QC c)
 have n:(ep ((iQ (gj u.data.toList)).flatMap (gZ gT))).length≤4*((iQ (gj u.data.toList)).flatMap (gZ gT)).length:=Ic fun t ht=>by
  obtain⟨d,hd,ht⟩:=fm.1 ht
  rcases y6 (ql _) d hd with⟨b,i,a⟩ | ⟨b,i,v,a,g4⟩
  ·exact vk (.inl (pN.val d b a i t ht).1)
  ·have e1:gZ gT d=[v]:=by unfold gZ;rw[b,g4,tv a];rfl
   rw[e1,cB] at ht
   rw[ht];exact vk a
 rw[kL,B9 u (by omega)]
 omega
def sx (w:List UInt8):Prop:=w≠[]∧w.length≤32∧∀c∈w,65≤c.toNat
theorem zr {w:List UInt8} (h:sx w) {c:UInt8} (hc:c∈w):c≠32∧c≠10:=by
 have:=h.2.2 c hc
 exact⟨fun e=>by rw[e] at this;exact absurd this (by decide),fun e=>by rw[e] at this;exact absurd this (by decide)⟩
theorem Ig:∀ (w l:List UInt8) (i a:Nat) (v:List UInt8),(∀c∈w,c≠32)→fH (w++l) i (some (a,v))=fH l (i+w.length) (some (a,v++w))
 | [],l,i,a,v,_=>by rw[bt,aQ];rfl
 | c::w,l,i,a,v,h=>by
  rw[bp,CU (h c (aB ..)),Ig w l _ a _ (fun d hd=>h d (aq _ hd)),aj,aM,show i+1+w.length=i+(w.length+1) by omega]
  rfl
theorem C7 {w:List UInt8} (a:w≠[]) (h:∀c∈w,c≠32) (l:List UInt8) (i:Nat):fH (w++l) i none=fH l (i+w.length) (some (i,w)):=by
 cases w with
 | nil=>exact absurd rfl a
 | cons c w=>
  rw[bp,CT (h c (aB ..)),Ig w l _ i _ (fun d hd=>h d (aq _ hd)),aj,show i+1+w.length=i+(w.length+1) by omega]
  rfl
theorem Ih:∀ (b:List (List UInt8)) (i a:Nat) (v:List UInt8),(∀w∈b,sx w)→(fH (b.flatMap (32 :: ·)) i (some (a,v))).map (·.2)=v::b
 | [],i,a,v,_=>rfl
 | w::b,i,a,v,h=>by
  have d:=h w (aB ..)
  rw[aG,bp,vl,C7 d.1 (fun c hc=>(zr d hc).1)]
  show v::(fH _ _ _).map (·.2)=_
  rw[Ih b _ _ _ fun x hx=>h x (aq _ hx)]
theorem QE {v:List UInt8} (hv:sx v) {a:List (List UInt8)} (h:∀w∈a,sx w):(fH (v++a.flatMap (32 :: ·)) 0 none).map (·.2)=v::a:=by
 rw[C7 hv.1 (fun c hc=>(zr hv hc).1),Ih a _ _ _ h]
def nT (put:Bool) (i:Nat) (w:ab):ab:=if i=0 then w else if put=true∧i=2 then oq else zoJ (zdT w)
def nG (put:Bool):Nat→List Wd→List ab
 | _,[]=>[]
 | i,w::ws=>nT put i w.text::nG put (i+1) ws
theorem Ii (put:Bool):∀ (l:List Wd) (i:Nat) (f:List ab) (s:ab),0<i→fmS put i l=.inr (f,s)→s.data.toList=((nG put i l).map fun t=>t.data.toList).flatMap (32 :: ·)
 | [],i,f,s,_,h=>by injection h with h;injection h with h1 h2;rw[← h2];rfl
 | w::l,i,f,s,hi,h=>by
  rw[fmS] at h
  have b:¬ i=0:=by omega
  rw[nG,aE,aG]
  cases hr:fmS put (i+1) l with
  | inl a=>
   rw[hr] at h
   split at h
   ·cases h
   ·split at h <;> cases h
  | inr fs=>
   obtain⟨f',c⟩:=fs
   have d:=Ii put l (i+1) f' c (by omega) hr
   rw[hr] at h
   rw[← d]
   by_cases hc:put=true∧i=2
   ·rw[ay (.inr hc)] at h
    injection h with h;injection h with h1 h2
    rw[← h2,ar b,pO]
    unfold nT
    rw[ar b,ay hc]
   ·rw[ar (by rintro (h | h);exact b h;exact hc h)] at h
    split at h
    ·cases h
    ·injection h with h;injection h with h1 h2
     rw[← h2,pO,pO]
     unfold nT
     rw[ar b,ar hc];rfl
theorem Ij (put:Bool):∀ (l l':List Wd) (i:Nat) (f:List ab) (s:ab),(∀w∈l,w.text.size≤65536)→l'.map (·.text)=nG put i l→fmS put i l=.inr (f,s)→fmS put i l'=.inr (f,s)
 | [],[],i,f,s,_,_,h=>h
 | [],w'::l',i,f,s,_,e,h=>by cases e
 | w::l,[],i,f,s,_,e,h=>by cases e
 | w::l,w'::l',i,f,s,hw,e,h=>by
  rw[aE,nG] at e
  injection e with e1 e2
  rw[fmS] at h ⊢
  cases hr:fmS put (i+1) l with
  | inl a=>
   rw[hr] at h
   split at h
   ·cases h
   ·split at h <;> cases h
  | inr fs=>
   obtain⟨f',d⟩:=fs
   rw[Ij put l l' (i+1) f' d (fun x hx=>hw x (aq _ hx)) e2 hr]
   rw[hr] at h
   by_cases hc:i=0∨(put=true∧i=2)
   ·rw[ay hc] at h ⊢;exact h
   ·rw[ar hc] at h ⊢
    by_cases b:zdT w.text=zeB
    ·rw[ay b] at h;cases h
    ·rw[ar b] at h
     have c:=CX _ (hw w (aB ..)) b
     have g:w'.text=zoJ (zdT w.text):=by
      rw[e1]
      unfold nT
      rw[ar (fun h=>hc (.inl h)),ar (fun h=>hc (.inr h))]
     rw[g,H9 c,ar b];exact h
theorem Ik (put:Bool):∀ (l:List Wd) (i:Nat) (f:List ab) (s:ab),0<i→(∀w∈l,w.text.size≤65536)→fmS put i l=.inr (f,s)→∀t∈nG put i l,sx t.data.toList
 | [],i,f,s,_,_,_,t,ht=>by cases ht
 | w::l,i,f,s,hi,hw,h,t,ht=>by
  rw[fmS] at h
  have c:¬ i=0:=by omega
  cases hr:fmS put (i+1) l with
  | inl a=>
   rw[hr] at h
   split at h
   ·cases h
   ·split at h <;> cases h
  | inr fs=>
   obtain⟨f',g⟩:=fs
   rw[nG] at ht
   rcases bE.1 ht with rfl | ht
   ·unfold nT
    rw[ar c]
    by_cases hc:put=true∧i=2
    ·rw[ay hc]
     exact⟨by decide,by decide,by decide⟩
    ·rw[ar hc]
     rw[hr,ar (by rintro (h | h);exact c h;exact hc h)] at h
     by_cases d:zdT w.text=zeB
     ·rw[ay d] at h;cases h
     ·have b:=CX _ (hw w (aB ..)) d
      refine⟨fun e=>QA b (pP e),by rw[← kL];exact QD b,QB b⟩
   ·exact Ik put l (i+1) f' g (by omega) (fun x hx=>hw x (aq _ hx)) hr t ht
theorem C8 (put:Bool):∀ (l:List Wd) (i:Nat),(nG put i l).length=l.length
 | [],i=>rfl
 | w::l,i=>by rw[nG,aj,aj,C8 put l]
theorem Il (put:Bool):∀ (l:List Wd) (i k:Nat) (w:Wd),l[k]?=some w→(nG put i l)[k]?=some (nT put (i+k) w.text)
 | [],i,k,w,h=>by simp at h
 | w'::l,i,0,w,h=>by injection h with h;subst h;rfl
 | w'::l,i,k+1,w,h=>by
  rw[nG,List.getElem?_cons_succ,Il put l (i+1) k w (by simpa using h),show i+1+k=i+(k+1) by omega]
theorem Io (o:cK):∀ (fs:List ab) (i:Nat) (l l':List Wd),l'.length=l.length→k6 o i fs l=none→k6 o i fs l'=none
 | [],i,l,l',_,_=>by cases l' <;> rfl
 | f::fs,i,l,[],_,_=>rfl
 | f::fs,i,[],w'::l',e,_=>by cases e
 | f::fs,i,w::l,w'::l',e,h=>by
  rw[k6] at h ⊢
  by_cases hc:1<i∧f≠zeB∧(zbL f o.place).isSome=false
  ·rw[ay hc] at h;cases h
  ·rw[ar hc] at h ⊢
   exact Io o fs (i+1) l l' (by simpa using e) h
theorem Ip:∀ {a:List (List UInt8)},(∀w∈a,sx w)→(a.flatMap (32 :: ·)).length≤33*a.length∧∀c∈a.flatMap (32 :: ·),c≠10
 | [],_=>⟨bJ _,fun c h=>by cases h⟩
 | w::a,h=>by
  obtain⟨h1,h2⟩:=Ip fun x hx=>h x (aq _ hx)
  have b:=h w (aB ..)
  have:=b.2.1
  rw[aG,ah,aj,aj]
  refine⟨by omega,fun c hc=>?_⟩
  rcases bO.1 hc with hc | hc
  ·rcases bE.1 hc with rfl | hc
   ·decide
   ·exact (zr b hc).2
  ·exact h2 c hc
def tA (o:cK) (fs:List ab) (s:ab) (l:List Wd):zat×cK :=
 if (l.getD 0 w0).text=lB then
  (if (zbL (lY (fD fs 1)) o.skips).getD false=true then (⟨222,l0 l 1⟩,o) else (⟨0,0⟩,⟨o.units,o.place,o.fors,gH (lY (fD fs 1)) true o.skips,o.lines++[np l s]⟩))
 else if oa o (fD fs 1)=true then (⟨222,l0 l 1⟩,o)
 else match k6 o 0 fs l with
  | some a=>(⟨223,a⟩,o)
  | none=>(⟨0,0⟩,if (l.getD 0 w0).text=zhg then zl o fs (np l s) else ⟨o.units,o.place,gH (fD fs 1) (fs.drop 2) o.fors,o.skips,o.lines++[np l s]⟩)
theorem Iq {o:cK} {l:List Wd} {e:Int} {fs:List ab} {s:ab} (h1:¬ o.lines.length=256) (h2:¬ 0≤kz l e) (hf:fmS (decide ((l.getD 0 w0).text=zhg)) 0 l=.inr (fs,s)):kA o l e=tA o fs s l:=by
 unfold kA tA
 rw[ar h1,ar h2,hf] <;> rfl
theorem Is {o:cK} {l l':List Wd} {fs:List ab} {s:ab} (b:(tA o fs s l).1.Err=0) (ht:(l'.getD 0 w0).text=(l.getD 0 w0).text) (h:l'.length=l.length) :
  tA o fs s l'=(⟨0,0⟩,(tA o fs s l).2)∧(tA o fs s l).2.lines=o.lines++[np l s]:=by
 have g:np l' s=np l s:=by unfold np;rw[ht]
 unfold tA at b ⊢
 rw[ht,g]
 by_cases c:(l.getD 0 w0).text=lB
 ·rw[ay c] at b ⊢
  rw[ay c]
  by_cases hg:(zbL (lY (fD fs 1)) o.skips).getD false=true
  ·rw[ay hg] at b;exact absurd b (by show (222:Int)≠0;omega)
  ·rw[ar hg,ar hg];exact⟨rfl,rfl⟩
 ·rw[ar c] at b ⊢
  rw[ar c]
  by_cases hu:oa o (fD fs 1)=true
  ·rw[ay hu] at b;exact absurd b (by show (222:Int)≠0;omega)
  ·rw[ar hu] at b ⊢
   rw[ar hu]
   cases d:k6 o 0 fs l with
   | some a=>rw[d] at b;exact absurd b (by show (223:Int)≠0;omega)
   | none=>
    rw[Io o fs 0 l l' h d]
    refine⟨rfl,?_⟩
    show (ite _ _ _:cK).lines=_
    split <;> rfl
theorem QF {o:cK} {l:List Wd} {e:Int} (he:0≤e) (h0:0<l.length) (U:∀w∈l,0≤w.at_) (S:∀w∈l,w.text.size≤65536) (g:(kA o l e).1.Err=0) :
  ∃E:ab,(kA o l e).2.lines=o.lines++[E]∧E.size≤250∧(∀c∈E.data.toList,c≠10)∧fH E.data.toList 0 none≠[] ∧
   ∀ (at_ I:Int),kA o ((fH E.data.toList 0 none).map (iB at_)) I=(⟨0,0⟩,(kA o l e).2):=by
 have h1:¬ o.lines.length=256:=fun h1=>by
  unfold kA at g
  rw[ay h1] at g;exact absurd g (by show (3:Int)≠0;omega)
 have h2:¬ 0≤kz l e:=fun h2=>by
  unfold kA at g
  rw[ar h1,ay h2] at g;exact absurd g (by show (220:Int)≠0;omega)
 have u:=tx he U h0 h2
 obtain⟨fs,s,hf⟩:∃fs s,fmS (decide ((l.getD 0 w0).text=zhg)) 0 l=.inr (fs,s):=by
  cases hf:fmS (decide ((l.getD 0 w0).text=zhg)) 0 l with
  | inl a=>
   unfold kA at g
   rw[ar h1,ar h2,hf] at g;exact absurd g (by show (221:Int)≠0;omega)
  | inr fs=>exact⟨fs.1,fs.2,rfl⟩
 have Y:=Iq h1 h2 hf
 rw[Y] at g ⊢
 cases l with
 | nil=>exact absurd h0 (by simp)
 | cons w i=>
 have F:((w::i).getD 0 w0)=w:=rfl
 rw[F] at hf u
 have T:i.length≤5:=by rw[aj] at u;omega
 obtain⟨f',y,hr,M⟩:∃f' y,fmS (decide (w.text=zhg)) 1 i=.inr (f',y)∧s=zeB++y:=by
  have j:=hf
  rw[fmS,ay (.inl rfl)] at j
  cases hr:fmS (decide (w.text=zhg)) (0+1) i with
  | inl a=>rw[hr] at j;cases j
  | inr q=>
   obtain⟨f',y⟩:=q
   rw[hr] at j
   injection j with j
   injection j with e1 e2
   exact⟨f',y,rfl,e2.symm⟩
 have J:∀x∈i,x.text.size≤65536:=fun x hx=>S x (aq _ hx)
 have C:(np (w::i) s).data.toList=w.text.data.toList++((nG (decide (w.text=zhg)) 1 i).map fun t=>t.data.toList).flatMap (32 :: ·):=by
  unfold np
  rw[F,M,pO,pO,Ii _ i 1 f' y (by omega) hr];rfl
 have D:sx w.text.data.toList:=by
  rcases u with h | h | h <;> rw[h.1] <;> exact⟨by decide,by decide,by decide⟩
 have H:∀x∈(nG (decide (w.text=zhg)) 1 i).map fun t=>t.data.toList,sx x:=fun x hx=>by
  obtain⟨t,ht,rfl⟩:=aW.1 hx
  exact Ik _ i 1 f' y (by omega) J hr t ht
 have n:=QE D H
 rw[← C] at n
 obtain⟨q1,q2⟩:=Ip H
 rw[aF,C8] at q1
 refine⟨np (w::i) s,(Is (l':=w::i) g rfl rfl).2,?_,?_,?_,fun at_ I=>?_⟩
 ·rw[kL,C,ah]
  have:=D.2.1
  omega
 ·intro c hc
  rw[C] at hc
  rcases bO.1 hc with hc | hc
  ·exact (zr D hc).2
  ·exact q2 c hc
 ·intro W;rw[W] at n;cases n
 generalize hK:fH (np (w::i) s).data.toList 0 none=K at n ⊢
 have m:(K.map (iB at_)).map (·.text)=nG (decide (w.text=zhg)) 0 (w::i):=by
  have e1:(K.map (iB at_)).map (·.text)=(K.map (·.2)).map ba:=by rw[ce,ce];rfl
  have P:∀t:ab,ba t.data.toList=t:=fun t=>pP (pc _)
  rw[e1,n,aE,ce,P,nG]
  congr 1
  conv=>rhs;rw[← List.map_id (nG (decide (w.text=zhg)) (0+1) i)]
  exact dF fun t _=>P t
 generalize K.map (iB at_)=l' at m ⊢
 have G:l'.length=(w::i).length:=by
  have:=aL gi m
  rw[aF,C8] at this;exact this
 have v:∀k,k<(w::i).length→(l'.getD k w0).text=nT (decide (w.text=zhg)) k ((w::i).getD k w0).text:=fun k hk=>by
  have a1:=Il (decide (w.text=zhg)) (w::i) 0 k _ (n0 (d:=w0) hk)
  rw[← m,bV,n0 (d:=w0) (show k<l'.length by omega),cg] at a1
  injection a1
 have z:(l'.getD 0 w0).text=w.text:=(v 0 h0).trans (ay rfl)
 have N:¬ 0≤kz l' I:=by
  have r:∀a b,a≤(w::i).length→(w::i).length≤b→pQ l' I a b=-1:=fun a b U P=>by
   unfold pQ
   rw[ar (by omega),ar (by omega)]
  have hval:kz l' I=-1:=by
   unfold kz
   rw[z]
   rcases u with⟨a1,V,Z⟩ | ⟨a1,V,Z⟩ | ⟨a1,V⟩
   ·rw[ay a1]
    have Q:(l'.getD 2 w0).text=oq:=by
     rw[v 2 (by omega)]
     unfold nT
     rw[ar (by omega),ay ⟨al a1,rfl⟩]
    rw[ar (fun h=>h.2 Q)]
    exact r 4 4 (by omega) (by omega)
   ·rw[ar (by rw[a1];decide),ay a1]
    exact r 3 6 (by omega) (by omega)
   ·rw[ar (by rw[a1];decide),ar (by rw[a1];decide),ay a1]
    exact r 2 2 (by omega) (by omega)
  omega
 have O:fmS (decide ((l'.getD 0 w0).text=zhg)) 0 l'=.inr (fs,s):=by
  rw[z]
  exact Ij _ (w::i) l' 0 fs s S m hf
 rw[Iq h1 N O]
 exact (Is g z G).1
def C9 (o:cK):List (List UInt8):=o.lines.map fun t=>t.data.toList
structure rn (o:cK):Prop where
 rd:∀at_,mx qy at_ (C9 o)=(some o,⟨0,0⟩)
 sz:∀t∈o.lines,t.size≤250∧∀c∈t.data.toList,c≠10
theorem Da:∀ (xs ys:List (List UInt8)) (o a:cK) (at_:Int),mx o at_ xs=(some a,⟨0,0⟩)→∃b,mx o at_ (xs++ys)=mx a b ys
 | [],ys,o,a,at_,h=>by
  have h:(some o,(⟨0,0⟩:zat))=(some a,⟨0,0⟩):=h
  injection h with h
  injection h with h
  subst h
  exact⟨at_,rfl⟩
 | x::xs,ys,o,a,at_,h=>by
  rw[bp]
  rw[mx] at h ⊢
  by_cases h0:fH x 0 none=[]
  ·rw[ay h0] at h ⊢;exact Da xs ys _ _ _ h
  ·rw[ar h0] at h ⊢
   by_cases h1:(kA o ((fH x 0 none).map (iB at_)) (at_+(x.length:Int))).1.Err=0
   ·rw[ay h1] at h ⊢;exact Da xs ys _ _ _ h
   ·rw[ar h1] at h
    injection h with h _
    cases h
theorem QG {o:cK} (h:rn o) {l:List Wd} {e:Int} (he:0≤e) (h0:0<l.length) (g:∀w∈l,0≤w.at_) (d:∀w∈l,w.text.size≤65536) (a:(kA o l e).1.Err=0):rn (kA o l e).2:=by
 obtain⟨c,e1,e2,j,i,b⟩:=QF he h0 g d a
 generalize (kA o l e).2=o' at e1 b ⊢
 refine⟨fun at_=>?_,fun t ht=>?_⟩
 ·unfold C9
  rw[e1,List.map_append]
  obtain⟨k,h1⟩:=Da (C9 o) [c.data.toList] qy o at_ (h.rd at_)
  refine h1.trans ?_
  rw[mx,ar i,b,ay rfl];rfl
 ·rw[e1] at ht
  rcases bO.1 ht with ht | ht
  ·exact h.sz t ht
  ·rw[cB.1 ht];exact⟨e2,j⟩
theorem It:∀ (xs:List (List UInt8)) (o:cK) (at_:Int),rn o→0≤at_→(∀x∈xs,x.length≤65536)→∀a e,mx o at_ xs=(some a,e)→rn a
 | [],o,at_,hi,_,_,a,e,h=>by
  have h:(some o,(⟨0,0⟩:zat))=(some a,e):=h
  injection h with h
  injection h with h
  rw[← h];exact hi
 | x::xs,o,at_,hi,ha,hx,a,e,h=>by
  have d:=hx x (aB ..)
  have next:=fun (o1:cK) (h':rn o1)=>It xs o1 (at_+((x.length:Int)+1)) h' (by omega) (fun y hy=>hx y (aq _ hy)) a e
  obtain⟨c,g⟩:=sw x 0 none
  rw[mx] at h
  by_cases h0:fH x 0 none=[]
  ·rw[ay h0] at h;exact next o hi h
  ·rw[ar h0] at h
   by_cases h1:(kA o ((fH x 0 none).map (iB at_)) (at_+(x.length:Int))).1.Err=0
   ·rw[ay h1] at h
    refine next _ (QG hi (by omega) (by rw[aF];exact c6.2 h0) (fun w b=>?_) (fun w b=>?_) h1) h
    ·obtain⟨p,hp,rfl⟩:=aW.1 b
     show 0≤at_+(p.1:Int)
     omega
    ·obtain⟨p,hp,rfl⟩:=aW.1 b
     show (ba p.2).size≤65536
     rw[tw]
     have:p.2.length≤x.length+0:=c p hp
     omega
   ·rw[ar h1] at h
    injection h with h _
    cases h
theorem Iu:rn qy:=⟨fun _=>rfl,fun t h=>by cases h⟩
theorem QH (text:ab):rn (zq text):=by
 unfold zq
 rcases H5 text with⟨o,h,hi⟩ | ⟨e,h,he⟩
 ·rw[h]
  unfold rm at h
  by_cases a:65536<text.size
  ·rw[ay a] at h
   injection h with h _
   cases h
  ·rw[ar a] at h
   exact It _ _ _ Iu (jt _) (fun x hx=>by have:=C4 text.data.toList [] x hx;rw[← kL,bl] at this;omega) _ _ h
 ·rw[h];exact Iu
def zt (o:cK):ab:=ba (o.lines.flatMap fun t=>t.data.toList++[10])
theorem QI {o:cK} (hi:k7 o) (h:rn o):xu o=some (zt o):=by
 have g:=hi.ll
 unfold xu
 refine dv ?_
 have:=qq (xs:=o.lines) (F:=zcg o some) (bot:=fun _ _=>none) (f:=fun b (t:ab)=>b++(t++(⟨#[10]⟩:ab))) (J:=some) (fun k b=>b.size≤251*k) (fun ag k x a hx i=>by
   have hk:=(au.1 hx).1
   have d:=(h.sz x (aJ hx)).1
   unfold zcg
   exact cu (mE hx) (bN (lW hx) (zbx (by show x.size+1≤_;omega) (zbx (by rw[aK];show _+(x.size+1)≤_;omega) (zbx (jC (by omega)) rfl))))) (fun k x a hx i=>by
   have d:=(h.sz x (aJ hx)).1
   rw[aK,aK]
   show a.size+(x.size+1)≤251*(k+1)
   omega) (fun ag a _=>by unfold zcg;exact cr mu rfl) (n:=zbH) (kZ (by omega)) (a:=(⟨#[]⟩:ab)) (cH _)
 refine this.trans ?_
 congr 1
 apply pP
 unfold zt
 rw[pc]
 have key:∀ (ts:List ab) (b:ab),(ts.foldl (fun b (t:ab)=>b++(t++(⟨#[10]⟩:ab))) b).data.toList=b.data.toList++ts.flatMap fun t=>t.data.toList++[10]:=by
  intro ts
  induction ts with
  | nil=>intro b;simp
  | cons t ts c=>intro b;rw[bQ,c,pO,pO,aG,aM]
 rw[key];rfl

def zbZ (c0:cK) (ag1:Int→Option (List ab)) (x3:Int):Option (List ab) := aU (decide ((x3:Int)<(c0.units.length:Int))) ( aX (zcy c0.units x3) fun (q1:ab)=> aX (ss q1) fun (r1:ab)=> rM r1 <| aY (cR (x3+1)) <| ag1 (x3+1)
) ( some []
)
def vt (c0:cK):Option (List ab) := zaI (fun _=>none) (zbZ c0) zbH 0
theorem Iv {y u:Nat} {c0:cK} {c s o m g:Hd} {xs:(List ab)} (h:vt c0=some xs):pt prog 34 [zP y] (fun q:ab=>[.string q]) xs [cells y [zP u] 29,cells u [c.v,.map (some (aV s)),.map (some (aV o)),.map (some (aV m)),g.v] 72,bo c.v c0.units,cq (fun n:ab=>aa n) (fun n:Int=>ax .i64 n) (aV s) c0.place,dh (aV o) c0.fors,cq (fun n:ab=>aa n) (fun n:Bool=>am n) (aV m) c0.skips,bo g.v c0.lines]:=by
 unfold vt at h
 refine pt.intro func34 rfl ntmps34 (by simp) ?_
 intro l w0 K I X a hy
 obtain⟨r0,E⟩:∃r,xs=[]++r:=⟨xs,rfl⟩
 have O:xs=r0:=E
 rw[O] at h
 refine cm (aC (lT (i:=0) a rfl nW rfl dc rfl rfl (aO rfl (vI jW) (az (eQ rfl (bH (cz (aC (lT (i:=0) a rfl nW rfl dc rfl rfl (fX rfl dc rfl ?_))))))))))
 refine cf sR rfl dc rfl (show _=0 from rfl) (lT (i:=1) a rfl lA rfl dc rfl rfl (iO (a.vw (i:=2) rfl) rfl dc rfl aD (ac 1 rfl (az (cy ?_)))))
 refine fh (β:=Nat×Int×(List ab)×(List ab)) (fun b=>zaI (fun _=>none) (zbZ c0) b.1 b.2.1=some b.2.2.2∧xs=b.2.2.1++b.2.2.2) (fun b=>[]) (fun b=>[(0,.func (.yield l) #[] #[]),(10,c.v),(11,zI (c0.units.length:Int)),(12,zI b.2.1)]) (fun b=>[I b.2.2.1]) (fun b=>b.1) (zbH,0,([]:List ab),r0) ⟨h,E⟩ rfl (aT rfl) (aH [0] kr rfl) ?_
 rintro⟨H,G,d,J⟩ ⟨h,D⟩
 cases H with
 | zero=>exact fa h
 | succ H=>
  obtain⟨S,w⟩:∃ag,ag=zaI (fun _=>none) (zbZ c0) H:=⟨_,rfl⟩
  have h:zbZ c0 S G=some J:=by rw[w];exact h
  unfold zbZ at h
  refine aC (aO rfl ei (az (cm ?_)))
  refine bG rfl h (fun h=>?_) (fun h=>?_)
  ·
   refine bH (cz (cm (cy (aC ?_))))
   obtain⟨q1,F,h⟩:=bj h
   refine gq (a.vw (i:=2) rfl) F aD gm rfl dc rfl rfl rfl (vW (n:=0+(G:Int).toNat) (j:=0) (i:=2) (q:=q1) a rfl ea ga rfl dc rfl (cI (a.vw (i:=2) rfl) F) rfl dc rfl (ac 1 rfl (cv (ac 2 rfl ?_))))
   obtain⟨C,P,h⟩:=bj h
   refine dq (v:=.string C) (vs:=[.string q1]) rfl dc rfl rfl rfl Aw (BV P) ?_
   obtain⟨t,N,h⟩:=sO h
   have z:xs=d++C::t:=by rw[D,N]
   refine sG hy rfl dc rfl z rfl (k:=0) rfl ?_ ?_
   ·
    have M:xs=(d++[C])++t:=by rw[z];simp
    refine jq rfl dc rfl js (az (eQ rfl (bH (cw (cz (ct ?_))))))
    obtain⟨Q,h⟩:=bC h
    refine aO rfl (dN (r:=G+1) (ai _ Q)) (ac 1 rfl (bU ?_))
    subst w
    exact ff (H,G+1,d++[C],t) ⟨h,M⟩ (av _) rfl (aT rfl) (aH [0] kr rfl)
   refine jq rfl dc rfl js (az (iH rfl (bI (cE (bT (bT (cE ?_)))))))
   exact sI (ds:=[]) d C t z (.inl rfl) ad results34 (aH [0] kr rfl)
  refine dZ (cA (cA (ed ?_)))
  cases h
  exact tI (ds:=[]) (.inr rfl) ad results34 (aL I (D.trans (aQ _))) (aH [0] kr rfl)
def Db (o1:cK):Option Unit := some ()
theorem QJ {bo1:Nat} {o1:cK} {o1_h0 o1_h1 o1_h2 o1_h3 o1_h4:Hd} {r:Unit} (h:Db o1=some r):iv prog 12 [zP bo1] [cells bo1 [o1_h0.v,.map (some (aV o1_h1)),.map (some (aV o1_h2)),.map (some (aV o1_h3)),o1_h4.v] 72,bo o1_h0.v o1.units,cq (fun n:ab=>aa n) (fun n:Int=>ax .i64 n) (aV o1_h1) o1.place,dh (aV o1_h2) o1.fors,cq (fun n:ab=>aa n) (fun n:Bool=>am n) (aV o1_h3) o1.skips,bo o1_h4.v o1.lines] [] (fun v0:Nat=>.func (.func 34) #[] #[zP v0]) (fun v0=>[cells v0 [zP bo1] 29]):=by
 unfold Db at h
 refine iv.intro func12 rfl ntmps12 (by simp) ?_
 intro w0 K a
 refine aC ?_
 refine jy rfl dc rfl (fun b1=>?_)
 refine ac 1 rfl (cv (tF (x1:=[]) (x2:=[.tmp 1]) rfl dc rfl rfl (ac 1 rfl (az (bI ?_)))))
 cases h
 exact eO (rs:=[.tmp 2]) b1 (.inl rfl) results12 (.cons (.tmp rfl) .nil) rfl (aH [0] kr rfl)
theorem QK {o:cK} (hi:k7 o):∀ (n:Nat) (us A:List ab),o.units=A++us→us.length<n →
  zaI (fun _=>none) (zbZ o) n (A.length:Int)=some (us.map zoJ):=by
 intro n
 induction n with
 | zero=>intro us A _ h;omega
 | succ n g=>
  intro us A a j
  have i:=hi.ul;have k:=hi.ll
  rw[ic]
  generalize c:zaI (fun _=>none) (zbZ o) n=ag
  unfold zbZ
  cases us with
  | nil=>exact cr (ae (by rw[a];simp)) rfl
  | cons u us=>
   have d:o.units.length=A.length+(us.length+1):=by rw[a,ah,aj]
   have hu:=hi.us u (by rw[a];simp)
   have b:=g us (A++[u]) (by rw[a,aM];rfl) (by rw[aj] at j;omega)
   rw[c,show (A++[u]).length=A.length+1 by simp] at b
   push_cast at b
   refine cu (al (by omega)) (bN (jz (show o.units[A.length]?=some u by rw[a];simp)) (bN (Hb u (by have:=vq hu;omega)) ?_))
   have:(aY (cR ((A.length:Int)+1))<|ag ((A.length:Int)+1))=some (us.map zoJ):=zbx ⟨by omega,by omega⟩ b
   rw[this];rfl
theorem Iw {o:cK} (hi:k7 o):vt o=some (o.units.map zoJ):=by
 have a:=hi.ul;have b:=hi.ll
 unfold vt
 exact QK hi zbH o.units [] rfl (by unfold zbH;omega)
def zek (j1:ab→Option ab) (r2:(List bX)) (ag1:ab→Int→Option ab) (out4:ab) (x3:Int):Option ab := aU (decide ((x3:Int)<(r2.length:Int))) ( cJ (fun (j2:ab→Option ab)=> aX (zcy r2 x3) fun (q1:bX)=> aU (decide ((0:Int)≤q1.Rune)) ( aX (sa q1.Rune) fun (r3:Bool)=> aU (r3) ( aY (fN q1.Rune) <| aX (qp (ee q1.Rune)) fun (r4:ab)=> aY (out4.size+r4.size≤9223372036854775807) <| j2 (out4++r4)
) ( aY (out4.size+q1.Text.size≤9223372036854775807) <| j2 (out4++q1.Text)
)
) ( aY (out4.size+q1.Text.size≤9223372036854775807) <| j2 (out4++q1.Text)
)
) (fun (out5:ab)=> aY (cR (x3+1)) <| ag1 out5 (x3+1)
)
) ( j1 out4
)
def xy (s1:ab):Option ab := cJ (fun (j1:ab→Option ab)=> aX (xf s1) fun (r1:ab)=> aX (rf r1) fun (r2:(List bX))=> zaI (fun _ _=>none) (zek j1 r2) zbH (⟨#[]⟩:ab) 0
) (fun (out1:ab)=> some out1
)
theorem QL {u:ab} {r:ab} (h:xy u=some r):dO prog 114 [.string u] (.string r):=by
 unfold xy at h
 refine dO.intro func114 rfl ntmps114 (by simp) ?_
 intro w0 K
 obtain⟨t,F,h⟩:=cP h
 refine c8 (β:=ab) 2 rfl (fun b=>t b=some r) (fun b=>[]) (fun b=>[(3,.string b)]) (fun b=>[]) (fun cut=>?_) ?_
 ·
  refine aC (ac 1 rfl (cv (ac 1 rfl (az (cut (aC (ac 1 rfl ?_)))))))
  obtain⟨O,D,h⟩:=bj h
  refine dq (v:=.string O) (vs:=[.string u]) rfl dc rfl rfl rfl Lk (Ou D) ?_
  obtain⟨r2,C,h⟩:=bj h
  refine fY (vs:=[.string O]) rfl dc rfl rfl rfl wc (wY C) ad ?_
  rintro n
  refine iA (k:=0) rfl dc rfl rfl bc (ac 1 rfl (az (cy ?_)))
  refine fh (β:=Nat×ab×Int) (fun b=>zaI (fun _ _=>none) (zek t r2) b.1 b.2.1 b.2.2=some r) (fun b=>[]) (fun b=>[(3,.string b.2.1),(8,n),(9,zI (r2.length:Int)),(10,zI b.2.2)]) (fun b=>[fv n r2]) (fun b=>b.1) (zbH,(⟨#[]⟩:ab),0) (by exact h) rfl (aT rfl) (aH [0] kr rfl) ?_
  rintro⟨o,a,d⟩ h
  cases o with
  | zero=>exact fa h
  | succ o=>
   obtain⟨M,c⟩:∃ag,ag=zaI (fun _ _=>none) (zek t r2) o:=⟨_,rfl⟩
   have h:zek t r2 M a d=some r:=by rw[c];exact h
   unfold zek at h
   refine aC (aO rfl ei (az (cm ?_)))
   refine bG rfl h (fun h=>?_) (fun h=>?_)
   ·
    refine bH (cz ?_)
    obtain⟨Q,E,h⟩:=cP h
    refine c8 (β:=ab) 0 rfl (fun b=>Q b=some r) (fun b=>[]) (fun b=>[(3,.string b),(8,n),(9,zI (r2.length:Int)),(10,zI d)]) (fun b=>[fv n r2]) (fun cut=>?_) ?_
    ·
     refine cut (cy (aC ?_))
     obtain⟨q1,l,h⟩:=bj h
     refine fO (k:=0) l bc jB rfl dc rfl rfl rfl rfl (mR (i:=(d:Int).toNat) (j:=0) (k:=0) (q:=q1) (cs:=(gg q1)) lL kX rfl dc rfl rfl (fb l) rfl rfl rfl ?_)
     refine eN qf rfl dc (fun b1=>?_)
     refine eH (k:=1) (vs:=(gg q1)) (l':=(gg q1)) jB rfl rfl rfl rfl rfl (show _≤_ by simp) rfl rfl ?_
     refine cv (cf mq rfl dc rfl (show _=0 from rfl) (bF (k:=1) fT rfl dc rfl rfl rfl (aO rfl fG (ac 1 rfl ?_))))
     refine dG (s:=17) rfl h (fun h=>?_) (fun h=>?_)
     ·
      refine cf mq rfl dc rfl (show _=0 from rfl) (bF (k:=1) fT rfl dc rfl rfl rfl ?_)
      obtain⟨r3,z,h⟩:=bj h
      refine dq (v:=.bool r3) (vs:=[.int .i32 q1.Rune]) rfl dc rfl rfl rfl AJ (Bl z) (ac 1 rfl (az ?_))
      refine bG rfl h (fun h=>?_) (fun h=>?_)
      ·
       refine ct (ac 1 rfl (cf mq rfl dc rfl (show _=0 from rfl) (bF (k:=1) fT rfl dc rfl rfl rfl ?_)))
       obtain⟨m,h⟩:=bC h
       refine dq (v:=.int .i32 (ee q1.Rune)) (vs:=[.int .i32 q1.Rune]) rfl dc rfl rfl rfl Ff (nP fun w=>FO q1.Rune w m.1 m.2) ?_
       obtain⟨N,y,h⟩:=bj h
       refine dq (v:=.string N) (vs:=[.int .i32 (ee q1.Rune)]) rfl dc rfl rfl rfl yp (yF y) ?_
       obtain⟨J,h⟩:=bC h
       refine aO rfl (kQ J) (ac 1 rfl (bU (cw ?_)))
       exact bx (a++N) h rfl (aT rfl) (aH [0] kr rfl)
      refine ct (ac 1 rfl (cf rQ rfl dc rfl (show _=1 from rfl) (bF (k:=1) ea rfl dc rfl rfl rfl ?_)))
      obtain⟨I,h⟩:=bC h
      refine aO rfl (kQ I) (ac 1 rfl (bU (cw ?_)))
      exact bx (a++q1.Text) h rfl (aT rfl) (aH [0] kr rfl)
     refine ac 4 rfl (az (eQ rfl (ct (ac 1 rfl (cf rQ rfl dc rfl (show _=1 from rfl) (bF (k:=1) ea rfl dc rfl rfl rfl ?_))))))
     obtain⟨H,h⟩:=bC h
     refine aO rfl (kQ H) (ac 1 rfl (bU (cw ?_)))
     exact bx (a++q1.Text) h rfl (aT rfl) (aH [0] kr rfl)
    rintro g h
    rw[E] at h
    refine ct ?_
    obtain⟨G,h⟩:=bC h
    refine aO rfl (dN (r:=d+1) (ai _ G)) (ac 1 rfl (bU ?_))
    subst c
    exact ff (o,g,d+1) h (av _) rfl (aT rfl) (aH [0] kr rfl)
   refine dZ (cA (cA (ed ?_)))
   exact bx a h rfl (aT rfl) ad
 rintro P h
 rw[F] at h
 refine aC (ac 2 rfl (az (bI ?_)))
 cases h
 exact dk 2 results114
def zdo (r2:(List bX)) (j1:Option ab) (ag1:Int→Option ab) (x3:Int):Option ab := aU (decide ((x3:Int)<(r2.length:Int))) ( cJ (fun (j2:Option ab)=> aX (zcy r2 x3) fun (q1:bX)=> aU (decide ((0:Int)≤q1.Rune)) ( aX (sa q1.Rune) fun (r3:Bool)=> aU (!r3) ( aU ((x3:Int)==0) ( some (⟨#[]⟩:ab)
) ( aU (decide ((q1.Rune:Int)<0)) ( some (⟨#[]⟩:ab)
) ( aX (rb q1.Rune) fun (r4:Bool)=> aU (!r4) ( some (⟨#[]⟩:ab)
) ( j2
)
)
)
) ( j2
)
) ( aU ((x3:Int)==0) ( some (⟨#[]⟩:ab)
) ( aU (decide ((q1.Rune:Int)<0)) ( some (⟨#[]⟩:ab)
) ( aX (rb q1.Rune) fun (r5:Bool)=> aU (!r5) ( some (⟨#[]⟩:ab)
) ( j2
)
)
)
)
) ( aY (cR (x3+1)) <| ag1 (x3+1)
)
) ( j1
)
def xz (s1:ab):Option ab := aX (xy s1) fun (r1:ab)=> aX (rf r1) fun (r2:(List bX))=> aU (decide (((r2.length:Int):Int)<1)) ( some (⟨#[]⟩:ab)
) ( aU (decide ((8:Int)<(r2.length:Int))) ( some (⟨#[]⟩:ab)
) ( cJ (fun (j1:Option ab)=> zaI (fun _=>none) (zdo r2 j1) zbH 0
) ( some r1
)
)
)
theorem QM {o:ab} {r:ab} (h:xz o=some r):dO prog 60 [.string o] (.string r):=by
 unfold xz at h
 refine dO.intro func60 rfl ntmps60 (by simp) ?_
 intro w0 K
 refine aC (ac 1 rfl (cv (ac 1 rfl ?_)))
 obtain⟨d,z,h⟩:=bj h
 refine dq (v:=.string d) (vs:=[.string o]) rfl dc rfl rfl rfl Lu (QL z) (ac 1 rfl (cv (ac 1 rfl ?_)))
 obtain⟨r2,y,h⟩:=bj h
 refine fY (vs:=[.string d]) rfl dc rfl rfl rfl wc (wY y) ad ?_
 rintro l
 refine ac 1 rfl (az (cm (aC (ac 1 rfl (iA (k:=0) rfl dc rfl rfl bc (aO rfl ei (ac 1 rfl ?_)))))))
 refine dG (s:=15) rfl h (fun h=>?_) (fun h=>?_)
 ·
  refine ac 4 rfl (az (iH rfl (aC (ac 1 rfl (az (bI (bT ?_)))))))
  cases h
  exact dk 2 hQ
 refine ac 1 rfl (iA (k:=0) rfl dc rfl rfl bc (aO rfl lK (ac 1 rfl (az ?_))))
 refine bG rfl h (fun h=>?_) (fun h=>?_)
 ·
  refine aC (ac 1 rfl (az (bI (bT ?_))))
  cases h
  exact dk 2 hQ
 refine bH (cz ?_)
 obtain⟨n,D,h⟩:=cP h
 refine c8 (β:=Unit) 0 rfl (fun b=>n=some r) (fun b=>[]) (fun b=>[(3,.string d)]) (fun b=>[]) (fun cut=>?_) ?_
 ·
  refine cut (aC (ac 1 rfl (iA (k:=0) rfl dc rfl rfl bc (ac 1 rfl (az (cy ?_))))))
  refine fh (β:=Nat×Int) (fun b=>zaI (fun _=>none) (zdo r2 n) b.1 b.2=some r) (fun b=>[]) (fun b=>[(3,.string d),(20,l),(21,zI (r2.length:Int)),(22,zI b.2)]) (fun b=>[fv l r2]) (fun b=>b.1) (zbH,0) h rfl (aT rfl) (aH [0] kr rfl) ?_
  rintro⟨m,c⟩ h
  cases m with
  | zero=>exact fa h
  | succ m=>
   obtain⟨F,a⟩:∃ag,ag=zaI (fun _=>none) (zdo r2 n) m:=⟨_,rfl⟩
   have h:zdo r2 n F c=some r:=by rw[a];exact h
   unfold zdo at h
   refine aC (aO rfl ei (az (cm ?_)))
   refine bG rfl h (fun h=>?_) (fun h=>?_)
   ·
    refine bH (cz ?_)
    obtain⟨I,C,h⟩:=cP h
    refine c8 (β:=Unit) 0 rfl (fun b=>I=some r) (fun b=>[]) (fun b=>[(3,.string d),(20,l),(21,zI (r2.length:Int)),(22,zI c)]) (fun b=>[fv l r2]) (fun cut=>?_) ?_
    ·
     refine cut (cy (aC (ac 1 rfl ?_)))
     obtain⟨q1,g,h⟩:=bj h
     refine fO (k:=0) g bc jB rfl dc rfl rfl rfl rfl (mR (i:=(c:Int).toNat) (j:=0) (k:=0) (q:=q1) (cs:=(gg q1)) lL kX rfl dc rfl rfl (fb g) rfl rfl rfl ?_)
     refine eN qf rfl dc (fun b1=>?_)
     refine ac 1 rfl (eH (k:=1) (vs:=(gg q1)) (l':=(gg q1)) jB rfl rfl rfl rfl rfl (show _≤_ by simp) rfl rfl ?_)
     refine cv (cf mq rfl dc rfl (show _=0 from rfl) (bF (k:=1) fT rfl dc rfl rfl rfl (aO rfl fG (ac 1 rfl ?_))))
     refine dG (s:=30) rfl h (fun h=>?_) (fun h=>?_)
     ·
      refine cf mq rfl dc rfl (show _=0 from rfl) (bF (k:=1) fT rfl dc rfl rfl rfl ?_)
      obtain⟨r3,w,h⟩:=bj h
      refine dq (v:=.bool r3) (vs:=[.int .i32 q1.Rune]) rfl dc rfl rfl rfl AJ (Bl w) (ac 2 rfl (cv (ac 1 rfl (jq rfl dc rfl js (ac 1 rfl ?_)))))
      refine dG (s:=37) rfl h (fun h=>?_) (fun h=>?_)
      ·
       refine ac 1 rfl (aO rfl eE (ac 1 rfl ?_))
       refine dG (s:=40) rfl h (fun h=>?_) (fun h=>?_)
       ·
        refine ac 11 rfl (az (iH rfl ?_))
        refine aC (ac 1 rfl (az (bI (cE (bT (bT (cE (bT ?_))))))))
        cases h
        exact dk 2 hQ
       refine cf mq rfl dc rfl (show _=0 from rfl) (bF (k:=1) fT rfl dc rfl rfl rfl (aO rfl ei (ac 2 rfl ?_)))
       refine dG (s:=45) rfl h (fun h=>?_) (fun h=>?_)
       ·
        refine ac 6 rfl (az (iH rfl (aC (ac 1 rfl (az ?_)))))
        refine bI (cE (bT (bT (cE (bT ?_)))))
        cases h
        exact dk 2 hQ
       refine cf mq rfl dc rfl (show _=0 from rfl) (bF (k:=1) fT rfl dc rfl rfl rfl ?_)
       obtain⟨H,u,h⟩:=bj h
       refine dq (v:=.bool H) (vs:=[.int .i32 q1.Rune]) rfl dc rfl rfl rfl AL (Bm u) (jq rfl dc rfl js (ac 2 rfl (az ?_)))
       refine bG rfl h (fun h=>?_) (fun h=>?_)
       ·
        refine aC (ac 1 rfl (az (bI (cE (bT (bT (cE (bT ?_))))))))
        cases h
        exact dk 2 hQ
       refine bH (cw ?_)
       exact bx () h rfl (aT rfl) (aH [0] kr rfl)
      refine ac 14 rfl ?_
      refine az (eQ rfl (bH (cw ?_)))
      exact bx () h rfl (aT rfl) (aH [0] kr rfl)
     refine ac 5 rfl (cv (ac 1 rfl (jq rfl dc rfl js (ac 2 rfl (aO rfl eE ?_)))))
     refine ac 1 rfl ?_
     refine dG (s:=40) rfl h (fun h=>?_) (fun h=>?_)
     ·
      refine ac 11 rfl (az (iH rfl ?_))
      refine aC (ac 1 rfl (az (bI (cE (bT (bT (cE (bT ?_))))))))
      cases h
      exact dk 2 hQ
     refine cf mq rfl dc rfl (show _=0 from rfl) (bF (k:=1) fT rfl dc rfl rfl rfl (aO rfl ei (ac 2 rfl ?_)))
     refine dG (s:=45) rfl h (fun h=>?_) (fun h=>?_)
     ·
      refine ac 6 rfl (az (iH rfl (aC (ac 1 rfl (az ?_)))))
      refine bI (cE (bT (bT (cE (bT ?_)))))
      cases h
      exact dk 2 hQ
     refine cf mq rfl dc rfl (show _=0 from rfl) (bF (k:=1) fT rfl dc rfl rfl rfl ?_)
     obtain⟨G,t,h⟩:=bj h
     refine dq (v:=.bool G) (vs:=[.int .i32 q1.Rune]) rfl dc rfl rfl rfl AL (Bm t) (jq rfl dc rfl js (ac 2 rfl (az ?_)))
     refine bG rfl h (fun h=>?_) (fun h=>?_)
     ·
      refine aC (ac 1 rfl (az (bI (cE (bT (bT (cE (bT ?_))))))))
      cases h
      exact dk 2 hQ
     refine bH (cw ?_)
     exact bx () h rfl (aT rfl) (aH [0] kr rfl)
    rintro _ h
    rw[C] at h
    refine ct ?_
    obtain⟨E,h⟩:=bC h
    refine aO rfl (dN (r:=c+1) (ai _ E)) (ac 1 rfl (bU ?_))
    subst a
    exact ff (m,c+1) h (av _) rfl (aT rfl) (aH [0] kr rfl)
   refine dZ (cA (cA (ed ?_)))
   exact bx () h rfl (aT rfl) ad
 rintro _ h
 rw[D] at h
 refine aC (ac 2 rfl (az (bI ?_)))
 cases h
 exact dk 2 hQ
def zgh (j1:(List ab)→Option dB) (ag1:(List ab)→Int→Option dB) (o4:List ab) (r3:Int):Option dB := aU (decide ((r3:Int)<1280)) ( cJ (fun (j2:(List ab)→Option dB)=> aY (fN r3) <| aU (ol r3) ( aX (uG r3) fun (r4:(List Int))=> aU (((r4.length:Int):Int)==1) ( aX (uK (af r3)) fun (r5:ab)=> aU (decide (r5=af r3)) ( aY (o4.length+1≤2147483648) <| j2 (o4++[af r3])
) ( j2 o4
)
) ( j2 o4
)
) ( j2 o4
)
) (fun (o5:List ab)=> aY (fN (r3+1)) <| ag1 o5 (r3+1)
)
) ( j1 o4
)
def vu  : Option dB := cJ (fun (j1:(List ab)→Option dB)=> zaI (fun _ _=>none) (zgh j1) zbH ([]:List ab) 1
) (fun (o1:List ab)=> some (⟨o1,([]:List (ab×List ab)),([]:List ab),([]:List ab)⟩:dB)
)
theorem QN  {r:dB} (h:vu=some r):Fn prog 25 [] [] (fun b:Nat×Hd×Hd×Hd×Hd=>zP b.1) (fun b=>[cells b.1 [b.2.1.v,.map (some (aV b.2.2.1)),b.2.2.2.1.v,b.2.2.2.2.v] 39,bo b.2.1.v r.Units,dh (aV b.2.2.1) r.Fors,bo b.2.2.2.1.v r.Skips,bo b.2.2.2.2.v r.Lines]):=by
 unfold vu at h
 refine _root_.Go.Proofs.YtifpjbgnikjglaaGreatDoor.Fn.intro func25 rfl ntmps25 (by simp) ?_
 intro w0 K
 obtain⟨n,u,h⟩:=cP h
 refine c8 (β:=(List ab)×Nat×Hd×Nat) 2 rfl (fun b=>n b.1=some r) (fun b=>[]) (fun b=>[(1,zP b.2.1)]) (fun b=>[cells b.2.1 [b.2.2.1.v,.map (some b.2.2.2),.slice none 0 0,.slice none 0 0] 39,bo b.2.2.1.v b.1,dh b.2.2.2 ([]:List (ab×List ab))]) (fun cut=>?_) ?_
 ·
  refine aC (ac 1 rfl (cv ?_))
  refine tY (fun s:ab=>aa s) pu rfl dc (fun c=>?_)
  refine sM (As:=[cq (fun s:ab=>aa s) pu c []]) (aH [0] kr rfl) (EA (b:=c)) (fun _ _=>?_)
  refine eU (v:=.agg #[.slice none 0 0,.map (some c),.slice none 0 0,.slice none 0 0]) (ps:=[(1,.tmp 3)]) rfl dc rfl (fun _=>by kernel_rfl) ?_
  refine jy rfl dc rfl (fun l=>?_)
  refine ac 1 rfl (az (cut (aC (ac 1 rfl (az (cy (nf (enc:=gR) (e:=9) (size:=1) ?_)))))))
  refine fh (β:=Nat×(List ab)×Int×Hd) (fun b=>zaI (fun _ _=>none) (zgh n) b.1 b.2.1 b.2.2.1=some r) (fun b=>[]) (fun b=>[(1,zP l),(2,.int .i32 b.2.2.1)]) (fun b=>[cells l [b.2.2.2.v,.map (some c),.slice none 0 0,.slice none 0 0] 39,bo b.2.2.2.v b.2.1,dh c ([]:List (ab×List ab))]) (fun b=>b.1) (zbH,([]:List ab),1,ew) h rfl (aT rfl) (aH [2,3,1] kr rfl) ?_
  rintro⟨m,g,r3,a⟩ h
  cases m with
  | zero=>exact fa h
  | succ m=>
   obtain⟨G,d⟩:∃ag,ag=zaI (fun _ _=>none) (zgh n) m:=⟨_,rfl⟩
   have h:zgh n G g r3=some r:=by rw[d];exact h
   unfold zgh at h
   refine cm (aC (ac 1 rfl (aO rfl ei (az ?_))))
   refine bG rfl h (fun h=>?_) (fun h=>?_)
   ·
    refine bH (cz ?_)
    obtain⟨J,t,h⟩:=cP h
    refine c8 (β:=(List ab)×Hd) 0 rfl (fun b=>J b.1=some r) (fun b=>[]) (fun b=>[(1,zP l),(2,.int .i32 r3)]) (fun b=>[cells l [b.2.v,.map (some c),.slice none 0 0,.slice none 0 0] 39,bo b.2.v b.1,dh c ([]:List (ab×List ab))]) (fun cut=>?_) ?_
    ·
     refine cut (cy (aC (ac 1 rfl ?_)))
     obtain⟨i,h⟩:=bC h
     refine dq (v:=.bool (ol r3)) (vs:=[.int .i32 r3]) rfl dc rfl rfl rfl E6 (nP fun w=>FN r3 w i.1 i.2) ?_
     refine ac 1 rfl ?_
     refine dG (s:=12) rfl h (fun h=>?_) (fun h=>?_)
     ·
      refine ac 1 rfl ?_
      obtain⟨Q,q,h⟩:=bj h
      refine fY (vs:=[.int .i32 r3]) rfl dc rfl rfl rfl AD (F4 q) ad ?_
      rintro P
      refine jd (k:=3) rfl (fun M D=>?_)
      subst D
      refine iA (k:=3) rfl dc rfl rfl underlying103 (aO rfl eE (ac 2 rfl ?_))
      refine dG (s:=18) rfl h (fun h=>?_) (fun h=>?_)
      ·
       refine ac 1 rfl (jr rfl dc rfl (mf bg an) ?_)
       obtain⟨H,o,h⟩:=bj h
       refine dq (v:=.string H) (vs:=[.string (af r3)]) rfl dc rfl rfl rfl E7 (F8 o) (ac 1 rfl (jr rfl dc rfl (mf bg an) (aO rfl lf (ac 1 rfl (az ?_)))))
       refine bG rfl h (fun h=>?_) (fun h=>?_)
       ·
        refine ct (ac 2 rfl (fX rfl dc rfl (cf qc rfl dc rfl (show _=0 from rfl) (bF (k:=0) lA rfl dc rfl rfl rfl (ac 1 rfl (jr rfl dc rfl (mf bg an) ?_))))))
        refine gl (cs:=[.string (af r3)]) (te:=9) (ps:=[(0,.tmp 32)]) rfl dc rfl (fun _=>by kernel_rfl) (fun S=>?_)
        obtain⟨z,h⟩:=bC h
        refine iT (k:=1) (k2:=4) (ys:=[af r3]) aD nV ga oc rfl dc rfl rfl rfl rfl rfl rfl z (fun O=>?_)
        refine jd (k:=1) rfl (fun j C=>?_)
        subst C
        refine fX rfl dc rfl (cf qc rfl dc rfl (show _=0 from rfl) ?_)
        refine ef (k:=0) (l':=[j.v,.map (some c),.slice none 0 0,.slice none 0 0]) qS rfl rfl rfl rfl rfl (fun _ _=>rfl) rfl ?_
        refine bU (cw ?_)
        exact bx (g++[af r3],j) h rfl (aT rfl) (aH [0,1,2] kr rfl)
       refine bH (cw ?_)
       exact bx (g,a) h rfl (aT rfl) (aH [0,1,2] kr rfl)
      refine ac 7 rfl (az (eQ rfl (bH (cw ?_))))
      exact bx (g,a) h rfl (aT rfl) (aH [0,1,2] kr rfl)
     refine ac 13 rfl (bU ?_)
     refine cz (eQ rfl (bH (cw ?_)))
     exact bx (g,a) h rfl (aT rfl) (aH [0,1,2] kr rfl)
    rintro⟨I,E⟩ h
    rw[t] at h
    refine ct (ac 1 rfl ?_)
    obtain⟨y,h⟩:=bC h
    refine aO rfl (dN (r:=r3+1) (IntWalk.i32_in _ y)) (ac 1 rfl (bU ?_))
    subst d
    exact ff (m,I,r3+1,E) h (av _) rfl (aT rfl) (aH [0,1,2] kr rfl)
   refine dZ (cA (cA (ed ?_)))
   exact bx (g,l,a,c) h rfl (aT rfl) (aH [0,1,2] kr rfl)
 rintro⟨o1,b1,F,N⟩ h
 rw[u] at h
 refine aC (ac 2 rfl (az (bI (xU (enc:=gR) (e:=9) (size:=1) ?_))))
 refine xU (enc:=gR) (e:=9) (size:=1) ?_
 cases h
 exact eO (rs:=[.tmp 0]) (b1,F,(⟨some ⟨N,0,none⟩,0,0⟩:Hd),ew,ew) (.inl rfl) results25 (.cons (.tmp rfl) .nil) rfl (aH [0,1,2,3,4] kr rfl)
def zcw (o1:dB) (u1:ab) (j1:Option Int) (ag1:Int→Option Int) (x3:Int):Option Int := aU (decide ((x3:Int)<(o1.Units.length:Int))) ( aX (zcy o1.Units x3) fun (q1:ab)=> aU (decide (q1=u1)) ( some x3
) ( aY (cR (x3+1)) <| ag1 (x3+1)
)
) ( j1
)
def tB (o1:dB) (u1:ab):Option Int := cJ (fun (j1:Option Int)=> zaI (fun _=>none) (zcw o1 u1 j1) zbH 0
) ( some (-1)
)
theorem Dc {bo1:Nat} {o1:dB} {o1_h0 o1_h1 o1_h2 o1_h3:Hd} {u1:ab} {r:Int} (h:tB o1 u1=some r):iv prog 62 [zP bo1,.string u1] [cells bo1 [o1_h0.v,.map (some (aV o1_h1)),o1_h2.v,o1_h3.v] 39,bo o1_h0.v o1.Units,dh (aV o1_h1) o1.Fors,bo o1_h2.v o1.Skips,bo o1_h3.v o1.Lines] [] (fun _:Unit=>(zI r)) (fun _=>[]):=by
 unfold tB at h
 refine iv.intro func62 rfl ntmps62 (by simp) ?_
 intro w0 K a
 obtain⟨l,m,h⟩:=cP h
 refine c8 (β:=Unit) 1 rfl (fun b=>l=some r) (fun b=>[]) (fun b=>[]) (fun b=>[]) (fun cut=>?_) ?_
 ·
  refine aC (ac 1 rfl (az (cut (aC (ac 1 rfl (fX rfl dc rfl (cf qc rfl dc rfl (show _=0 from rfl) (lT (i:=0) a rfl lA rfl dc rfl rfl (iO (a.vw (i:=1) rfl) rfl dc rfl aD (ac 1 rfl ?_))))))))))
  refine az (cy ?_)
  refine fh (β:=Nat×Int) (fun b=>zaI (fun _=>none) (zcw o1 u1 l) b.1 b.2=some r) (fun b=>[]) (fun b=>[(1,.string u1),(10,o1_h0.v),(11,zI (o1.Units.length:Int)),(12,zI b.2)]) (fun b=>[]) (fun b=>b.1) (zbH,0) h rfl (aT rfl) ad ?_
  rintro⟨k,g⟩ h
  cases k with
  | zero=>exact fa h
  | succ k=>
   obtain⟨s,c⟩:∃ag,ag=zaI (fun _=>none) (zcw o1 u1 l) k:=⟨_,rfl⟩
   have h:zcw o1 u1 l s g=some r:=by rw[c];exact h
   unfold zcw at h
   refine aC (aO rfl ei (az (cm ?_)))
   refine bG rfl h (fun h=>?_) (fun h=>?_)
   ·
    refine bH (cz (cm (cy (aC (ac 1 rfl ?_)))))
    obtain⟨q1,d,h⟩:=bj h
    refine gq (a.vw (i:=1) rfl) d aD gm rfl dc rfl rfl rfl (vW (n:=0+(g:Int).toNat) (j:=0) (i:=1) (q:=q1) a rfl ea ga rfl dc rfl (cI (a.vw (i:=1) rfl) d) rfl dc rfl (ac 2 rfl (cv (ac 2 rfl (aO rfl lf (az ?_))))))
    refine bG rfl h (fun h=>?_) (fun h=>?_)
    ·
     refine aC (ac 2 rfl (az (bI (cE (bT (bT (cE (bT ?_))))))))
     cases h
     exact dk 4 results62
    refine bH (cw (cz (ct ?_)))
    obtain⟨o,h⟩:=bC h
    refine aO rfl (dN (r:=g+1) (ai _ o)) (ac 1 rfl (bU ?_))
    subst c
    exact ff (k,g+1) h (av _) rfl (aT rfl) ad
   refine dZ (cA (cA (ed ?_)))
   exact bx () h rfl (qG) ad
 rintro _ h
 rw[m] at h
 refine aC (ac 1 rfl (az (bI ?_)))
 cases h
 exact dk 4 results62
def xA (o1:dB) (u1:ab):Option Bool := aU ((zbL u1 o1.Fors).isSome) ( some true
) ( aX (tB o1 u1) fun (r1:Int)=> some (decide ((0:Int)≤r1))
)
theorem QO {bo1:Nat} {o1:dB} {o1_h0 o1_h1 o1_h2 o1_h3:Hd} {u1:ab} {r:Bool} (h:xA o1 u1=some r):iv prog 61 [zP bo1,.string u1] [cells bo1 [o1_h0.v,.map (some (aV o1_h1)),o1_h2.v,o1_h3.v] 39,bo o1_h0.v o1.Units,dh (aV o1_h1) o1.Fors,bo o1_h2.v o1.Skips,bo o1_h3.v o1.Lines] [] (fun _:Unit=>(.bool r)) (fun _=>[]):=by
 unfold xA at h
 refine iv.intro func61 rfl ntmps61 (by simp) ?_
 intro w0 K a
 refine aC (ac 1 rfl (cv (ac 1 rfl (fX rfl dc rfl (cf EF rfl dc rfl (show _=1 from rfl) (lT (i:=0) a rfl vZ rfl dc rfl rfl (ac 1 rfl ?_)))))))
 refine EC (i:=2) (kk:=u1) an underlying37 kr rfl dc rfl rfl a rfl (fun g d=>?_)
 refine ac 1 rfl (fS rfl dc rfl rfl (fS rfl dc rfl rfl (ac 2 rfl (cv (ac 2 rfl ?_)))))
 refine dG (s:=17) rfl h (fun h=>?_) (fun h=>?_)
 ·
  refine ac 6 rfl (az (bI ?_))
  cases h
  exact dk 4 results61
 refine ac 2 rfl ?_
 obtain⟨c,b,h⟩:=bj h
 refine nj (v:=zI c) (vs:=[zP bo1,.string u1]) a rfl dc rfl rfl rfl AE (Dc (bo1:=bo1) (o1:=o1) (o1_h0:=o1_h0) (o1_h1:=o1_h1) (o1_h2:=o1_h2) (o1_h3:=o1_h3) b) (.ro 0 rfl (.ro 1 rfl (.ro 2 rfl (.ro 3 rfl (.ro 4 rfl .nil))))) (aO rfl fG (ac 2 rfl (az (bI ?_))))
 cases h
 exact dk 4 results61
def zei (s1:ab) (to1:Int) (j2:Int→Option (List gn)) (ag2:Int→Option (List gn)) (k4:Int):Option (List gn) := aU (decide ((k4:Int)<to1)) ( aX (kR s1 k4) fun (c2:Int)=> aU ((c2:Int) != 32) ( aY (cR (k4+1)) <| ag2 (k4+1)
) ( j2 k4
)
) ( j2 k4
)
def zej (s1:ab) (to1:Int) (j1:(List gn)→Option (List gn)) (ag1:(List gn)→Int→Option (List gn)) (l4:List gn) (i3:Int):Option (List gn) := aU (decide ((i3:Int)<to1)) ( aX (kR s1 i3) fun (c1:Int)=> aU ((c1:Int)==32) ( aY (cR (i3+1)) <| ag1 l4 (i3+1)
) ( cJ (fun (j2:Int→Option (List gn))=> zaI (fun _=>none) (zei s1 to1 j2) zbH i3
) (fun (k1:Int)=> aY (0≤(i3:Int)∧(i3:Int)≤k1∧(k1:Int)≤(s1.size:Int)) <| aY (l4.length+1≤2147483648) <| ag1 (l4++[(⟨i3,c7 s1 i3 k1⟩:gn)]) k1
)
)
) ( j1 l4
)
def xB (s1:ab) (from1:Int) (to1:Int):Option (List gn) := cJ (fun (j1:(List gn)→Option (List gn))=> zaI (fun _ _=>none) (zej s1 to1 j1) zbH ([]:List gn) from1
) (fun (l1:List gn)=> aY (l1.length+1≤2147483648) <| some (l1++[(⟨to1,(⟨#[]⟩:ab)⟩:gn)])
)
theorem QP {c:ab} {g:Int} {a:Int} {r:(List gn)} (h:xB c g a=some r):Fn prog 26 [.string c,zI g,zI a] [] (fun v0:Value=>v0) (fun v0=>[s7 v0 r]):=by
 unfold xB at h
 refine _root_.Go.Proofs.YtifpjbgnikjglaaGreatDoor.Fn.intro func26 rfl ntmps26 (by simp) ?_
 intro w0 K
 obtain⟨y,E,h⟩:=cP h
 refine c8 (β:=(List gn)×Value) 2 rfl (fun b=>y b.1=some r) (fun b=>[]) (fun b=>[(2,zI a),(7,b.2)]) (fun b=>[s7 b.2 b.1]) (fun cut=>?_) ?_
 ·
  refine aC (ac 1 rfl (cv (ac 1 rfl (az (cut (aC (ac 1 rfl ?_)))))))
  refine ac 1 rfl (az (cy (nf (enc:=um) (e:=106) (size:=2) ?_)))
  refine fh (β:=Nat×(List gn)×Int×Value) (fun b=>zaI (fun _ _=>none) (zej c a y) b.1 b.2.1 b.2.2.1=some r) (fun b=>[]) (fun b=>[(0,.string c),(2,zI a),(7,b.2.2.2),(8,zI b.2.2.1)]) (fun b=>[s7 b.2.2.2 b.2.1]) (fun b=>b.1) (zbH,([]:List gn),g,(.slice none 0 0)) h rfl (aT rfl) (aH [0] kr rfl) ?_
  rintro⟨q,o,d,n⟩ h
  cases q with
  | zero=>exact fa h
  | succ q=>
   obtain⟨N,l⟩:∃ag,ag=zaI (fun _ _=>none) (zej c a y) q:=⟨_,rfl⟩
   have h:zej c a y N o d=some r:=by rw[l];exact h
   unfold zej at h
   refine cm (aC (ac 2 rfl (aO rfl ei (az ?_))))
   refine bG rfl h (fun h=>?_) (fun h=>?_)
   ·
    refine bH (cz (cy (cm (aC (ac 2 rfl ?_)))))
    obtain⟨c1,C,h⟩:=bj h
    refine ny rfl dc rfl rfl (p6 an C) (aO rfl eE (az ?_))
    refine bG rfl h (fun h=>?_) (fun h=>?_)
    ·
     refine aC (ac 1 rfl ?_)
     obtain⟨J,h⟩:=bC h
     refine aO rfl (dN (r:=d+1) (ai _ J)) (ac 1 rfl (az (dZ (cA (ed ?_)))))
     subst l
     exact ff (q,o,d+1,n) h (av _) rfl (aT rfl) (aH [0] kr rfl)
    refine bH (cz ?_)
    obtain⟨w,D,h⟩:=cP h
    refine c8 (β:=Int) 1 rfl (fun b=>w b=some r) (fun b=>[]) (fun b=>[(0,.string c),(2,zI a),(7,n),(8,zI d),(9,zI b)]) (fun b=>[s7 n o]) (fun cut=>?_) ?_
    ·
     refine aC (ac 2 rfl (az (cut (cy ?_))))
     refine fh (β:=Nat×Int) (fun b=>zaI (fun _=>none) (zei c a w) b.1 b.2=some r) (fun b=>[]) (fun b=>[(0,.string c),(2,zI a),(7,n),(8,zI d),(9,zI b.2)]) (fun b=>[s7 n o]) (fun b=>b.1) (zbH,d) h rfl (aT rfl) (aH [0] kr rfl) ?_
     rintro⟨u,t⟩ h
     cases u with
     | zero=>exact fa h
     | succ u=>
      obtain⟨M,m⟩:∃ag,ag=zaI (fun _=>none) (zei c a w) u:=⟨_,rfl⟩
      have h:zei c a w M t=some r:=by rw[m];exact h
      unfold zei at h
      refine cm (aC (ac 2 rfl (aO rfl ei (ac 1 rfl ?_))))
      refine dG (s:=24) rfl h (fun h=>?_) (fun h=>?_)
      ·
       refine ac 2 rfl ?_
       obtain⟨T,z,h⟩:=bj h
       refine ny rfl dc rfl rfl (p6 an z) (aO rfl nc (ac 1 rfl (az ?_)))
       refine bG rfl h (fun h=>?_) (fun h=>?_)
       ·
        refine bH (cz (cy (ct (ac 1 rfl ?_))))
        obtain⟨I,h⟩:=bC h
        refine aO rfl (dN (r:=t+1) (ai _ I)) (ac 1 rfl (bU (cw ?_)))
        subst m
        exact ff (u,t+1) h (av _) rfl (aT rfl) (aH [0] kr rfl)
       refine dZ (cA (cA (ed ?_)))
       exact bx t h rfl (aT rfl) (aH [0] kr rfl)
      refine ac 5 rfl (az (eQ rfl (dZ (cA (cA (ed ?_))))))
      exact bx t h rfl (aT rfl) (aH [0] kr rfl)
    rintro k1 h
    rw[D] at h
    refine aC (ac 5 rfl ?_)
    obtain⟨H,h⟩:=bC h
    refine iz rfl dc rfl rfl rfl (jZ (i:=d) (j:=k1) an (.inr rfl) (.inr rfl) H) ?_
    refine eU (v:=.agg #[zI d,.string (c7 c d k1)]) (ps:=[(0,.tmp 33),(1,.tmp 37)]) rfl dc rfl (fun _=>by kernel_rfl) ?_
    refine gl (cs:=[zI d,.string (c7 c d k1)]) (te:=106) (ps:=[(0,.tmp 38)]) rfl dc rfl (fun _=>by kernel_rfl) (fun b1=>?_)
    obtain⟨G,h⟩:=bC h
    refine iT (k:=0) (k2:=1) (ys:=[(⟨d,c7 c d k1⟩:gn)]) cV EM AR Ft rfl dc rfl rfl rfl rfl rfl rfl G (fun P=>?_)
    refine ac 1 rfl (az (ct (ac 2 rfl (bU (cw ?_)))))
    subst l
    exact ff (q,o++[(⟨d,c7 c d k1⟩:gn)],k1,P) h (av _) rfl (aT rfl) (aH [0] kr rfl)
   refine dZ (cA (cA (ed ?_)))
   exact bx (o,n) h rfl (aT rfl) (aH [0] kr rfl)
 rintro⟨S,Q⟩ h
 rw[E] at h
 refine aC (ac 2 rfl ?_)
 refine eU (v:=.agg #[zI a,.string (⟨#[]⟩:ab)]) (ps:=[(0,.tmp 43),(1,.const (.string (⟨#[]⟩:ab)))]) rfl dc rfl (fun _=>by kernel_rfl) ?_
 refine gl (cs:=[zI a,.string (⟨#[]⟩:ab)]) (te:=106) (ps:=[(0,.tmp 44)]) rfl dc rfl (fun _=>by kernel_rfl) (fun U=>?_)
 obtain⟨F,h⟩:=bC h
 refine iT (k:=0) (k2:=1) (ys:=[(⟨a,(⟨#[]⟩:ab)⟩:gn)]) cV EM AR Ft rfl dc rfl rfl rfl rfl rfl rfl F (fun O=>?_)
 refine ac 1 rfl (az (bI ?_))
 cases h
 exact eO (rs:=[.tmp 6]) O (.inl rfl) results26 (.cons (.tmp rfl) .nil) rfl (aH [0] kr rfl)
def lC (x:bd):Tk:=(x.Rune,x.Text)
theorem zu (s:ab):(gw s).map lC=(gj s.data.toList).map tkT:=by
 have h:=aL (List.map lC) (GY s)
 rw[ce,ce] at h
 have e1:(gw s).map (lC ∘ je)=(gw s).map lC:=dF fun x _=>rfl
 have e2:(gj s.data.toList).map (lC ∘ zfM)=(gj s.data.toList).map tkT:=dF fun t _=>rfl
 rw[e1,e2] at h
 exact h
theorem Ix (r:Int) (h:fN r):sa r=some (dw r):=by
 unfold sa
 refine zbx h ?_
 cases hg:great r with
 | true=>exact cu rfl (by unfold dw;rw[hg];rfl)
 | false=>exact cr rfl (zbx h (by unfold dw;rw[hg];rfl))
theorem QQ (r:Int):rb r=some (eC r):=by
 unfold rb eC
 by_cases h1:768≤r
 ·exact cu (al h1) (aL some (by simp[h1]))
 ·exact cr (ae h1) (aL some (by simp[h1]))
structure Iy (x:bd):Prop where
 i32:fN x.Rune
 sz:x.Text.size≤4
 en:0≤x.Rune→x.Text=af x.Rune
 ne:0<x.Text.size
theorem Dd (s:ab):∀x∈gw s,Iy x:=by
 intro x hx
 have hm:lC x∈(gj s.data.toList).map tkT:=by rw[← zu];exact aW.2 ⟨x,hx,rfl⟩
 obtain⟨t,ht,e⟩:=aW.1 hm
 have a:=ql _ t ht
 have e1:(tkT t).1=x.Rune:=aL Prod.fst e
 have e2:(tkT t).2=x.Text:=aL Prod.snd e
 have hsz:=vk a
 have c:(tkT t).2.size=t.bs.length:=by rw[kL];show t.bs.toArray.toList.length=_;simp
 have b:=c6.2 (AY a)
 refine⟨?_,by rw[← e2,c];exact hsz,fun h=>by rw[← e1] at h ⊢;rw[← e2];exact H6 a h,by rw[← e2,c];exact b⟩
 rw[← e1]
 unfold tkT
 have:=zd a
 unfold fN at this ⊢
 split
 ·exact⟨by show (-2147483648:Int)≤-1;decide,by show (-1:Int)≤2147483647;decide⟩
 ·exact this
theorem QR (s:ab):(gw s).length≤s.size:=by
 have:=aL gi (zu s)
 rw[aF,aF] at this
 have:=zf s
 omega
theorem Iz {r:Int} (h:dw r=true):0≤r:=(mG r h).1
theorem QS (s:ab) (c:s.size≤65536):xy s=some (iL s):=by
 unfold xy
 have m:=QR (lZ s)
 have h2:=(vj s c).2.1
 refine dv (bN (Oy s c) (bN (w9 (lZ s) (by omega)) ?_))
 have:=qq (xs:=gw (lZ s)) (F:=zek some (gw (lZ s))) (bot:=fun _ _=>none) (f:=fun b x=>b++(gI (lC x)).2) (J:=some) (fun k b=>b.size≤4*k) (fun ag k x a hx g=>by
   have hk:=(au.1 hx).1
   have ok:=Dd _ x (aJ hx)
   have j:=ok.sz
   unfold zek
   refine cu (mE hx) (dv (bN (lW hx) ?_))
   have other:dw x.Rune=false→(gI (lC x)).2=x.Text:=fun h=>by rw[Qy (show kK (lC x)=false from h)];rfl
   by_cases h0:0≤x.Rune
   ·refine cu (al h0) (bN (Ix _ ok.i32) ?_)
    cases hL:dw x.Rune with
    | true=>
     have o:=oG (ee x.Rune)
     have e:(gI (lC x)).2=af (ee x.Rune):=by unfold gI;rw[show kK (lC x)=true from hL];rfl
     rw[e]
     exact cu rfl (zbx ok.i32 (bN (yH _ (GT _ hL)) (zbx (by omega) (zbx (jC (by omega)) rfl))))
    | false=>
     rw[other hL]
     exact cr rfl (zbx (by omega) (zbx (jC (by omega)) rfl))
   ·have hL:dw x.Rune=false:=by
     cases h:dw x.Rune with
     | false=>rfl
     | true=>exact absurd (Iz h) h0
    rw[other hL]
    exact cr (ae h0) (zbx (by omega) (zbx (jC (by omega)) rfl))) (fun k x a hx g=>by
   have ok:=Dd _ x (aJ hx)
   have j:(gI (lC x)).2.size≤4:=zi ok.sz
   rw[aK];omega) (fun ag a _=>by unfold zek;exact cr mu rfl) (n:=zbH) (kZ (by omega)) (a:=(⟨#[]⟩:ab)) (cH _)
 refine this.trans ?_
 have key:∀ (l:List bd) (b:ab),l.foldl (fun b x=>b++(gI (lC x)).2) b=b++mX ((l.map lC).map gI):=by
  intro l
  induction l with
  | nil=>intro b;show b=b++aA;rw[bW]
  | cons x l d=>
   intro b
   have i:mX (((x::l).map lC).map gI)=(gI (lC x)).2++mX ((l.map lC).map gI):=by unfold mX;rw[aE,aE,j0]
   rw[bQ,d,i,dS]
 rw[key,zu]
 show some (aA++iL s)=_
 rw[ByteArray.empty_append]
theorem QT (l:List bd) (g:∀x∈l,Iy x) (r:ab):∀ (n:Nat) (B A:List bd),l=A++B→B.length<n→l.length≤8 →
  zaI (fun _=>none) (zdo l (some r)) n (A.length:Int)=some (if lO A.length (B.map lC) then r else ⟨#[]⟩):=by
 intro n
 induction n with
 | zero=>intro B A _ h;omega
 | succ n m=>
  intro B A c o s
  rw[ic]
  generalize i:zaI (fun _=>none) (zdo l (some r)) n=ag
  unfold zdo
  have a:l.length=A.length+B.length:=by rw[c,ah]
  cases B with
  | nil=>exact cr (ae (by rw[a];simp)) rfl
  | cons x B=>
   have ok:=g x (by rw[c];simp)
   have hx:l[A.length]?=some x:=by rw[c];simp
   have d:=m B (A++[x]) (by rw[c,aM];rfl) (by rw[aj] at o;omega) s
   rw[i,show (A++[x]).length=A.length+1 by simp] at d
   push_cast at d
   rw[aj] at a
   have j:(aY (cR ((A.length:Int)+1))<|ag ((A.length:Int)+1))=some (if lO (A.length+1) (B.map lC) then r else ⟨#[]⟩):=zbx ⟨by omega,by omega⟩ d
   refine cu (al (by omega)) (dv (bN (jz hx) ?_))
   rw[aE,lO,al (show A.length+1≤8 by omega),jp]
   have u:kK (lC x)=dw x.Rune:=rfl
   have t:pb (lC x)=eC x.Rune:=rfl
   rw[u,t]
   have b:dw x.Rune=false→0≤x.Rune→(aU (((A.length:Int):Int)==0) (some (⟨#[]⟩:ab)) (aU (decide ((x.Rune:Int)<0)) (some (⟨#[]⟩:ab)) (aX (rb x.Rune) fun (k:Bool)=>aU (!k) (some (⟨#[]⟩:ab)) (aY (cR ((A.length:Int)+1))<|ag ((A.length:Int)+1))))) =
     some (if (dw x.Rune||(decide (A.length≠0)&&eC x.Rune))&&lO (A.length+1) (B.map lC) then r else ⟨#[]⟩):=fun hL h0=>by
    rw[hL,ik]
    by_cases hA:A.length=0
    ·rw[hA]
     exact cu rfl rfl
    ·rw[al (show A.length≠0 from hA),jp]
     refine cr (aS.2 (by omega)) (cr (ae (by omega)) (bN (QQ _) ?_))
     cases eC x.Rune with
     | true=>exact cr rfl (by rw[jp];exact j)
     | false=>exact cu rfl rfl
   by_cases h0:0≤x.Rune
   ·refine cu (al h0) (bN (Ix _ ok.i32) ?_)
    cases hL:dw x.Rune with
    | true=>
     refine cr rfl ?_
     rw[Bool.true_or,jp];exact j
    | false=>
     have:=b hL h0
     rw[hL] at this
     exact cu rfl this
   ·have hL:dw x.Rune=false:=by
     cases h:dw x.Rune with
     | false=>rfl
     | true=>exact absurd (Iz h) h0
    have q:eC x.Rune=false:=by unfold eC;exact ae (by omega)
    rw[hL,q,ik,Bool.and_false,Bool.false_and]
    refine cr (ae h0) ?_
    by_cases hA:A.length=0
    ·exact cu (by rw[hA];rfl) rfl
    ·exact cr (aS.2 (by omega)) (cu (al (by omega)) rfl)
theorem QU:∀ (l:List Tk) (k:Nat),k≤8→8<k+l.length→lO k l=false:=by
 intro l k hk h
 cases e:lO k l with
 | false=>rfl
 | true=>have:=zk l k hk e;omega
theorem QV (s:ab) (b:s.size≤65536):xz s=some (zdT s):=by
 have d:lZ (iL s)=iL s:=CS s b
 have a:(gw (iL s)).map lC=(ky s).map gI:=by
  rw[zu,CR s b]
  unfold ky
  rw[ce,ce]
  exact dF fun t _=>zh t
 have c:(gw (iL s)).length=(ky s).length:=by
  have:=aL gi a
  rw[aF,aF] at this;exact this
 have h5:(ky s).length≤786432:=by
  have h1:=zf (lZ s)
  have h2:=(vj s b).2.1
  unfold ky oI
  rw[aF];omega
 have hsz:(iL s).size≤4000000:=by
  have:(iL s).size≤4*((ky s).map gI).length:=zg fun y hy=>by
   obtain⟨x,hx,rfl⟩:=aW.1 hy
   exact zi (HX s x hx)
  rw[aF] at this;omega
 unfold xz zdT
 refine bN (QS s b) (bN (w9 (iL s) (by omega)) ?_)
 rw[← zj,← a]
 by_cases h1:(gw (iL s)).length=0
 ·refine cu (al (by omega)) ?_
  have e0:ky s=[]:=List.length_eq_zero_iff.1 (by omega)
  have:iL s=⟨#[]⟩:=by unfold iL;rw[e0];rfl
  rw[this,ite_self]
 ·refine cr (ae (by omega)) ?_
  by_cases g:8<(gw (iL s)).length
  ·rw[QU _ 0 (by omega) (by rw[aF];omega)]
   exact cu (al (by omega)) rfl
  ·refine cr (ae (by omega)) (dv ?_)
   exact QT (gw (iL s)) (Dd _) (iL s) zbH (gw (iL s)) [] (bt _).symm (by unfold zbH;omega) (by omega)
theorem De (w:dB) (u:ab) (l:w.Units.length≤1000000000):tB w u=some ((ln w.Units u).getD (-1)):=by
 unfold tB
 refine dv ?_
 have key:∀ (n:Nat) (B A:List ab),w.Units=A++B→B.length<n→zaI (fun _=>none) (zcw w u (some (-1))) n (A.length:Int)=some (((ln B u).map fun k=>(A.length:Int)+k).getD (-1)):=by
  intro n
  induction n with
  | zero=>intro B A _ h;omega
  | succ n i=>
   intro B A d j
   rw[ic]
   generalize g:zaI (fun _=>none) (zcw w u (some (-1))) n=ag
   unfold zcw
   have b:w.Units.length=A.length+B.length:=by rw[d,ah]
   cases B with
   | nil=>exact cr (ae (by rw[b];simp)) rfl
   | cons x B=>
    have hx:w.Units[A.length]?=some x:=by rw[d];simp
    have c:=i B (A++[x]) (by rw[d,aM];rfl) (by rw[aj] at j;omega)
    rw[g,show (A++[x]).length=A.length+1 by simp] at c
    push_cast at c
    rw[aj] at b
    refine cu (al (by omega)) (bN (jz hx) ?_)
    rw[ln]
    by_cases a:x=u
    ·rw[ay a.symm]
     refine cu (al a) ?_
     show some (A.length:Int)=some ((A.length:Int)+0)
     rw[Int.add_zero]
    ·rw[ar (fun h=>a h.symm)]
     refine cr (ae a) (zbx ⟨by omega,by omega⟩ (c.trans ?_))
     cases ln B u with
     | none=>rfl
     | some k=>
      show some ((A.length:Int)+1+k)=some ((A.length:Int)+(k+1))
      congr 1;omega
 have:=key zbH w.Units [] rfl (by unfold zbH;omega)
 refine this.trans ?_
 cases ln w.Units u with
 | none=>rfl
 | some k=>show some ((0:Int)+k)=some k;rw[Int.zero_add]

structure IA (o:cK) (w:dB):Prop where
 un:w.Units=o.units
 fo:w.Fors=o.fors
 li:w.Lines=o.lines
 sk:∀f,(zbL f o.skips).getD false=w.Skips.any fun s=>decide (s=f)
 sl:w.Skips.length≤256
section
variable {X R:Type}
end

theorem QW {o:cK} {w:dB} (hi:k7 o) (hr:IA o w) (u:ab):xA w u=some (oa o u):=by
 have a:=hi.ul;have b:=hi.ll
 unfold xA oa
 rw[hr.fo]
 cases hf:(zbL u o.fors).isSome with
 | true=>rw[Bool.or_true];exact cu rfl rfl
 | false=>
  rw[Bool.or_false]
  refine cr rfl (bN (De w u (by rw[hr.un];omega)) ?_)
  rw[hr.un,hi.pl]
  cases hx:ln o.units u with
  | none=>rfl
  | some k=>
   have:=(xw hx).1
   show some (decide ((0:Int)≤k))=some true
   rw[al this]

section
variable {R:Type}
end
section
variable {r2 L A B:List bd} {r3:Int}
end



def zcH (l1:List gn) (j1:(List ab)→Option (zat×dB)) (ag1:(List ab)→Option (zat×dB)) (shape4:List ab):Option (zat×dB) := aU (decide (((shape4.length:Int):Int)<((l1.length:Int) - 1))) ( aU (decide (((shape4.length:Int):Int)<6)) ( aY (shape4.length+1≤2147483648) <| ag1 (shape4++[(⟨#[]⟩:ab)])
) ( j1 shape4
)
) ( j1 shape4
)
def zcG (o1:dB) (l1:List gn) (shape1:List ab) (j2:Option (zat×dB)) (ag2:Int→Option (zat×dB)) (i3:Int):Option (zat×dB) := cJ (fun (j3:Option (zat×dB))=> aU (decide ((i3:Int)<(shape1.length:Int))) ( j3
) ( aU (decide ((i3:Int)<((l1.length:Int) - 1))) ( j3
) ( j2
)
)
) ( cJ (fun (j4:ab→Bool→Bool→Bool→Option (zat×dB))=> aU (decide ((((l1.length:Int) - 1):Int)≤i3)) ( aX (zcy l1 (min i3 ((l1.length:Int) - 1))) fun (q4:gn)=> some ((⟨220,q4.at_⟩:zat),o1)
) ( aU (decide (((shape1.length:Int):Int)≤i3)) ( aX (zcy l1 (min i3 ((l1.length:Int) - 1))) fun (q5:gn)=> some ((⟨220,q5.at_⟩:zat),o1)
) ( aX (zcy shape1 i3) fun (q6:ab)=> aU (!decide (q6=(⟨#[]⟩:ab))) ( aX (zcy l1 i3) fun (q7:gn)=> aU (!decide (q6=q7.text)) ( aX (zcy l1 (min i3 ((l1.length:Int) - 1))) fun (q8:gn)=> some ((⟨220,q8.at_⟩:zat),o1)
) ( j4 q6 true true (!decide (q6=q7.text))
)
) ( j4 q6 false false false
)
)
)
) (fun (x1:ab) (x2:Bool) (x3:Bool) (x4:Bool)=> aY (cR (i3+1)) <| ag2 (i3+1)
)
)
def zcF (o1:dB) (l1:List gn) (shape1:List ab) (j5:(List ab)→ab→Option (zat×dB)) (ag3:(List ab)→ab→Int→Option (zat×dB)) (forms4:List ab) (said4:ab) (x7:Int):Option (zat×dB) := aU (decide ((x7:Int)<(shape1.length:Int))) ( cJ (fun (j6:(List ab)→ab→Option (zat×dB))=> aX (zcy shape1 x7) fun (q10:ab)=> aU (!decide (q10=(⟨#[]⟩:ab))) ( cJ (fun (j7:ab→Option (zat×dB))=> aY (forms4.length+1≤2147483648) <| aU (decide (q10=(⟨#[97,102,116,101,114]⟩:ab))) ( aY (said4.size+(⟨#[32,97,102,116,101,114]⟩:ab).size≤9223372036854775807) <| j7 (said4++(⟨#[32,97,102,116,101,114]⟩:ab))
) ( j7 said4
)
) (fun (said6:ab)=> j6 (forms4++[(⟨#[]⟩:ab)]) said6
)
) ( aX (zcy l1 x7) fun (q11:gn)=> aX (xz q11.text) fun (r1:ab)=> aU (decide (r1=(⟨#[]⟩:ab))) ( aX (zcy l1 x7) fun (q12:gn)=> some ((⟨221,q12.at_⟩:zat),o1)
) ( aY (forms4.length+1≤2147483648) <| aX (uZ r1) fun (r2:ab)=> aY ((⟨#[32]⟩:ab).size+r2.size≤9223372036854775807) <| aY (said4.size+((⟨#[32]⟩:ab)++r2).size≤9223372036854775807) <| j6 (forms4++[r1]) (said4++((⟨#[32]⟩:ab)++r2))
)
)
) (fun (forms5:List ab) (said5:ab)=> aY (cR (x7+1)) <| ag3 forms5 said5 (x7+1)
)
) ( j5 forms4 said4
)
def zcE (o1:dB) (l1:List gn) (j9:ab→Option (zat×dB)) (r3:ab) (ag4:Int→Option (zat×dB)) (x10:Int):Option (zat×dB) := aU (decide ((x10:Int)<(o1.Skips.length:Int))) ( aX (zcy o1.Skips x10) fun (q15:ab)=> aU (decide (q15=r3)) ( aX (zcy l1 1) fun (q16:gn)=> some ((⟨222,q16.at_⟩:zat),o1)
) ( aY (cR (x10+1)) <| ag4 (x10+1)
)
) ( j9 r3
)
def zcD (o1:dB) (l1:List gn) (shape1:List ab) (forms1:List ab) (j10:Option (zat×dB)) (ag5:Int→Option (zat×dB)) (i6:Int):Option (zat×dB) := aU (decide ((i6:Int)<(forms1.length:Int))) ( cJ (fun (j11:Option (zat×dB))=> aX (zcy shape1 i6) fun (q19:ab)=> aU (decide (q19=(⟨#[]⟩:ab))) ( aX (zcy forms1 i6) fun (q20:ab)=> aX (tB o1 q20) fun (r5:Int)=> aU (decide ((r5:Int)<0)) ( aX (zcy l1 i6) fun (q21:gn)=> some ((⟨223,q21.at_⟩:zat),o1)
) ( j11
)
) ( j11
)
) ( aY (cR (i6+1)) <| ag5 (i6+1)
)
) ( j10
)
def xC (o1:dB) (l1:List gn):Option (zat×dB) := aU (((o1.Lines.length:Int):Int)==256) ( aX (zcy l1 0) fun (q1:gn)=> some ((⟨3,q1.at_⟩:zat),o1)
) ( cJ (fun (j1:(List ab)→Option (zat×dB))=> aY (cR ((l1.length:Int) - 1)) <| aX (zcy l1 0) fun (q2:gn)=> aU (decide (q2.text=(⟨#[112,117,116]⟩:ab))) ( j1 ([(⟨#[112,117,116]⟩:ab),(⟨#[]⟩:ab),(⟨#[97,102,116,101,114]⟩:ab),(⟨#[]⟩:ab)]:List ab)
) ( aU (decide (q2.text=(⟨#[115,107,105,112]⟩:ab))) ( j1 ([(⟨#[115,107,105,112]⟩:ab),(⟨#[]⟩:ab)]:List ab)
) ( aU (decide (q2.text=(⟨#[97,115]⟩:ab))) ( zaI (fun _=>none) (zcH l1 j1) zbH ([(⟨#[97,115]⟩:ab),(⟨#[]⟩:ab),(⟨#[]⟩:ab)]:List ab)
) ( aX (zcy l1 0) fun (q3:gn)=> some ((⟨220,q3.at_⟩:zat),o1)
)
)
)
) (fun (shape1:List ab)=> cJ (fun (j2:Option (zat×dB))=> zaI (fun _=>none) (zcG o1 l1 shape1 j2) zbH 0
) ( cJ (fun (j5:(List ab)→ab→Option (zat×dB))=> aX (zcy shape1 0) fun (q9:ab)=> zaI (fun _ _ _=>none) (zcF o1 l1 shape1 j5) zbH ([]:List ab) q9 0
) (fun (forms1:List ab) (said1:ab)=> cJ (fun (j8:Option (zat×dB))=> aX (zcy shape1 0) fun (q13:ab)=> aU (decide (q13=(⟨#[115,107,105,112]⟩:ab))) ( cJ (fun (j9:ab→Option (zat×dB))=> aX (zcy forms1 1) fun (q14:ab)=> aX (uK q14) fun (r3:ab)=> zaI (fun _=>none) (zcE o1 l1 j9 r3) zbH 0
) (fun (fold1:ab)=> aY (o1.Skips.length+1≤2147483648) <| aY (o1.Lines.length+1≤2147483648) <| some ((⟨0,0⟩:zat),(⟨o1.Units,o1.Fors,o1.Skips++[fold1],o1.Lines++[said1]⟩:dB))
)
) ( j8
)
) ( aX (zcy forms1 1) fun (q17:ab)=> aX (xA o1 q17) fun (r4:Bool)=> aU (r4) ( aX (zcy l1 1) fun (q18:gn)=> some ((⟨222,q18.at_⟩:zat),o1)
) ( cJ (fun (j10:Option (zat×dB))=> zaI (fun _=>none) (zcD o1 l1 shape1 forms1 j10) zbH 2
) ( cJ (fun (j12:(List ab)→(List (ab×List ab))→Option (zat×dB))=> aX (zcy shape1 0) fun (q22:ab)=> aU (decide (q22=(⟨#[97,115]⟩:ab))) ( aX (zcy forms1 1) fun (q23:ab)=> aY (0≤(2:Int)∧(2:Int)≤(forms1.length:Int)∧((forms1.length:Int):Int)≤(forms1.length:Int)) <| j12 o1.Units (gH q23 (fi forms1 2 (forms1.length:Int)) o1.Fors)
) ( aX (zcy forms1 3) fun (q24:ab)=> aX (tB o1 q24) fun (r6:Int)=> aY (cR (r6+1)) <| aY (0≤(0:Int)∧(0:Int)≤(r6+1)∧(r6+1:Int)≤(o1.Units.length:Int)) <| aY (([]:List ab).length+(fi o1.Units 0 (r6+1)).length≤2147483648) <| aX (zcy forms1 1) fun (q25:ab)=> aY ((([]:List ab)++(fi o1.Units 0 (r6+1))).length+1≤2147483648) <| aY (0≤(r6+1:Int)∧(r6+1:Int)≤(o1.Units.length:Int)∧((o1.Units.length:Int):Int)≤(o1.Units.length:Int)) <| aY (((([]:List ab)++(fi o1.Units 0 (r6+1)))++[q25]).length+(fi o1.Units (r6+1) (o1.Units.length:Int)).length≤2147483648) <| j12 (((([]:List ab)++(fi o1.Units 0 (r6+1)))++[q25])++(fi o1.Units (r6+1) (o1.Units.length:Int))) o1.Fors
)
) (fun (l2:List ab) (m1:List (ab×List ab))=> aY (o1.Lines.length+1≤2147483648) <| some ((⟨0,0⟩:zat),(⟨l2,m1,o1.Skips,o1.Lines++[said1]⟩:dB))
)
)
)
)
)
)
)
)
theorem QX {bo1:Nat} {o1:dB} {o1_h0 o1_h1 o1_h2 o1_h3:Hd} {ao M:Value} {gb:List gn} {E:Nat} {J:List gn} (t:Vw ao gb 2 E M J) {r:(zat×dB)} (h:xC o1 J=some r):iv prog 27 [zP bo1,M] [ji um 2 ao E gb] [cells bo1 [o1_h0.v,.map (some (aV o1_h1)),o1_h2.v,o1_h3.v] 39,bo o1_h0.v o1.Units,dh (aV o1_h1) o1.Fors,bo o1_h2.v o1.Skips,bo o1_h3.v o1.Lines] (fun b:Hd×Hd×Hd×Hd=>.agg (ku r.1).toArray) (fun b=>[cells bo1 [b.1.v,.map (some (aV b.2.1)),b.2.2.1.v,b.2.2.2.v] 39,bo b.1.v r.2.Units,dh (aV b.2.1) r.2.Fors,bo b.2.2.1.v r.2.Skips,bo b.2.2.2.v r.2.Lines]):=by
 unfold xC at h
 refine iv.intro func27 rfl ntmps27 (by simp) ?_
 intro w0 K O
 refine aC ?_
 refine eN qR rfl dc (fun b1=>?_)
 refine az (cm (aC (ac 1 rfl (fX rfl dc rfl (cf uc rfl dc rfl (show _=3 from rfl) (bF (k:=0) lA rfl dc rfl rfl rfl (iA (k:=4) rfl dc rfl rfl aD (aO rfl eE (az ?_)))))))))
 refine bG rfl h (fun h=>?_) (fun h=>?_)
 ·
  refine aC (ac 1 rfl ?_)
  obtain⟨q1,e5,h⟩:=bj h
  refine gq t e5 cV o6 rfl dc rfl rfl rfl (cf qT rfl dc rfl (show _=(E+(0:Int).toNat)*2 from rfl) (kH (n:=E+(0:Int).toNat) (j:=0) (i:=0) (q:=q1) O rfl (by omega) dQ rfl dc rfl (cI t e5) rfl rfl ?_))
  refine eU (v:=.agg #[zI 3,zI q1.at_]) (ps:=[(0,.const (zI 3)),(1,.tmp 27)]) rfl dc rfl (fun _=>by kernel_rfl) ?_
  refine eH (k:=5) (vs:=[zI 3,zI q1.at_]) (l':=[zI 3,zI q1.at_]) jK rfl rfl rfl rfl rfl (show _≤_ by simp) rfl rfl ?_
  refine az (bI (bT ?_))
  cases h
  exact eO (rs:=[.cell 4 26]) (o1_h0,o1_h1,o1_h2,o1_h3) (.inl rfl) fR (.cons (.cells jJ (k:=5) rfl rfl rfl) .nil) rfl (aH [0,1,2,3,4] kr rfl)
 refine bH (cz ?_)
 obtain⟨j1,ho,h⟩:=cP h
 refine c8 (β:=(List ab)×Hd) 2 rfl (fun b=>j1 b.1=some r) (fun b=>[]) (fun b=>[(0,zP bo1),(1,M),(4,zP b1),(5,zI ((J.length:Int) - 1)),(6,b.2.v)]) (fun b=>[cells bo1 [o1_h0.v,.map (some (aV o1_h1)),o1_h2.v,o1_h3.v] 39,bo o1_h0.v o1.Units,dh (aV o1_h1) o1.Fors,bo o1_h2.v o1.Skips,bo o1_h3.v o1.Lines,cells b1 [zI 0,zI 0] 26,bo b.2.v b.1]) (fun cut=>?_) ?_
 ·
  refine aC (ac 1 rfl (iO t rfl dc rfl cV ?_))
  obtain⟨hy,h⟩:=bC h
  refine aO rfl (mD (r:=(J.length:Int) - 1) (ai _ hy)) (ac 1 rfl (cv (ac 1 rfl (az (cut (aC (ac 1 rfl ?_)))))))
  obtain⟨q2,e1,h⟩:=bj h
  refine gq t e1 cV o6 rfl dc rfl rfl rfl (cf An rfl dc rfl (show _=(E+(0:Int).toNat)*2+1 from rfl) (kH (n:=E+(0:Int).toNat) (j:=1) (i:=0) (q:=q2) O rfl (by omega) ea rfl dc rfl (cI t e1) rfl rfl (az (cy (aC (aO rfl lf (ac 1 rfl (az ?_))))))))
  refine bG rfl h (fun h=>?_) (fun h=>?_)
  ·
   refine ct ?_
   refine gl (cs:=[.string (⟨#[112,117,116]⟩:ab),.string (⟨#[]⟩:ab),.string (⟨#[97,102,116,101,114]⟩:ab),.string (⟨#[]⟩:ab)]) (te:=9) (ps:=[(0,.const (.string (⟨#[112,117,116]⟩:ab))),(1,.const (.string (⟨#[]⟩:ab))),(2,.const (.string (⟨#[97,102,116,101,114]⟩:ab))),(3,.const (.string (⟨#[]⟩:ab)))]) rfl dc rfl (fun _=>by kernel_rfl) (fun b2=>?_)
   refine ac 1 rfl (mS ([(⟨#[112,117,116]⟩:ab),(⟨#[]⟩:ab),(⟨#[97,102,116,101,114]⟩:ab),(⟨#[]⟩:ab)]:List ab) (k:=6) rfl ga rfl (show 4≤maxLen by decide) ?_)
   refine bU (cw ?_)
   exact bx (([(⟨#[112,117,116]⟩:ab),(⟨#[]⟩:ab),(⟨#[97,102,116,101,114]⟩:ab),(⟨#[]⟩:ab)]:List ab),(⟨some ⟨b2,0,none⟩,4,4⟩:Hd)) h rfl (aT rfl) (aH [0,1,2,3,4,5,6] kr rfl)
  refine aC (aO rfl lf (ac 1 rfl (az ?_)))
  refine bG rfl h (fun h=>?_) (fun h=>?_)
  ·
   refine ct ?_
   refine gl (cs:=[.string (⟨#[115,107,105,112]⟩:ab),.string (⟨#[]⟩:ab)]) (te:=9) (ps:=[(0,.const (.string (⟨#[115,107,105,112]⟩:ab))),(1,.const (.string (⟨#[]⟩:ab)))]) rfl dc rfl (fun _=>by kernel_rfl) (fun b3=>?_)
   refine ac 1 rfl (mS ([(⟨#[115,107,105,112]⟩:ab),(⟨#[]⟩:ab)]:List ab) (k:=6) rfl ga rfl (show 2≤maxLen by decide) ?_)
   refine bU (cw ?_)
   exact bx (([(⟨#[115,107,105,112]⟩:ab),(⟨#[]⟩:ab)]:List ab),(⟨some ⟨b3,0,none⟩,2,2⟩:Hd)) h rfl (aT rfl) (aH [0,1,2,3,4,5,6] kr rfl)
  refine aC (aO rfl lf (ac 1 rfl (az ?_)))
  refine bG rfl h (fun h=>?_) (fun h=>?_)
  ·
   refine aC ?_
   refine gl (cs:=[.string (⟨#[97,115]⟩:ab),.string (⟨#[]⟩:ab),.string (⟨#[]⟩:ab)]) (te:=9) (ps:=[(0,.const (.string (⟨#[97,115]⟩:ab))),(1,.const (.string (⟨#[]⟩:ab))),(2,.const (.string (⟨#[]⟩:ab)))]) rfl dc rfl (fun _=>by kernel_rfl) (fun b4=>?_)
   refine ac 1 rfl (mS ([(⟨#[97,115]⟩:ab),(⟨#[]⟩:ab),(⟨#[]⟩:ab)]:List ab) (k:=6) rfl ga rfl (show 3≤maxLen by decide) ?_)
   refine az (cy ?_)
   refine fh (β:=Nat×(List ab)×Hd) (fun b=>zaI (fun _=>none) (zcH J j1) b.1 b.2.1=some r) (fun b=>[]) (fun b=>[(0,zP bo1),(1,M),(4,zP b1),(5,zI ((J.length:Int) - 1)),(6,b.2.2.v)]) (fun b=>[cells bo1 [o1_h0.v,.map (some (aV o1_h1)),o1_h2.v,o1_h3.v] 39,bo o1_h0.v o1.Units,dh (aV o1_h1) o1.Fors,bo o1_h2.v o1.Skips,bo o1_h3.v o1.Lines,cells b1 [zI 0,zI 0] 26,bo b.2.2.v b.2.1]) (fun b=>b.1) (zbH,([(⟨#[97,115]⟩:ab),(⟨#[]⟩:ab),(⟨#[]⟩:ab)]:List ab),(⟨some ⟨b4,0,none⟩,3,3⟩:Hd)) (by exact h) rfl (aT rfl) (aH [0,1,2,3,4,5,6] kr rfl) ?_
   rintro⟨n1,T,f4⟩ h
   cases n1 with
   | zero=>exact fa h
   | succ n1=>
    obtain⟨hS,d4⟩:∃ag,ag=zaI (fun _=>none) (zcH J j1) n1:=⟨_,rfl⟩
    have h:zcH J j1 hS T=some r:=by rw[d4];exact h
    unfold zcH at h
    refine cm (aC (ac 1 rfl (iA (k:=6) rfl dc rfl rfl aD (ac 1 rfl (aO rfl ei (ac 1 rfl ?_))))))
    refine dG (s:=54) rfl h (fun h=>?_) (fun h=>?_)
    ·
     refine ac 1 rfl (iA (k:=6) rfl dc rfl rfl aD (aO rfl ei (ac 1 rfl (az ?_))))
     refine bG rfl h (fun h=>?_) (fun h=>?_)
     ·
      refine bH (cz (cy (ct (ac 1 rfl ?_))))
      refine gl (cs:=[.string (⟨#[]⟩:ab)]) (te:=9) (ps:=[(0,.const (.string (⟨#[]⟩:ab)))]) rfl dc rfl (fun _=>by kernel_rfl) (fun b5=>?_)
      obtain⟨hx,h⟩:=bC h
      refine iT (k:=6) (k2:=7) (ys:=[(⟨#[]⟩:ab)]) aD nV ga oc rfl dc rfl rfl rfl rfl rfl rfl hx (fun v1=>?_)
      refine jd (k:=6) rfl (fun hL hJ=>?_)
      subst hJ
      refine ac 1 rfl (bU (cw ?_))
      subst d4
      exact ff (n1,T++[(⟨#[]⟩:ab)],hL) h (av _) rfl (aT rfl) (aH [0,1,2,3,4,5,6] kr rfl)
     refine dZ (cA (cA (ed (cw ?_))))
     exact bx (T,f4) h rfl (aT rfl) (aH [0,1,2,3,4,5,6] kr rfl)
    refine ac 4 rfl (az (eQ rfl (dZ (cA (cA (ed (cw ?_)))))))
    exact bx (T,f4) h rfl (aT rfl) (aH [0,1,2,3,4,5,6] kr rfl)
  refine aC (ac 1 rfl ?_)
  obtain⟨q3,eL,h⟩:=bj h
  refine gq t eL cV o6 rfl dc rfl rfl rfl (cf qT rfl dc rfl (show _=(E+(0:Int).toNat)*2 from rfl) (kH (n:=E+(0:Int).toNat) (j:=0) (i:=0) (q:=q3) O rfl (by omega) dQ rfl dc rfl (cI t eL) rfl rfl ?_))
  refine eU (v:=.agg #[zI 220,zI q3.at_]) (ps:=[(0,.const (zI 220)),(1,.tmp 39)]) rfl dc rfl (fun _=>by kernel_rfl) ?_
  refine eH (k:=5) (vs:=[zI 220,zI q3.at_]) (l':=[zI 220,zI q3.at_]) jK rfl rfl rfl rfl rfl (show _≤_ by simp) rfl rfl ?_
  refine az (bI (cE (bT ?_)))
  cases h
  exact eO (rs:=[.cell 4 26]) (o1_h0,o1_h1,o1_h2,o1_h3) (.inl rfl) fR (.cons (.cells jJ (k:=5) rfl rfl rfl) .nil) rfl (aH [0,1,2,3,4] kr rfl)
 rintro⟨a,l⟩ h
 rw[ho] at h
 obtain⟨j2,hm,h⟩:=cP h
 refine c8 (β:=Unit) 0 rfl (fun b=>j2=some r) (fun b=>[]) (fun b=>[(0,zP bo1),(1,M),(4,zP b1),(6,l.v)]) (fun b=>[cells bo1 [o1_h0.v,.map (some (aV o1_h1)),o1_h2.v,o1_h3.v] 39,bo o1_h0.v o1.Units,dh (aV o1_h1) o1.Fors,bo o1_h2.v o1.Skips,bo o1_h3.v o1.Lines,cells b1 [zI 0,zI 0] 26,bo l.v a]) (fun cut=>?_) ?_
 ·
  refine cut (aC (ac 1 rfl (az (cy ?_))))
  refine fh (β:=Nat×Int) (fun b=>zaI (fun _=>none) (zcG o1 J a j2) b.1 b.2=some r) (fun b=>[]) (fun b=>[(0,zP bo1),(1,M),(4,zP b1),(5,zI ((J.length:Int) - 1)),(6,l.v),(7,zI b.2)]) (fun b=>[cells bo1 [o1_h0.v,.map (some (aV o1_h1)),o1_h2.v,o1_h3.v] 39,bo o1_h0.v o1.Units,dh (aV o1_h1) o1.Fors,bo o1_h2.v o1.Skips,bo o1_h3.v o1.Lines,cells b1 [zI 0,zI 0] 26,bo l.v a]) (fun b=>b.1) (zbH,0) h rfl (aT rfl) (aH [0,1,2,3,4,5,6] kr rfl) ?_
  rintro⟨n2,I⟩ h
  cases n2 with
  | zero=>exact fa h
  | succ n2=>
   obtain⟨hR,d3⟩:∃ag,ag=zaI (fun _=>none) (zcG o1 J a j2) n2:=⟨_,rfl⟩
   have h:zcG o1 J a j2 hR I=some r:=by rw[d3];exact h
   unfold zcG at h
   obtain⟨j3,hl,h⟩:=cP h
   refine c8 (β:=Unit) 0 rfl (fun b=>j3=some r) (fun b=>[]) (fun b=>[(0,zP bo1),(1,M),(4,zP b1),(5,zI ((J.length:Int) - 1)),(6,l.v),(7,zI I)]) (fun b=>[cells bo1 [o1_h0.v,.map (some (aV o1_h1)),o1_h2.v,o1_h3.v] 39,bo o1_h0.v o1.Units,dh (aV o1_h1) o1.Fors,bo o1_h2.v o1.Skips,bo o1_h3.v o1.Lines,cells b1 [zI 0,zI 0] 26,bo l.v a]) (fun cut=>?_) ?_
   ·
    refine cut (aC (ac 2 rfl (iA (k:=6) rfl dc rfl rfl aD (aO rfl ei (ac 1 rfl ?_)))))
    refine dG (s:=66) rfl h (fun h=>?_) (fun h=>?_)
    ·
     refine ac 4 rfl (az (iH rfl (bH ?_)))
     exact bx () h rfl (aT rfl) (aH [0,1,2,3,4,5,6] kr rfl)
    refine ac 2 rfl (aO rfl ei (ac 1 rfl (az ?_)))
    refine bG rfl h (fun h=>?_) (fun h=>?_)
    ·
     refine bH ?_
     exact bx () h rfl (aT rfl) (aH [0,1,2,3,4,5,6] kr rfl)
    refine dZ (cA (cA (ed ?_)))
    exact bx () h rfl (aT rfl) (aH [0,1,2,3,4,5,6] kr rfl)
   rintro _ h
   rw[hl] at h
   obtain⟨j4,hk,h⟩:=cP h
   refine c8 (β:=ab×Bool×Bool×Bool) 0 rfl (fun b=>j4 b.1 b.2.1 b.2.2.1 b.2.2.2=some r) (fun b=>[]) (fun b=>[(0,zP bo1),(1,M),(4,zP b1),(5,zI ((J.length:Int) - 1)),(6,l.v),(7,zI I),(77,zI I),(78,l.v),(79,zI (a.length:Int)),(80,.bool false),(83,l.v),(84,zI I),(85,.pointer (some ⟨gG l.v,(I:Int).toNat*1,none⟩)),(86,.string b.1),(87,.bool b.2.1),(88,.bool b.2.2.1),(99,.bool b.2.2.2)]) (fun b=>[cells bo1 [o1_h0.v,.map (some (aV o1_h1)),o1_h2.v,o1_h3.v] 39,bo o1_h0.v o1.Units,dh (aV o1_h1) o1.Fors,bo o1_h2.v o1.Skips,bo o1_h3.v o1.Lines,cells b1 [zI 0,zI 0] 26,bo l.v a]) (fun cut=>?_) ?_
   ·
    refine cut (cy (cm ?_))
    refine rI (b:=decide ((((J.length:Int) - 1):Int)≤I)) (fun Z=>?_) (fun Z=>?_)
    ·
     have h:=ng Z h
     refine jc 25 [(0,73,zI I),(1,74,zI ((J.length:Int) - 1)),(2,75,.bool true),(3,76,.bool true),(4,77,undef),(5,78,undef),(6,79,undef),(7,80,undef),(8,81,.bool true),(9,82,.bool true),(10,83,undef),(11,84,undef),(12,85,undef),(13,86,undef),(14,87,undef),(15,88,undef),(16,89,undef),(17,90,undef),(18,91,undef),(19,92,undef),(20,93,undef),(21,94,undef),(22,95,undef),(23,96,undef),(24,97,undef)] mixed kr kr dc (by rfl) kr kr (gY 2 0 rfl (bR ?_ (gY 22 3 rfl bK))) ?_
     · exact fun D n d c u i=>kl rfl dc (bq 0 u d) (bq 1 u d) fG (ni (show am (decide ((((J.length:Int) - 1):Int)≤I))=am true from aL am Z) (bm 2 u i))
     refine ac 3 rfl (az (iH rfl (aC (ac 3 rfl (xX rfl dc rfl rfl ?_)))))
     obtain⟨q4,ey,h⟩:=bj h
     refine gq t ey cV o6 rfl dc rfl rfl rfl (cf qT rfl dc rfl (show _=(E+(min I ((J.length:Int) - 1):Int).toNat)*2 from rfl) (kH (n:=E+(min I ((J.length:Int) - 1):Int).toNat) (j:=0) (i:=0) (q:=q4) O rfl (by omega) dQ rfl dc rfl (cI t ey) rfl rfl ?_))
     refine eU (v:=.agg #[zI 220,zI q4.at_]) (ps:=[(0,.const (zI 220)),(1,.tmp 107)]) rfl dc rfl (fun _=>by kernel_rfl) ?_
     refine eH (k:=5) (vs:=[zI 220,zI q4.at_]) (l':=[zI 220,zI q4.at_]) jK rfl rfl rfl rfl rfl (show _≤_ by simp) rfl rfl (az (bI (cE (bT (bT (cE (bT ?_)))))))
     cases h
     exact eO (rs:=[.cell 4 26]) (o1_h0,o1_h1,o1_h2,o1_h3) (.inl rfl) fR (.cons (.cells jJ (k:=5) rfl rfl rfl) .nil) rfl (aH [0,1,2,3,4] kr rfl)
    have h:=nh Z h
    refine rI (b:=decide (((a.length:Int):Int)≤I)) (fun V=>?_) (fun V=>?_)
    ·
     have h:=ng V h
     refine jc 25 [(0,73,zI I),(1,74,zI ((J.length:Int) - 1)),(2,75,.bool false),(3,76,.bool false),(4,77,zI I),(5,78,l.v),(6,79,zI (a.length:Int)),(7,80,.bool true),(8,81,.bool true),(9,82,.bool true),(10,83,undef),(11,84,undef),(12,85,undef),(13,86,undef),(14,87,undef),(15,88,undef),(16,89,undef),(17,90,undef),(18,91,undef),(19,92,undef),(20,93,undef),(21,94,undef),(22,95,undef),(23,96,undef),(24,97,undef)] mixed kr kr dc (by rfl) kr kr (gY 2 0 rfl (bR ?_ (gY 3 3 rfl (bR ?_ (bR ?_ (gY 17 8 rfl bK)))))) ?_
     · exact fun D n d c u i=>kl rfl dc (bq 0 u d) (bq 1 u d) fG (ni (show am (decide ((((J.length:Int) - 1):Int)≤I))=am false from aL am Z) (bm 2 u i))
     · exact fun D n d c u i=>iA (k:=6) (jb rfl (bq 3 u d)) dc (bq 5 u d) rfl aD (bm 6 u i)
     · exact fun D n d c u i=>kl (jb rfl (bq 3 u d)) dc (bq 4 u d) (bq 6 u d) fG (ni (show am (decide (((a.length:Int):Int)≤I))=am true from aL am V) (bm 7 u i))
     refine ac 3 rfl (az (iH rfl (aC (ac 3 rfl (xX rfl dc rfl rfl ?_)))))
     obtain⟨q5,ex,h⟩:=bj h
     refine gq t ex cV o6 rfl dc rfl rfl rfl (cf qT rfl dc rfl (show _=(E+(min I ((J.length:Int) - 1):Int).toNat)*2 from rfl) (kH (n:=E+(min I ((J.length:Int) - 1):Int).toNat) (j:=0) (i:=0) (q:=q5) O rfl (by omega) dQ rfl dc rfl (cI t ex) rfl rfl ?_))
     refine eU (v:=.agg #[zI 220,zI q5.at_]) (ps:=[(0,.const (zI 220)),(1,.tmp 107)]) rfl dc rfl (fun _=>by kernel_rfl) ?_
     refine eH (k:=5) (vs:=[zI 220,zI q5.at_]) (l':=[zI 220,zI q5.at_]) jK rfl rfl rfl rfl rfl (show _≤_ by simp) rfl rfl (az (bI (cE (bT (bT (cE (bT ?_)))))))
     cases h
     exact eO (rs:=[.cell 4 26]) (o1_h0,o1_h1,o1_h2,o1_h3) (.inl rfl) fR (.cons (.cells jJ (k:=5) rfl rfl rfl) .nil) rfl (aH [0,1,2,3,4] kr rfl)
    have h:=nh V h
    obtain⟨q6,a1,h⟩:=bj h
    refine rI (b:=!decide (q6=(⟨#[]⟩:ab))) (fun Y=>?_) (fun Y=>?_)
    ·
     have h:=ng Y h
     obtain⟨q7,et,h⟩:=bj h
     refine jc 25 [(0,73,zI I),(1,74,zI ((J.length:Int) - 1)),(2,75,.bool false),(3,76,.bool false),(4,77,zI I),(5,78,l.v),(6,79,zI (a.length:Int)),(7,80,.bool false),(8,81,.bool false),(9,82,.bool false),(10,83,l.v),(11,84,zI I),(12,85,.pointer (some ⟨gG l.v,(I:Int).toNat*1,none⟩)),(13,86,.string q6),(14,87,.bool true),(15,88,.bool true),(16,89,l.v),(17,90,zI I),(18,91,.pointer (some ⟨gG l.v,(I:Int).toNat*1,none⟩)),(19,92,.string q6),(20,93,M),(21,94,zI I),(22,95,.pointer (some ⟨gG ao,(E+(I:Int).toNat)*2,none⟩)),(23,96,.pointer (some ⟨gG ao,(E+(I:Int).toNat)*2+1,none⟩)),(24,97,.string q7.text)] mixed kr kr dc (by rfl) kr kr (gY 2 0 rfl (bR ?_ (gY 3 3 rfl (bR ?_ (bR ?_ (gY 4 8 rfl (bR ?_ (bR ?_ (bR ?_ (gY 3 15 rfl (bR ?_ (bR ?_ (gY 2 20 rfl (bR ?_ (bR ?_ (bR ?_ bK)))))))))))))))) ?_
     · exact fun D n d c u i=>kl rfl dc (bq 0 u d) (bq 1 u d) fG (ni (show am (decide ((((J.length:Int) - 1):Int)≤I))=am false from aL am Z) (bm 2 u i))
     · exact fun D n d c u i=>iA (k:=6) (jb rfl (bq 3 u d)) dc (bq 5 u d) rfl aD (bm 6 u i)
     · exact fun D n d c u i=>kl (jb rfl (bq 3 u d)) dc (bq 4 u d) (bq 6 u d) fG (ni (show am (decide (((a.length:Int):Int)≤I))=am false from aL am V) (bm 7 u i))
     · exact fun D n d c u i=>fO (k:=6) a1 aD gm (jb rfl (bq 9 u d)) dc (bq 10 u d) (bq 11 u d) rfl rfl (bm 12 u i)
     · exact fun D n d c u i=>ib (i:=(I:Int).toNat) (j:=0) (k:=6) (q:=q6) ea ga (jb rfl (bq 9 u d)) dc (bq 12 u d) rfl (fb a1) rfl dc rfl (bm 13 u i)
     · exact fun D n d c u i=>kl (jb rfl (bq 9 u d)) dc (bq 13 u d) rfl qK (ni (show am (!decide (q6=(⟨#[]⟩:ab)))=am true from aL am Y) (bm 14 u i))
     · exact fun D n d c u i=>fO (k:=6) a1 aD gm (jb rfl (bq 15 u d)) dc (bq 16 u d) (bq 17 u d) rfl rfl (bm 18 u i)
     · exact fun D n d c u i=>ib (i:=(I:Int).toNat) (j:=0) (k:=6) (q:=q6) ea ga (jb rfl (bq 15 u d)) dc (bq 18 u d) rfl (fb a1) rfl dc rfl (bm 19 u i)
     · exact fun D n d c u i=>gq t et cV o6 (jb rfl (bq 15 u d)) dc (bq 20 u d) (bq 21 u d) rfl (bm 22 u i)
     · exact fun D n d c u i=>cf An (jb rfl (bq 15 u d)) dc (bq 22 u d) (show _=(E+(I:Int).toNat)*2+1 from rfl) (bm 23 u i)
     · exact fun D n d c u i=>kH (n:=E+(I:Int).toNat) (j:=1) (i:=0) (q:=q7) O rfl (by omega) ea (jb rfl (bq 15 u d)) dc (bq 23 u d) (cI t et) rfl rfl (bm 24 u i)
     refine aO rfl qK (ac 2 rfl (az ?_))
     refine bG rfl h (fun h=>?_) (fun h=>?_)
     ·
      refine aC (ac 3 rfl (xX rfl dc rfl rfl ?_))
      obtain⟨q8,es,h⟩:=bj h
      refine gq t es cV o6 rfl dc rfl rfl rfl (cf qT rfl dc rfl (show _=(E+(min I ((J.length:Int) - 1):Int).toNat)*2 from rfl) (kH (n:=E+(min I ((J.length:Int) - 1):Int).toNat) (j:=0) (i:=0) (q:=q8) O rfl (by omega) dQ rfl dc rfl (cI t es) rfl rfl ?_))
      refine eU (v:=.agg #[zI 220,zI q8.at_]) (ps:=[(0,.const (zI 220)),(1,.tmp 107)]) rfl dc rfl (fun _=>by kernel_rfl) ?_
      refine eH (k:=5) (vs:=[zI 220,zI q8.at_]) (l':=[zI 220,zI q8.at_]) jK rfl rfl rfl rfl rfl (show _≤_ by simp) rfl rfl (az (bI (cE (bT (bT (cE (bT ?_)))))))
      cases h
      exact eO (rs:=[.cell 4 26]) (o1_h0,o1_h1,o1_h2,o1_h3) (.inl rfl) fR (.cons (.cells jJ (k:=5) rfl rfl rfl) .nil) rfl (aH [0,1,2,3,4] kr rfl)
     refine bH (cw ?_)
     exact bx (q6,true,true,!decide (q6=q7.text)) h rfl (aT rfl) (aH [0,1,2,3,4,5,6] kr rfl)
    have h:=nh Y h
    refine jc 25 [(0,73,zI I),(1,74,zI ((J.length:Int) - 1)),(2,75,.bool false),(3,76,.bool false),(4,77,zI I),(5,78,l.v),(6,79,zI (a.length:Int)),(7,80,.bool false),(8,81,.bool false),(9,82,.bool false),(10,83,l.v),(11,84,zI I),(12,85,.pointer (some ⟨gG l.v,(I:Int).toNat*1,none⟩)),(13,86,.string q6),(14,87,.bool false),(15,88,.bool false),(16,89,undef),(17,90,undef),(18,91,undef),(19,92,undef),(20,93,undef),(21,94,undef),(22,95,undef),(23,96,undef),(24,97,undef)] mixed kr kr dc (by rfl) kr kr (gY 2 0 rfl (bR ?_ (gY 3 3 rfl (bR ?_ (bR ?_ (gY 4 8 rfl (bR ?_ (bR ?_ (bR ?_ (gY 10 15 rfl bK)))))))))) ?_
    · exact fun D n d c u i=>kl rfl dc (bq 0 u d) (bq 1 u d) fG (ni (show am (decide ((((J.length:Int) - 1):Int)≤I))=am false from aL am Z) (bm 2 u i))
    · exact fun D n d c u i=>iA (k:=6) (jb rfl (bq 3 u d)) dc (bq 5 u d) rfl aD (bm 6 u i)
    · exact fun D n d c u i=>kl (jb rfl (bq 3 u d)) dc (bq 4 u d) (bq 6 u d) fG (ni (show am (decide (((a.length:Int):Int)≤I))=am false from aL am V) (bm 7 u i))
    · exact fun D n d c u i=>fO (k:=6) a1 aD gm (jb rfl (bq 9 u d)) dc (bq 10 u d) (bq 11 u d) rfl rfl (bm 12 u i)
    · exact fun D n d c u i=>ib (i:=(I:Int).toNat) (j:=0) (k:=6) (q:=q6) ea ga (jb rfl (bq 9 u d)) dc (bq 12 u d) rfl (fb a1) rfl dc rfl (bm 13 u i)
    · exact fun D n d c u i=>kl (jb rfl (bq 9 u d)) dc (bq 13 u d) rfl qK (ni (show am (!decide (q6=(⟨#[]⟩:ab)))=am false from aL am Y) (bm 14 u i))
    refine ac 3 rfl (az (eQ rfl (bH (cw ?_))))
    exact bx (q6,false,false,false) h rfl (aT rfl) (aH [0,1,2,3,4,5,6] kr rfl)
   rintro⟨x1,x2,x3,x4⟩ h
   rw[hk] at h
   refine ct (ac 1 rfl ?_)
   obtain⟨hw,h⟩:=bC h
   refine aO rfl (dN (r:=I+1) (ai _ hw)) (ac 1 rfl (bU ?_))
   subst d3
   exact ff (n2,I+1) h (av _) rfl (aT rfl) (aH [0,1,2,3,4,5,6] kr rfl)
 rintro _ h
 rw[hm] at h
 obtain⟨j5,hj,h⟩:=cP h
 refine c8 (β:=(List ab)×ab×Hd) 2 rfl (fun b=>j5 b.1 b.2.1=some r) (fun b=>[]) (fun b=>[(0,zP bo1),(1,M),(4,zP b1),(6,l.v),(8,b.2.2.v),(9,.string b.2.1)]) (fun b=>[cells bo1 [o1_h0.v,.map (some (aV o1_h1)),o1_h2.v,o1_h3.v] 39,bo o1_h0.v o1.Units,dh (aV o1_h1) o1.Fors,bo o1_h2.v o1.Skips,bo o1_h3.v o1.Lines,cells b1 [zI 0,zI 0] 26,bo l.v a,bo b.2.2.v b.1]) (fun cut=>?_) ?_
 ·
  refine aC (ac 1 rfl (cv (ac 1 rfl ?_)))
  obtain⟨q9,eq,h⟩:=bj h
  refine fO (k:=6) eq aD gm rfl dc rfl rfl rfl rfl (ib (i:=(0:Int).toNat) (j:=0) (k:=6) (q:=q9) ea ga rfl dc rfl rfl (fb eq) rfl dc rfl (ac 1 rfl (az (cut (aC (ac 1 rfl (iA (k:=6) rfl dc rfl rfl aD (ac 1 rfl (az (cy ?_))))))))))
  refine nf (enc:=gR) (e:=9) (size:=1) ?_
  refine fh (β:=Nat×(List ab)×ab×Int×Hd) (fun b=>zaI (fun _ _ _=>none) (zcF o1 J a j5) b.1 b.2.1 b.2.2.1 b.2.2.2.1=some r) (fun b=>[]) (fun b=>[(0,zP bo1),(1,M),(4,zP b1),(6,l.v),(8,b.2.2.2.2.v),(9,.string b.2.2.1),(112,l.v),(113,zI (a.length:Int)),(114,zI b.2.2.2.1)]) (fun b=>[cells bo1 [o1_h0.v,.map (some (aV o1_h1)),o1_h2.v,o1_h3.v] 39,bo o1_h0.v o1.Units,dh (aV o1_h1) o1.Fors,bo o1_h2.v o1.Skips,bo o1_h3.v o1.Lines,cells b1 [zI 0,zI 0] 26,bo l.v a,bo b.2.2.2.2.v b.2.1]) (fun b=>b.1) (zbH,([]:List ab),q9,0,ew) h rfl (aT rfl) (aH [0,1,2,3,4,5,6,7] kr rfl) ?_
  rintro⟨n3,S,U,x7,hK⟩ h
  cases n3 with
  | zero=>exact fa h
  | succ n3=>
   obtain⟨hP,d2⟩:∃ag,ag=zaI (fun _ _ _=>none) (zcF o1 J a j5) n3:=⟨_,rfl⟩
   have h:zcF o1 J a j5 hP S U x7=some r:=by rw[d2];exact h
   unfold zcF at h
   refine aC (aO rfl ei (az (cm ?_)))
   refine bG rfl h (fun h=>?_) (fun h=>?_)
   ·
    refine bH (cz ?_)
    obtain⟨j6,hh,h⟩:=cP h
    refine c8 (β:=(List ab)×ab×Hd) 0 rfl (fun b=>j6 b.1 b.2.1=some r) (fun b=>[]) (fun b=>[(0,zP bo1),(1,M),(4,zP b1),(6,l.v),(8,b.2.2.v),(9,.string b.2.1),(112,l.v),(113,zI (a.length:Int)),(114,zI x7)]) (fun b=>[cells bo1 [o1_h0.v,.map (some (aV o1_h1)),o1_h2.v,o1_h3.v] 39,bo o1_h0.v o1.Units,dh (aV o1_h1) o1.Fors,bo o1_h2.v o1.Skips,bo o1_h3.v o1.Lines,cells b1 [zI 0,zI 0] 26,bo l.v a,bo b.2.2.v b.1]) (fun cut=>?_) ?_
    ·
     refine cut (cy (aC (ac 1 rfl ?_)))
     obtain⟨g1,di,h⟩:=bj h
     refine fO (k:=6) di aD gm rfl dc rfl rfl rfl rfl (ib (i:=(x7:Int).toNat) (j:=0) (k:=6) (q:=g1) ea ga rfl dc rfl rfl (fb di) rfl dc rfl (ac 2 rfl (az (cm (aC (ac 1 rfl (aO rfl qK (az ?_))))))))
     refine bG rfl h (fun h=>?_) (fun h=>?_)
     ·
      obtain⟨j7,hg,h⟩:=cP h
      refine c8 (β:=ab×Hd) 1 rfl (fun b=>j7 b.1=some r) (fun b=>[]) (fun b=>[(0,zP bo1),(1,M),(4,zP b1),(6,l.v),(8,b.2.v),(9,.string b.1),(112,l.v),(113,zI (a.length:Int)),(114,zI x7)]) (fun b=>[cells bo1 [o1_h0.v,.map (some (aV o1_h1)),o1_h2.v,o1_h3.v] 39,bo o1_h0.v o1.Units,dh (aV o1_h1) o1.Fors,bo o1_h2.v o1.Skips,bo o1_h3.v o1.Lines,cells b1 [zI 0,zI 0] 26,bo l.v a,bo b.2.v (S++[(⟨#[]⟩:ab)])]) (fun cut=>?_) ?_
      ·
       refine aC (ac 1 rfl ?_)
       refine gl (cs:=[.string (⟨#[]⟩:ab)]) (te:=9) (ps:=[(0,.const (.string (⟨#[]⟩:ab)))]) rfl dc rfl (fun _=>by kernel_rfl) (fun b6=>?_)
       obtain⟨hv,h⟩:=bC h
       refine iT (k:=7) (k2:=8) (ys:=[(⟨#[]⟩:ab)]) aD nV ga oc rfl dc rfl rfl rfl rfl rfl rfl hv (fun v2=>?_)
       refine jd (k:=7) rfl (fun dT hI=>?_)
       subst hI
       refine ac 1 rfl (az (cut (aC (ac 1 rfl (aO rfl lf (az ?_))))))
       refine bG rfl h (fun h=>?_) (fun h=>?_)
       ·
        refine ct (ac 1 rfl ?_)
        obtain⟨hu,h⟩:=bC h
        refine aO rfl (kQ hu) (ac 1 rfl (bU ?_))
        exact bx (U++(⟨#[32,97,102,116,101,114]⟩:ab),dT) h rfl (aT rfl) (aH [0,1,2,3,4,5,6,7] kr rfl)
       refine bH ?_
       exact bx (U,dT) h rfl (aT rfl) (aH [0,1,2,3,4,5,6,7] kr rfl)
      rintro⟨d6,f7⟩ h
      rw[hg] at h
      refine dZ (cA (ed ?_))
      exact bx (S++[(⟨#[]⟩:ab)],d6,f7) h rfl (aT rfl) (aH [0,1,2,3,4,5,6,7] kr rfl)
     refine bH (cz (aC (ac 2 rfl ?_)))
     obtain⟨em,dg,h⟩:=bj h
     refine gq t dg cV o6 rfl dc rfl rfl rfl (cf An rfl dc rfl (show _=(E+(x7:Int).toNat)*2+1 from rfl) (kH (n:=E+(x7:Int).toNat) (j:=1) (i:=0) (q:=em) O rfl (by omega) ea rfl dc rfl (cI t dg) rfl rfl ?_))
     obtain⟨r1,e4,h⟩:=bj h
     refine dq (v:=.string r1) (vs:=[.string em.text]) rfl dc rfl rfl rfl KZ (QM e4) (ac 1 rfl (az (cm (aC (ac 1 rfl (aO rfl lf (az ?_)))))))
     refine bG rfl h (fun h=>?_) (fun h=>?_)
     ·
      refine aC (ac 2 rfl ?_)
      obtain⟨a7,df,h⟩:=bj h
      refine gq t df cV o6 rfl dc rfl rfl rfl (cf qT rfl dc rfl (show _=(E+(x7:Int).toNat)*2 from rfl) (kH (n:=E+(x7:Int).toNat) (j:=0) (i:=0) (q:=a7) O rfl (by omega) dQ rfl dc rfl (cI t df) rfl rfl ?_))
      refine eU (v:=.agg #[zI 221,zI a7.at_]) (ps:=[(0,.const (zI 221)),(1,.tmp 140)]) rfl dc rfl (fun _=>by kernel_rfl) ?_
      refine eH (k:=5) (vs:=[zI 221,zI a7.at_]) (l':=[zI 221,zI a7.at_]) jK rfl rfl rfl rfl rfl (show _≤_ by simp) rfl rfl (az (bI (bT (cE (bT (bT (cE (bT ?_))))))))
      cases h
      exact eO (rs:=[.cell 4 26]) (o1_h0,o1_h1,o1_h2,o1_h3) (.inl rfl) fR (.cons (.cells jJ (k:=5) rfl rfl rfl) .nil) rfl (aH [0,1,2,3,4] kr rfl)
     refine bH (cz (aC (ac 2 rfl ?_)))
     refine gl (cs:=[.string r1]) (te:=9) (ps:=[(0,.tmp 143)]) rfl dc rfl (fun _=>by kernel_rfl) (fun b7=>?_)
     obtain⟨ht,h⟩:=bC h
     refine iT (k:=7) (k2:=8) (ys:=[r1]) aD nV ga oc rfl dc rfl rfl rfl rfl rfl rfl ht (fun v3=>?_)
     refine jd (k:=7) rfl (fun f6 hG=>?_)
     subst hG
     refine ac 1 rfl (az (ct (ac 2 rfl ?_)))
     obtain⟨r2,e3,h⟩:=bj h
     refine dq (v:=.string r2) (vs:=[.string r1]) rfl dc rfl rfl rfl E0 (G4 e3) ?_
     obtain⟨hs,h⟩:=bC h
     refine aO rfl (kQ hs) ?_
     obtain⟨hr,h⟩:=bC h
     refine aO rfl (kQ hr) (ac 1 rfl (bU (cw ?_)))
     exact bx (S++[r1],U++((⟨#[32]⟩:ab)++r2),f6) h rfl (aT rfl) (aH [0,1,2,3,4,5,6,7] kr rfl)
    rintro⟨a9,d7,f8⟩ h
    rw[hh] at h
    refine ct ?_
    obtain⟨hq,h⟩:=bC h
    refine aO rfl (dN (r:=x7+1) (ai _ hq)) (ac 1 rfl (bU ?_))
    subst d2
    exact ff (n3,a9,d7,x7+1,f8) h (av _) rfl (aT rfl) (aH [0,1,2,3,4,5,6,7] kr rfl)
   refine dZ (cA (cA (ed ?_)))
   exact bx (S,U,hK) h rfl (aT rfl) (aH [0,1,2,3,4,5,6,7] kr rfl)
 rintro⟨g,H,Q⟩ h
 rw[hj] at h
 obtain⟨j8,hf,h⟩:=cP h
 refine c8 (β:=Unit) 0 rfl (fun b=>j8=some r) (fun b=>[]) (fun b=>[(0,zP bo1),(1,M),(4,zP b1),(6,l.v),(8,Q.v),(9,.string H)]) (fun b=>[cells bo1 [o1_h0.v,.map (some (aV o1_h1)),o1_h2.v,o1_h3.v] 39,bo o1_h0.v o1.Units,dh (aV o1_h1) o1.Fors,bo o1_h2.v o1.Skips,bo o1_h3.v o1.Lines,cells b1 [zI 0,zI 0] 26,bo l.v a,bo Q.v g]) (fun cut=>?_) ?_
 ·
  refine cut (aC (ac 1 rfl ?_))
  obtain⟨g0,dd,h⟩:=bj h
  refine fO (k:=6) dd aD gm rfl dc rfl rfl rfl rfl (ib (i:=(0:Int).toNat) (j:=0) (k:=6) (q:=g0) ea ga rfl dc rfl rfl (fb dd) rfl dc rfl (aO rfl lf (az ?_)))
  refine bG rfl h (fun h=>?_) (fun h=>?_)
  ·
   obtain⟨j9,he,h⟩:=cP h
   refine c8 (β:=ab) 1 rfl (fun b=>j9 b=some r) (fun b=>[]) (fun b=>[(0,zP bo1),(4,zP b1),(9,.string H),(13,.string b)]) (fun b=>[cells bo1 [o1_h0.v,.map (some (aV o1_h1)),o1_h2.v,o1_h3.v] 39,bo o1_h0.v o1.Units,dh (aV o1_h1) o1.Fors,bo o1_h2.v o1.Skips,bo o1_h3.v o1.Lines,cells b1 [zI 0,zI 0] 26]) (fun cut=>?_) ?_
   ·
    refine aC (ac 1 rfl ?_)
    obtain⟨eg,c5,h⟩:=bj h
    refine fO (k:=7) c5 aD gm rfl dc rfl rfl rfl rfl (ib (i:=(1:Int).toNat) (j:=0) (k:=7) (q:=eg) ea ga rfl dc rfl rfl (fb c5) rfl dc rfl ?_)
    obtain⟨r3,e2,h⟩:=bj h
    refine dq (v:=.string r3) (vs:=[.string eg]) rfl dc rfl rfl rfl E7 (F8 e2) (ac 1 rfl (az (cut (aC (ac 1 rfl (fX rfl dc rfl (cf Ah rfl dc rfl (show _=2 from rfl) (bF (k:=0) lA rfl dc rfl rfl rfl (iA (k:=3) rfl dc rfl rfl aD (ac 1 rfl (bU ?_)))))))))))
    refine cz (cy ?_)
    refine fh (β:=Nat×Int) (fun b=>zaI (fun _=>none) (zcE o1 J j9 r3) b.1 b.2=some r) (fun b=>[]) (fun b=>[(0,zP bo1),(1,M),(4,zP b1),(9,.string H),(13,.string r3),(163,o1_h2.v),(164,zI (o1.Skips.length:Int)),(165,zI b.2)]) (fun b=>[cells bo1 [o1_h0.v,.map (some (aV o1_h1)),o1_h2.v,o1_h3.v] 39,bo o1_h0.v o1.Units,dh (aV o1_h1) o1.Fors,bo o1_h2.v o1.Skips,bo o1_h3.v o1.Lines,cells b1 [zI 0,zI 0] 26]) (fun b=>b.1) (zbH,0) h rfl (aT rfl) (aH [0,1,2,3,4,5] kr rfl) ?_
    rintro⟨n4,a3⟩ h
    cases n4 with
    | zero=>exact fa h
    | succ n4=>
     obtain⟨hN,d1⟩:∃ag,ag=zaI (fun _=>none) (zcE o1 J j9 r3) n4:=⟨_,rfl⟩
     have h:zcE o1 J j9 r3 hN a3=some r:=by rw[d1];exact h
     unfold zcE at h
     refine aC (aO rfl ei (az (cm ?_)))
     refine bG rfl h (fun h=>?_) (fun h=>?_)
     ·
      refine bH (cz (cm (cy (aC ?_))))
      obtain⟨gF,c4,h⟩:=bj h
      refine fO (k:=3) c4 aD gm rfl dc rfl rfl rfl rfl (ib (i:=(a3:Int).toNat) (j:=0) (k:=3) (q:=gF) ea ga rfl dc rfl rfl (fb c4) rfl dc rfl (ac 1 rfl (cv (ac 2 rfl (aO rfl lf (az ?_))))))
      refine bG rfl h (fun h=>?_) (fun h=>?_)
      ·
       refine aC (ac 1 rfl ?_)
       obtain⟨a6,c3,h⟩:=bj h
       refine gq t c3 cV o6 rfl dc rfl rfl rfl (cf qT rfl dc rfl (show _=(E+(1:Int).toNat)*2 from rfl) (kH (n:=E+(1:Int).toNat) (j:=0) (i:=0) (q:=a6) O rfl (by omega) dQ rfl dc rfl (cI t c3) rfl rfl ?_))
       refine eU (v:=.agg #[zI 222,zI a6.at_]) (ps:=[(0,.const (zI 222)),(1,.tmp 175)]) rfl dc rfl (fun _=>by kernel_rfl) ?_
       refine eH (k:=5) (vs:=[zI 222,zI a6.at_]) (l':=[zI 222,zI a6.at_]) jK rfl rfl rfl rfl rfl (show _≤_ by simp) rfl rfl (az (bI (cE (bT (bT (cE (bT (bT ?_))))))))
       cases h
       exact eO (rs:=[.cell 4 26]) (o1_h0,o1_h1,o1_h2,o1_h3) (.inl rfl) fR (.cons (.cells jJ (k:=5) rfl rfl rfl) .nil) rfl (aH [0,1,2,3,4] kr rfl)
      refine bH (cw (cz (ct ?_)))
      obtain⟨f3,h⟩:=bC h
      refine aO rfl (dN (r:=a3+1) (ai _ f3)) (ac 1 rfl (bU ?_))
      subst d1
      exact ff (n4,a3+1) h (av _) rfl (aT rfl) (aH [0,1,2,3,4,5] kr rfl)
     refine dZ (cA (cA (ed ?_)))
     exact bx r3 h rfl (aT rfl) (aH [0,1,2,3,4,5] kr rfl)
   rintro fold1 h
   rw[he] at h
   refine aC (ac 2 rfl (fX rfl dc rfl (cf Ah rfl dc rfl (show _=2 from rfl) (bF (k:=0) lA rfl dc rfl rfl rfl (ac 1 rfl ?_)))))
   refine gl (cs:=[.string fold1]) (te:=9) (ps:=[(0,.tmp 183)]) rfl dc rfl (fun _=>by kernel_rfl) (fun b8=>?_)
   obtain⟨f2,h⟩:=bC h
   refine iT (k:=3) (k2:=6) (ys:=[fold1]) aD nV ga oc rfl dc rfl rfl rfl rfl rfl rfl f2 (fun v4=>?_)
   refine jd (k:=3) rfl (fun a2 hF=>?_)
   subst hF
   refine fX rfl dc rfl (cf Ah rfl dc rfl (show _=2 from rfl) ?_)
   refine ef (k:=0) (l':=[o1_h0.v,.map (some (aV o1_h1)),a2.v,o1_h3.v]) qS rfl rfl rfl rfl rfl (fun _ _=>rfl) rfl ?_
   refine cv (ac 2 rfl (fX rfl dc rfl (cf uc rfl dc rfl (show _=3 from rfl) (bF (k:=0) lA rfl dc rfl rfl rfl (ac 1 rfl ?_)))))
   refine gl (cs:=[.string H]) (te:=9) (ps:=[(0,.tmp 193)]) rfl dc rfl (fun _=>by kernel_rfl) (fun b9=>?_)
   obtain⟨f1,h⟩:=bC h
   refine iT (k:=4) (k2:=7) (ys:=[H]) aD nV ga oc rfl dc rfl rfl rfl rfl rfl rfl f1 (fun v5=>?_)
   refine jd (k:=4) rfl (fun ds hE=>?_)
   subst hE
   refine fX rfl dc rfl (cf uc rfl dc rfl (show _=3 from rfl) ?_)
   refine ef (k:=0) (l':=[o1_h0.v,.map (some (aV o1_h1)),a2.v,ds.v]) qS rfl rfl rfl rfl rfl (fun _ _=>rfl) rfl ?_
   refine cv ?_
   refine eU (v:=.agg #[zI 0,zI 0]) (ps:=[]) rfl dc rfl (fun _=>by kernel_rfl) ?_
   refine eH (k:=5) (vs:=[zI 0,zI 0]) (l':=[zI 0,zI 0]) jK rfl rfl rfl rfl rfl (show _≤_ by simp) rfl rfl (az (bI (bT ?_)))
   cases h
   exact eO (rs:=[.cell 4 26]) (o1_h0,o1_h1,a2,ds) (.inl rfl) fR (.cons (.cells jJ (k:=5) rfl rfl rfl) .nil) rfl (aH [0,1,2,3,4] kr rfl)
  refine bH ?_
  exact bx () h rfl (aT rfl) (aH [0,1,2,3,4,5,6,7] kr rfl)
 rintro _ h
 rw[hf] at h
 refine cm (aC (ac 2 rfl ?_))
 obtain⟨ec,c2,h⟩:=bj h
 refine fO (k:=7) c2 aD gm rfl dc rfl rfl rfl rfl (ib (i:=(1:Int).toNat) (j:=0) (k:=7) (q:=ec) ea ga rfl dc rfl rfl (fb c2) rfl dc rfl ?_)
 obtain⟨r4,e0,h⟩:=bj h
 refine nj (v:=.bool r4) (vs:=[zP bo1,.string ec]) O rfl dc rfl rfl rfl K0 (QO (bo1:=bo1) (o1:=o1) (o1_h0:=o1_h0) (o1_h1:=o1_h1) (o1_h2:=o1_h2) (o1_h3:=o1_h3) e0) (.own (aH [0] kr rfl) (fun _ _ h=>aI.1 h) (.own (aH [1] kr rfl) (fun _ _ h=>aI.1 h) (.own (aH [2] kr rfl) (fun _ _ h=>aI.1 h) (.own (aH [3] kr rfl) (fun _ _ h=>aI.1 h) (.own (aH [4] kr rfl) (fun _ _ h=>aI.1 h) .nil))))) ?_
 refine az ?_
 refine bG rfl h (fun h=>?_) (fun h=>?_)
 ·
  refine aC (ac 1 rfl ?_)
  obtain⟨a5,c0,h⟩:=bj h
  refine gq t c0 cV o6 rfl dc rfl rfl rfl (cf qT rfl dc rfl (show _=(E+(1:Int).toNat)*2 from rfl) (kH (n:=E+(1:Int).toNat) (j:=0) (i:=0) (q:=a5) O rfl (by omega) dQ rfl dc rfl (cI t c0) rfl rfl ?_))
  refine eU (v:=.agg #[zI 222,zI a5.at_]) (ps:=[(0,.const (zI 222)),(1,.tmp 207)]) rfl dc rfl (fun _=>by kernel_rfl) ?_
  refine eH (k:=5) (vs:=[zI 222,zI a5.at_]) (l':=[zI 222,zI a5.at_]) jK rfl rfl rfl rfl rfl (show _≤_ by simp) rfl rfl (az (bI (bT ?_)))
  cases h
  exact eO (rs:=[.cell 4 26]) (o1_h0,o1_h1,o1_h2,o1_h3) (.inl rfl) fR (.cons (.cells jJ (k:=5) rfl rfl rfl) .nil) rfl (aH [0,1,2,3,4] kr rfl)
 refine bH (cz ?_)
 obtain⟨a8,e8,h⟩:=cP h
 refine c8 (β:=Unit) 0 rfl (fun b=>a8=some r) (fun b=>[]) (fun b=>[(0,zP bo1),(4,zP b1),(6,l.v),(8,Q.v),(9,.string H)]) (fun b=>[cells bo1 [o1_h0.v,.map (some (aV o1_h1)),o1_h2.v,o1_h3.v] 39,bo o1_h0.v o1.Units,dh (aV o1_h1) o1.Fors,bo o1_h2.v o1.Skips,bo o1_h3.v o1.Lines,cells b1 [zI 0,zI 0] 26,bo l.v a,bo Q.v g]) (fun cut=>?_) ?_
 ·
  refine cut (aC (ac 1 rfl (az (cy ?_))))
  refine fh (β:=Nat×Int) (fun b=>zaI (fun _=>none) (zcD o1 J a g a8) b.1 b.2=some r) (fun b=>[]) (fun b=>[(0,zP bo1),(1,M),(4,zP b1),(6,l.v),(8,Q.v),(9,.string H),(16,zI b.2)]) (fun b=>[cells bo1 [o1_h0.v,.map (some (aV o1_h1)),o1_h2.v,o1_h3.v] 39,bo o1_h0.v o1.Units,dh (aV o1_h1) o1.Fors,bo o1_h2.v o1.Skips,bo o1_h3.v o1.Lines,cells b1 [zI 0,zI 0] 26,bo l.v a,bo Q.v g]) (fun b=>b.1) (zbH,2) h rfl (aT rfl) (aH [0,1,2,3,4,5,6,7] kr rfl) ?_
  rintro⟨n5,i6⟩ h
  cases n5 with
  | zero=>exact fa h
  | succ n5=>
   obtain⟨hM,d0⟩:∃ag,ag=zaI (fun _=>none) (zcD o1 J a g a8) n5:=⟨_,rfl⟩
   have h:zcD o1 J a g a8 hM i6=some r:=by rw[d0];exact h
   unfold zcD at h
   refine cm (aC (ac 2 rfl (iA (k:=7) rfl dc rfl rfl aD (aO rfl ei (az ?_)))))
   refine bG rfl h (fun h=>?_) (fun h=>?_)
   ·
    refine bH (cz ?_)
    obtain⟨g3,e7,h⟩:=cP h
    refine c8 (β:=Unit) 0 rfl (fun b=>g3=some r) (fun b=>[]) (fun b=>[(0,zP bo1),(1,M),(4,zP b1),(6,l.v),(8,Q.v),(9,.string H),(16,zI i6)]) (fun b=>[cells bo1 [o1_h0.v,.map (some (aV o1_h1)),o1_h2.v,o1_h3.v] 39,bo o1_h0.v o1.Units,dh (aV o1_h1) o1.Fors,bo o1_h2.v o1.Skips,bo o1_h3.v o1.Lines,cells b1 [zI 0,zI 0] 26,bo l.v a,bo Q.v g]) (fun cut=>?_) ?_
    ·
     refine cut (cy (aC (ac 2 rfl ?_)))
     obtain⟨gB,ch,h⟩:=bj h
     refine fO (k:=6) ch aD gm rfl dc rfl rfl rfl rfl (ib (i:=(i6:Int).toNat) (j:=0) (k:=6) (q:=gB) ea ga rfl dc rfl rfl (fb ch) rfl dc rfl (aO rfl lf (ac 1 rfl ?_)))
     refine dG (s:=220) rfl h (fun h=>?_) (fun h=>?_)
     ·
      refine ac 3 rfl ?_
      obtain⟨d9,cc,h⟩:=bj h
      refine fO (k:=7) cc aD gm rfl dc rfl rfl rfl rfl (ib (i:=(i6:Int).toNat) (j:=0) (k:=7) (q:=d9) ea ga rfl dc rfl rfl (fb cc) rfl dc rfl ?_)
      obtain⟨r5,eM,h⟩:=bj h
      refine nj (v:=zI r5) (vs:=[zP bo1,.string d9]) O rfl dc rfl rfl rfl AE (Dc (bo1:=bo1) (o1:=o1) (o1_h0:=o1_h0) (o1_h1:=o1_h1) (o1_h2:=o1_h2) (o1_h3:=o1_h3) eM) (.own (aH [0] kr rfl) (fun _ _ h=>aI.1 h) (.own (aH [1] kr rfl) (fun _ _ h=>aI.1 h) (.own (aH [2] kr rfl) (fun _ _ h=>aI.1 h) (.own (aH [3] kr rfl) (fun _ _ h=>aI.1 h) (.own (aH [4] kr rfl) (fun _ _ h=>aI.1 h) .nil))))) ?_
      refine aO rfl ei (ac 1 rfl (az ?_))
      refine bG rfl h (fun h=>?_) (fun h=>?_)
      ·
       refine aC (ac 2 rfl ?_)
       obtain⟨a4,b0,h⟩:=bj h
       refine gq t b0 cV o6 rfl dc rfl rfl rfl (cf qT rfl dc rfl (show _=(E+(i6:Int).toNat)*2 from rfl) (kH (n:=E+(i6:Int).toNat) (j:=0) (i:=0) (q:=a4) O rfl (by omega) dQ rfl dc rfl (cI t b0) rfl rfl ?_))
       refine eU (v:=.agg #[zI 223,zI a4.at_]) (ps:=[(0,.const (zI 223)),(1,.tmp 233)]) rfl dc rfl (fun _=>by kernel_rfl) ?_
       refine eH (k:=5) (vs:=[zI 223,zI a4.at_]) (l':=[zI 223,zI a4.at_]) jK rfl rfl rfl rfl rfl (show _≤_ by simp) rfl rfl (az (bI (cE (bT (bT (cE (bT ?_)))))))
       cases h
       exact eO (rs:=[.cell 4 26]) (o1_h0,o1_h1,o1_h2,o1_h3) (.inl rfl) fR (.cons (.cells jJ (k:=5) rfl rfl rfl) .nil) rfl (aH [0,1,2,3,4] kr rfl)
      refine bH (cw ?_)
      exact bx () h rfl (aT rfl) (aH [0,1,2,3,4,5,6,7] kr rfl)
     refine ac 8 rfl (az (eQ rfl (bH (cw ?_))))
     exact bx () h rfl (aT rfl) (aH [0,1,2,3,4,5,6,7] kr rfl)
    rintro _ h
    rw[e7] at h
    refine ct (ac 1 rfl ?_)
    obtain⟨f0,h⟩:=bC h
    refine aO rfl (dN (r:=i6+1) (ai _ f0)) (ac 1 rfl (bU ?_))
    subst d0
    exact ff (n5,i6+1) h (av _) rfl (aT rfl) (aH [0,1,2,3,4,5,6,7] kr rfl)
   refine dZ (cA (cA (ed ?_)))
   exact bx () h rfl (aT rfl) (aH [0,1,2,3,4,5,6,7] kr rfl)
 rintro _ h
 rw[e8] at h
 obtain⟨g2,e6,h⟩:=cP h
 refine c8 (β:=(List ab)×(List (ab×List ab))×Hd) 0 rfl (fun b=>g2 b.1 b.2.1=some r) (fun b=>[]) (fun b=>[(0,zP bo1),(4,zP b1),(9,.string H)]) (fun b=>[cells bo1 [b.2.2.v,.map (some (aV o1_h1)),o1_h2.v,o1_h3.v] 39,bo b.2.2.v b.1,dh (aV o1_h1) b.2.1,bo o1_h2.v o1.Skips,bo o1_h3.v o1.Lines,cells b1 [zI 0,zI 0] 26]) (fun cut=>?_) ?_
 ·
  refine cut (aC (ac 1 rfl ?_))
  obtain⟨gz,bs,h⟩:=bj h
  refine fO (k:=6) bs aD gm rfl dc rfl rfl rfl rfl (ib (i:=(0:Int).toNat) (j:=0) (k:=6) (q:=gz) ea ga rfl dc rfl rfl (fb bs) rfl dc rfl (aO rfl lf (az ?_)))
  refine bG rfl h (fun h=>?_) (fun h=>?_)
  ·
   obtain⟨a0,bk,h⟩:=bj h
   obtain⟨fz,h⟩:=bC h
   refine xT (k:=7) rfl (fun g6=>?_)
   obtain⟨v6,en,hb⟩:=oZ (lo:=some (zI 2)) (hi:=none) g6 aD gm (.inr rfl) (.inl ⟨rfl,rfl⟩) fz
   refine jc 9 [(0,239,zP bo1),(1,240,zP bo1),(2,241,.pointer (some ⟨bo1,1,none⟩)),(3,242,.map (some (aV o1_h1))),(4,243,Q.v),(5,244,.pointer (some ⟨gG Q.v,(1:Int).toNat*1,none⟩)),(6,245,.string a0),(7,246,Q.v),(8,247,v6)] mixed kr kr dc (by rfl) kr kr (gY 1 0 rfl (bR ?_ (bR ?_ (bR ?_ (gY 1 4 rfl (bR ?_ (bR ?_ (gY 1 7 rfl (bR ?_ bK))))))))) ?_
   · exact fun D n d c u i=>fX rfl dc (bq 0 u d) (bm 1 u i)
   · exact fun D n d c u i=>cf EF rfl dc (bq 1 u d) (show _=1 from rfl) (bm 2 u i)
   · exact fun D n d c u i=>bF (k:=0) vZ rfl dc (bq 2 u d) rfl rfl (bm 3 u i)
   · exact fun D n d c u i=>fO (k:=7) bk aD gm rfl dc (bq 4 u d) rfl rfl rfl (bm 5 u i)
   · exact fun D n d c u i=>ib (i:=(1:Int).toNat) (j:=0) (k:=7) (q:=a0) ea ga rfl dc (bq 5 u d) rfl (fb bk) rfl dc rfl (bm 6 u i)
   · exact fun D n d c u i=>iz rfl dc (bq 7 u d) (evO.some rfl) vE hb (bm 8 u i)
   obtain⟨aw,f5⟩:=Vw.head en
   have hc:=h
   subst f5
   have h:=hc
   refine sM (As:=[dh (aV o1_h1) o1.Fors]) (aH [2] kr rfl) Ez ?_
   rintro gc f9
   refine tZ (k:=8) (ek:=(fun s:ab=>aa s)) (ev':=pu) (kk:=a0) (vv:=(fi g 2 (g.length:Int),aw)) (mn an) underlying37 rfl rfl rfl rfl rfl ?_
   refine pp (k:=7) rfl (FU ga en) ?_
   refine sM (As:=[qQ (aV o1_h1) (gH a0 (fi g 2 (g.length:Int),aw) gc),qb gc,mo gR 1 aw (fi g 2 (g.length:Int))]) (aH [8,9,7] kr rfl) (EB a0 (fi g 2 (g.length:Int)) aw f9) ?_
   rintro _ _
   refine bU ?_
   exact bx (o1.Units,gH a0 (fi g 2 (g.length:Int)) o1.Fors,o1_h0) h rfl (aT rfl) (aH [0,1,10,3,4,5] kr rfl)
  refine aC (ac 2 rfl ?_)
  obtain⟨d8,bh,h⟩:=bj h
  refine fO (k:=7) bh aD gm rfl dc rfl rfl rfl rfl (ib (i:=(3:Int).toNat) (j:=0) (k:=7) (q:=d8) ea ga rfl dc rfl rfl (fb bh) rfl dc rfl ?_)
  obtain⟨r6,ez,h⟩:=bj h
  refine nj (v:=zI r6) (vs:=[zP bo1,.string d8]) O rfl dc rfl rfl rfl AE (Dc (bo1:=bo1) (o1:=o1) (o1_h0:=o1_h0) (o1_h1:=o1_h1) (o1_h2:=o1_h2) (o1_h3:=o1_h3) ez) (.own (aH [0] kr rfl) (fun _ _ h=>aI.1 h) (.own (aH [1] kr rfl) (fun _ _ h=>aI.1 h) (.own (aH [2] kr rfl) (fun _ _ h=>aI.1 h) (.own (aH [3] kr rfl) (fun _ _ h=>aI.1 h) (.own (aH [4] kr rfl) (fun _ _ h=>aI.1 h) .nil))))) ?_
  obtain⟨ft,h⟩:=bC h
  refine aO rfl (dN (r:=r6+1) (ai _ ft)) (ac 1 rfl (az ?_))
  obtain⟨fs,h⟩:=bC h
  obtain⟨fo,h⟩:=bC h
  obtain⟨W,bb,h⟩:=bj h
  obtain⟨fn,h⟩:=bC h
  obtain⟨fk,h⟩:=bC h
  obtain⟨fd,h⟩:=bC h
  refine xT (k:=1) rfl (fun g5=>?_)
  obtain⟨v7,g8,ha⟩:=oZ (lo:=none) (hi:=some (zI (r6+1))) g5 aD gm (.inl ⟨rfl,rfl⟩) (.inr rfl) fs
  refine xT (k:=1) rfl (fun g4=>?_)
  obtain⟨gx,g7,g9⟩:=oZ (lo:=some (zI (r6+1))) (hi:=none) g4 aD gm (.inr rfl) (.inl ⟨rfl,rfl⟩) fk
  refine tU 2 ?_
  refine let d5:(Nat×Hd×Nat×Hd×Hd)→List (Nat×Nat×Value):=fun b=>[(0,254,zP bo1),(1,255,.slice (some ⟨b.1,0,none⟩) 0 0),(2,256,zP bo1),(3,257,zP bo1),(4,258,zP bo1),(5,259,o1_h0.v),(6,260,zI (r6+1)),(7,261,v7),(8,262,b.2.1.v),(9,263,Q.v),(10,264,.pointer (some ⟨gG Q.v,(1:Int).toNat*1,none⟩)),(11,265,.string W),(12,266,.slice (some ⟨b.2.2.1,0,none⟩) 1 1),(13,267,b.2.2.2.1.v),(14,268,zP bo1),(15,269,zP bo1),(16,270,zP bo1),(17,271,o1_h0.v),(18,272,zI (r6+1)),(19,273,gx),(20,274,b.2.2.2.2.v)];let ge:(Nat→Prop)→(Nat×Hd×Nat×Hd×Hd)→List Asn:=fun D b=>[cells bo1 [o1_h0.v,.map (some (aV o1_h1)),o1_h2.v,o1_h3.v] 39,bo o1_h0.v o1.Units,dh (aV o1_h1) o1.Fors,bo o1_h2.v o1.Skips,bo o1_h3.v o1.Lines,cells b1 [zI 0,zI 0] 26,bo l.v a,bo Q.v g,eD D cn [(20,bo b.2.2.2.2.v (((([]:List ab)++(fi o1.Units 0 (r6+1)))++[W])++(fi o1.Units (r6+1) (o1.Units.length:Int)))),(13,bo b.2.2.2.1.v ((([]:List ab)++(fi o1.Units 0 (r6+1)))++[W])),(8,bo b.2.1.v (([]:List ab)++(fi o1.Units 0 (r6+1)))),(1,cells b.1 [] 9)],eD D cn [(12,cells b.2.2.1 [.string W] 9)]];?_
  have N:rY [1,8,12,13,20] ge:=fun i h D b=>bY rfl (bY rfl (bY rfl (bY rfl (bY rfl (bY rfl (bY rfl (bY rfl (bY (pF rfl h) (bY (pF rfl h) rfl)))))))))
  refine tT (β:=Nat×Hd×Nat×Hd×Hd) 21 ((0:Nat),ew,(0:Nat),ew,ew) d5 ge mixed kr kr dc (fun _=>rfl) (mV (bY nS (bY nS rfl))) (oC N (fun _=>rfl) (fun _=>rfl) 1 0 (fun _=>rfl) rfl (kV ?_ (oC N (fun _=>rfl) (fun _=>rfl) 1 2 (fun _=>rfl) rfl (pG N rfl (fun _=>rfl) (fun _=>rfl) ?_ (pG N rfl (fun _=>rfl) (fun _=>rfl) ?_ (kY N rfl (fun _=>rfl) (fun _=>rfl) ?_ (oC N (fun _=>rfl) (fun _=>rfl) 1 6 (fun _=>rfl) rfl (kY N rfl (fun _=>rfl) (fun _=>rfl) ?_ (kV ?_ (oC N (fun _=>rfl) (fun _=>rfl) 1 9 (fun _=>rfl) rfl (kY N rfl (fun _=>rfl) (fun _=>rfl) ?_ (kY N rfl (fun _=>rfl) (fun _=>rfl) ?_ (kV ?_ (kV ?_ (oC N (fun _=>rfl) (fun _=>rfl) 1 14 (fun _=>rfl) rfl (pG N rfl (fun _=>rfl) (fun _=>rfl) ?_ (pG N rfl (fun _=>rfl) (fun _=>rfl) ?_ (kY N rfl (fun _=>rfl) (fun _=>rfl) ?_ (oC N (fun _=>rfl) (fun _=>rfl) 1 18 (fun _=>rfl) rfl (kY N rfl (fun _=>rfl) (fun _=>rfl) ?_ (kV ?_ fj.nil))))))))))))))))))))) ?_
  ·
   intro D b P hd C
   obtain⟨gt,y,F,w,o⟩:=b
   refine jI (mV (bY (dC (fun z=>P (C 8 _ rfl (C 13 _ rfl (C 20 _ rfl z 13 dc) 8 dc) 1 dc)) (dC (fun z=>P (C 8 _ rfl (C 13 _ rfl z 8 dc) 1 dc)) (dC (fun z=>P (C 8 _ rfl z 1 dc)) (dC P fc)))) rfl)) ?_
   refine gl (cs:=[]) (te:=9) (ps:=[]) rfl dc evP.nil (fun _=>by kernel_rfl) (fun G=>?_)
   refine oy 8 rfl rfl ?_
   exact lg (b:=(gt,y,F,w,o)) (G,y,F,w,o) 1 (by rfl) (by rfl) rfl (dP (fun _=>rfl) (dP (fun z=>absurd z P) (Bc (s6 rfl)))) (mV (bY (dC (fun h=>h.elim (fun z=>P (C 8 _ rfl (C 13 _ rfl (C 20 _ rfl z 13 dc) 8 dc) 1 dc)) (fun h=>absurd h dc)) (dC (fun h=>h.elim (fun z=>P (C 8 _ rfl (C 13 _ rfl z 8 dc) 1 dc)) (fun h=>absurd h dc)) (dC (fun h=>h.elim (fun z=>P (C 8 _ rfl z 1 dc)) (fun h=>absurd h dc)) (gU (iI rfl) rfl)))) (bY (gW (by rfl)) rfl)))
  · exact fun D ⟨G,y,F,w,o⟩ n d c u i=>fX rfl dc (bq 2 u d) (bm 3 u i)
  · exact fun D ⟨G,y,F,w,o⟩ n d c u i=>cf qc rfl dc (bq 3 u d) (show _=0 from rfl) (bm 4 u i)
  · exact fun D ⟨G,y,F,w,o⟩ n d c u i=>⟨_,(mV (bY (dC (fun z=>n (c 7 _ rfl (c 8 _ rfl (c 13 _ rfl (c 20 _ rfl z 13 dc) 8 dc) 7 dc) 5 dc)) (dC (fun z=>n (c 7 _ rfl (c 8 _ rfl (c 13 _ rfl z 8 dc) 7 dc) 5 dc)) (dC (fun z=>n (c 7 _ rfl (c 8 _ rfl z 7 dc) 5 dc)) rfl))) rfl)),bF (k:=0) lA rfl dc (bq 4 u d) rfl rfl (bm 5 u i)⟩
  · exact fun D ⟨G,y,F,w,o⟩ n d c u i=>⟨_,(mV (bY (dC (fun z=>n (c 8 _ rfl (c 13 _ rfl (c 20 _ rfl z 13 dc) 8 dc) 7 dc)) (dC (fun z=>n (c 8 _ rfl (c 13 _ rfl z 8 dc) 7 dc)) (dC (fun z=>n (c 8 _ rfl z 7 dc)) rfl))) rfl)),iz rfl dc (bq 5 u d) vE (evO.some (bq 6 u d)) ha (bm 7 u i)⟩
  ·
   intro D b P hd C
   obtain⟨G,gs,F,w,o⟩:=b
   refine jI (mV (bY (dC (fun z=>P (C 13 _ rfl (C 20 _ rfl z 13 dc) 8 dc)) (dC (fun z=>P (C 13 _ rfl z 8 dc)) (dC P (gU (hd 1 dc) rfl)))) rfl)) ?_
   refine mS ([]:List ab) (k:=8) rfl ga rfl (show 0≤maxLen by decide) ?_
   refine zY (k:=8) (k2:=1) aD nV ga oc g8 rfl dc (ja (m:=1) rfl rfl (hd 1 dc)) (ja (m:=7) rfl rfl (hd 7 dc)) rfl rfl fo (fun v8=>?_)
   refine jd (k:=8) rfl (fun y hC=>?_)
   subst hC
   exact lg (b:=(G,gs,F,w,o)) (G,y,F,w,o) 8 (by rfl) (by rfl) rfl (Bd (dP (fun z=>absurd z P) (s6 rfl))) (mV (bY (dC (fun h=>h.elim (fun z=>P (C 13 _ rfl (C 20 _ rfl z 13 dc) 8 dc)) (fun h=>absurd h dc)) (dC (fun h=>h.elim (fun z=>P (C 13 _ rfl z 8 dc)) (fun h=>absurd h dc)) (gU (iI rfl) rfl))) (bY (gW (by rfl)) rfl)))
  · exact fun D ⟨G,y,F,w,o⟩ n d c u i=>⟨_,(mV (bY (dC (fun z=>n (c 11 _ rfl (c 12 _ rfl (c 13 _ rfl (c 20 _ rfl z 13 dc) 12 dc) 11 dc) 10 dc)) (dC (fun z=>n (c 11 _ rfl (c 12 _ rfl (c 13 _ rfl z 12 dc) 11 dc) 10 dc)) rfl)) (bY (dC (fun z=>n (c 11 _ rfl (c 12 _ rfl z 11 dc) 10 dc)) fc) rfl))),fO (k:=7) bb aD gm rfl dc (bq 9 u d) rfl rfl rfl (bm 10 u i)⟩
  · exact fun D ⟨G,y,F,w,o⟩ n d c u i=>⟨_,(mV (bY (dC (fun z=>n (c 12 _ rfl (c 13 _ rfl (c 20 _ rfl z 13 dc) 12 dc) 11 dc)) (dC (fun z=>n (c 12 _ rfl (c 13 _ rfl z 12 dc) 11 dc)) rfl)) (bY (dC (fun z=>n (c 12 _ rfl z 11 dc)) fc) rfl))),ib (i:=(1:Int).toNat) (j:=0) (k:=7) (q:=W) ea ga rfl dc (bq 10 u d) rfl (fb bb) rfl dc rfl (bm 11 u i)⟩
  ·
   intro D b P hd C
   obtain⟨G,y,gr,w,o⟩:=b
   refine jI (mV (bY (dC (fun z=>P (C 13 _ rfl (C 20 _ rfl z 13 dc) 12 dc)) (dC (fun z=>P (C 13 _ rfl z 12 dc)) rfl)) (bY (dC P fc) rfl))) ?_
   refine gl (cs:=[.string W]) (te:=9) (ps:=[(0,.tmp 265)]) rfl dc (evP.cons (ja (m:=11) rfl rfl (hd 11 dc)) evP.nil) (fun _=>by kernel_rfl) (fun F=>?_)
   refine oy 9 rfl rfl ?_
   exact lg (b:=(G,y,gr,w,o)) (G,y,F,w,o) 12 (by rfl) (by rfl) rfl (s6 (dP (fun z=>absurd z P) (Bd rfl))) (mV (bY ((gW (by rfl)).trans (dC (fun z=>P (C 13 _ rfl (C 20 _ rfl z 13 dc) 12 dc)) (dC (fun z=>P (C 13 _ rfl z 12 dc)) rfl))) (bY (gU (iI rfl) rfl) rfl)))
  ·
   intro D b P hd C
   obtain⟨G,y,F,go,o⟩:=b
   refine jI (mV (bY (dC (fun z=>P (C 20 _ rfl z 13 dc)) (dC P (gU (hd 8 dc) rfl))) (bY (gU (hd 12 dc) rfl) rfl))) ?_
   refine iT (k:=8) (k2:=9) (ys:=[W]) aD nV ga oc rfl dc (ja (m:=8) rfl rfl (hd 8 dc)) (ja (m:=12) rfl rfl (hd 12 dc)) rfl rfl rfl rfl fn (fun v9=>?_)
   refine jd (k:=8) rfl (fun w hB=>?_)
   subst hB
   exact lg (b:=(G,y,F,go,o)) (G,y,F,w,o) 13 (by rfl) (by rfl) rfl (dP (fun _=>rfl) (s6 (dP (fun z=>absurd z P) (Bc rfl)))) (mV (bY (dC (fun h=>h.elim (fun z=>P (C 20 _ rfl z 13 dc)) (fun h=>absurd h dc)) (gU (iI rfl) rfl)) (bY ((gW (by rfl)).trans (gU (hd 12 dc) rfl)) rfl)))
  · exact fun D ⟨G,y,F,w,o⟩ n d c u i=>fX rfl dc (bq 14 u d) (bm 15 u i)
  · exact fun D ⟨G,y,F,w,o⟩ n d c u i=>cf qc rfl dc (bq 15 u d) (show _=0 from rfl) (bm 16 u i)
  · exact fun D ⟨G,y,F,w,o⟩ n d c u i=>⟨_,(mV (bY (dC (fun z=>n (c 19 _ rfl (c 20 _ rfl z 19 dc) 17 dc)) rfl) rfl)),bF (k:=0) lA rfl dc (bq 16 u d) rfl rfl (bm 17 u i)⟩
  · exact fun D ⟨G,y,F,w,o⟩ n d c u i=>⟨_,(mV (bY (dC (fun z=>n (c 20 _ rfl z 19 dc)) rfl) rfl)),iz rfl dc (bq 17 u d) (evO.some (bq 18 u d)) vE g9 (bm 19 u i)⟩
  ·
   intro D b P hd C
   obtain⟨G,y,F,w,gf⟩:=b
   refine jI (mV (bY (dC P (gU (hd 13 dc) rfl)) (bY (gU (C 13 _ rfl (hd 13 dc) 12 dc) rfl) rfl))) ?_
   refine zY (k:=8) (k2:=1) aD nV ga oc g7 rfl dc (ja (m:=13) rfl rfl (hd 13 dc)) (ja (m:=19) rfl rfl (hd 19 dc)) rfl rfl fd (fun hU=>?_)
   refine jd (k:=8) rfl (fun o hA=>?_)
   subst hA
   exact lg (b:=(G,y,F,w,gf)) (G,y,F,w,o) 20 (by rfl) (by rfl) rfl (Bd (s6 (dP (fun z=>absurd z P) rfl))) (mV (bY (gU (iI rfl) rfl) (bY ((gW (by rfl)).trans (gU (C 13 _ rfl (hd 13 dc) 12 dc) rfl)) rfl)))
  intro D b hall
  obtain⟨G,y,F,w,o⟩:=b
  refine jI (mV (bY (gU (hall 20 dc) rfl) (bY (gU (hall 12 dc) rfl) rfl))) (fX rfl dc rfl (cf qc rfl dc rfl (show _=0 from rfl) ?_))
  refine ef (k:=0) (l':=[o.v,.map (some (aV o1_h1)),o1_h2.v,o1_h3.v]) qS rfl rfl rfl rfl rfl (fun _ _=>rfl) rfl ?_
  refine bU ?_
  exact bx (((([]:List ab)++(fi o1.Units 0 (r6+1)))++[W])++(fi o1.Units (r6+1) (o1.Units.length:Int)),o1.Fors,o) h rfl (aT rfl) (aH [0,8,2,3,4,5] kr rfl)
 rintro⟨l2,m1,dn⟩ h
 rw[e6] at h
 refine aC (ac 2 rfl (fX rfl dc rfl (cf uc rfl dc rfl (show _=3 from rfl) (bF (k:=0) lA rfl dc rfl rfl rfl (ac 1 rfl ?_)))))
 refine gl (cs:=[.string H]) (te:=9) (ps:=[(0,.tmp 282)]) rfl dc rfl (fun _=>by kernel_rfl) (fun hV=>?_)
 obtain⟨e9,h⟩:=bC h
 refine iT (k:=4) (k2:=6) (ys:=[H]) aD nV ga oc rfl dc rfl rfl rfl rfl rfl rfl e9 (fun hT=>?_)
 refine jd (k:=4) rfl (fun dj hz=>?_)
 subst hz
 refine fX rfl dc rfl (cf uc rfl dc rfl (show _=3 from rfl) ?_)
 refine ef (k:=0) (l':=[dn.v,.map (some (aV o1_h1)),o1_h2.v,dj.v]) qS rfl rfl rfl rfl rfl (fun _ _=>rfl) rfl ?_
 refine cv ?_
 refine eU (v:=.agg #[zI 0,zI 0]) (ps:=[]) rfl dc rfl (fun _=>by kernel_rfl) ?_
 refine eH (k:=5) (vs:=[zI 0,zI 0]) (l':=[zI 0,zI 0]) jK rfl rfl rfl rfl rfl (show _≤_ by simp) rfl rfl ?_
 refine az (bI ?_)
 cases h
 exact eO (rs:=[.cell 4 26]) (dn,o1_h1,o1_h2,dj) (.inl rfl) fR (.cons (.cells jJ (k:=5) rfl rfl rfl) .nil) rfl (aH [0,1,2,3,4] kr rfl)
def zeI (text1:ab) (j2:Int→Option ((Option dB)×zat)) (ag2:Int→Option ((Option dB)×zat)) (end4:Int):Option ((Option dB)×zat) := aU (decide ((end4:Int)<(text1.size:Int))) ( aX (kR text1 end4) fun (c1:Int)=> aU ((c1:Int) != 10) ( aY (cR (end4+1)) <| ag2 (end4+1)
) ( j2 end4
)
) ( j2 end4
)
def zcO (text1:ab) (j1:(List ab)→(List (ab×List ab))→(List ab)→(List ab)→Option ((Option dB)×zat)) (ag1:(List ab)→(List (ab×List ab))→(List ab)→(List ab)→Int→Option ((Option dB)×zat)) (o13:List ab) (o14:List (ab×List ab)) (o15:List ab) (o16:List ab) (at3:Int):Option ((Option dB)×zat) := aU (decide ((at3:Int)≤(text1.size:Int))) ( cJ (fun (j2:Int→Option ((Option dB)×zat))=> zaI (fun _=>none) (zeI text1 j2) zbH at3
) (fun (end1:Int)=> cJ (fun (j3:(List ab)→(List (ab×List ab))→(List ab)→(List ab)→Option ((Option dB)×zat))=> aX (xB text1 at3 end1) fun (r2:(List gn))=> aU (decide ((1:Int)<(r2.length:Int))) ( aX (xC (⟨o13,o14,o15,o16⟩:dB) r2) fun (r3:(zat×dB))=> aU ((r3.1.Err:Int) != 0) ( some (none,r3.1)
) ( j3 r3.2.Units r3.2.Fors r3.2.Skips r3.2.Lines
)
) ( j3 o13 o14 o15 o16
)
) (fun (o17:List ab) (o18:List (ab×List ab)) (o19:List ab) (o20:List ab)=> aY (cR (end1+1)) <| ag1 o17 o18 o19 o20 (end1+1)
)
)
) ( j1 o13 o14 o15 o16
)
def vx (text1:ab):Option ((Option dB)×zat) := aU (decide ((65536:Int)<(text1.size:Int))) ( some (none,(⟨3,65536⟩:zat))
) ( cJ (fun (j1:(List ab)→(List (ab×List ab))→(List ab)→(List ab)→Option ((Option dB)×zat))=> aX (vu) fun (r1:dB)=> zaI (fun _ _ _ _ _=>none) (zcO text1 j1) zbH r1.Units r1.Fors r1.Skips r1.Lines 0
) (fun (o1:List ab) (o2:List (ab×List ab)) (o3:List ab) (o4:List ab)=> some ((some (⟨o1,o2,o3,o4⟩:dB)),(⟨0,0⟩:zat))
)
)
theorem QY {a:ab} {r:((Option dB)×zat)} (h:vx a=some r):Fn prog 8 [.string a] [] (fun v0:Value=>.tuple #[v0,.agg (ku r.2).toArray]) (fun v0=>[lU sW sX 39 v0 r.1]):=by
 unfold vx at h
 refine _root_.Go.Proofs.YtifpjbgnikjglaaGreatDoor.Fn.intro func8 rfl ntmps8 (by simp) ?_
 intro w0 K
 refine aC (ac 1 rfl ?_)
 refine eN qR rfl dc (fun b1=>?_)
 refine az (cm (aC (ac 1 rfl (ly rfl dc rfl an (aO rfl lK (az ?_))))))
 refine bG rfl h (fun h=>?_) (fun h=>?_)
 ·
  refine aC ?_
  refine eU (v:=.agg #[zI 3,zI 65536]) (ps:=[(0,.const (zI 3)),(1,.const (zI 65536))]) rfl dc rfl (fun _=>by kernel_rfl) ?_
  refine ac 1 rfl (eH (k:=0) (vs:=[zI 3,zI 65536]) (l':=[zI 3,zI 65536]) jK rfl rfl rfl rfl rfl (show _≤_ by simp) rfl rfl ?_)
  refine az (bI (bT (yd sW sX 39 ?_)))
  cases h
  exact eO (rs:=[.tmp 2,.cell 3 26]) (.pointer none) (.inl rfl) results8 (.cons (.tmp rfl) (.cons (.cells jJ (k:=0) rfl rfl rfl) .nil)) rfl (aH [1] kr rfl)
 refine bH (cz ?_)
 obtain⟨j1,bh,h⟩:=cP h
 refine c8 (β:=(List ab)×(List (ab×List ab))×(List ab)×(List ab)×Nat×Hd×Nat×Hd×Hd) 1 rfl (fun b=>j1 b.1 b.2.1 b.2.2.1 b.2.2.2.1=some r) (fun b=>[]) (fun b=>[(3,zP b1),(4,zP b.2.2.2.2.1)]) (fun b=>[cells b1 [zI 0,zI 0] 26,cells b.2.2.2.2.1 [b.2.2.2.2.2.1.v,.map (some b.2.2.2.2.2.2.1),b.2.2.2.2.2.2.2.1.v,b.2.2.2.2.2.2.2.2.v] 39,bo b.2.2.2.2.2.1.v b.1,dh b.2.2.2.2.2.2.1 b.2.1,bo b.2.2.2.2.2.2.2.1.v b.2.2.1,bo b.2.2.2.2.2.2.2.2.v b.2.2.2.1]) (fun cut=>?_) ?_
 ·
  refine aC ?_
  obtain⟨M,a8,h⟩:=bj h
  refine fY (vs:=[]) rfl dc rfl rfl rfl KN (QN a8) ad ?_
  rintro⟨C,T,S,Q,P⟩
  refine mj (L':=[cells b1 [zI 0,zI 0] 26,cells C [T.v,.map (some (aV S)),Q.v,P.v] 39,bo T.v M.Units,dh (aV S) M.Fors,bo Q.v M.Skips,bo P.v M.Lines]) (aH [0,1,2,3,4,5] kr rfl) (ac 1 rfl (az (cut (aC (ac 1 rfl (az (cy ?_)))))))
  refine fh (β:=Nat×(List ab)×(List (ab×List ab))×(List ab)×(List ab)×Int×Hd×Nat×Hd×Hd) (fun b=>zaI (fun _ _ _ _ _=>none) (zcO a j1) b.1 b.2.1 b.2.2.1 b.2.2.2.1 b.2.2.2.2.1 b.2.2.2.2.2.1=some r) (fun b=>[]) (fun b=>[(0,.string a),(3,zP b1),(4,zP C),(5,zI b.2.2.2.2.2.1)]) (fun b=>[cells b1 [zI 0,zI 0] 26,cells C [b.2.2.2.2.2.2.1.v,.map (some b.2.2.2.2.2.2.2.1),b.2.2.2.2.2.2.2.2.1.v,b.2.2.2.2.2.2.2.2.2.v] 39,bo b.2.2.2.2.2.2.1.v b.2.1,dh b.2.2.2.2.2.2.2.1 b.2.2.1,bo b.2.2.2.2.2.2.2.2.1.v b.2.2.2.1,bo b.2.2.2.2.2.2.2.2.2.v b.2.2.2.2.1]) (fun b=>b.1) (zbH,M.Units,M.Fors,M.Skips,M.Lines,0,T,(aV S),Q,P) h rfl (aT rfl) (aH [0,1,2,3,4,5] kr rfl) ?_
  rintro⟨n1,z,y,w,q,J,l,Y,j,g⟩ h
  cases n1 with
  | zero=>exact fa h
  | succ n1=>
   obtain⟨b6,O⟩:∃ag,ag=zaI (fun _ _ _ _ _=>none) (zcO a j1) n1:=⟨_,rfl⟩
   have h:zcO a j1 b6 z y w q J=some r:=by rw[O];exact h
   unfold zcO at h
   refine cm (aC (ac 2 rfl (ly rfl dc rfl an (aO rfl ia (az ?_)))))
   refine bG rfl h (fun h=>?_) (fun h=>?_)
   ·
    refine bH (cz (cy ?_))
    obtain⟨j2,bb,h⟩:=cP h
    refine c8 (β:=Int) 1 rfl (fun b=>j2 b=some r) (fun b=>[]) (fun b=>[(0,.string a),(3,zP b1),(4,zP C),(5,zI J),(6,zI b)]) (fun b=>[cells b1 [zI 0,zI 0] 26,cells C [l.v,.map (some Y),j.v,g.v] 39,bo l.v z,dh Y y,bo j.v w,bo g.v q]) (fun cut=>?_) ?_
    ·
     refine aC (ac 2 rfl (az (cut (cy ?_))))
     refine fh (β:=Nat×Int) (fun b=>zaI (fun _=>none) (zeI a j2) b.1 b.2=some r) (fun b=>[]) (fun b=>[(0,.string a),(3,zP b1),(4,zP C),(5,zI J),(6,zI b.2)]) (fun b=>[cells b1 [zI 0,zI 0] 26,cells C [l.v,.map (some Y),j.v,g.v] 39,bo l.v z,dh Y y,bo j.v w,bo g.v q]) (fun b=>b.1) (zbH,J) h rfl (aT rfl) (aH [0,1,2,3,4,5] kr rfl) ?_
     rintro⟨n2,m⟩ h
     cases n2 with
     | zero=>exact fa h
     | succ n2=>
      obtain⟨b5,N⟩:∃ag,ag=zaI (fun _=>none) (zeI a j2) n2:=⟨_,rfl⟩
      have h:zeI a j2 b5 m=some r:=by rw[N];exact h
      unfold zeI at h
      refine cm (aC (ac 2 rfl (ly rfl dc rfl an (aO rfl ei (ac 1 rfl ?_)))))
      refine dG (s:=23) rfl h (fun h=>?_) (fun h=>?_)
      ·
       refine ac 2 rfl ?_
       obtain⟨c1,a7,h⟩:=bj h
       refine ny rfl dc rfl rfl (p6 an a7) (aO rfl nc (ac 1 rfl (az ?_)))
       refine bG rfl h (fun h=>?_) (fun h=>?_)
       ·
        refine bH (cz (cy (ct (ac 1 rfl ?_))))
        obtain⟨bs,h⟩:=bC h
        refine aO rfl (dN (r:=m+1) (ai _ bs)) (ac 1 rfl (bU (cw ?_)))
        subst N
        exact ff (n2,m+1) h (av _) rfl (aT rfl) (aH [0,1,2,3,4,5] kr rfl)
       refine dZ (cA (cA (ed ?_)))
       exact bx m h rfl (aT rfl) (aH [0,1,2,3,4,5] kr rfl)
      refine ac 5 rfl (az (eQ rfl (dZ (cA (cA (ed ?_))))))
      exact bx m h rfl (aT rfl) (aH [0,1,2,3,4,5] kr rfl)
    rintro o h
    rw[bb] at h
    obtain⟨j3,a9,h⟩:=cP h
    refine c8 (β:=(List ab)×(List (ab×List ab))×(List ab)×(List ab)×Hd×Nat×Hd×Hd) 0 rfl (fun b=>j3 b.1 b.2.1 b.2.2.1 b.2.2.2.1=some r) (fun b=>[]) (fun b=>[(0,.string a),(3,zP b1),(4,zP C),(6,zI o)]) (fun b=>[cells b1 [zI 0,zI 0] 26,cells C [b.2.2.2.2.1.v,.map (some b.2.2.2.2.2.1),b.2.2.2.2.2.2.1.v,b.2.2.2.2.2.2.2.v] 39,bo b.2.2.2.2.1.v b.1,dh b.2.2.2.2.2.1 b.2.1,bo b.2.2.2.2.2.2.1.v b.2.2.1,bo b.2.2.2.2.2.2.2.v b.2.2.2.1]) (fun cut=>?_) ?_
    ·
     refine cut (aC (ac 3 rfl ?_))
     obtain⟨r2,a6,h⟩:=bj h
     refine fY (vs:=[.string a,zI J,zI o]) rfl dc rfl rfl rfl KO (QP a6) ad ?_
     rintro v1
     refine jd (k:=6) rfl (fun I b0=>?_)
     subst b0
     refine ac 1 rfl (cv (ac 1 rfl (iA (k:=6) rfl dc rfl rfl cV (aO rfl lK (az ?_)))))
     refine bG rfl h (fun h=>?_) (fun h=>?_)
     ·
      refine aC (ac 2 rfl ?_)
      refine kG (k:=6) rfl (fun a4=>?_)
      obtain⟨r3,a5,h⟩:=bj h
      refine ua (vs:=[zP C,I.v]) (mB:Rd _ _ []) rfl dc rfl rfl rfl KP (QX (bo1:=C) (o1:=(⟨z,y,w,q⟩:dB)) (o1_h0:=l) (o1_h1:=(⟨some ⟨Y,0,none⟩,0,0⟩:Hd)) (o1_h2:=j) (o1_h3:=g) a4 a5) (aH [1,2,3,4,5] kr rfl) (.own (As:=[s7 I.v r2]) (aH [6] kr rfl) (fun _ _ h=>nU AR (aI.1 h)) .nil) ?_
      rintro⟨H,G,F,E⟩
      refine mj (L':=[cells b1 [zI 0,zI 0] 26,cells C [H.v,.map (some (aV G)),F.v,E.v] 39,bo H.v r3.2.Units,dh (aV G) r3.2.Fors,bo F.v r3.2.Skips,bo E.v r3.2.Lines,s7 I.v r2]) (aH [0,7,8,9,10,11,6] kr rfl) ?_
      refine eN qR rfl dc (fun b9=>?_)
      refine eH (k:=7) (vs:=(ku r3.1)) (l':=(ku r3.1)) jK rfl rfl rfl rfl rfl (show _≤_ by simp) rfl rfl ?_
      refine cv (cf Ag rfl dc rfl (show _=0 from rfl) (bF (k:=7) Af rfl dc rfl rfl rfl (aO rfl nc (az ?_))))
      refine bG rfl h (fun h=>?_) (fun h=>?_)
      ·
       refine cm ?_
       refine jc 2 [(0,44,.agg (ku r3.1).toArray),(1,2,.pointer none)] mixed kr kr dc (by rfl) kr kr (bR ?_ (bR ?_ bK)) ?_
       · exact fun D n d c u i=>gM (k:=7) (cs:=(ku r3.1)) jJ rfl dc (dE (by rfl) rfl) rfl rfl rfl (bm 0 u i)
       · exact fun D n d c u i=>ac 1 rfl (bm 1 u i)
       refine eH (k:=0) (vs:=(ku r3.1)) (l':=(ku r3.1)) jK rfl rfl rfl rfl rfl (show _≤_ by simp) rfl rfl (az (bI (bT (cE (bT (cE (bT (yd sW sX 39 ?_))))))))
       cases h
       exact eO (rs:=[.tmp 2,.cell 3 26]) (.pointer none) (.inl rfl) results8 (.cons (.tmp rfl) (.cons (.cells jJ (k:=0) rfl rfl rfl) .nil)) rfl (aH [8] kr rfl)
      refine bH ?_
      exact bx (r3.2.Units,r3.2.Fors,r3.2.Skips,r3.2.Lines,H,(aV G),F,E) h rfl (aT rfl) (aH [0,1,2,3,4,5] kr rfl)
     refine bH ?_
     exact bx (z,y,w,q,l,Y,j,g) h rfl (aT rfl) (aH [0,1,2,3,4,5] kr rfl)
    rintro⟨a3,a2,a1,a0,aw,b8,ao,Z⟩ h
    rw[a9] at h
    refine ct (ac 1 rfl ?_)
    obtain⟨bk,h⟩:=bC h
    refine aO rfl (dN (r:=o+1) (ai _ bk)) (ac 1 rfl (bU (cw ?_)))
    subst O
    exact ff (n1,a3,a2,a1,a0,o+1,aw,b8,ao,Z) h (av _) rfl (aT rfl) (aH [0,1,2,3,4,5] kr rfl)
   refine dZ (cA (cA (ed ?_)))
   exact bx (z,y,w,q,C,l,Y,j,g) h rfl (aT rfl) (aH [0,1,2,3,4,5] kr rfl)
 rintro⟨o1,o2,o3,o4,b2,W,b3,V,U⟩ h
 rw[bh] at h
 refine aC (ac 1 rfl ?_)
 refine eU (v:=.agg #[zI 0,zI 0]) (ps:=[]) rfl dc rfl (fun _=>by kernel_rfl) ?_
 refine ac 1 rfl (eH (k:=0) (vs:=[zI 0,zI 0]) (l':=[zI 0,zI 0]) jK rfl rfl rfl rfl rfl (show _≤_ by simp) rfl rfl (az (bI ?_)))
 refine D3 (As:=[cells b2 [W.v,.map (some b3),V.v,U.v] 39,bo W.v o1,dh b3 o2,bo V.v o3,bo U.v o4]) (aH [1,2,3,4,5] kr rfl) (Eo (enc:=sW) (nest:=sX) (t:=39) (x:=(⟨o1,o2,o3,o4⟩:dB)) (b:=b2) (hd:=(W,(⟨some ⟨b3,0,none⟩,0,0⟩:Hd),V,U))) (fun _ _=>?_)
 cases h
 exact eO (rs:=[.tmp 2,.cell 3 26]) (zP b2) (.inl rfl) results8 (.cons (.tmp rfl) (.cons (.cells jJ (k:=0) rfl rfl rfl) .nil)) rfl (aH [6] kr rfl)
def zcx (o1:dB) (j1:ab→Option ab) (ag1:ab→Int→Option ab) (s4:ab) (x3:Int):Option ab := aU (decide ((x3:Int)<(o1.Lines.length:Int))) ( aX (zcy o1.Lines x3) fun (q1:ab)=> aY (q1.size+(⟨#[10]⟩:ab).size≤9223372036854775807) <| aY (s4.size+(q1++(⟨#[10]⟩:ab)).size≤9223372036854775807) <| aY (cR (x3+1)) <| ag1 (s4++(q1++(⟨#[10]⟩:ab))) (x3+1)
) ( j1 s4
)
def xD (o1:dB):Option ab := cJ (fun (j1:ab→Option ab)=> zaI (fun _ _=>none) (zcx o1 j1) zbH (⟨#[]⟩:ab) 0
) (fun (s1:ab)=> some s1
)
theorem QZ {bo1:Nat} {o1:dB} {o1_h0 o1_h1 o1_h2 o1_h3:Hd} {r:ab} (h:xD o1=some r):iv prog 11 [zP bo1] [cells bo1 [o1_h0.v,.map (some (aV o1_h1)),o1_h2.v,o1_h3.v] 39,bo o1_h0.v o1.Units,dh (aV o1_h1) o1.Fors,bo o1_h2.v o1.Skips,bo o1_h3.v o1.Lines] [] (fun _:Unit=>(.string r)) (fun _=>[]):=by
 unfold xD at h
 refine iv.intro func11 rfl ntmps11 (by simp) ?_
 intro w0 K a
 obtain⟨l,o,h⟩:=cP h
 refine c8 (β:=ab) 2 rfl (fun b=>l b=some r) (fun b=>[]) (fun b=>[(3,.string b)]) (fun b=>[]) (fun cut=>?_) ?_
 ·
  refine aC (ac 1 rfl (cv (ac 1 rfl (az (cut (aC (ac 1 rfl ?_)))))))
  refine fX rfl dc rfl (cf uc rfl dc rfl (show _=3 from rfl) (lT (i:=0) a rfl lA rfl dc rfl rfl (iO (a.vw (i:=4) rfl) rfl dc rfl aD (ac 1 rfl (az (cy ?_))))))
  refine fh (β:=Nat×ab×Int) (fun b=>zaI (fun _ _=>none) (zcx o1 l) b.1 b.2.1 b.2.2=some r) (fun b=>[]) (fun b=>[(3,.string b.2.1),(9,o1_h3.v),(10,zI (o1.Lines.length:Int)),(11,zI b.2.2)]) (fun b=>[]) (fun b=>b.1) (zbH,(⟨#[]⟩:ab),0) (by exact h) rfl (aT rfl) ad ?_
  rintro⟨k,m,g⟩ h
  cases k with
  | zero=>exact fa h
  | succ k=>
   obtain⟨w,c⟩:∃ag,ag=zaI (fun _ _=>none) (zcx o1 l) k:=⟨_,rfl⟩
   have h:zcx o1 l w m g=some r:=by rw[c];exact h
   unfold zcx at h
   refine aC (aO rfl ei (az (cm ?_)))
   refine bG rfl h (fun h=>?_) (fun h=>?_)
   ·
    refine bH (cz (cm (cy (aC ?_))))
    obtain⟨q1,d,h⟩:=bj h
    refine gq (a.vw (i:=4) rfl) d aD gm rfl dc rfl rfl rfl (vW (n:=0+(g:Int).toNat) (j:=0) (i:=4) (q:=q1) a rfl ea ga rfl dc rfl (cI (a.vw (i:=4) rfl) d) rfl dc rfl (ac 1 rfl (az (ct (ac 2 rfl ?_)))))
    obtain⟨u,h⟩:=bC h
    refine aO rfl (kQ u) ?_
    obtain⟨t,h⟩:=bC h
    refine aO rfl (kQ t) (ac 1 rfl (bU (cw (cz (ct ?_)))))
    obtain⟨s,h⟩:=bC h
    refine aO rfl (dN (r:=g+1) (ai _ s)) (ac 1 rfl (bU ?_))
    subst c
    exact ff (k,m++(q1++(⟨#[10]⟩:ab)),g+1) h (av _) rfl (aT rfl) ad
   refine dZ (cA (cA (ed ?_)))
   exact bx m h rfl (aT rfl) ad
 rintro y h
 rw[o] at h
 refine aC (ac 2 rfl (az (bI ?_)))
 cases h
 exact dk 2 results11
theorem Q0:(match vu with | some o=>decide (o.Units=us0)&&o.Fors.isEmpty&&o.Skips.isEmpty&&o.Lines.isEmpty | none=>false)=true:=by decide +kernel
theorem Q1:vu=some (⟨us0,[],[],[]⟩:dB):=by
 have h:=Q0
 cases a:vu with
 | none=>rw[a] at h;cases h
 | some o=>
  rw[a] at h
  simp only[aR,decide_eq_true_eq,List.isEmpty_iff] at h
  obtain⟨⟨⟨h1,h2⟩,c⟩,b⟩:=h
  obtain⟨u,f,s,l⟩:=o
  simp only at h1 h2 c b
  subst h1;subst h2;subst c;subst b
  rfl
structure kB (o:cK) (w:dB):Prop where
 un:w.Units=o.units
 fo:w.Fors=o.fors
 li:w.Lines=o.lines
 sk:∀f,(zbL f o.skips).getD false=w.Skips.any fun s=>decide (s=f)
 sl:w.Skips.length≤w.Lines.length
theorem kB.rel {o:cK} {w:dB} (h:kB o w) (hi:k7 o):IA o w:=⟨h.un,h.fo,h.li,h.sk,by have h1:=h.sl;have h2:=hi.ll;rw[h.li] at h1;omega⟩
theorem Q2:kB qy (⟨us0,[],[],[]⟩:dB):=⟨rfl,rfl,rfl,fun f=>rfl,bJ _⟩
abbrev Wr:=gn
def rW (w:Wd):Wr:=⟨w.at_,w.text⟩
def k8 (ws:List Wd) (e:Int):List Wr:=ws.map rW++[⟨e,zeB⟩]
theorem xE (a:List Wd) (e:Int):(k8 a e).length=a.length+1:=by unfold k8;rw[ah,aF];rfl
theorem rp {a:List Wd} {e:Int} {k:Nat} {w:Wd} (h:a[k]?=some w):(k8 a e)[k]?=some (rW w):=by
 have hk:=(au.1 h).1
 unfold k8
 rw[List.getElem?_append_left (by rw[aF];exact hk),bV,h];rfl
theorem Q3 (a:List Wd) (e:Int):(k8 a e)[a.length]?=some (⟨e,zeB⟩:Wr):=by
 unfold k8
 rw[List.getElem?_append_right (by rw[aF];exact bJ _),aF,Nat.sub_self];rfl
theorem Q4 {run a:List UInt8} (b:run≠[]) (h:∀c∈run,c≠32) (hr:a=[]∨∃l,a=32::l) (i:Nat):fH (run++a) i none=(i,run)::fH a (i+run.length) none:=by
 rw[C7 b h]
 rcases hr with rfl | ⟨l,rfl⟩
 ·rfl
 ·rw[vl,vl];rfl
section
variable {text:ab} {L:List UInt8} {f e:Nat}
theorem IB (hL:(text.data.toList.drop f).take (e - f)=L) {k:Nat} {c:UInt8} (h:L[k]?=some c):kR text ((f:Int)+(k:Int))=some (c.toNat:Int)∧f+k<e:=by
 have hk:=(au.1 h).1
 rw[← hL] at h hk
 rw[cj] at hk
 rw[List.getElem?_take_of_lt (by omega),List.getElem?_drop] at h
 have:=CV h
 push_cast at this
 exact⟨this,by omega⟩
theorem Q5 (hL:(text.data.toList.drop f).take (e - f)=L) (l:f≤e) (he:e≤text.size) (q:text.size≤1000000000) (J:Int→Option (List Wr)) :
  ∀ (n:Nat) (B A:List UInt8),L=A++B→B.length<n→zaI (fun _=>none) (zei text (e:Int) J) n ((f:Int)+(A.length:Int))=J ((f:Int)+((A.length+(B.takeWhile fun c=>c != 32).length:Nat):Int)):=by
 have m:L.length=e - f:=by
  rw[← hL,cj,ck,← kL];omega
 intro n
 induction n with
 | zero=>intro B A _ h;omega
 | succ n i=>
  intro B A b j
  rw[ic]
  generalize g:zaI (fun _=>none) (zei text (e:Int) J) n=ag
  unfold zei
  have a:L.length=A.length+B.length:=by rw[b,ah]
  cases B with
  | nil=>
   rw[bl] at a
   exact cr (ae (by omega)) rfl
  | cons c B=>
   rw[aj] at a j
   obtain⟨o,r⟩:=IB hL (k:=A.length) (c:=c) (by rw[b];simp)
   refine cu (al (by omega)) (bN o ?_)
   rw[dM]
   by_cases hc:c=32
   ·subst hc
    exact cr rfl rfl
   ·have h1:(((c.toNat:Int):Int) != 32)=true:=er.2 fun h=>hc (mc.1 (by show c.toNat=32;omega))
    have h2:(c != 32)=true:=er.2 hc
    rw[h2,ay rfl]
    have d:=i B (A++[c]) (by rw[b,aM];rfl) (by omega)
    rw[g,show (A++[c]).length=A.length+1 by simp] at d
    push_cast at d
    refine cu h1 (zbx ⟨by omega,by omega⟩ ?_)
    rw[show (f:Int)+(A.length:Int)+1=(f:Int)+((A.length:Int)+1) by omega,d,aj]
    congr 1
    push_cast;omega
theorem Q6 (hL:(text.data.toList.drop f).take (e - f)=L) (s:f≤e) (he:e≤text.size) (v:text.size≤1000000000) (J:List Wr→Option (List Wr)) :
  ∀ (n:Nat) (B A:List UInt8) (E:List Wr),L=A++B→B.length<n→E.length+B.length≤1000000000 →
   zaI (fun _ _=>none) (zej text (e:Int) J) n E ((f:Int)+(A.length:Int))=J (E++((fH B A.length none).map (iB (f:Int))).map rW):=by
 have C:L.length=e - f:=by
  rw[← hL,cj,ck,← kL];omega
 intro n
 induction n with
 | zero=>intro B A E _ h;omega
 | succ n t=>
  intro B A E b y D
  rw[ic]
  generalize r:zaI (fun _ _=>none) (zej text (e:Int) J) n=ag
  unfold zej
  have i:L.length=A.length+B.length:=by rw[b,ah]
  cases B with
  | nil=>
   rw[bl] at i
   refine cr (ae (by omega)) ?_
   show J E=J (E++[])
   rw[aQ]
  | cons c B=>
   rw[aj] at i y D
   obtain⟨G,H⟩:=IB hL (k:=A.length) (c:=c) (by rw[b];simp)
   refine cu (al (by omega)) (bN G ?_)
   by_cases hc:c=32
   ·subst hc
    have m:=t B (A++[32]) E (by rw[b,aM];rfl) (by omega) (by omega)
    rw[r,show (A++[(32:UInt8)]).length=A.length+1 by simp] at m
    push_cast at m
    refine cu rfl (zbx ⟨by omega,by omega⟩ ?_)
    rw[show (f:Int)+(A.length:Int)+1=(f:Int)+((A.length:Int)+1) by omega,m,vl]
    rfl
   ·have h1:(((c.toNat:Int):Int)==32)=false:=aS.2 fun h=>hc (mc.1 (by show c.toNat=32;omega))
    have h2:(c != 32)=true:=er.2 hc
    refine cr h1 (dv ?_)
    refine (Q5 hL s he v _ zbH (c::B) A b (by rw[aj];unfold zbH;omega)).trans ?_
    have a:c::B=(c::B).takeWhile (fun c=>c != 32)++(c::B).dropWhile fun c=>c != 32:=List.takeWhile_append_dropWhile.symm
    have j:(c::B).takeWhile (fun c=>c != 32)≠[]:=by rw[dM,h2,ay rfl];simp
    have o:∀d∈(c::B).takeWhile (fun c=>c != 32),d≠32:=fun d hd=>er.1 (bz.1 (List.all_takeWhile (p:=fun c:UInt8=>c != 32) (l:=c::B)) d hd)
    have g:(c::B).dropWhile (fun c=>c != 32)=[]∨∃l,(c::B).dropWhile (fun c=>c != 32)=32::l:=by
     have:=nM (fun c:UInt8=>c != 32) (c::B)
     cases hd:(c::B).dropWhile (fun c=>c != 32) with
     | nil=>exact .inl rfl
     | cons d l=>
      rw[hd] at this
      have F:(d != 32)=false:=by simpa using this
      exact .inr ⟨l,by rw[bne_eq_false_iff_eq.1 F]⟩
    generalize (c::B).takeWhile (fun c=>c != 32)=run at a j o ⊢
    generalize (c::B).dropWhile (fun c=>c != 32)=rest at a g
    have w:=c6.2 j
    have z:B.length+1=run.length+rest.length:=by
     have:=aL gi a
     rw[aj,ah] at this;exact this
    have m:=t rest (A++run) (E++[(⟨(f:Int)+(A.length:Int),ba run⟩:Wr)]) (by rw[b,a,aM]) (by omega) (by rw[ah];show _+1+_≤_;omega)
    rw[r,ah] at m
    have q:c7 text ((f:Int)+(A.length:Int)) ((f:Int)+((A.length+run.length:Nat):Int))=ba run:=by
     apply pP
     have:=xp text (f+A.length) (f+(A.length+run.length))
     push_cast at this
     push_cast
     rw[this,pc,show f+(A.length+run.length) - (f+A.length)=run.length by omega]
     have u:L.drop A.length=run++rest:=by rw[b,List.drop_left,a]
     rw[← hL,List.drop_take,eS] at u
     have h5:=aL (List.take run.length) u
     rw[List.take_take,jv,Nat.min_eq_left (by omega)] at h5
     exact h5
    refine zbx ⟨by omega,by omega,by omega⟩ (zbx (by omega) ?_)
    rw[q,m,a,Q4 j o g]
    congr 1
    rw[aM];rfl
end
theorem Q7 (text:ab) (f e:Nat) (a:f≤e) (he:e≤text.size) (d:text.size≤1000000000) :
  xB text (f:Int) (e:Int)=some (k8 ((fH ((text.data.toList.drop f).take (e - f)) 0 none).map (iB (f:Int))) (e:Int)):=by
 unfold xB
 refine dv ?_
 have g:((text.data.toList.drop f).take (e - f)).length=e - f:=by
  rw[cj,ck,← kL];omega
 have:=Q6 (L:=(text.data.toList.drop f).take (e - f)) rfl a he d (fun (b:List Wr)=>
  aY (b.length+1≤2147483648)<|some (b++[(⟨(e:Int),(⟨#[]⟩:ab)⟩:Wr)])) zbH ((text.data.toList.drop f).take (e - f)) [] [] (bt _).symm (by unfold zbH;omega) (by rw[bl];omega)
 rw[bl,show (f:Int)+((0:Nat):Int)=(f:Int) by omega] at this
 refine this.trans ?_
 have c:=(sw ((text.data.toList.drop f).take (e - f)) 0 none).2
 have c:(fH ((text.data.toList.drop f).take (e - f)) 0 none).length≤((text.data.toList.drop f).take (e - f)).length+0:=c
 rw[bt]
 exact zbx (by rw[aF,aF];omega) rfl
def mY (e:Int):List ab→List Wd→Option Int
 | [],[]=>none
 | [],w::_=>some w.at_
 | _::_,[]=>some e
 | s::S,w::W=>if s≠zeB∧s≠w.text then some w.at_ else mY e S W
def tC (put:Bool) (verb:ab) (n:Nat):List ab:=(List.range n).map fun i=>if i=0 then verb else if put=true∧i=2 then oq else zeB
theorem Q8 (w:dB) (b:List Wd) (e:Int) (S:List ab) (J:Option (zat×dB)) (z:b.length≤1000000000) (D:S.length≤1000) :
  ∀ (n:Nat) (T:List ab) (W:List Wd) (A:List ab) (C:List Wd),S=A++T→b=C++W→A.length=C.length→T.length+W.length<n →
   zaI (fun _=>none) (zcG w (k8 b e) S J) n (A.length:Int)=match mY e T W with | some a=>some ((⟨220,a⟩:zat),w) | none=>J:=by
 intro n
 induction n with
 | zero=>intro T W A C _ _ _ h;omega
 | succ n u=>
  intro T W A C hA j d q
  rw[ic]
  generalize o:zaI (fun _=>none) (zcG w (k8 b e) S J) n=ag
  unfold zcG
  have m:((k8 b e).length:Int) - 1=(b.length:Int):=by rw[xE];omega
  have i:S.length=A.length+T.length:=by rw[hA,ah]
  have c:b.length=C.length+W.length:=by rw[j,ah]
  rw[m]
  have g:∀k v,min A.length b.length=k→(k8 b e)[k]?=some v→(aX (zcy (k8 b e) (min (A.length:Int) (b.length:Int))) fun (t:gn)=>some ((⟨220,t.at_⟩:zat),w))=some ((⟨220,v.at_⟩:zat),w):=fun k v hk hv=>by
   rw[show min (A.length:Int) (b.length:Int)=(k:Int) by omega]
   exact bN (jz hv) rfl
  refine dv ?_
  cases T with
  | nil=>
   rw[bl] at i
   refine cr (ae (by omega)) ?_
   cases W with
   | nil=>
    rw[bl] at c
    exact cr (ae (by omega)) rfl
   | cons x W=>
    rw[aj] at c
    have hx:b[A.length]?=some x:=by rw[j,d];simp
    refine cu (al (by omega)) (dv (cr (ae (by omega)) (cu (al (by omega)) ?_)))
    exact g A.length (rW x) (by omega) (rp hx)
  | cons s T=>
   rw[aj] at i q
   refine cu (al (by omega)) (dv ?_)
   cases W with
   | nil=>
    rw[bl] at c
    refine cu (al (by omega)) ?_
    exact g b.length ⟨e,zeB⟩ (by omega) (Q3 b e)
   | cons x W=>
    rw[aj] at c q
    have hx:b[A.length]?=some x:=by rw[j,d];simp
    have y:S[A.length]?=some s:=by rw[hA];simp
    have l:=u T W (A++[s]) (C++[x]) (by rw[hA,aM];rfl) (by rw[j,aM];rfl) (by simp[d]) (by omega)
    rw[o,show (A++[s]).length=A.length+1 by simp] at l
    push_cast at l
    have r:(aY (cR ((A.length:Int)+1))<|ag ((A.length:Int)+1))=match mY e T W with | some a=>some ((⟨220,a⟩:zat),w) | none=>J:=zbx ⟨by omega,by omega⟩ l
    refine cr (ae (by omega)) (cr (ae (by omega)) (bN (jz y) ?_))
    rw[mY]
    by_cases h1:s=zeB
    ·rw[ar (fun h=>h.1 h1)]
     exact cr (by rw[al h1];rfl) r
    ·refine cu (by rw[ae h1];rfl) (bN (jz (rp hx)) ?_)
     by_cases h2:s=x.text
     ·rw[ar (fun h=>h.2 h2)]
      exact cr (by show (!decide (s=x.text))=false;rw[al h2];rfl) r
     ·rw[ay ⟨h1,h2⟩]
      refine cu (by show (!decide (s=x.text))=true;rw[ae h2];rfl) ?_
      exact g A.length (rW x) (by omega) (rp hx)
theorem zw (e:Int):∀ (W:List Wd) (n:Nat),mY e (bA n zeB) W=if W.length<n then some e else if n<W.length then some (l0 W n) else none
 | [],0=>rfl
 | w::W,0=>by
  show some w.at_=_
  rw[ar (by omega),ay (by rw[aj];omega)];rfl
 | [],n+1=>by
  show some e=_
  rw[ay (by show 0<n+1;omega)]
 | w::W,n+1=>by
  rw[List.replicate_succ,mY,ar (fun h=>h.1 rfl),zw e W n,aj]
  by_cases h1:W.length<n
  ·rw[ay h1,ay (show W.length+1<n+1 by omega)]
  ·rw[ar h1,ar (show ¬ W.length+1<n+1 by omega)]
   by_cases h2:n<W.length
   ·rw[ay h2,ay (show n+1<W.length+1 by omega)];rfl
   ·rw[ar h2,ar (show ¬ n+1<W.length+1 by omega)]
def sy (a:Int):Option Int:=if 0≤a then some a else none
theorem gy:cAs≠zhg∧lB≠zhg∧lB≠cAs∧zhg≠zeB∧cAs≠zeB∧lB≠zeB∧oq≠zeB:=by decide
theorem xF {l:List Wd} {e:Int} (he:0≤e) (c:∀w∈l,0≤w.at_) (a b:Nat):sy (pQ l e a b)=if l.length<a then some e else if b<l.length then some (l0 l b) else none:=by
 unfold pQ sy
 by_cases h1:l.length<a
 ·rw[ay h1,ay h1,ay he]
 ·rw[ar h1,ar h1]
  by_cases h2:b<l.length
  ·rw[ay h2,ay h2,ay (show 0≤l0 l b from c _ (aJ (n0 (d:=w0) h2)))]
  ·rw[ar h2,ar h2];rfl
theorem IC (w:Wd) (W:List Wd) (n:Nat):l0 (w::W) (n+1)=l0 W n:=rfl
theorem Q9 {b:List Wd} {e:Int} (he:0≤e) (a:∀w∈b,0≤w.at_) (h0:0<b.length) (hv:(b.getD 0 w0).text=zhg):mY e [zhg,zeB,oq,zeB] b=sy (kz b e):=by
 unfold kz
 rw[ay hv]
 match b,a,h0,hv with
 | [w],a,_,hv=>
  have hv:w.text=zhg:=hv
  rw[mY,ar (fun h=>h.2 hv.symm),ar (fun h=>by have:=h.1;simp at this),xF he a]
  rfl
 | [w,x],a,_,hv=>
  have hv:w.text=zhg:=hv
  rw[mY,ar (fun h=>h.2 hv.symm),mY,ar (fun h=>h.1 rfl),ar (fun h=>by have:=h.1;simp at this),xF he a]
  rfl
 | w::x::y::W,a,_,hv=>
  have hv:w.text=zhg:=hv
  rw[mY,ar (fun h=>h.2 hv.symm),mY,ar (fun h=>h.1 rfl),mY]
  by_cases hy:y.text=oq
  ·rw[ar (fun h=>h.2 hy.symm),ar (fun h=>h.2 hy),xF he a,show [zeB]=bA 1 zeB from rfl,zw]
   simp only[aj,IC]
   by_cases h1:W.length<1
   ·rw[ay h1,ay (show W.length+1+1+1<4 by omega)]
   ·rw[ar h1,ar (show ¬ W.length+1+1+1<4 by omega)]
    by_cases h2:1<W.length
    ·rw[ay h2,ay (show 4<W.length+1+1+1 by omega)]
    ·rw[ar h2,ar (show ¬ 4<W.length+1+1+1 by omega)]
  ·rw[ay ⟨gy.2.2.2.2.2.2,fun h=>hy h.symm⟩,ay ⟨by simp,hy⟩]
   unfold sy
   rw[ay (show 0≤l0 (w::x::y::W) 2 from a y (by simp))];rfl
theorem Ra {a:List Wd} {e:Int} (he:0≤e) (b:∀w∈a,0≤w.at_) (h0:0<a.length) (hv:(a.getD 0 w0).text=lB):mY e [lB,zeB] a=sy (kz a e):=by
 unfold kz
 rw[hv,ar gy.2.1,ar gy.2.2.1,ay rfl]
 match a,b,h0,hv with
 | w::W,b,_,hv=>
  have hv:w.text=lB:=hv
  rw[mY,ar (fun h=>h.2 hv.symm),xF he b,show [zeB]=bA 1 zeB from rfl,zw]
  simp only[aj,IC]
  by_cases h1:W.length<1
  ·rw[ay h1,ay (show W.length+1<2 by omega)]
  ·rw[ar h1,ar (show ¬ W.length+1<2 by omega)]
   by_cases h2:1<W.length
   ·rw[ay h2,ay (show 2<W.length+1 by omega)]
   ·rw[ar h2,ar (show ¬ 2<W.length+1 by omega)]
theorem Rb {a:List Wd} {e:Int} (he:0≤e) (b:∀w∈a,0≤w.at_) (h0:0<a.length) (hv:(a.getD 0 w0).text=cAs):mY e (cAs::bA (max 3 (min a.length 6) - 1) zeB) a=sy (kz a e):=by
 unfold kz
 rw[hv,ar gy.1,ay rfl]
 match a,b,h0,hv with
 | w::W,b,_,hv=>
  have hv:w.text=cAs:=hv
  rw[mY,ar (fun h=>h.2 hv.symm),xF he b,zw]
  simp only[aj]
  by_cases h1:W.length+1<3
  ·rw[ay h1,ay (show W.length<max 3 (min (W.length+1) 6) - 1 by omega)]
  ·rw[ar h1,ar (show ¬ W.length<max 3 (min (W.length+1) 6) - 1 by omega)]
   by_cases h2:6<W.length+1
   ·rw[ay h2,ay (show max 3 (min (W.length+1) 6) - 1<W.length by omega),show max 3 (min (W.length+1) 6) - 1=5 by omega];rfl
   ·rw[ar h2,ar (show ¬ max 3 (min (W.length+1) 6) - 1<W.length by omega)]
theorem Rc (a:List Wd) (e:Int) (J:List ab→Option (zat×dB)):∀ (n k:Nat),3≤k→k≤max 3 (min a.length 6)→10<n+k →
  zaI (fun _=>none) (zcH (k8 a e) J) n (cAs::bA (k - 1) zeB)=J (cAs::bA (max 3 (min a.length 6) - 1) zeB):=by
 intro n
 induction n with
 | zero=>intro k h1 h2 g;omega
 | succ n c=>
  intro k h1 h2 g
  rw[ic]
  generalize d:zaI (fun _=>none) (zcH (k8 a e) J) n=ag at c
  unfold zcH
  have b:((k8 a e).length:Int) - 1=(a.length:Int):=by rw[xE];omega
  have hk:(cAs::bA (k - 1) zeB).length=k:=by rw[aj,oW];omega
  rw[b,hk]
  by_cases i:k<a.length
  ·refine cu (al (by omega)) ?_
   by_cases h:k<6
   ·refine cu (al (by omega)) (zbx (by omega) ?_)
    have:=c (k+1) (by omega) (by omega) (by omega)
    rw[← this]
    congr 1
    rw[bp,show k+1 - 1=(k - 1)+1 by omega,List.replicate_succ']
   ·refine cr (ae (by omega)) ?_
    rw[show max 3 (min a.length 6)=k by omega]
  ·refine cr (ae (by omega)) ?_
   rw[show max 3 (min a.length 6)=k by omega]
theorem Re (w:dB) (d:List Wd) (e:Int) (S:List ab) (put:Bool) (b:ab) (J:List ab→ab→Option (zat×dB)) (P:d.length≤1000) (E:∀w∈d,w.text.size≤65536)
  (v:S=tC put b d.length) (l:b≠zeB) (k:b≠oq) :
  ∀ (n:Nat) (B A:List Wd) (D:List ab) (said:ab),d=A++B→D.length=A.length→B.length<n→said.size≤65536+1000*A.length →
   zaI (fun _ _ _=>none) (zcF w (k8 d e) S J) n D said (A.length:Int) =
    match fmS put A.length B with
    | .inl a=>some ((⟨221,a⟩:zat),w)
    | .inr (f,s)=>J (D++f) (said++s):=by
 have I:S.length=d.length:=by rw[v];unfold tC;rw[aF,List.length_range]
 have r:∀i,i<d.length→S[i]?=some (if i=0 then b else if put=true∧i=2 then oq else zeB):=fun i hi=>by
  rw[v];unfold tC
  rw[bV,kh hi];rfl
 intro n
 induction n with
 | zero=>intro B A D said _ _ h;omega
 | succ n C=>
  intro B A D said hA M G O
  rw[ic]
  generalize q:zaI (fun _ _ _=>none) (zcF w (k8 d e) S J) n=ag
  unfold zcF
  have g:d.length=A.length+B.length:=by rw[hA,ah]
  cases B with
  | nil=>
   rw[bl] at g
   refine cr (ae (by omega)) ?_
   show J D said=J (D++[]) (said++zeB)
   rw[aQ,show zeB=aA from rfl,bW]
  | cons x B=>
   rw[aj] at g G
   have hx:d[A.length]?=some x:=by rw[hA];simp
   have hg:=r A.length (by omega)
   have j:=fun (y:ab) (c:ab) (o:c.size≤65536+1000*(A.length+1))=>C B (A++[x]) (D++[y]) c (by rw[hA,aM];rfl) (by rw[ah,ah,M];rfl) (by omega) (by rw[ah];exact o)
   rw[q,show (A++[x]).length=A.length+1 by simp] at j
   push_cast at j
   have u:∀ (y z:ab),z.size≤1000→(aY (cR ((A.length:Int)+1))<|ag (D++[y]) (said++z) ((A.length:Int)+1))=match fmS put (A.length+1) B with | .inl a=>some ((⟨221,a⟩:zat),w) | .inr (f,s)=>J (D++y::f) (said++(z++s)):=fun y z hz=>by
    refine zbx ⟨by omega,by omega⟩ ((j y (said++z) (by rw[aK];omega)).trans ?_)
    cases fmS put (A.length+1) B with
    | inl a=>rfl
    | inr fs=>
     obtain⟨f,s⟩:=fs
     show J ((D++[y])++f) ((said++z)++s)=_
     rw[aM,dS];rfl
   have t:∀y:ab,(aY (cR ((A.length:Int)+1))<|ag (D++[y]) said ((A.length:Int)+1))=match fmS put (A.length+1) B with | .inl a=>some ((⟨221,a⟩:zat),w) | .inr (f,s)=>J (D++y::f) (said++(zeB++s)):=fun y=>by
    have:=u y zeB (by show 0≤1000;omega)
    rw[show said++zeB=said from bW] at this
    exact this
   have K:D.length≤1000:=by omega
   refine cu (al (by omega)) (dv (bN (jz hg) ?_))
   rw[fmS]
   by_cases h0:A.length=0
   ·rw[ay (show A.length=0∨(put=true∧A.length=2) from .inl h0),ay h0,ay h0]
    refine cu (by rw[ae l];rfl) (dv (zbx (by omega) (cr (ae k) ((t zeB).trans ?_))))
    cases fmS put (A.length+1) B with
    | inl a=>rfl
    | inr fs=>rfl
   ·rw[ar h0]
    by_cases h2:put=true∧A.length=2
    ·rw[ay (show A.length=0∨(put=true∧A.length=2) from .inr h2),ay h2,ar h0]
     refine cu (by decide) (dv (zbx (by omega) (cu (by decide) (zbx (by show said.size+6≤_;omega) ((u zeB zsX (by show 6≤1000;omega)).trans ?_)))))
     cases fmS put (A.length+1) B with
     | inl a=>rfl
     | inr fs=>rfl
    ·rw[ar (show ¬ (A.length=0∨(put=true∧A.length=2)) from fun h=>by rcases h with h | h;exact h0 h;exact h2 h),ar h2]
     have N:=xv x.text
     have m:=E x (aJ hx)
     have F:=(vj (zdT x.text) (by omega)).2.2.2
     refine cr (by decide) (bN (jz (rp hx)) (bN (QV x.text m) ?_))
     by_cases he:zdT x.text=zeB
     ·rw[ay he]
      exact cu (al he) (bN (jz (rp hx)) rfl)
     ·rw[ar he]
      have H:(⟨#[32]⟩:ab).size=1:=rfl
      refine cr (ae he) (zbx (by omega) (bN (He _ (by omega)) (zbx (by omega) (zbx (by rw[aK];omega) ((u (zdT x.text) (zuZ++zoJ (zdT x.text)) (by rw[aK];show 1+_≤1000;omega)).trans ?_)))))
      cases fmS put (A.length+1) B with
      | inl a=>rfl
      | inr fs=>rfl
def vy (w:dB) (o:cK) (l:List Wd) (e:Int):zat×dB :=
 if o.lines.length=256 then (⟨3,l0 l 0⟩,w)
 else if 0≤kz l e then (⟨220,kz l e⟩,w)
 else match fmS (decide ((l.getD 0 w0).text=zhg)) 0 l with
  | .inl a=>(⟨221,a⟩,w)
  | .inr (fs,s)=>
   if (l.getD 0 w0).text=lB then
    (if (zbL (lY (fD fs 1)) o.skips).getD false=true then (⟨222,l0 l 1⟩,w) else (⟨0,0⟩,⟨w.Units,w.Fors,w.Skips++[lY (fD fs 1)],w.Lines++[np l s]⟩))
   else if oa o (fD fs 1)=true then (⟨222,l0 l 1⟩,w)
   else match k6 o 0 fs l with
    | some a=>(⟨223,a⟩,w)
    | none=>(⟨0,0⟩,if (l.getD 0 w0).text=zhg then ⟨iK w.Units ((zbL (fD fs 3) o.place).getD 0+1) (fD fs 1),w.Fors,w.Skips,w.Lines++[np l s]⟩ else ⟨w.Units,gH (fD fs 1) (fs.drop 2) w.Fors,w.Skips,w.Lines++[np l s]⟩)
theorem Rf {o:cK} {w:dB} (hr:kB o w) (l:List Wd) (e:Int):(vy w o l e).1=(kA o l e).1∧kB (kA o l e).2 (vy w o l e).2:=by
 unfold vy kA
 by_cases h1:o.lines.length=256
 ·rw[ay h1,ay h1];exact⟨rfl,hr⟩
 rw[ar h1,ar h1]
 by_cases h2:0≤kz l e
 ·rw[ay h2,ay h2];exact⟨rfl,hr⟩
 rw[ar h2,ar h2]
 cases hf:fmS (decide ((l.getD 0 w0).text=zhg)) 0 l with
 | inl a=>exact⟨rfl,hr⟩
 | inr fs=>
  obtain⟨fs,s⟩:=fs
  show ((ite _ _ _:zat×dB)).1=((ite _ _ _:zat×cK)).1∧kB ((ite _ _ _:zat×cK)).2 ((ite _ _ _:zat×dB)).2
  by_cases b:(l.getD 0 w0).text=lB
  ·rw[ay b,ay b]
   by_cases c:(zbL (lY (fD fs 1)) o.skips).getD false=true
   ·rw[ay c,ay c];exact⟨rfl,hr⟩
   ·rw[ar c,ar c]
    refine⟨rfl,hr.un,hr.fo,?_,fun f=>?_,?_⟩
    ·show w.Lines++_=o.lines++_
     rw[hr.li]
    ·show (zbL f (gH (lY (fD fs 1)) true o.skips)).getD false=(w.Skips++[lY (fD fs 1)]).any fun s=>decide (s=f)
     rw[vn,List.any_append,← hr.sk]
     by_cases d:f=lY (fD fs 1)
     ·rw[ay d,d]
      simp
     ·rw[ar d]
      have:decide (lY (fD fs 1)=f)=false:=ae fun h=>d h.symm
      simp[this]
    ·show (w.Skips++[_]).length≤(w.Lines++[_]).length
     have:=hr.sl
     rw[ah,ah]
     show _+1≤_+1
     omega
  ·rw[ar b,ar b]
   by_cases c:oa o (fD fs 1)=true
   ·rw[ay c,ay c];exact⟨rfl,hr⟩
   ·rw[ar c,ar c]
    cases g:k6 o 0 fs l with
    | some a=>exact⟨rfl,hr⟩
    | none=>
     have sl:∀x:ab,w.Skips.length≤(w.Lines++[x]).length:=fun x=>by
      have:=hr.sl
      rw[ah];omega
     refine⟨rfl,?_⟩
     show kB (ite _ _ _:cK) (ite _ _ _:dB)
     by_cases hp:(l.getD 0 w0).text=zhg
     ·rw[ay hp,ay hp]
      refine⟨?_,hr.fo,?_,hr.sk,sl _⟩
      ·show iK w.Units _ _=iK o.units _ _
       rw[hr.un]
      ·show w.Lines++_=o.lines++_
       rw[hr.li]
     ·rw[ar hp,ar hp]
      refine⟨hr.un,?_,?_,hr.sk,sl _⟩
      ·show gH _ _ w.Fors=gH _ _ o.fors
       rw[hr.fo]
      ·show w.Lines++_=o.lines++_
       rw[hr.li]
theorem Rg (w:dB) (l:List Wd) (e:Int) (h1:1<l.length) (f:ab) (J:ab→Option (zat×dB)) (m:w.Skips.length≤1000000):∀ (n:Nat) (T S:List ab),w.Skips=S++T→T.length<n →
  zaI (fun _=>none) (zcE w (k8 l e) J f) n (S.length:Int)=if (T.any fun s=>decide (s=f))=true then some ((⟨222,l0 l 1⟩:zat),w) else J f:=by
 intro n
 induction n with
 | zero=>intro T S _ h;omega
 | succ n j=>
  intro T S g k
  rw[ic]
  generalize c:zaI (fun _=>none) (zcE w (k8 l e) J f) n=ag
  unfold zcE
  have a:w.Skips.length=S.length+T.length:=by rw[g,ah]
  cases T with
  | nil=>
   rw[bl] at a
   rw[ar (by rintro h;cases h)]
   exact cr (ae (by omega)) rfl
  | cons s T=>
   rw[aj] at a k
   have hg:w.Skips[S.length]?=some s:=by rw[g];simp
   have b:=j T (S++[s]) (by rw[g,aM];rfl) (by omega)
   rw[c,show (S++[s]).length=S.length+1 by simp] at b
   push_cast at b
   refine cu (al (by omega)) (bN (jz hg) ?_)
   rw[List.any_cons]
   by_cases i:s=f
   ·rw[al i,Bool.true_or,ay rfl]
    exact cu rfl (bN (jz (rp (n0 (d:=w0) h1))) rfl)
   ·rw[ae i,ik]
    exact cr rfl (zbx ⟨by omega,by omega⟩ b)
theorem Rh {o:cK} {w:dB} (hi:k7 o) (hr:kB o w) (l:List Wd) (e:Int) (S fs:List ab) (put:Bool) (b:ab) (K:S=tC put b l.length) (I:fs.length=l.length) (M:l.length≤1000) (J:Option (zat×dB))
  (s:∀k,k<l.length→1<k→(fs.getD k zeB=zeB↔(put=true∧k=2))) :
  ∀ (n:Nat) (A B:List ab) (C D:List Wd),fs=A++B→l=C++D→A.length=C.length→1<A.length→B.length<n →
  zaI (fun _=>none) (zcD w (k8 l e) S fs J) n (A.length:Int)=match k6 o A.length B D with | some a=>some ((⟨223,a⟩:zat),w) | none=>J:=by
 have F:=hi.ul;have H:=hi.ll
 intro n
 induction n with
 | zero=>intro A B C D _ _ _ _ h;omega
 | succ n E=>
  intro A B C D hA v i h1 G
  rw[ic]
  generalize t:zaI (fun _=>none) (zcD w (k8 l e) S fs J) n=ag
  unfold zcD
  have d:fs.length=A.length+B.length:=by rw[hA,ah]
  have u:l.length=C.length+D.length:=by rw[v,ah]
  cases B with
  | nil=>
   rw[bl] at d
   exact cr (ae (by omega)) rfl
  | cons f B=>
   cases D with
   | nil=>rw[aj] at d;rw[bl] at u;omega
   | cons x D=>
    rw[aj] at d G
    have g:fs[A.length]?=some f:=by rw[hA];simp
    have q:l[A.length]?=some x:=by rw[v,i];simp
    have r:S[A.length]?=some (if put=true∧A.length=2 then oq else zeB):=by
     rw[K];unfold tC
     rw[bV,kh (by omega)]
     show some (if A.length=0 then b else _)=_
     rw[ar (by omega)]
    have c:=s A.length (by omega) h1
    rw[show fs.getD A.length zeB=f by rw[cC,g];rfl] at c
    have j:=E (A++[f]) B (C++[x]) D (by rw[hA,aM];rfl) (by rw[v,aM];rfl) (by simp[i]) (by rw[ah];omega) (by omega)
    rw[t,show (A++[f]).length=A.length+1 by simp] at j
    push_cast at j
    have z:(aY (cR ((A.length:Int)+1))<|ag ((A.length:Int)+1))=match k6 o (A.length+1) B D with | some a=>some ((⟨223,a⟩:zat),w) | none=>J:=zbx ⟨by omega,by omega⟩ j
    refine cu (al (by omega)) (dv (bN (jz r) ?_))
    rw[k6]
    by_cases h2:put=true∧A.length=2
    ·rw[ay h2,ar (fun h=>h.2.1 (c.2 h2))]
     exact cr (by decide) z
    ·rw[ar h2]
     refine cu (by decide) (bN (jz g) (bN (De w f (by rw[hr.un];omega)) ?_))
     rw[hr.un,← hi.pl]
     have m:f≠zeB:=fun h=>h2 (c.1 h)
     cases hp:zbL f o.place with
     | none=>
      rw[ay ⟨h1,m,rfl⟩]
      exact cu (by decide) (bN (jz (rp q)) rfl)
     | some p=>
      have y:=hp
      rw[hi.pl] at y
      have N:=(xw y).1
      rw[ar (fun h=>by cases h.2.2)]
      exact cr (ae (by show ¬ p<0;omega)) z
structure Ri (l:List Wd) (e:Int) (S:List ab):Prop where
 err:mY e S l=sy (kz l e)
 ok:¬ 0≤kz l e→S=tC (decide ((l.getD 0 w0).text=zhg)) (l.getD 0 w0).text l.length
 len:S.length≤10
 vb:(l.getD 0 w0).text=zhg∨(l.getD 0 w0).text=cAs∨(l.getD 0 w0).text=lB
theorem Rj {R T:Type} {f:(T→Option R)→Option R} {j:T→Option R} {r:Option R} (G:T→Prop) (h:∀J,(∀S,G S→J S=r)→f J=r) (hj:∀S,G S→j S=r):cJ f j=r:=dv (h j hj)
set_option maxHeartbeats 1000000 in
theorem Rk {o:cK} {w:dB} (hi:k7 o) (hr:kB o w) (l:List Wd) (e:Int) (he:0≤e) (h0:0<l.length) (hl:l.length≤1000000) (n:∀w∈l,0≤w.at_) (hw:∀w∈l,w.text.size≤65536):xC w (k8 l e)=some (vy w o l e):=by
 have a3:=hi.ul;have a4:=hi.ll
 have O:=hr.sl
 rw[hr.li] at O
 have u:zcy (k8 l e) 0=some (rW (l.getD 0 w0)):=jz (i:=0) (rp (n0 (d:=w0) h0))
 have a1:=xE l e
 unfold xC vy
 by_cases h1:o.lines.length=256
 ·rw[ay h1]
  exact cu (by rw[hr.li,h1];rfl) (bN u rfl)
 rw[ar h1]
 refine cr (by rw[hr.li];exact aS.2 (by omega)) (Rj (Ri l e) (fun J Y=>?_) (fun S I=>?_))
 ·refine zbx ⟨by omega,by omega⟩ (bN u ?_)
  by_cases hp:(l.getD 0 w0).text=zhg
  ·refine cu (al hp) (Y _ ⟨Q9 he n h0 hp,fun h=>?_,by decide,.inl hp⟩)
   rcases tx he n h0 h with h | h | h
   ·rw[h.2.1,hp];decide
   ·rw[h.1] at hp;exact absurd hp gy.1
   ·rw[h.1] at hp;exact absurd hp gy.2.1
  ·refine cr (ae hp) ?_
   by_cases c:(l.getD 0 w0).text=lB
   ·refine cu (al c) (Y _ ⟨Ra he n h0 c,fun h=>?_,by decide,.inr (.inr c)⟩)
    rcases tx he n h0 h with h | h | h
    ·exact absurd h.1 hp
    ·rw[h.1] at c;exact absurd c (fun h=>gy.2.2.1 h.symm)
    ·rw[h.2,c];decide
   ·refine cr (ae c) ?_
    by_cases g:(l.getD 0 w0).text=cAs
    ·refine cu (al g) ((Rc l e J zbH 3 (by omega) (by omega) (by unfold zbH;omega)).trans (Y _ ⟨Rb he n h0 g,fun h=>?_,by rw[aj,oW];omega,.inr (.inl g)⟩))
     rcases tx he n h0 h with h | h | h
     ·exact absurd h.1 hp
     ·have h5:l.length=3∨l.length=4∨l.length=5∨l.length=6:=by omega
      rcases h5 with h5 | h5 | h5 | h5 <;> rw[h5,g] <;> decide
     ·exact absurd h.1 c
    ·refine cr (ae g) (bN u ?_)
     have m:kz l e=l0 l 0:=by unfold kz;rw[ar hp,ar g,ar c]
     have ao:0≤l0 l 0:=n _ (aJ (n0 (d:=w0) h0))
     rw[m,ay ao];rfl
 ·refine dv ((Q8 w l e S _ (by omega) (by have:=I.len;omega) zbH S l [] [] rfl rfl rfl (by have:=I.len;unfold zbH;omega)).trans ?_)
  rw[I.err]
  unfold sy
  by_cases h2:0≤kz l e
  ·rw[ay h2,ay h2]
  rw[ar h2,ar h2]
  have z:=I.ok h2
  have r:=tx he n h0 h2
  have q:=I.vb
  have hg:zcy S 0=some (l.getD 0 w0).text:=by
   rw[z]
   refine jz (i:=0) ?_
   unfold tC
   rw[bV,kh h0];rfl
  have M:(l.getD 0 w0).text≠zeB:=by
   rcases q with h | h | h <;> rw[h]
   ·exact gy.2.2.2.1
   ·exact gy.2.2.2.2.1
   ·exact gy.2.2.2.2.2.1
  have K:(l.getD 0 w0).text≠oq:=by
   rcases q with h | h | h <;> rw[h] <;> decide
  have h6:l.length≤6:=by rcases r with h | h | h <;> omega
  have ag:2≤l.length:=by rcases r with h | h | h <;> omega
  have a2:(l.getD 0 w0).text.size≤65536:=hw _ (aJ (n0 (d:=w0) h0))
  refine dv (bN hg ((Re w l e S (decide ((l.getD 0 w0).text=zhg)) (l.getD 0 w0).text _ (by omega) hw z M K zbH l [] [] (l.getD 0 w0).text rfl rfl (by unfold zbH;omega) (by rw[bl];omega)).trans ?_))
  cases hf:fmS (decide ((l.getD 0 w0).text=zhg)) ([]:List Wd).length l with
  | inl a=>
   rfl
  | inr fs=>
   obtain⟨fs,s⟩:=fs
   have hf:fmS (decide ((l.getD 0 w0).text=zhg)) 0 l=.inr (fs,s):=hf
   have v:=xx _ _ _ _ _ hf
   have j:=fun (k:Nat) (hk:k<l.length)=>pd (l:=fs) (k:=k) zeB (by omega)
   have U:zcy (k8 l e) 1=some (rW (l.getD 1 w0)):=jz (i:=1) (rp (n0 (d:=w0) (by omega)))
   show cJ _ _=some (ite ((l.getD 0 w0).text=lB) _ _)
   rw[bt]
   refine dv (bN hg ?_)
   by_cases c:(l.getD 0 w0).text=lB
   ·rw[ay c]
    have Z:(fD fs 1).size≤65536:=by
     have:=(vo hf 1 (by omega) (by omega)).1
     rw[this];have:=xv (l.getD 1 w0).text;omega
    refine cu (al c) (dv (bN (j 1 (by omega)) (bN (Oj _ Z) ((Rg w l e (by omega) _ _ (by omega) zbH w.Skips [] rfl (by unfold zbH;omega)).trans ?_))))
    show (if (w.Skips.any fun s=>decide (s=lY (fD fs 1)))=true then _ else _)=_
    rw[← hr.sk]
    by_cases H:(zbL (lY (fD fs 1)) o.skips).getD false=true
    ·rw[ay H,ay H]
    ·rw[ar H,ar H]
     exact zbx (by omega) (zbx (by rw[hr.li];omega) rfl)
   ·rw[ar c]
    refine cr (ae c) (bN (j 1 (by omega)) (bN (QW hi (hr.rel hi) _) ?_))
    show aU (oa o (fD fs 1)) _ _=_
    cases H:oa o (fD fs 1) with
    | true=>rw[ay rfl];exact cu rfl (bN U rfl)
    | false=>
     rw[ar (by simp)]
     refine cr rfl (dv ?_)
     have V:∀k,k<l.length→1<k→(fs.getD k zeB=zeB↔(decide ((l.getD 0 w0).text=zhg)=true∧k=2)):=fun k hk a5=>by
      obtain⟨g1,g2⟩:=CY _ _ _ _ _ hf k _ (n0 (d:=w0) hk)
      rw[cg] at g1 g2
      rw[cC,g1,iX]
      by_cases hc:decide ((l.getD 0 w0).text=zhg)=true∧k=2
      ·rw[ay (.inr hc)];exact⟨fun _=>hc,fun _=>rfl⟩
      ·have hn:¬ (k=0∨(decide ((l.getD 0 w0).text=zhg)=true∧k=2)):=fun h=>by rcases h with h | h;omega;exact hc h
       rw[ar hn]
       exact⟨fun h=>absurd h (g2 hn),fun h=>absurd h hc⟩
     have W:fs.take 2++fs.drop 2=fs:=dH ..
     have T:l.take 2++l.drop 2=l:=dH ..
     have m:=fun J=>Rh hi hr l e S fs (decide ((l.getD 0 w0).text=zhg)) (l.getD 0 w0).text z v (by omega) J V zbH (fs.take 2) (fs.drop 2) (l.take 2) (l.drop 2) W.symm T.symm (by rw[cj,cj];omega) (by rw[cj];omega) (by rw[ck];unfold zbH;omega)
     have N:(fs.take 2).length=2:=by rw[cj];omega
     rw[N] at m
     refine (m _).trans ?_
     have E:k6 o 0 fs l=k6 o 2 (fs.drop 2) (l.drop 2):=by
      match fs,l,v,ag with
      | a::b::fs,x::y::l,_,_=>
       rw[k6,ar (fun h=>by omega),k6,ar (fun h=>by omega)];rfl
     rw[E]
     have F:=E
     cases Q:k6 o 2 (fs.drop 2) (l.drop 2) with
     | some a=>rfl
     | none=>
      rw[Q] at F
      show cJ _ _=some ((⟨0,0⟩:zat),ite ((l.getD 0 w0).text=zhg) _ _)
      refine dv (bN hg ?_)
      by_cases hp:(l.getD 0 w0).text=zhg
      ·rw[ay hp]
       have h4:l.length=4:=by
        rcases r with h | h | h
        ·exact h.2.1
        ·rw[h.1] at hp;exact absurd hp gy.1
        ·exact absurd h.1 c
       have P:=(vo hf 3 (by omega) (by omega)).2
       have h3:=zm o fs l 0 v F 3 _ (zn (by omega)) (by omega) P
       obtain⟨p,D⟩:=Option.isSome_iff_exists.1 h3
       have t:=D
       rw[hi.pl] at t
       have a0:=xw t
       have C:=De w (fD fs 3) (by rw[hr.un];omega)
       rw[hr.un,t,iX] at C
       have aw:w.Units.length=o.units.length:=by rw[hr.un]
       have c1:fi w.Units 0 (p+1)=w.Units.take (p+1).toNat:=by
        unfold fi
        show (List.drop 0 _).take _=_
        rw[oO]
        congr 1
       have c2:fi w.Units (p+1) (w.Units.length:Int)=w.Units.drop (p+1).toNat:=by
        unfold fi
        rw[List.take_of_length_le (by rw[ck];omega)]
       refine cr (by rw[hp];exact ae (fun h=>gy.1 h.symm)) (bN (j 3 (by omega)) (bN C (zbx ⟨by omega,by omega⟩ (zbx ⟨by omega,by omega,by omega⟩ ?_))))
       rw[c1,c2,D,iX,bt]
       have lt:(w.Units.take (p+1).toNat).length≤w.Units.length:=by rw[cj];omega
       have ld:(w.Units.drop (p+1).toNat).length≤w.Units.length:=by rw[ck];omega
       refine zbx (by show 0+_≤_;omega) (bN (j 1 (by omega)) (zbx (by omega) (zbx ⟨by omega,by omega,jt _⟩ (zbx (by rw[ah];show _+1+_≤_;omega) (zbx (by rw[hr.li];omega) ?_)))))
       unfold iK
       rw[aM];rfl
      ·rw[ar hp]
       have g:(l.getD 0 w0).text=cAs:=by rcases q with h | h | h;exact absurd h hp;exact h;exact absurd h c
       have G:fi fs 2 ((fs.length:Nat):Int)=fs.drop 2:=HK fs 2
       refine cu (by rw[g];rfl) (bN (j 1 (by omega)) (zbx ⟨by omega,by omega,jt _⟩ ?_))
       rw[G]
       exact zbx (by rw[hr.li];omega) rfl
theorem ID:∀ (l a:List UInt8),lns l a=match l.dropWhile (fun c=>c != 10) with | []=>[a++l] | _::r=>(a++l.takeWhile fun c=>c != 10)::lns r []
 | [],a=>by rw[lns,aQ];rfl
 | c::l,a=>by
  rw[lns,List.dropWhile_cons,dM]
  by_cases h:c=10
  ·subst h
   rw[ay rfl]
   show a::lns l []=(a++[])::lns l []
   rw[aQ]
  ·have hc:(c != 10)=true:=er.2 h
   rw[ar h,hc,ay rfl,ay rfl,ID l]
   cases l.dropWhile fun c=>c != 10 with
   | nil=>show [a++[c]++l]=[a++c::l];rw[aM];rfl
   | cons d r=>show (a++[c]++_)::_=(a++c::_)::_;rw[aM];rfl
theorem Rm (l:List UInt8):∃a,l=(l.takeWhile fun c=>c != 10)++a∧((a=[]∧lns l []=[l.takeWhile fun c=>c != 10])∨∃r,a=10::r∧lns l []=(l.takeWhile fun c=>c != 10)::lns r []):=by
 have b:l=l.takeWhile (fun c=>c != 10)++l.dropWhile fun c=>c != 10:=List.takeWhile_append_dropWhile.symm
 refine⟨l.dropWhile fun c=>c != 10,b,?_⟩
 have g:=ID l []
 have h:=nM (fun c:UInt8=>c != 10) l
 cases hd:l.dropWhile (fun c=>c != 10) with
 | nil=>
  rw[hd] at g b
  rw[aQ] at b
  refine .inl ⟨rfl,?_⟩
  rw[g,← b];rfl
 | cons d r=>
  rw[hd] at g h
  have i:(d != 10)=false:=by simpa using h
  rw[bne_eq_false_iff_eq.1 i]
  refine .inr ⟨r,rfl,?_⟩
  rw[g];rfl
theorem Rp (text:ab) (l:text.size≤1000000) (J:Int→Option ((Option dB)×zat)) :
  ∀ (n:Nat) (B A:List UInt8),text.data.toList=A++B→B.length<n→zaI (fun _=>none) (zeI text J) n (A.length:Int)=J ((A.length+(B.takeWhile fun c=>c != 10).length:Nat):Int):=by
 intro n
 induction n with
 | zero=>intro B A _ h;omega
 | succ n i=>
  intro B A b j
  rw[ic]
  generalize g:zaI (fun _=>none) (zeI text J) n=ag
  unfold zeI
  have a:text.size=A.length+B.length:=by rw[kL,b,ah]
  cases B with
  | nil=>
   rw[bl] at a
   exact cr (ae (by omega)) rfl
  | cons c B=>
   rw[aj] at a j
   have hg:=CV (s:=text) (k:=A.length) (c:=c) (by rw[b];simp)
   refine cu (al (by omega)) (bN hg ?_)
   rw[dM]
   by_cases hc:c=10
   ·subst hc
    exact cr rfl rfl
   ·have h1:(((c.toNat:Int):Int) != 10)=true:=er.2 fun h=>hc (mc.1 (by show c.toNat=10;omega))
    have h2:(c != 10)=true:=er.2 hc
    rw[h2,ay rfl]
    have d:=i B (A++[c]) (by rw[b,aM];rfl) (by omega)
    rw[g,show (A++[c]).length=A.length+1 by simp] at d
    push_cast at d
    refine cu h1 (zbx ⟨by omega,by omega⟩ ?_)
    rw[d,aj]
    congr 1
    push_cast;omega
def RR (q:Option cK×zat) (r:Option ((Option dB)×zat)):Prop :=
 (∃o' w',q=(some o',⟨0,0⟩)∧r=some (some w',⟨0,0⟩)∧kB o' w')∨(q.1=none∧r=some (none,q.2))
theorem Rs (text:ab) (W:text.size≤65536):∀ (n at_:Nat) (o:cK) (w:dB),k7 o→kB o w→at_≤text.size+1→text.size+1 - at_<n →
  RR (mx o (at_:Int) (if at_≤text.size then lns (text.data.toList.drop at_) [] else []))
   (zaI (fun _ _ _ _ _=>none) (zcO text (fun (o1:List ab) (t:List (ab×List ab)) (s:List ab) (m:List ab)=>some ((some (⟨o1,t,s,m⟩:dB)),(⟨0,0⟩:zat)))) n w.Units w.Fors w.Skips w.Lines (at_:Int)):=by
 intro n
 induction n with
 | zero=>intro at_ o w _ _ _ h;omega
 | succ n M=>
  intro at_ o w hi hr T Y
  rw[ic]
  generalize U:zaI (fun _ _ _ _ _=>none) (zcO text (fun (o1:List ab) (t:List (ab×List ab)) (s:List ab) (m:List ab)=>some ((some (⟨o1,t,s,m⟩:dB)),(⟨0,0⟩:zat)))) n=ag at M
  by_cases O:at_≤text.size
  ·rw[ay O]
   have hA:(text.data.toList.take at_).length=at_:=by rw[cj,← kL];omega
   have d:=fun J=>Rp text (by omega) J zbH (text.data.toList.drop at_) (text.data.toList.take at_) (dH _ _).symm (by rw[ck,← kL];unfold zbH;omega)
   rw[hA] at d
   obtain⟨v,g,b⟩:=Rm (text.data.toList.drop at_)
   generalize N:(text.data.toList.drop at_).takeWhile (fun c=>c != 10)=run at d g b
   have j:text.size - at_=run.length+v.length:=by
    have:=aL gi g
    rw[ck,← kL,ah] at this;exact this
   have V:∃xs,lns (text.data.toList.drop at_) []=run::xs∧xs=(if at_+run.length+1≤text.size then lns (text.data.toList.drop (at_+run.length+1)) [] else []):=by
    rcases b with⟨h,H⟩ | ⟨r,h,H⟩
    ·rw[h,bl] at j
     exact⟨[],H,by rw[ar (by omega)]⟩
    ·rw[h,aj] at j
     refine⟨lns r [],H,?_⟩
     rw[ay (by omega)]
     congr 1
     rw[show at_+run.length+1=at_+(run.length+1) by omega,← eS,g,h,show run++10::r=(run++[10])++r by simp,List.drop_left' (by simp)]
   obtain⟨xs,F,E⟩:=V
   rw[F]
   have next:=fun (D:cK) (w':dB) (h1:k7 D) (h2:kB D w')=>M (at_+run.length+1) D w' h1 h2 (by omega) (by omega)
   rw[← E] at next
   push_cast at next
   have hc:(at_:Int)+((run.length:Int)+1)=(at_:Int)+(run.length:Int)+1:=by omega
   have P:∀K:Option ((Option dB)×zat),zcO text (fun (o1:List ab) (t:List (ab×List ab)) (s:List ab) (m:List ab)=>some ((some (⟨o1,t,s,m⟩:dB)),(⟨0,0⟩:zat))) ag w.Units w.Fors w.Skips w.Lines (at_:Int)=K→RR (mx o (at_:Int) (run::xs)) K→RR (mx o (at_:Int) (run::xs)) (zcO text (fun (o1:List ab) (t:List (ab×List ab)) (s:List ab) (m:List ab)=>some ((some (⟨o1,t,s,m⟩:dB)),(⟨0,0⟩:zat))) ag w.Units w.Fors w.Skips w.Lines (at_:Int)):=fun K h1 h2=>by rw[h1];exact h2
   have a:=Q7 text at_ (at_+run.length) (by omega) (by omega) (by omega)
   have G:(text.data.toList.drop at_).take (at_+run.length - at_)=run:=by
    rw[show at_+run.length - at_=run.length by omega,g,jv]
   rw[G] at a
   push_cast at a
   have C:cR ((at_:Int)+(run.length:Int)+1):=⟨by omega,by omega⟩
   obtain⟨Q,I⟩:=sw run 0 none
   have I:(fH run 0 none).length≤run.length+0:=I
   rw[mx]
   by_cases h0:fH run 0 none=[]
   ·rw[ay h0,hc]
    refine Eq.mp (aL (RR _) ?_) (next o w hi hr)
    symm
    unfold zcO
    refine cu (al (by omega)) (dv ((d _).trans ?_))
    push_cast
    refine dv (bN a (cr (ae (by rw[xE,h0];show ¬ (1:Int)<((0+1:Nat):Int);omega)) (zbx C rfl)))
   ·rw[ar h0]
    have i:0<(fH run 0 none).length:=c6.2 h0
    have l:∀x∈(fH run 0 none).map (iB (at_:Int)),0≤x.at_:=fun x hx=>by
     obtain⟨p,hp,rfl⟩:=aW.1 hx
     show 0≤(at_:Int)+(p.1:Int)
     omega
    have y:∀x∈(fH run 0 none).map (iB (at_:Int)),x.text.size≤65536:=fun x hx=>by
     obtain⟨p,hp,rfl⟩:=aW.1 hx
     show (ba p.2).size≤65536
     rw[tw]
     have:p.2.length≤run.length+0:=Q p hp
     omega
    have u:=Rk hi hr ((fH run 0 none).map (iB (at_:Int))) ((at_:Int)+(run.length:Int)) (by omega) (by rw[aF];exact i) (by rw[aF];omega) l y
    obtain⟨e1,e2⟩:=Rf hr ((fH run 0 none).map (iB (at_:Int))) ((at_:Int)+(run.length:Int))
    have k:=CZ hi ((fH run 0 none).map (iB (at_:Int))) ((at_:Int)+(run.length:Int)) (by omega) (by rw[aF];exact i) l y
    have S:(k8 ((fH run 0 none).map (iB (at_:Int))) ((at_:Int)+(run.length:Int))).length=(fH run 0 none).length+1:=by rw[xE,aF]
    have z:(⟨w.Units,w.Fors,w.Skips,w.Lines⟩:dB)=w:=rfl
    generalize vy w o ((fH run 0 none).map (iB (at_:Int))) ((at_:Int)+(run.length:Int))=r at u e1 e2
    generalize kA o ((fH run 0 none).map (iB (at_:Int))) ((at_:Int)+(run.length:Int))=q at e1 e2 k ⊢
    by_cases h1:q.1.Err=0
    ·rw[ay h1,hc]
     refine Eq.mp (aL (RR _) ?_) (next q.2 r.2 k e2)
     symm
     unfold zcO
     refine cu (al (by omega)) (dv ((d _).trans ?_))
     push_cast
     refine dv (bN a (cu (al (by omega)) ?_))
     rw[z]
     exact bN u (cr (by rw[e1,h1];rfl) (zbx C rfl))
    ·rw[ar h1]
     refine .inr ⟨rfl,?_⟩
     unfold zcO
     refine cu (al (by omega)) (dv ((d _).trans ?_))
     push_cast
     refine dv (bN a (cu (al (by omega)) ?_))
     rw[z]
     refine bN u (cu (by rw[e1];exact er.2 h1) ?_)
     rw[e1]
  ·rw[ar O]
   refine .inl ⟨o,w,rfl,?_,hr⟩
   unfold zcO
   exact cr (ae (by omega)) rfl
theorem Rt (text:ab):RR (rm text) (vx text):=by
 unfold rm
 by_cases h:65536<text.size
 ·rw[ay h]
  refine .inr ⟨rfl,?_⟩
  unfold vx
  exact cu (al (by omega)) rfl
 ·rw[ar h]
  have:=Rs text (by omega) zbH 0 qy ⟨us0,[],[],[]⟩ C3 Q2 (cH _) (by unfold zbH;omega)
  rw[ay (cH _),oO] at this
  refine Eq.mp (aL (RR _) ?_) this
  symm
  unfold vx
  exact cr (ae (by omega)) (dv (bN Q1 rfl))
theorem Ru {o:cK} {w:dB} (hi:k7 o) (h:rn o) (c:w.Lines=o.lines):xD w=some (zt o):=by
 have i:=hi.ll
 unfold xD
 refine dv ?_
 have:=qq (xs:=w.Lines) (F:=zcx w some) (bot:=fun _ _=>none) (f:=fun b (t:ab)=>b++(t++(⟨#[10]⟩:ab))) (J:=some) (fun k b=>b.size≤251*k) (fun ag k x a hx j=>by
   have hk:=(au.1 hx).1
   rw[c] at hk
   have g:=(h.sz x (by rw[← c];exact aJ hx)).1
   unfold zcx
   exact cu (mE hx) (bN (lW hx) (zbx (by show x.size+1≤_;omega) (zbx (by rw[aK];show _+(x.size+1)≤_;omega) (zbx (jC (by omega)) rfl))))) (fun k x a hx j=>by
   have g:=(h.sz x (by rw[← c];exact aJ hx)).1
   rw[aK,aK]
   show a.size+(x.size+1)≤251*(k+1)
   omega) (fun ag a _=>by unfold zcx;exact cr mu rfl) (n:=zbH) (kZ (by rw[c];omega)) (a:=(⟨#[]⟩:ab)) (cH _)
 refine this.trans ?_
 congr 1
 apply pP
 unfold zt
 rw[pc,c]
 have key:∀ (ts:List ab) (b:ab),(ts.foldl (fun b (t:ab)=>b++(t++(⟨#[10]⟩:ab))) b).data.toList=b.data.toList++ts.flatMap fun t=>t.data.toList++[10]:=by
  intro ts
  induction ts with
  | nil=>intro b;simp
  | cons t ts d=>intro b;rw[bQ,d,pO,pO,aG,aM]
 rw[key];rfl


def zcm (p2:dB) (ek1:Int→Option Bool) (x1:ab) (ag2:Int→Option Bool) (n5:Int):Option Bool := aU (decide (((p2.Units.length:Int):Int)≤n5)) ( ek1 n5
) ( aX (zcy p2.Units n5) fun (q1:ab)=> aX (uZ q1) fun (r8:ab)=> aU (!decide (x1=r8)) ( ek1 n5
) ( aY (cR (n5+1)) <| ag2 (n5+1)
)
)
def zdp (ek2:Option Bool) (x2:ab) (ag3:Option Bool):Option Bool := ek2
def zcn (p1:cK) (p2:dB) (j1:Option Bool) (ag1:Int→Option Bool) (round3:Int):Option Bool := aU (decide ((round3:Int)<2)) ( cJ (fun (j2:Option Bool)=> cJ (fun (j3:Int→Option Bool)=> aX (vt p1) fun (its1:(List ab))=> cJ (fun (ek1:Int→Option Bool)=> cJ (fun (dn1:Int→Option Bool)=> zcM dn1 (zcm p2 ek1) its1 0
) (fun (n5:Int)=> j3 n5
)
) (fun (n6:Int)=> some false
)
) (fun (n2:Int)=> aU ((n2:Int) != (p2.Units.length:Int)) ( some false
) ( aX (vt p1) fun (its2:(List ab))=> cJ (fun (ek2:Option Bool)=> cJ (fun (dn2:Option Bool)=> zcM dn2 (zdp ek2) its2
) ( j2
)
) ( j2
)
)
)
) ( aY (cR (round3+1)) <| ag1 (round3+1)
)
) ( j1
)
def zx (text1:ab):Option Bool := aX (vp) fun (r1:Bool)=> aU (!r1) ( some false
) ( aX (vx text1) fun (r2:((Option dB)×zat))=> aX (vm text1) fun (r3:((Option cK)×zat))=> aU (!(px r3.2 r2.2)) ( some false
) ( aU ((r2.2.Err:Int) != 0) ( aU (r3.1.isNone) ( aX (vp) fun (r4:Bool)=> some r4
) ( some false
)
) ( aU (r3.1.isNone) ( some false
) ( aX (r3.1) fun (p1:cK)=> aX (xu p1) fun (r5:ab)=> aX (r2.1) fun (p2:dB)=> aX (xD p2) fun (r6:ab)=> aU (!decide (r5=r6)) ( some false
) ( aX (Db p1) fun (r7:Unit)=> cJ (fun (j1:Option Bool)=> zaI (fun _=>none) (zcn p1 p2 j1) zbH 0
) ( aX (vp) fun (r9:Bool)=> some r9
)
)
)
)
)
)
theorem Rv {O:ab} {r:Bool} (h:zx O=some r):dO prog 3 [.string O] (.bool r):=by
 unfold zx at h
 refine dO.intro func3 rfl ntmps3 (by simp) ?_
 intro w0 K
 refine qH ?_
 refine aC ?_
 refine eN ye rfl dc (fun b1=>?_)
 refine az (cm (aC ?_))
 obtain⟨r1,d6,h⟩:=bj h
 refine dq (v:=.bool r1) (vs:=[]) rfl dc rfl rfl rfl Au (C5 d6) (jq rfl dc rfl js (az ?_))
 refine bG rfl h (fun h=>?_) (fun h=>?_)
 ·
  refine aC ?_
  refine ef (k:=1) (l':=[.bool false]) kI rfl rfl rfl rfl rfl (fun _ _=>rfl) rfl ?_
  refine az (bI (bT ?_))
  cases h
  exact lS (rs:=[.cell 2 4]) ([]:List Nat) () (.inl rfl) (lR (k:=0) rfl) iN (.cons (.cell nl (k:=1) rfl rfl) .nil) rfl ad
 refine bH (cz (aC (ac 1 rfl ?_)))
 obtain⟨r2,d5,h⟩:=bj h
 refine fY (vs:=[.string O]) rfl dc rfl rfl rfl KH (QY d5) ad ?_
 rintro v1
 refine mj (L':=[zgL ((([]:List Nat):List Nat).map eZ),cells b1 [.bool false] 4,lU sW sX 39 v1 r2.1]) (aH [0,1,2] kr rfl) (ac 1 rfl (fS rfl dc rfl rfl (fS rfl dc rfl rfl ?_)))
 refine eN J3 rfl dc (fun Q=>?_)
 refine eN qR rfl dc (fun b3=>?_)
 refine ef (k:=3) (l':=[v1]) J2 rfl rfl rfl rfl rfl (fun _ h=>MY h (k:=2) rfl) rfl ?_
 refine eH (k:=4) (vs:=(ku r2.2)) (l':=(ku r2.2)) jK rfl rfl rfl rfl rfl (show _≤_ by simp) rfl rfl ?_
 refine cv (ac 1 rfl ?_)
 obtain⟨r3,d4,h⟩:=bj h
 refine fY (vs:=[.string O]) rfl dc rfl rfl rfl EZ (HW d4) ad ?_
 rintro v2
 refine mj (L':=[zgL ((([]:List Nat):List Nat).map eZ),cells b1 [.bool false] 4,lU sW sX 39 v1 r2.1,cells Q [v1] 23,cells b3 (ku r2.2) 26,lU pz pA 72 v2 r3.1]) (aH [0,1,2,3,4,5] kr rfl) (ac 1 rfl (fS rfl dc rfl rfl (fS rfl dc rfl rfl ?_)))
 refine eN qR rfl dc (fun b4=>?_)
 refine ac 1 rfl (eH (k:=6) (vs:=(ku r3.2)) (l':=(ku r3.2)) jK rfl rfl rfl rfl rfl (show _≤_ by simp) rfl rfl ?_)
 refine az (cm (aC (gM (k:=6) (cs:=(ku r3.2)) jJ rfl dc rfl rfl rfl rfl (gM (k:=4) (cs:=(ku r2.2)) jJ rfl dc rfl rfl rfl rfl (aO rfl (Ma r3.2 r2.2) (az ?_))))))
 refine bG rfl h (fun h=>?_) (fun h=>?_)
 ·
  refine aC ?_
  refine ef (k:=1) (l':=[.bool false]) kI rfl rfl rfl rfl rfl (fun _ _=>rfl) rfl ?_
  refine az (bI (bT ?_))
  cases h
  exact lS (rs:=[.cell 2 4]) ([]:List Nat) () (.inl rfl) (lR (k:=0) rfl) iN (.cons (.cell nl (k:=1) rfl rfl) .nil) rfl ad
 refine bH (cz (cm (aC (cf Ag rfl dc rfl (show _=0 from rfl) (bF (k:=4) Af rfl dc rfl rfl rfl (aO rfl nc (az ?_)))))))
 refine bG rfl h (fun h=>?_) (fun h=>?_)
 ·
  refine aC (ac 1 rfl ?_)
  refine Eu (k:=5) rfl (fun dn=>?_)
  refine aO rfl (Ev jW dn) (ac 1 rfl ?_)
  refine dG (s:=31) rfl h (fun h=>?_) (fun h=>?_)
  ·
   obtain⟨r4,d3,h⟩:=bj h
   refine dq (v:=.bool r4) (vs:=[]) rfl dc rfl rfl rfl Au (C5 d3) (ac 1 rfl ?_)
   refine ef (k:=1) (l':=[.bool r4]) kI rfl rfl rfl rfl rfl (fun _ _=>rfl) rfl ?_
   refine az (bI (bT ?_))
   cases h
   exact lS (rs:=[.cell 2 4]) ([]:List Nat) () (.inl rfl) (lR (k:=0) rfl) iN (.cons (.cell nl (k:=1) rfl rfl) .nil) rfl ad
  refine ac 2 rfl ?_
  refine ef (k:=1) (l':=[.bool false]) kI rfl rfl rfl rfl rfl (fun _ _=>rfl) rfl ?_
  refine az (bI (bT ?_))
  cases h
  exact lS (rs:=[.cell 2 4]) ([]:List Nat) () (.inl rfl) (lR (k:=0) rfl) iN (.cons (.cell nl (k:=1) rfl rfl) .nil) rfl ad
 refine bH (cz (cm (cm ?_)))
 refine rI (b:=r3.1.isNone) (fun a1=>?_) (fun a1=>?_)
 ·
  have h:=ng a1 h
  refine jc 6 [(0,34,v2),(1,35,.bool true),(2,36,.bool true),(3,37,undef),(4,38,undef),(5,39,undef)] mixed kr kr dc (by rfl) kr kr (gY 1 0 rfl (bR ?_ (gY 4 2 rfl bK))) ?_
  ·
   intro D hn hd et hu hi
   refine Eu (k:=5) rfl (fun dj=>?_)
   refine kl rfl dc (ja (m:=0) hu rfl (hd 0 dc)) rfl (Ev jW dj) (ni (show am (r3.1.isNone)=am true from aL am a1) ?_)
   exact vD 1 hu hi rfl
  refine ac 3 rfl (az (iH rfl (aC ?_)))
  refine ef (k:=1) (l':=[.bool false]) kI rfl rfl rfl rfl rfl (fun _ _=>rfl) rfl ?_
  refine az (bI (bT ?_))
  cases h
  exact lS (rs:=[.cell 2 4]) ([]:List Nat) () (.inl rfl) (lR (k:=0) rfl) iN (.cons (.cell nl (k:=1) rfl rfl) .nil) rfl ad
 have h:=nh a1 h
 obtain⟨p1,d2,h⟩:=bj h
 obtain⟨r5,d1,h⟩:=bj h
 obtain⟨l,d0,h⟩:=bj h
 obtain⟨r6,dT,h⟩:=bj h
 refine D0 (As:=[lU pz pA 72 v2 r3.1]) (aH [5] kr rfl) (Ab d2) ?_
 rintro⟨N,H,G,F,E,C⟩ di
 have a9:=h
 subst di
 have h:=a9
 refine D0 (As:=[lU sW sX 39 v1 r2.1]) (aH [2] kr rfl) (Ab d0) ?_
 rintro⟨I,o,z,y,t⟩ dg
 have a9:=h
 subst dg
 have h:=a9
 refine jc 6 [(0,34,zP N),(1,35,.bool false),(2,36,.bool false),(3,37,zP N),(4,38,.string r5),(5,39,zP I)] mixed kr kr dc (by rfl) kr kr (gY 1 0 rfl (bR ?_ (gY 2 2 rfl (bR ?_ (bR ?_ bK))))) ?_
 · exact fun D n d c u i=>kl rfl dc (bq 0 u d) rfl (vI jW) (bm 1 u i)
 · exact fun D n d c u i=>nj (v:=.string r5) (vs:=[zP N]) (mB:Rd _ _ []) (jb rfl (bq 2 u d)) dc rfl (evL.cons (bq 3 u d) evL.nil) rfl KI (PW (bo1:=N) (o1:=p1) (o1_h0:=H) (o1_h1:=G) (o1_h2:=F) (o1_h3:=E) (o1_h4:=C) d1) (.own (aH [7] kr rfl) (fun _ _ h=>aI.1 h) (.own (aH [8] kr rfl) (fun _ _ h=>aI.1 h) (.own (aH [9] kr rfl) (fun _ _ h=>aI.1 h) (.own (aH [10] kr rfl) (fun _ _ h=>aI.1 h) (.own (aH [11] kr rfl) (fun _ _ h=>aI.1 h) (.own (aH [12] kr rfl) (fun _ _ h=>aI.1 h) .nil)))))) (bm 4 u i)
 · exact fun D n d c u i=>bF (k:=3) vY (jb rfl (bq 2 u d)) dc (dE (by rfl) rfl) rfl rfl (bm 5 u i)
 refine nj (v:=.string r6) (vs:=[zP I]) (mB:Rd _ _ []) rfl dc rfl rfl rfl KJ (QZ (bo1:=I) (o1:=l) (o1_h0:=o) (o1_h1:=z) (o1_h2:=y) (o1_h3:=t) dT) (.own (aH [13] kr rfl) (fun _ _ h=>aI.1 h) (.own (aH [14] kr rfl) (fun _ _ h=>aI.1 h) (.own (aH [15] kr rfl) (fun _ _ h=>aI.1 h) (.own (aH [16] kr rfl) (fun _ _ h=>aI.1 h) (.own (aH [17] kr rfl) (fun _ _ h=>aI.1 h) .nil))))) ?_
 refine aO rfl qK (ac 1 rfl (az ?_))
 refine bG rfl h (fun h=>?_) (fun h=>?_)
 ·
  refine aC ?_
  refine ef (k:=1) (l':=[.bool false]) kI rfl rfl rfl rfl rfl (fun _ _=>rfl) rfl ?_
  refine az (bI (bT ?_))
  cases h
  exact lS (rs:=[.cell 2 4]) ([]:List Nat) () (.inl rfl) (lR (k:=0) rfl) iN (.cons (.cell nl (k:=1) rfl rfl) .nil) rfl ad
 refine bH (cz (aC (ac 1 rfl ?_)))
 obtain⟨r7,ds,h⟩:=bj h
 refine ua (vs:=[zP N]) (mB:Rd _ _ []) rfl dc rfl rfl rfl KK (QJ (bo1:=N) (o1:=p1) (o1_h0:=H) (o1_h1:=G) (o1_h2:=F) (o1_h3:=E) (o1_h4:=C) ds) ad (.own (aH [7] kr rfl) (fun _ _ h=>aI.1 h) (.own (aH [8] kr rfl) (fun _ _ h=>aI.1 h) (.own (aH [9] kr rfl) (fun _ _ h=>aI.1 h) (.own (aH [10] kr rfl) (fun _ _ h=>aI.1 h) (.own (aH [11] kr rfl) (fun _ _ h=>aI.1 h) (.own (aH [12] kr rfl) (fun _ _ h=>aI.1 h) .nil)))))) ?_
 rintro S
 refine ac 1 rfl (az (cm (aC (ac 1 rfl (aO rfl (MA underlying34 rfl) (az (eQ rfl (bH (cz ?_)))))))))
 obtain⟨j1,d9,h⟩:=cP h
 refine c8 (β:=(List Nat)) 0 rfl (fun b=>j1=some r) (fun b=>mQ b) (fun b=>[(2,zP b1)]) (fun b=>[cells b1 [.bool false] 4,zgL ((b:List Nat).map eZ)]) (fun cut=>?_) ?_
 ·
  refine cut (aC (ac 1 rfl (az (cy ?_))))
  refine fh (β:=Nat×Int×(List Nat)) (fun b=>zaI (fun _=>none) (zcn p1 l j1) b.1 b.2.1=some r) (fun b=>mQ b.2.2) (fun b=>[(2,zP b1),(3,zP Q),(7,.func (.func 34) #[] #[zP S]),(8,zI b.2.1)]) (fun b=>[cells b1 [.bool false] 4,cells Q [zP I] 23,cells I [o.v,.map (some (aV z)),y.v,t.v] 39,bo o.v l.Units,dh (aV z) l.Fors,bo y.v l.Skips,bo t.v l.Lines,cells S [zP N] 29,cells N [H.v,.map (some (aV G)),.map (some (aV F)),.map (some (aV E)),C.v] 72,bo H.v p1.units,cq (fun n:ab=>aa n) (fun n:Int=>ax .i64 n) (aV G) p1.place,dh (aV F) p1.fors,cq (fun n:ab=>aa n) (fun n:Bool=>am n) (aV E) p1.skips,bo C.v p1.lines,zgL ((b.2.2:List Nat).map eZ)]) (fun b=>b.1) (zbH,0,([]:List Nat)) h rfl (aT rfl) (aH [1,3,13,14,15,16,17,18,7,8,9,10,11,12,0] kr rfl) ?_
  rintro⟨n1,J,ao⟩ h
  cases n1 with
  | zero=>exact fa h
  | succ n1=>
   obtain⟨es,a7⟩:∃ag,ag=zaI (fun _=>none) (zcn p1 l j1) n1:=⟨_,rfl⟩
   have h:zcn p1 l j1 es J=some r:=by rw[a7];exact h
   unfold zcn at h
   refine cm (aC (ac 1 rfl (aO rfl ei (az ?_))))
   refine bG rfl h (fun h=>?_) (fun h=>?_)
   ·
    refine bH (cz ?_)
    obtain⟨j2,d8,h⟩:=cP h
    refine c8 (β:=(List Nat)) 0 rfl (fun b=>j2=some r) (fun b=>mQ b) (fun b=>[(2,zP b1),(3,zP Q),(7,.func (.func 34) #[] #[zP S]),(8,zI J)]) (fun b=>[cells b1 [.bool false] 4,cells Q [zP I] 23,cells I [o.v,.map (some (aV z)),y.v,t.v] 39,bo o.v l.Units,dh (aV z) l.Fors,bo y.v l.Skips,bo t.v l.Lines,cells S [zP N] 29,cells N [H.v,.map (some (aV G)),.map (some (aV F)),.map (some (aV E)),C.v] 72,bo H.v p1.units,cq (fun n:ab=>aa n) (fun n:Int=>ax .i64 n) (aV G) p1.place,dh (aV F) p1.fors,cq (fun n:ab=>aa n) (fun n:Bool=>am n) (aV E) p1.skips,bo C.v p1.lines,zgL ((b:List Nat).map eZ)]) (fun cut=>?_) ?_
    ·
     refine cut (cy ?_)
     obtain⟨j3,d7,h⟩:=cP h
     refine c8 (β:=Int×Nat×(List Nat)) 1 rfl (fun b=>j3 b.1=some r) (fun b=>mQ b.2.2) (fun b=>[(2,zP b1),(3,zP Q),(7,.func (.func 34) #[] #[zP S]),(8,zI J),(9,zP b.2.1)]) (fun b=>[cells b1 [.bool false] 4,cells Q [zP I] 23,cells I [o.v,.map (some (aV z)),y.v,t.v] 39,bo o.v l.Units,dh (aV z) l.Fors,bo y.v l.Skips,bo t.v l.Lines,cells S [zP N] 29,cells N [H.v,.map (some (aV G)),.map (some (aV F)),.map (some (aV E)),C.v] 72,bo H.v p1.units,cq (fun n:ab=>aa n) (fun n:Int=>ax .i64 n) (aV G) p1.place,dh (aV F) p1.fors,cq (fun n:ab=>aa n) (fun n:Bool=>am n) (aV E) p1.skips,bo C.v p1.lines,cells b.2.1 [zI b.1] 3,zgL ((b.2.2:List Nat).map eZ)]) (fun cut=>?_) ?_
     ·
      refine aC ?_
      refine eN ub rfl dc (fun b9=>?_)
      refine ef (k:=15) (l':=[zI 0]) jj rfl rfl rfl rfl rfl (fun _ _=>rfl) rfl ?_
      refine az (cut (aC (ac 1 rfl (az (cy ?_)))))
      obtain⟨bs,c0,h⟩:=bj h
      obtain⟨a3,c3,h⟩:=cP h
      obtain⟨bh,c5,h⟩:=cP h
      refine Ew (α:=ab) (β:=Int) (γ:=Int) (δ:=Unit) (ps:=[52]) (mB:Rd _ _ []) Ro.nil rfl E3 (Iv c0) (fun pre b=>∀post,bs=pre++post→zcM bh (zcm l a3) post b=some r) (fun pre b=>[cells b1 [.bool false] 4,cells Q [zP I] 23,cells I [o.v,.map (some (aV z)),y.v,t.v] 39,bo o.v l.Units,dh (aV z) l.Fors,bo y.v l.Skips,bo t.v l.Lines,cells b9 [zI b] 3]) (fun c pre g=>(fun g=>c=.ret∧a3 g=some r) g) (fun c pre g=>(fun g=>[cells b1 [.bool false] 4,cells Q [zP I] 23,cells I [o.v,.map (some (aV z)),y.v,t.v] 39,bo o.v l.Units,dh (aV z) l.Fors,bo y.v l.Skips,bo t.v l.Lines,cells b9 [zI g] 3]) g) (fun pre x b j=>[(2,zP b1),(3,zP Q),(7,.func (.func 34) #[] #[zP S]),(8,zI J),(9,zP b9),(51,.func (.func 34) #[] #[zP S]),(10,.string x)]) (fun pre x b j=>[cells b1 [.bool false] 4,cells Q [zP I] 23,cells I [o.v,.map (some (aV z)),y.v,t.v] 39,bo o.v l.Units,dh (aV z) l.Fors,bo y.v l.Skips,bo t.v l.Lines,cells b9 [zI b] 3]) 0 (fun post e=>by rw[bt] at e;subst e;exact h) (aH [0,1,2,3,4,5,6,15] kr rfl) (.own (As:=[cells S [zP N] 29]) (aH [7] kr rfl) (fun _ _ h=>aI.1 h) (.own (As:=[cells N [H.v,.map (some (aV G)),.map (some (aV F)),.map (some (aV E)),C.v] 72]) (aH [8] kr rfl) (fun _ _ h=>aI.1 h) (.own (As:=[bo H.v p1.units]) (aH [9] kr rfl) (fun _ _ h=>aI.1 h) (.own (As:=[cq (fun n:ab=>aa n) (fun n:Int=>ax .i64 n) (aV G) p1.place]) (aH [10] kr rfl) (fun _ _ h=>aI.1 h) (.own (As:=[dh (aV F) p1.fors]) (aH [11] kr rfl) (fun _ _ h=>aI.1 h) (.own (As:=[cq (fun n:ab=>aa n) (fun n:Bool=>am n) (aV E) p1.skips]) (aH [12] kr rfl) (fun _ _ h=>aI.1 h) (.own (As:=[bo C.v p1.lines]) (aH [13] kr rfl) (fun _ _ h=>aI.1 h) .nil))))))) (fun _=>rfl) dc ?_ ?_ ?_ ?_
      ·
       rintro lp rc pre x1 post P w1 K1 V W a8 M
       refine ct (ac 1 rfl (bU ?_))
       exact fun a w ha hw=>⟨(),(aT rfl) _ _ _ ha,hw.weaken (aH [0,1,2,3,4,5,6,7] kr rfl)⟩
      ·
       rintro lp rc pre x1 T P _ w1 K1 V W a8 M
       have h:=M (x1::T) V
       obtain⟨eq,a6⟩:∃ag,ag=zcM bh (zcm l a3) T:=⟨_,rfl⟩
       have h:zcm l a3 x1 eq P=some r:=by have h2:=h;rw[nz,← a6] at h2;exact h2
       unfold zcm at h
       refine cy (cm (cm ?_))
       refine rI (b:=decide (((l.Units.length:Int):Int)≤P)) (fun Y=>?_) (fun Y=>?_)
       ·
        have h:=ng Y h
        refine jc 17 [(0,53,zI P),(1,54,zP I),(2,55,zP I),(3,56,zP I),(4,57,o.v),(5,58,zI (l.Units.length:Int)),(6,59,.bool true),(7,60,.bool true),(8,61,undef),(9,62,undef),(10,63,undef),(11,64,undef),(12,65,undef),(13,66,undef),(14,67,undef),(15,68,undef),(16,69,undef)] mixed kr kr dc (by rfl) kr kr (bR ?_ (bR ?_ (bR ?_ (bR ?_ (bR ?_ (bR ?_ (bR ?_ (gY 10 7 rfl bK)))))))) ?_
        · exact fun D n d c u i=>bF (k:=7) dQ rfl dc (dE (by rfl) rfl) rfl rfl (bm 0 u i)
        · exact fun D n d c u i=>bF (k:=1) vY rfl dc (dE (by rfl) rfl) rfl rfl (bm 1 u i)
        · exact fun D n d c u i=>fX rfl dc (bq 1 u d) (bm 2 u i)
        · exact fun D n d c u i=>cf qc rfl dc (bq 2 u d) (show _=0 from rfl) (bm 3 u i)
        · exact fun D n d c u i=>bF (k:=2) lA rfl dc (bq 3 u d) rfl rfl (bm 4 u i)
        · exact fun D n d c u i=>iA (k:=3) rfl dc (bq 4 u d) rfl aD (bm 5 u i)
        · exact fun D n d c u i=>kl rfl dc (bq 0 u d) (bq 5 u d) fG (ni (show am (decide (((l.Units.length:Int):Int)≤P))=am true from aL am Y) (bm 6 u i))
        refine ac 2 rfl (az (iH rfl (aC ?_)))
        refine ef (k:=0) (l':=[.bool false]) kI rfl rfl rfl rfl rfl (fun _ _=>rfl) rfl ?_
        refine az (bI (bT (cE ?_)))
        exact lJ P (show _∧_ from ⟨rfl,h⟩) (aH [0,1,2,3,4,5,6,7] kr rfl)
       have h:=nh Y h
       obtain⟨q1,a5,h⟩:=bj h
       obtain⟨r8,ch,h⟩:=bj h
       refine jc 17 [(0,53,zI P),(1,54,zP I),(2,55,zP I),(3,56,zP I),(4,57,o.v),(5,58,zI (l.Units.length:Int)),(6,59,.bool false),(7,60,.bool false),(8,61,.string x1),(9,62,zP I),(10,63,zP I),(11,64,zP I),(12,65,o.v),(13,66,zI P),(14,67,.pointer (some ⟨gG o.v,(P:Int).toNat*1,none⟩)),(15,68,.string q1),(16,69,.string r8)] mixed kr kr dc (by rfl) kr kr (bR ?_ (bR ?_ (bR ?_ (bR ?_ (bR ?_ (bR ?_ (bR ?_ (gY 2 7 rfl (bR ?_ (bR ?_ (bR ?_ (bR ?_ (bR ?_ (bR ?_ (bR ?_ (bR ?_ bK)))))))))))))))) ?_
       · exact fun D n d c u i=>bF (k:=7) dQ rfl dc (dE (by rfl) rfl) rfl rfl (bm 0 u i)
       · exact fun D n d c u i=>bF (k:=1) vY rfl dc (dE (by rfl) rfl) rfl rfl (bm 1 u i)
       · exact fun D n d c u i=>fX rfl dc (bq 1 u d) (bm 2 u i)
       · exact fun D n d c u i=>cf qc rfl dc (bq 2 u d) (show _=0 from rfl) (bm 3 u i)
       · exact fun D n d c u i=>bF (k:=2) lA rfl dc (bq 3 u d) rfl rfl (bm 4 u i)
       · exact fun D n d c u i=>iA (k:=3) rfl dc (bq 4 u d) rfl aD (bm 5 u i)
       · exact fun D n d c u i=>kl rfl dc (bq 0 u d) (bq 5 u d) fG (ni (show am (decide (((l.Units.length:Int):Int)≤P))=am false from aL am Y) (bm 6 u i))
       · exact fun D n d c u i=>bF (k:=1) vY (jb rfl (bq 7 u d)) dc (dE (by rfl) rfl) rfl rfl (bm 9 u i)
       · exact fun D n d c u i=>fX (jb rfl (bq 7 u d)) dc (bq 9 u d) (bm 10 u i)
       · exact fun D n d c u i=>cf qc (jb rfl (bq 7 u d)) dc (bq 10 u d) (show _=0 from rfl) (bm 11 u i)
       · exact fun D n d c u i=>bF (k:=2) lA (jb rfl (bq 7 u d)) dc (bq 11 u d) rfl rfl (bm 12 u i)
       · exact fun D n d c u i=>bF (k:=7) dQ (jb rfl (bq 7 u d)) dc (dE (by rfl) rfl) rfl rfl (bm 13 u i)
       · exact fun D n d c u i=>fO (k:=3) a5 aD gm (jb rfl (bq 7 u d)) dc (bq 12 u d) (bq 13 u d) rfl rfl (bm 14 u i)
       · exact fun D n d c u i=>ib (i:=(P:Int).toNat) (j:=0) (k:=3) (q:=q1) ea ga (jb rfl (bq 7 u d)) dc (bq 14 u d) rfl (fb a5) rfl dc rfl (bm 15 u i)
       · exact fun D n d c u i=>dq (v:=.string r8) (vs:=[.string q1]) (jb rfl (bq 7 u d)) dc rfl (evL.cons (bq 15 u d) evL.nil) rfl E0 (G4 ch) (bm 16 u i)
       refine aO rfl qK (ac 1 rfl (az ?_))
       refine bG rfl h (fun h=>?_) (fun h=>?_)
       ·
        refine aC ?_
        refine ef (k:=0) (l':=[.bool false]) kI rfl rfl rfl rfl rfl (fun _ _=>rfl) rfl ?_
        refine az (bI (bT (cE ?_)))
        exact lJ P (show _∧_ from ⟨rfl,h⟩) (aH [0,1,2,3,4,5,6,7] kr rfl)
       refine bH (cz (ct (bF (k:=7) dQ rfl dc rfl rfl rfl ?_)))
       obtain⟨eg,h⟩:=bC h
       refine aO rfl (dN (r:=P+1) (ai _ eg)) ?_
       refine ef (k:=7) (l':=[zI (P+1)]) jj rfl rfl rfl rfl rfl (fun _ _=>rfl) rfl ?_
       refine bU (cw ?_)
       exact kP (P+1) (fun T e2=>by have e9:=kU V e2;subst e9;subst a6;exact h) (aH [0,1,2,3,4,5,6,7] kr rfl)
      ·
       rintro a0 P M
       have h:bh P=some r:=M [] (aQ _).symm
       rw[c5] at h
       show TX _ _ _ _ _ _ _ [cn,cn,cn,cn,cn,cn,cn,cells S [zP N] 29,cells N [H.v,.map (some (aV G)),.map (some (aV F)),.map (some (aV E)),C.v] 72,bo H.v p1.units,cq (fun n:ab=>aa n) (fun n:Int=>ax .i64 n) (aV G) p1.place,dh (aV F) p1.fors,cq (fun n:ab=>aa n) (fun n:Bool=>am n) (aV E) p1.skips,bo C.v p1.lines,zgL ((ao:List Nat).map eZ),cn,cells b1 [.bool false] 4,cells Q [zP I] 23,cells I [o.v,.map (some (aV z)),y.v,t.v] 39,bo o.v l.Units,dh (aV z) l.Fors,bo y.v l.Skips,bo t.v l.Lines,cells b9 [zI P] 3,eZ a0]
       refine pY (k:=24) (j:=14) rfl rfl dc ?_
       refine cw ?_
       exact bx (P,b9,a0::ao) h rfl (aT rfl) (aH [16,17,18,19,20,21,22,7,8,9,10,11,12,13,23,14] kr rfl)
      rintro a0 c pre x1 post g df hX
      obtain⟨rfl,h⟩:=(show _∧_ from hX)
      generalize g=n6 at *
      rw[c3] at h
      show TC _ _ _ _ _ _ _ _ _ [cn,cn,cn,cn,cn,cn,cn,cells S [zP N] 29,cells N [H.v,.map (some (aV G)),.map (some (aV F)),.map (some (aV E)),C.v] 72,bo H.v p1.units,cq (fun n:ab=>aa n) (fun n:Int=>ax .i64 n) (aV G) p1.place,dh (aV F) p1.fors,cq (fun n:ab=>aa n) (fun n:Bool=>am n) (aV E) p1.skips,bo C.v p1.lines,zgL ((ao:List Nat).map eZ),cn,cells b1 [.bool false] 4,cells Q [zP I] 23,cells I [o.v,.map (some (aV z)),y.v,t.v] 39,bo o.v l.Units,dh (aV z) l.Fors,bo y.v l.Skips,bo t.v l.Lines,cells b9 [zI n6] 3,eZ a0]
      refine vJ (k:=24) (j:=14) rfl rfl dc ?_
      refine bI (cE (bT (cE (bT (bT (cE (bT ?_)))))))
      cases h
      exact lS (rs:=[.cell 2 4]) (a0::ao) () (.inl rfl) (lR (k:=14) rfl) iN (.cons (.cell nl (k:=16) rfl rfl) .nil) rfl ad
     rintro⟨n2,b8,Z⟩ h
     rw[d7] at h
     refine cm (cm ?_)
     refine jc 6 [(0,74,zI n2),(1,75,zP I),(2,76,zP I),(3,77,zP I),(4,78,o.v),(5,79,zI (l.Units.length:Int))] mixed kr kr dc (by rfl) kr kr (bR ?_ (bR ?_ (bR ?_ (bR ?_ (bR ?_ (bR ?_ bK)))))) ?_
     · exact fun D n d c u i=>bF (k:=14) dQ rfl dc (dE (by rfl) rfl) rfl rfl (bm 0 u i)
     · exact fun D n d c u i=>bF (k:=1) vY rfl dc (dE (by rfl) rfl) rfl rfl (bm 1 u i)
     · exact fun D n d c u i=>fX rfl dc (bq 1 u d) (bm 2 u i)
     · exact fun D n d c u i=>cf qc rfl dc (bq 2 u d) (show _=0 from rfl) (bm 3 u i)
     · exact fun D n d c u i=>bF (k:=2) lA rfl dc (bq 3 u d) rfl rfl (bm 4 u i)
     · exact fun D n d c u i=>iA (k:=3) rfl dc (bq 4 u d) rfl aD (bm 5 u i)
     refine aO rfl nc (az ?_)
     refine bG rfl h (fun h=>?_) (fun h=>?_)
     ·
      refine aC ?_
      refine ef (k:=0) (l':=[.bool false]) kI rfl rfl rfl rfl rfl (fun _ _=>rfl) rfl ?_
      refine az (bI (bT (cE (bT (bT (cE (bT ?_)))))))
      cases h
      exact lS (rs:=[.cell 2 4]) Z () (.inl rfl) (lR (k:=15) rfl) iN (.cons (.cell nl (k:=0) rfl rfl) .nil) rfl ad
     refine bH (cz (aC (ac 1 rfl (az (cy ?_)))))
     obtain⟨bk,cc,h⟩:=bj h
     obtain⟨a2,c2,h⟩:=cP h
     obtain⟨bb,c4,h⟩:=cP h
     refine Ew (α:=ab) (β:=Unit) (γ:=Unit) (δ:=Unit) (ps:=[82]) (mB:Rd _ _ []) Ro.nil rfl E3 (Iv cc) (fun pre b=>∀post,bk=pre++post→zcM bb (zdp a2) post=some r) (fun pre b=>[cells b1 [.bool false] 4,cells Q [zP I] 23,cells I [o.v,.map (some (aV z)),y.v,t.v] 39,bo o.v l.Units,dh (aV z) l.Fors,bo y.v l.Skips,bo t.v l.Lines]) (fun c pre g=>(fun g=>c=.exit 4∧a2=some r) g) (fun c pre g=>(fun g=>[cells b1 [.bool false] 4,cells Q [zP I] 23,cells I [o.v,.map (some (aV z)),y.v,t.v] 39,bo o.v l.Units,dh (aV z) l.Fors,bo y.v l.Skips,bo t.v l.Lines]) g) (fun pre x b j=>[(2,zP b1),(3,zP Q),(7,.func (.func 34) #[] #[zP S]),(8,zI J),(81,.func (.func 34) #[] #[zP S])]) (fun pre x b j=>[cells b1 [.bool false] 4,cells Q [zP I] 23,cells I [o.v,.map (some (aV z)),y.v,t.v] 39,bo o.v l.Units,dh (aV z) l.Fors,bo y.v l.Skips,bo t.v l.Lines]) () (fun post e=>by rw[bt] at e;subst e;exact h) (aH [0,1,2,3,4,5,6] kr rfl) (.own (As:=[cells S [zP N] 29]) (aH [7] kr rfl) (fun _ _ h=>aI.1 h) (.own (As:=[cells N [H.v,.map (some (aV G)),.map (some (aV F)),.map (some (aV E)),C.v] 72]) (aH [8] kr rfl) (fun _ _ h=>aI.1 h) (.own (As:=[bo H.v p1.units]) (aH [9] kr rfl) (fun _ _ h=>aI.1 h) (.own (As:=[cq (fun n:ab=>aa n) (fun n:Int=>ax .i64 n) (aV G) p1.place]) (aH [10] kr rfl) (fun _ _ h=>aI.1 h) (.own (As:=[dh (aV F) p1.fors]) (aH [11] kr rfl) (fun _ _ h=>aI.1 h) (.own (As:=[cq (fun n:ab=>aa n) (fun n:Bool=>am n) (aV E) p1.skips]) (aH [12] kr rfl) (fun _ _ h=>aI.1 h) (.own (As:=[bo C.v p1.lines]) (aH [13] kr rfl) (fun _ _ h=>aI.1 h) .nil))))))) (fun _=>rfl) dc ?_ ?_ ?_ ?_
     ·
      rintro lp rc pre x2 post _ w1 K1 a4 W a8 M
      refine bH ?_
      exact fun a w ha hw=>⟨(),(aT rfl) _ _ _ ha,hw.weaken (aH [0,1,2,3,4,5,6] kr rfl)⟩
     ·
      rintro lp rc pre x2 U _ _ w1 K1 a4 W a8 M
      have h:=M (x2::U) a4
      obtain⟨en,dd⟩:∃ag,ag=zcM bb (zdp a2) U:=⟨_,rfl⟩
      have h:zdp a2 x2 en=some r:=by have h2:=h;rw[nz,← dd] at h2;exact h2
      unfold zdp at h
      refine cy (dZ (vz dc ?_))
      exact I4 () (show _∧_ from ⟨rfl,h⟩) (aH [0,1,2,3,4,5,6] kr rfl)
     ·
      rintro aw _ M
      have h:bb=some r:=M [] (aQ _).symm
      rw[c4] at h
      show TX _ _ _ _ _ _ _ [cn,cn,cn,cn,cn,cn,cn,cells S [zP N] 29,cells N [H.v,.map (some (aV G)),.map (some (aV F)),.map (some (aV E)),C.v] 72,bo H.v p1.units,cq (fun n:ab=>aa n) (fun n:Int=>ax .i64 n) (aV G) p1.place,dh (aV F) p1.fors,cq (fun n:ab=>aa n) (fun n:Bool=>am n) (aV E) p1.skips,bo C.v p1.lines,cells b8 [zI n2] 3,zgL ((Z:List Nat).map eZ),cells b1 [.bool false] 4,cells Q [zP I] 23,cells I [o.v,.map (some (aV z)),y.v,t.v] 39,bo o.v l.Units,dh (aV z) l.Fors,bo y.v l.Skips,bo t.v l.Lines,eZ aw]
      refine pY (k:=23) (j:=15) rfl rfl dc ?_
      refine cw (cw ?_)
      exact bx (aw::Z) h rfl (aT rfl) (aH [16,17,18,19,20,21,22,7,8,9,10,11,12,13,15] kr rfl)
     rintro aw c pre x2 post g df hX
     obtain⟨rfl,h⟩:=(show _∧_ from hX)
     rw[c2] at h
     show TC _ _ _ _ _ _ _ _ _ [cn,cn,cn,cn,cn,cn,cn,cells S [zP N] 29,cells N [H.v,.map (some (aV G)),.map (some (aV F)),.map (some (aV E)),C.v] 72,bo H.v p1.units,cq (fun n:ab=>aa n) (fun n:Int=>ax .i64 n) (aV G) p1.place,dh (aV F) p1.fors,cq (fun n:ab=>aa n) (fun n:Bool=>am n) (aV E) p1.skips,bo C.v p1.lines,cells b8 [zI n2] 3,zgL ((Z:List Nat).map eZ),cells b1 [.bool false] 4,cells Q [zP I] 23,cells I [o.v,.map (some (aV z)),y.v,t.v] 39,bo o.v l.Units,dh (aV z) l.Fors,bo y.v l.Skips,bo t.v l.Lines,eZ aw]
     refine vJ (k:=23) (j:=15) rfl rfl dc ?_
     refine dZ (ed (cw ?_))
     exact bx (aw::Z) h rfl (aT rfl) (aH [16,17,18,19,20,21,22,7,8,9,10,11,12,13,15] kr rfl)
    rintro ek h
    rw[d8] at h
    refine ct (ac 1 rfl ?_)
    obtain⟨ec,h⟩:=bC h
    refine aO rfl (dN (r:=J+1) (ai _ ec)) (ac 1 rfl (bU ?_))
    subst a7
    exact ff (n1,J+1,ek) h (av _) rfl (aT rfl) (aH [0,1,2,3,4,5,6,7,8,9,10,11,12,13,14] kr rfl)
   refine dZ (cA (cA (ed ?_)))
   exact bx ao h rfl (aT rfl) (aH [0,14] kr rfl)
 rintro em h
 rw[d9] at h
 refine aC ?_
 obtain⟨r9,b0,h⟩:=bj h
 refine dq (v:=.bool r9) (vs:=[]) rfl dc rfl rfl rfl Au (C5 b0) ?_
 refine ef (k:=0) (l':=[.bool r9]) kI rfl rfl rfl rfl rfl (fun _ _=>rfl) rfl ?_
 refine az (bI ?_)
 cases h
 exact lS (rs:=[.cell 2 4]) em () (.inl rfl) (lR (k:=1) rfl) iN (.cons (.cell nl (k:=0) rfl rfl) .nil) rfl ad
theorem IE {w:dB} (c:∀u∈w.Units,u.size≤65536) (g:w.Units.length≤1000000) (ek b:Int→Option Bool):∀ (B A:List ab),w.Units=A++B →
  zcM b (zcm w ek) (B.map zoJ) (A.length:Int)=b (w.Units.length:Int)
 | [],A,h=>by
  rw[List.map_nil,zM,h,aQ]
 | u::B,A,h=>by
  have d:w.Units.length=A.length+(B.length+1):=by rw[h,ah,aj]
  have hg:w.Units[A.length]?=some u:=by rw[h];simp
  have a:=IE c g ek b B (A++[u]) (by rw[h,aM];rfl)
  rw[show (A++[u]).length=A.length+1 by simp] at a
  push_cast at a
  rw[aE,nz]
  generalize i:zcM b (zcm w ek) (B.map zoJ)=ag at a
  unfold zcm
  exact cr (ae (by omega)) (bN (jz hg) (bN (He u (c u (aJ hg))) (cr (by rw[al rfl];rfl) (zbx ⟨by omega,by omega⟩ a))))
theorem Rx (j:Option Bool):∀l:List ab,zcM j (zdp j) l=j
 | []=>zM ..
 | x::l=>by rw[nz];rfl
theorem Ry {o:cK} {w:dB} (hi:k7 o) (hr:kB o w) (j:Option Bool):∀ (n k:Nat),k≤2→2<n+k→zaI (fun _=>none) (zcn o w j) n (k:Int)=j:=by
 have c:=hi.ul;have d:=hi.ll
 intro n
 induction n with
 | zero=>intro k h1 h2;omega
 | succ n b=>
  intro k h1 h2
  rw[ic]
  generalize g:zaI (fun _=>none) (zcn o w j) n=ag at b
  unfold zcn
  by_cases hk:k<2
  ·have a:=b (k+1) (by omega) (by omega)
   push_cast at a
   refine cu (al (by omega)) (dv (dv (bN (Iw hi) (dv (dv ?_)))))
   have hu:=IE (w:=w) (fun u hu=>by have:=vq (hi.us u (by rw[← hr.un];exact hu));omega) (by rw[hr.un];omega)
   rw[hr.un] at hu
   refine (hu _ _ o.units [] (bt _).symm).trans ?_
   refine cr (by rw[hr.un];exact bne_eq_false_iff_eq.2 rfl) (bN (Iw hi) (dv (dv ?_)))
   exact (Rx _ _).trans (zbx ⟨by omega,by omega⟩ a)
  ·exact cr (ae (by omega)) rfl
theorem IF (e:zat):px e e=true:=(Fl e e).2 rfl
theorem Rz (text:ab):zx text=some true:=by
 have c:=Rt text
 unfold zx
 refine bN C6 (cr rfl ?_)
 rcases H5 text with⟨o,h,hi⟩ | ⟨e,h,he⟩
 ·have b:=QH text
  have i:zq text=o:=by unfold zq;rw[h];rfl
  rw[i] at b
  rw[h] at c
  rcases c with⟨g,w,e1,e2,d⟩ | ⟨e1,_⟩
  ·injection e1 with e1 _
   injection e1 with e1
   subst e1
   refine bN e2 (bN ((H4 text).trans (by rw[h])) (cr (by rw[IF];rfl) (cr rfl (cr rfl (bN (a:=o) rfl (bN (QI hi b) (bN (a:=w) rfl (bN (Ru hi b d.li) ?_))))))))
   refine cr (by rw[al rfl];rfl) (bN (a:=()) rfl (dv ?_))
   exact (Ry hi d _ zbH 0 (by omega) (by unfold zbH;omega)).trans (bN C6 rfl)
  ·cases e1
 ·rw[h] at c
  rcases c with⟨g,w',e1,_,_⟩ | ⟨_,e2⟩
  ·injection e1 with e1 _
   cases e1
  ·exact bN e2 (bN ((H4 text).trans (by rw[h])) (cr (by rw[IF];rfl) (cu (er.2 he) (cu rfl (bN C6 rfl)))))
theorem collateReads_any (text:ab) (w:World) (h0:text.size≤140737488351232):Calls prog 3 #[.string text] w fun e w'=>e=.returned (.bool true)∧Below w.heap.size w w' :=
 Rv (Rz text) w
end Go.Proofs.YtifpjbgnikjglaaGreatDoor
