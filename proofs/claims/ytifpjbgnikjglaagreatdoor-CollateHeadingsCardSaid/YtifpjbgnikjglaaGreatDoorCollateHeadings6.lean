/-
  Texts laid together: Kn, Ko, Kp, Kq, LcH, Kr, Kt, Ku, Kv, Kw, Kx, LcG, Ky, LcM, Va, LcO, Vb, Vc, Vd, Ve, Vf, Vg, Vh, Vi, Vj. Nothing is assumed.
-/
import Derived.Test.YtifpjbgnikjglaaGreatDoorCollateHeadings5
import Derived.Test.YtifpjbgnikjglaaGreatDoorCollateHeadings3
import Derived.Test.YtifpjbgnikjglaaGreatDoorCollateHeadings4
import Derived.Test.YtifpjbgnikjglaaGreatDoorCollateHeadings2
set_option maxRecDepth 100000
set_option maxHeartbeats 4000000
namespace Go.Proofs.YtifpjbgnikjglaaGreatDoor
open Go.RowKit Go.Lib
open Tryz
set_option linter.unusedVariables false
set_option linter.unusedSimpArgs false
open _root_.Bool renaming and_eq_true→aN,false_or→dk,or_eq_false_iff→bI,not_eq_true'→cM,false_eq_true→bg,true_and→fB,true_or→pj,not_eq_false'→cK,or_false→mv
open _root_.ByteArray renaming empty→ad,append_empty→aX,size_append→aJ,append_assoc→cu,empty_append→c8
open _root_.Go.IntWalk renaming i64_in→ai
open _root_.Go.Lib renaming indexByte→bp
open _root_.Go.Proofs.Tryz renaming underlying9→al,underlying77→aF,results60→iy,underlying21→aZ,underlying36→aG,underlying96→cF
open Hd renaming nil→eu
open am renaming nil→ah
open cN renaming broken→pN
open Vw renaming get→bX
open aP renaming one1→aQ
open _root_.Go.Utf8 renaming encode→ac
open _root_.Go.Value renaming string→af
open _root_.Int renaming toNat_natCast→bN,le_refl→fg,zero_add→pU
open _root_.List renaming getD_eq_getElem?_getD→cB,getElem?_eq_getElem→aO,length_cons→ab,mem_map→aS,length_map→ar,replicate→bF,length_append→aa,append_assoc→aB,nodup_cons→iP,drop_zero→jY,mem_of_getElem?→aL,map_map→bY,map_congr_left→dt,length_take→bw,length_drop→aR,mem_append→bH,mem_cons→aY,take_append_drop→bO,length_nil→aI,length→fu,getElem?_eq_some_iff→az,map_cons→av,all_eq_true→bd,append_nil→aE,nil_append→aW,take_of_length_le→dX,mem_singleton→bl,mem_cons_self→aq,mem_cons_of_mem→ak,length_pos_iff→cU,mem_flatMap→gD,takeWhile_cons→aV,dropWhile_cons→cC,flatMap_cons→aK,cons_append→bq,map→lG,foldl_cons→bn,length_eq_zero_iff→gu,any_cons→jb,drop_left→gV,head?_dropWhile_not→jS,mem_append_right→j0,takeWhile_sublist→cV,dropWhile_sublist→pn,map_nil→dW,getLast?_concat→kB,getLast?_eq_none_iff→oe,dropLast_concat_getLast→nh,map_append→cQ,map_drop→jR,mem_of_mem_drop→fV
open _root_.Nat renaming le_refl→bi,sub_self→mR,zero_le→cm,zero_add→bL,lt_succ_self→cq,add_sub_cancel_left→fh
open _root_.Option renaming isSome_iff_exists→iU,getD_some→ei,getD_none→hO,map_none→sU,map_some→s6
open _root_.Prod renaming snd→ew,fst→bv
abbrev Wd:=gk
abbrev ig:ae:=⟨#[112,117,116]⟩
abbrev qd:ae:=⟨#[97,102,116,101,114]⟩
abbrev cAs:ae:=⟨#[97,115]⟩
abbrev mj:ae:=⟨#[115,107,105,112]⟩
abbrev zfn:ae:=⟨#[]⟩
def w0:Wd:=⟨0,zfn⟩
def nu (l:List Wd) (k:Nat):Int:=(l.getD k w0).at_
def sO (l:List Wd) (e:Int) (b a:Nat):Int:=if l.length<b then e else if a<l.length then nu l a else -1
def l8 (l:List Wd) (e:Int):Int :=
 if (l.getD 0 w0).text=ig then (if 2<l.length∧(l.getD 2 w0).text≠qd then nu l 2 else sO l e 4 4)
 else if (l.getD 0 w0).text=cAs then sO l e 3 6
 else if (l.getD 0 w0).text=mj then sO l e 2 2
 else nu l 0
theorem oT {α:Type} {l:List α} {k:Nat} {d:α} (h:k<l.length):l[k]?=some (l.getD k d):=by
 rw[cB,aO h];rfl
theorem pg {α:Type} {l:List α} {k:Nat} (d:α) (h:k<l.length):zcx l (k:Int)=some (l.getD k d):=gw (oT h)
theorem Tr (l:List Wd) (e:Int) (h0:0<l.length):yP l e=some (l8 l e):=by
 have c:∀ (a b:Nat),(aM (decide (((l.length:Int):Int)<(a:Int))) (some e) (aM (decide (((b:Int):Int)<(l.length:Int))) (aT (zcx l (b:Int)) fun (d:Wd)=>some d.at_) (some (-1))))=some (sO l e a b):=by
  intro a b
  unfold sO
  by_cases h1:l.length<a
  ·rw[ax h1];exact eW rfl
  ·rw[ap h1]
   refine fP ?_
   by_cases h2:b<l.length
   ·rw[ax h2];exact eW (bf (pg w0 h2) rfl)
   ·rw[ap h2];exact fP rfl
 unfold yP l8
 refine cA (bf (pg (k:=0) w0 h0) ?_)
 by_cases h1:(l.getD 0 w0).text=ig
 ·rw[ax h1]
  refine bQ (au h1) (cA ?_)
  by_cases h2:2<l.length
  ·refine eW (bf (pg (k:=2) w0 h2) ?_)
   by_cases h3:(l.getD 2 w0).text=qd
   ·rw[ap (fun h=>h.2 h3)]
    exact bM (by rw[au h3];rfl) (c 4 4)
   ·rw[ax ⟨h2,h3⟩]
    exact bQ (by rw[aj h3];rfl) (bf (pg (k:=2) w0 h2) rfl)
  ·rw[ap (fun h=>h2 h.1)]
   exact fP (c 4 4)
 ·rw[ap h1]
  refine bM (aj h1) ?_
  by_cases h2:(l.getD 0 w0).text=cAs
  ·rw[ax h2];exact bQ (au h2) (c 3 6)
  ·rw[ap h2]
   refine bM (aj h2) ?_
   by_cases h3:(l.getD 0 w0).text=mj
   ·rw[ax h3];exact bQ (au h3) (c 2 2)
   ·rw[ap h3];exact bM (aj h3) (bf (pg (k:=0) w0 h0) rfl)
abbrev zu5:ae:=⟨#[32,97,102,116,101,114]⟩
abbrev zxJ:ae:=⟨#[32]⟩
def jD (put:Bool):Nat→List Wd→Int ⊕ (List ae×ae)
 |_,[]=>.inr ([],zfn)
 |i,w::ws=>
  if i=0∨(put=true∧i=2) then (match jD put (i+1) ws with | .inl a=>.inl a | .inr (f,s)=>.inr (zfn::f,(if i=0 then zfn else zu5)++s))
  else if zfV w.text=zfn then .inl w.at_
  else match jD put (i+1) ws with | .inl a=>.inl a | .inr (f,s)=>.inr (zfV w.text::f,(zxJ++zzN (zfV w.text))++s)
theorem Bt:∀ (l:List Tk) (k:Nat),k≤8→nb k l=true→k+l.length≤8
 |[],k,hk,_=>hk
 |x::l,k,hk,h=>by
  rw[nb,aN,aN] at h
  have a:=of_decide_eq_true h.1.1
  have:=Bt l (k+1) a h.2
  rw[ab];omega
theorem KA (s:ae):∀y∈fR s,y.2.size≤4:=by
 intro y hy
 obtain⟨x,hx,rfl⟩:=aS.1 hy
 have:=sM (nX _ x hx)
 show (⟨x.bs.toArray⟩:ae).size≤4
 rw[gJ]
 simpa using this
theorem zc (s:ae):(zfV s).size≤32:=by
 unfold zfV
 by_cases h:nb 0 (fR s)=true
 ·rw[ax h]
  have h1:=Bt _ 0 (by omega) h
  have h2:(jm s).size≤4*((fR s).map gW).length:=wQ fun y hy=>by
   obtain⟨x,hx,rfl⟩:=aS.1 hy
   exact Bp (KA s x hx)
  rw[ar] at h2
  omega
 ·rw[ap h];show 0≤32;omega
theorem Bu {α:Type} (D:List α) (x y:α) (R:List α):(D++x::R).set ((D.length:Int)).toNat y=D++y::R:=by
 rw[bN,List.set_append_right _ _ (bi _),mR];rfl
theorem Ts (o:cw) (l:List Wd) (q2:Wd) (J:ae→ae→List ae→Option (zaw×cw)) (K:l.length≤2147483648) (H:∀w∈l,w.text.size≤65536) :
  ∀ (n:Nat) (B A:List Wd) (D:List ae) (said:ae),l=A++B→D.length=A.length→B.length<n→said.size≤65536+1000*A.length →
   zaC (fun _ _ _=>none) (zc4 o l J q2) n said (D++bF B.length zfn) (A.length:Int) =
    match jD (decide (q2.text=ig)) A.length B with
    |.inl a=>some ((⟨221,a⟩:zaw),o)
    |.inr (f,s)=>J q2.text (said++s) (D++f):=by
 intro n
 induction n with
 |zero=>intro B A D said _ _ h;omega
 |succ n G=>
  intro B A D said hA y I Q
  rw[fX]
  generalize v:zaC (fun _ _ _=>none) (zc4 o l J q2) n=ag
  unfold zc4
  cases B with
  |nil=>
   refine bM (aj (by rw[hA];simp)) ?_
   show J q2.text said (D++[])=J q2.text (said++zfn) (D++[])
   rw[show zfn=ad from rfl,aX]
  |cons w B=>
   have N:A.length≤2147483648:=by rw[hA,aa] at K;omega
   have k:l[A.length]?=some w:=by rw[hA];simp
   have C:l=(A++[w])++B:=by rw[hA,aB];rfl
   have b:(A++[w]).length=A.length+1:=by simp
   have q:=fun (x e:ae) (u:e.size≤65536+1000*(A.length+1))=>G B (A++[w]) (D++[x]) e C (by rw[aa,b,y];rfl) (by rw[ab] at I;omega) (by rw[b];exact u)
   rw[v,b] at q
   have m:cp ((A.length:Int)+1):=⟨by omega,by omega⟩
   have j:bF (w::B).length zfn=zfn::bF B.length zfn:=rfl
   have g:∀ (x:ae) (R:List ae),(D++[x])++R=D++x::R:=fun x R=>by rw[aB];rfl
   have d:∀ (z:ae),z.size≤6→(A.length=0∨(decide (q2.text=ig)=true∧A.length=2))→z=(if A.length=0 then zfn else zu5) →
     (aU (cp ((A.length:Int)+1))<|ag (said++z) (D++zfn::bF B.length zfn) ((A.length:Int)+1))=match jD (decide (q2.text=ig)) A.length (w::B) with | .inl a=>some ((⟨221,a⟩:zaw),o) | .inr (f,s)=>J q2.text (said++s) (D++f):=by
    intro z hz hc r
    refine zdG m ?_
    have:=q zfn (said++z) (by rw[aJ];omega)
    rw[g] at this
    push_cast at this
    rw[this,jD,ax hc]
    cases jD (decide (q2.text=ig)) (A.length+1) B with
    |inl a=>rfl
    |inr fs=>
     obtain⟨f,s⟩:=fs
     show J q2.text ((said++z)++s) ((D++[zfn])++f)=J q2.text (said++(_++s)) (D++zfn::f)
     rw[g,cu,r]
   have c:¬(A.length=0∨(decide (q2.text=ig)=true∧A.length=2)) →
     (aT (wK w.text) fun (r2:ae)=>aT (zcx (D++zfn::bF B.length zfn) (A.length:Int)) fun (P:ae)=>aT (zcx ((D++zfn::bF B.length zfn).set ((A.length:Int):Int).toNat r2) (A.length:Int)) fun (F:ae)=>
      aM (decide (F=(⟨#[]⟩:ae))) (some ((⟨221,w.at_⟩:zaw),o)) (
       aT (zcx ((D++zfn::bF B.length zfn).set ((A.length:Int):Int).toNat r2) (A.length:Int)) fun (E:ae)=>aT (uI E) fun (r3:ae)=>
        aU ((⟨#[32]⟩:ae).size+r3.size≤9223372036854775807)<|aU (said.size+((⟨#[32]⟩:ae)++r3).size≤9223372036854775807) <|
         aU (cp ((A.length:Int)+1))<|ag (said++((⟨#[32]⟩:ae)++r3)) ((D++zfn::bF B.length zfn).set ((A.length:Int):Int).toNat r2) ((A.length:Int)+1)))=match jD (decide (q2.text=ig)) A.length (w::B) with | .inl a=>some ((⟨221,a⟩:zaw),o) | .inr (f,s)=>J q2.text (said++s) (D++f):=by
    intro hc
    have t:w.text.size≤65536:=H w (by rw[hA];simp)
    have O:=zc w.text
    have i:=Bu D zfn (zfV w.text) (bF B.length zfn)
    rw[y] at i
    have hg:∀ (x:ae) (R:List ae),zcx (D++x::R) (A.length:Int)=some x:=fun x R=>gw (by rw[←y];simp)
    refine bf (Tm w.text t) (bf (hg _ _) ?_)
    rw[i,jD,ap hc]
    refine bf (hg _ _) ?_
    by_cases he:zfV w.text=zfn
    ·rw[ax he];exact bQ (au he) rfl
    ·rw[ap he]
     have ht:=(sJ (zfV w.text) (by omega)).2.2.2
     have M:(⟨#[32]⟩:ae).size=1:=rfl
     refine bM (aj he) (bf (hg _ _) (bf (Jg _ (by omega)) (gO (zdG (by rw[aJ];omega) (zdG m ?_)))))
     have:=q (zfV w.text) (said++(zxJ++zzN (zfV w.text))) (by rw[aJ,aJ];show _+(1+_)≤_;omega)
     rw[g] at this
     push_cast at this
     rw[this]
     cases jD (decide (q2.text=ig)) (A.length+1) B with
     |inl a=>rfl
     |inr fs=>
      obtain⟨f,s⟩:=fs
      show J q2.text ((said++_)++s) ((D++[_])++f)=J q2.text (said++(_++s)) (D++_::f)
      rw[g,cu]
   rw[j]
   refine bQ (au (by rw[hA];simp;omega)) (cA (cA (bf (gw k) ?_)))
   by_cases h0:A.length=0
   ·refine bQ (by rw[h0];rfl) (cA (bM (by rw[h0];rfl) ?_))
    have:=d zfn (by show 0≤6;omega) (.inl h0) (by rw[ax h0])
    rw[show zfn=ad from rfl,aX] at this
    exact this
   ·refine bM (aA.2 (by omega)) ?_
    by_cases hp:q2.text=ig
    ·refine bQ (au hp) ?_
     by_cases h2:A.length=2
     ·refine bQ (by rw[h2];rfl) (cA (eW (zdG (by show said.size+6≤_;omega) ?_)))
      exact d zu5 (by show 6≤6;omega) (.inr ⟨au hp,h2⟩) (by rw[ap h0])
     ·exact bM (aA.2 (by omega)) (c (fun h=>by rcases h with h | h;exact h0 h;exact h2 h.2))
    ·exact bM (aj hp) (c (fun h=>by rcases h with h | h;exact h0 h;exact hp (of_decide_eq_true h.1)))
section
variable {κ ν:Type} [DecidableEq κ]
theorem wS (k:κ) (v:ν) (q:κ):∀L:List (κ×ν),zbO q (hU k v L)=if q=k then some v else zbO q L
 |[]=>rfl
 |p::L=>by
  have b:=wS k v q L
  unfold hU
  by_cases h:k=p.1
  ·rw[ax h]
   unfold zbO
   by_cases a:q=k
   ·rw[ax a,ax a]
   ·rw[ap a,ap a,ap (by rw[←h];exact a)]
  ·rw[ap h]
   unfold zbO
   by_cases a:q=p.1
   ·rw[ax a,ax a,ap (by rw[a];exact fun e=>h e.symm)]
   ·rw[ap a,ap a,b]
end
def lq:List ae→ae→Option Int
 |[],_=>none
 |x::l,u=>if u=x then some 0 else (lq l u).map (· + 1)
theorem tO:∀ {l:List ae} {u:ae} {i:Int},lq l u=some i→0≤i∧i<(l.length:Int)∧l[i.toNat]?=some u
 |[],u,i,h=>by cases h
 |x::l,u,i,h=>by
  rw[lq] at h
  split at h
  ·rename_i e
   injection h with h
   subst h
   exact⟨fg _,by rw[ab];push_cast;omega,by rw[e];rfl⟩
  ·cases h1:lq l u with
   |none=>rw[h1] at h;cases h
   |some j=>
    rw[h1] at h
    injection h with h
    subst h
    obtain⟨a,b,c⟩:=tO h1
    show 0≤j+1∧_
    refine⟨by omega,by rw[ab];push_cast;omega,?_⟩
    rw[show (j+1).toNat=j.toNat+1 by omega,List.getElem?_cons_succ]
    exact c
theorem ij:∀ {l:List ae} {u:ae},(lq l u).isSome=true↔u∈l
 |[],u=>by simp[lq]
 |x::l,u=>by
  rw[lq]
  by_cases h:u=x
  ·rw[ax h];simp[h]
  ·rw[ap h,Option.isSome_map,ij];simp[h]
def zw6:List ae→Int→List (ae×Int)→List (ae×Int)
 |[],_,m=>m
 |u::us,i,m=>zw6 us (i+1) (hU u i m)
theorem EP:∀ (us:List ae) (i:Int) (m:List (ae×Int)) (u:ae),us.Nodup→zbO u (zw6 us i m)=match lq us u with | some k=>some (i+k) | none=>zbO u m
 |[],i,m,u,_=>rfl
 |x::us,i,m,u,h=>by
  rw[iP] at h
  rw[zw6,EP us (i+1) _ u h.2,lq,wS]
  by_cases hu:u=x
  ·subst hu
   have:lq us u=none:=by
    cases hi:lq us u with
    |none=>rfl
    |some j=>
     exact absurd (ij.1 (by rw[hi];rfl)) h.1
   rw[this,ax rfl]
   simp
  ·rw[ap hu,ap hu]
   cases lq us u with
   |none=>rfl
   |some j=>
    show some (i+1+j)=some (i+(j+1))
    congr 1;omega
theorem Tt (o:cw) (h:o.units.length≤1000000000):wL o=some ⟨o.units,zw6 o.units 0 o.place,o.fors,o.skips,o.lines⟩:=by
 unfold wL
 have key:∀ (n k:Nat) (m:List (ae×Int)),k≤o.units.length→o.units.length-k<n→zaC (fun _ _=>none) (zcJ o) n m (k:Int)=some ⟨o.units,zw6 (o.units.drop k) (k:Int) m,o.fors,o.skips,o.lines⟩:=by
  intro n
  induction n with
  |zero=>intro k m _ h;omega
  |succ n c=>
   intro k m hk d
   rw[fX]
   generalize b:zaC (fun _ _=>none) (zcJ o) n=ag
   unfold zcJ
   by_cases a:k<o.units.length
   ·refine eW (bf (pg zfn a) (gO ?_))
    have:=c (k+1) (hU (o.units.getD k zfn) (k:Int) m) (by omega) (by omega)
    rw[b] at this
    push_cast at this
    rw[this,List.drop_eq_getElem_cons a,zw6]
    congr 3
    rw[cB,aO a];rfl
   ·refine fP ?_
    rw[List.drop_eq_nil_of_le (by omega)];rfl
 have:=key zbC 0 o.place (cm _) (by unfold zbC;omega)
 rw[jY] at this
 exact this
def lr (o:cw) (u:ae):Bool:=(zbO u o.place).isSome||(zbO u o.fors).isSome
theorem Tu (o:cw) (u:ae):yR o u=some (lr o u):=by
 unfold yR lr
 cases (zbO u o.place).isSome with
 |true=>exact bQ rfl rfl
 |false=>exact bM rfl (by rw[dk])
def mK (o:cw):Nat→List ae→List Wd→Option Int
 |i,f::fs,w::ws=>if 1<i∧f≠zfn∧(zbO f o.place).isSome=false then some w.at_ else mK o (i+1) fs ws
 |_,_,_=>none
def wT (l:List Wd) (s:ae):ae:=(l.getD 0 w0).text++s
def fD (fs:List ae) (k:Nat):ae:=fs.getD k zfn
def Bv (o:cw) (fs:List ae) (a:ae):cw :=
 let us:=jh o.units ((zbO (fD fs 3) o.place).getD 0+1) (fD fs 1)
 ⟨us,zw6 us 0 o.place,o.fors,o.skips,o.lines++[a]⟩
def ox (o:cw) (l:List Wd) (e:Int):zaw×cw :=
 if o.lines.length=256 then (⟨3,nu l 0⟩,o)
 else if 0≤l8 l e then (⟨220,l8 l e⟩,o)
 else match jD (decide ((l.getD 0 w0).text=ig)) 0 l with
  |.inl a=>(⟨221,a⟩,o)
  |.inr (fs,s)=>
   if (l.getD 0 w0).text=mj then
    (if (zbO (iH (fD fs 1)) o.skips).getD false=true then (⟨222,nu l 1⟩,o) else (⟨0,0⟩,⟨o.units,o.place,o.fors,hU (iH (fD fs 1)) true o.skips,o.lines++[wT l s]⟩))
   else if lr o (fD fs 1)=true then (⟨222,nu l 1⟩,o)
   else match mK o 0 fs l with
    |some a=>(⟨223,a⟩,o)
    |none=>(⟨0,0⟩,if (l.getD 0 w0).text=ig then Bv o fs (wT l s) else ⟨o.units,o.place,hU (fD fs 1) (fs.drop 2) o.fors,o.skips,o.lines++[wT l s]⟩)
theorem Tv (o:cw) (l:List Wd) (fs:List ae) (J:Option (zaw×cw)) (r:fs.length=l.length) (hb:l.length≤2147483648):∀ (n:Nat) (A B:List ae) (C D:List Wd),fs=A++B→l=C++D→A.length=C.length→B.length<n →
  zaC (fun _=>none) (zc3 o l fs J) n (A.length:Int)=match mK o A.length B D with | some a=>some ((⟨223,a⟩:zaw),o) | none=>J:=by
 intro n
 induction n with
 |zero=>intro A B C D _ _ _ h;omega
 |succ n m=>
  intro A B C D hA c b q
  rw[fX]
  generalize i:zaC (fun _=>none) (zc3 o l fs J) n=ag
  unfold zc3
  have j:B.length=D.length:=by
   rw[hA,c,aa,aa] at r;omega
  cases B with
  |nil=>exact bM (aj (by rw[hA];simp)) rfl
  |cons f B=>
   cases D with
   |nil=>cases j
   |cons w D=>
    have s:A.length≤2147483648:=by rw[c,aa] at hb;omega
    have g:fs[A.length]?=some f:=by rw[hA];simp
    have e:l[A.length]?=some w:=by rw[c,b];simp
    have d:=m (A++[f]) B (C++[w]) D (by rw[hA,aB];rfl) (by rw[c,aB];rfl) (by simp[b]) (by rw[ab] at q;omega)
    rw[i,show (A++[f]).length=A.length+1 by simp] at d
    push_cast at d
    have k:(aU (cp ((A.length:Int)+1))<|ag ((A.length:Int)+1))=match mK o (A.length+1) B D with | some a=>some ((⟨223,a⟩:zaw),o) | none=>J:=gO d
    refine bQ (au (by rw[hA];simp;omega)) (cA (bf (gw g) ?_))
    rw[mK]
    by_cases h1:1<A.length
    ·refine eW ?_
     by_cases h2:f=zfn
     ·rw[ap (fun h=>h.2.1 h2)]
      exact bM (by rw[au h2];rfl) k
     ·refine bQ (by rw[aj h2];rfl) ?_
      cases h3:(zbO f o.place).isSome with
      |true=>rw[ap (fun h=>by cases h.2.2)];exact bM rfl k
      |false=>rw[ax ⟨h1,h2,rfl⟩];exact bQ rfl (bf (gw e) rfl)
    ·rw[ap (fun h=>h1 h.1)]
     exact fP k
theorem zd (put:Bool):∀ (l:List Wd) (i:Nat) (f:List ae) (s:ae),jD put i l=.inr (f,s)→f.length=l.length
 |[],i,f,s,h=>by
  rw[jD] at h
  injection h with h
  injection h with h1 h2
  rw[←h1];rfl
 |w::l,i,f,s,h=>by
  rw[jD] at h
  cases hr:jD put (i+1) l with
  |inl a=>
   rw[hr] at h
   split at h
   ·cases h
   ·split at h<;>cases h
  |inr fs=>
   obtain⟨f',c⟩:=fs
   have b:=zd put l (i+1) f' c hr
   rw[hr] at h
   split at h
   ·injection h with h
    injection h with h1 h2
    rw[←h1,ab,ab,b]
   ·split at h
    ·cases h
    ·injection h with h
     injection h with h1 h2
     rw[←h1,ab,ab,b]
theorem wU {l:List Wd} {e:Int} (he:0≤e) (ha:∀w∈l,0≤w.at_) (h0:0<l.length) (h:¬0≤l8 l e) :
  ((l.getD 0 w0).text=ig∧l.length=4∧(l.getD 2 w0).text=qd)∨((l.getD 0 w0).text=cAs∧3≤l.length∧l.length≤6)∨((l.getD 0 w0).text=mj∧l.length=2):=by
 have f:∀k,k<l.length→0≤nu l k:=fun k hk=>ha _ (aL (oT hk))
 have d:∀a b,¬0≤sO l e a b→a≤l.length∧l.length≤b:=by
  intro a b c
  unfold sO at c
  by_cases h1:l.length<a
  ·rw[ax h1] at c;exact absurd he c
  ·rw[ap h1] at c
   by_cases h2:b<l.length
   ·rw[ax h2] at c;exact absurd (f b h2) c
   ·omega
 unfold l8 at h
 by_cases h1:(l.getD 0 w0).text=ig
 ·rw[ax h1] at h
  by_cases h2:2<l.length∧(l.getD 2 w0).text≠qd
  ·rw[ax h2] at h;exact absurd (f 2 h2.1) h
  ·rw[ap h2] at h
   have:=d 4 4 h
   refine .inl ⟨h1,by omega,?_⟩
   exact Decidable.byContradiction fun c=>h2 ⟨by omega,c⟩
 ·rw[ap h1] at h
  by_cases h2:(l.getD 0 w0).text=cAs
  ·rw[ax h2] at h;exact .inr (.inl ⟨h2,d 3 6 h⟩)
  ·rw[ap h2] at h
   by_cases h3:(l.getD 0 w0).text=mj
   ·rw[ax h3] at h
    have:=d 2 2 h
    exact .inr (.inr ⟨h3,by omega⟩)
   ·rw[ap h3] at h;exact absurd (f 0 h0) h
theorem Tw (x:Tk):gW (gW x)=gW x:=by
 cases h:dY x with
 |true=>
  have e:gW x=(cr x.1,ac (cr x.1)):=by unfold gW;rw[h];rfl
  have h1:dY (gW x)=true:=by rw[Ks];exact h
  rw[e] at h1 ⊢
  unfold gW
  rw[h1,ax rfl]
  show (cr (cr x.1),ac (cr (cr x.1)))=_
  rw[(tN (show cW x.1=true from h)).2.1]
 |false=>
  have e:gW x=x:=by unfold gW;rw[h];rfl
  rw[e,e]
def uR (u:ae):Prop:=u≠zfn∧zfV u=u
theorem Tx (s:ae) (a:s.size≤65536):jm (jm s)=jm s:=by
 show im ((fR (jm s)).map gW)=im ((fR s).map gW)
 rw[J8 s a,bY]
 exact aH im (dt fun x _=>Tw x)
theorem Ty (s:ae) (a:s.size≤65536) (h:zfV s≠zfn):uR (zfV s):=by
 refine⟨h,?_⟩
 unfold zfV at h ⊢
 by_cases hk:nb 0 (fR s)=true
 ·rw[ax hk,J8 s a,Bq,ax hk,Tx s a]
 ·rw[ap hk] at h;exact absurd rfl h
theorem EQ (put:Bool):∀ (l:List Wd) (i:Nat) (f:List ae) (s:ae),jD put i l=.inr (f,s)→∀k w,l[k]?=some w →
  f[k]?=some (if i+k=0∨(put=true∧i+k=2) then zfn else zfV w.text)∧(¬(i+k=0∨(put=true∧i+k=2))→zfV w.text≠zfn)
 |[],i,f,s,_,k,w,hk=>by simp at hk
 |w'::l,i,f,s,h,k,w,hk=>by
  rw[jD] at h
  cases hr:jD put (i+1) l with
  |inl a=>
   rw[hr] at h
   split at h
   ·cases h
   ·split at h<;>cases h
  |inr fs=>
   obtain⟨f',c⟩:=fs
   have b:=EQ put l (i+1) f' c hr
   rw[hr] at h
   by_cases hc:i=0∨(put=true∧i=2)
   ·rw[ax hc] at h
    injection h with h
    injection h with h1 h2
    subst h1
    cases k with
    |zero=>
     injection hk with hk
     subst hk
     rw[Nat.add_zero,ax hc]
     exact⟨rfl,fun h=>absurd hc h⟩
    |succ k=>
     have:=b k w hk
     rw[show i+1+k=i+(k+1) by omega] at this
     exact this
   ·rw[ap hc] at h
    by_cases he:zfV w'.text=zfn
    ·rw[ax he] at h;cases h
    ·rw[ap he] at h
     injection h with h
     injection h with h1 h2
     subst h1
     cases k with
     |zero=>
      injection hk with hk
      subst hk
      rw[Nat.add_zero,ap hc]
      exact⟨rfl,fun _=>he⟩
     |succ k=>
      have:=b k w hk
      rw[show i+1+k=i+(k+1) by omega] at this
      exact this
theorem Bw (o:cw):∀ (fs:List ae) (a:List Wd) (i:Nat),fs.length=a.length→mK o i fs a=none→∀k f,fs[k]?=some f→1<i+k→f≠zfn→(zbO f o.place).isSome=true
 |[],a,i,_,_,k,f,hk,_,_=>by simp at hk
 |f'::fs,[],i,hl,_,_,_,_,_,_=>by cases hl
 |f'::fs,w::a,i,hl,h,k,f,hk,h1,hf=>by
  rw[mK] at h
  split at h
  ·cases h
  ·rename_i b
   cases k with
   |zero=>
    injection hk with hk
    subst hk
    cases hp:(zbO f' o.place).isSome with
    |true=>rfl
    |false=>exact absurd ⟨by omega,hf,hp⟩ b
   |succ k=>exact Bw o fs a (i+1) (by simpa using hl) h k f hk (by omega) hf
structure fj (o:cw):Prop where
 pl:∀u,zbO u o.place=lq o.units u
 nd:o.units.Nodup
 ul:o.units.length≤90+o.lines.length
 ll:o.lines.length≤256
 fo:∀u xs,zbO u o.fors=some xs→xs≠[]∧xs.length≤4∧∀x∈xs,x∈o.units
 dj:∀u,(zbO u o.fors).isSome=true→u ∉ o.units
 us:∀u∈o.units,uR u
 fk:∀u,(zbO u o.fors).isSome=true→uR u
 lw:26≤o.units.length
theorem fj.ok {o:cw} (h:fj o):J1 o where
 fo:=fun u xs hx=>⟨(h.fo u xs hx).1,(h.fo u xs hx).2.1⟩
 pl:=fun u i hi=>by
  have hi:zbO u o.place=some i:=hi
  rw[h.pl] at hi
  have:=tO hi
  have h1:=h.ul;have h2:=h.ll
  omega
theorem Bx {fs:List ae} {k:Nat} (h:k<fs.length):fs[k]?=some (fD fs k):=oT h
theorem wV {l:List Wd} {put:Bool} {f:List ae} {s:ae} (h:jD put 0 l=.inr (f,s)) (k:Nat) (hk:k<l.length) (a:¬(k=0∨(put=true∧k=2))):fD f k=zfV (l.getD k w0).text∧fD f k≠zfn:=by
 have b:=zd put l 0 f s h
 obtain⟨h1,h2⟩:=EQ put l 0 f s h k _ (oT hk)
 rw[bL,ap a,Bx (by omega)] at h1
 injection h1 with h1
 rw[bL] at h2
 exact⟨h1,by rw[h1];exact h2 a⟩
theorem Tz {o:cw} (h:fj o) {u:ae} (hu:(zbO u o.place).isSome=false):u ∉ o.units:=by
 intro hm
 have:=ij.2 hm
 rw[←h.pl,hu] at this
 cases this
theorem KB {o:cw} (h:fj o) {u:ae} (hu:(zbO u o.place).isSome=true):u∈o.units:=by
 rw[h.pl] at hu
 exact ij.1 hu
theorem TA {o:cw} (h:fj o) (l:List Wd) (e:Int) (he:0≤e) (h0:0<l.length) (E:l.length≤1000000000) (ha:∀w∈l,0≤w.at_) (t:∀w∈l,w.text.size≤65536):zb o l e=some (ox o l e):=by
 have y:=h.ul;have z:=h.ll
 unfold zb ox
 by_cases h1:o.lines.length=256
 ·rw[ax h1]
  exact bQ (by rw[h1];rfl) (bf (pg (k:=0) w0 h0) rfl)
 rw[ap h1]
 refine bM (aA.2 (by omega)) (bf (Tr l e h0) ?_)
 by_cases h2:0≤l8 l e
 ·rw[ax h2];exact bQ (au h2) rfl
 rw[ap h2]
 have i:=wU he ha h0 h2
 refine bM (aj h2) (cA (bf (pg (k:=0) w0 h0) (gO ?_)))
 have D:(l.getD 0 w0).text.size≤65536:=t _ (aL (oT h0))
 have f:=fun J=>Ts o l (l.getD 0 w0) J (by omega) t zbC l [] [] (l.getD 0 w0).text rfl rfl (by unfold zbC;omega) (by show _≤_+1000*0;omega)
 rw[bN]
 refine (f _).trans ?_
 cases hf:jD (decide ((l.getD 0 w0).text=ig)) ([]:List Wd).length l with
 |inl a=>rfl
 |inr fs=>
  obtain⟨fs,s⟩:=fs
  have hf:jD (decide ((l.getD 0 w0).text=ig)) 0 l=.inr (fs,s):=hf
  have c:=zd _ _ _ _ _ hf
  have C:2≤l.length:=by rcases i with h | h | h<;>omega
  have hg:=fun (k:Nat) (hk:k<l.length)=>pg (l:=fs) (k:=k) zfn (by omega)
  show aM (decide ((l.getD 0 w0).text=mj)) _ _=some (ite ((l.getD 0 w0).text=mj) _ _)
  by_cases b:(l.getD 0 w0).text=mj
  ·rw[ax b]
   have r:(fD fs 1).size≤65536:=by
    have:=(wV hf 1 (by omega) (by omega)).1
    rw[this];have:=zc (l.getD 1 w0).text;omega
   refine bQ (au b) (bf (hg 1 (by omega)) (bf (A1 _ r) ?_))
   show aM ((zbO (iH (fD fs 1)) o.skips).getD false) _ _=_
   cases hb:(zbO (iH (fD fs 1)) o.skips).getD false with
   |true=>rw[ax rfl];exact bQ rfl (bf (pg (k:=1) w0 (by omega)) rfl)
   |false=>rw[ap (by simp)];exact bM rfl (gO rfl)
  ·rw[ap b]
   refine bM (aj b) (bf (hg 1 (by omega)) (bf (Tu o _) ?_))
   show aM (lr o (fD fs 1)) _ _=_
   cases hb:lr o (fD fs 1) with
   |true=>rw[ax rfl];exact bQ rfl (bf (pg (k:=1) w0 (by omega)) rfl)
   |false=>
    rw[ap (by simp)]
    refine bM rfl (cA ?_)
    have n:=fun J=>Tv o l fs J c (by omega) zbC [] fs [] l rfl rfl rfl (by unfold zbC;omega)
    refine (n _).trans ?_
    cases g:mK o ([]:List ae).length fs l with
    |some a=>rfl
    |none=>
     have g:mK o 0 fs l=none:=g
     show cn _ _=some ((⟨0,0⟩:zaw),ite ((l.getD 0 w0).text=ig) _ _)
     refine cA ?_
     by_cases hp:(l.getD 0 w0).text=ig
     ·rw[ax hp]
      have F:l.length=4:=by
       rcases i with h|h|h
       ·exact h.2.1
       ·rw[h.1] at hp;exact absurd hp (by decide)
       ·exact absurd h.1 b
      have m:=(wV hf 3 (by omega) (by omega)).2
      have h3:=Bw o fs l 0 c g 3 _ (Bx (by omega)) (by omega) m
      obtain⟨p,d⟩:=iU.1 h3
      have hr:=d
      rw[h.pl] at hr
      have u:=tO hr
      have q:fs.getD 3 zfn=fD fs 3:=rfl
      have v:(jh o.units (p+1) (fD fs 1)).length=o.units.length+1:=by
       unfold jh
       rw[aa,ab,bw,aR];omega
      refine bQ (au hp) (bf (hg 3 (by omega)) ?_)
      rw[q,d,ei]
      refine gO (bf (hg 1 (by omega)) (gO (bf (Tt _ (by show (jh o.units (p+1) (fD fs 1)).length≤_;omega)) ?_)))
      show (aU (o.lines.length+1≤2147483648) _)=_
      refine gO ?_
      unfold Bv
      rw[d,ei];rfl
     ·rw[ap hp]
      have j:dM ([]++fs) 2 ((([]++fs:List ae).length:Nat):Int)=fs.drop 2:=Ew fs 2
      refine bM (aj hp) (bf (hg 1 (by omega)) (zdG ⟨by omega,by show (2:Int)≤(fs.length:Int);omega,fg _⟩ ?_))
      rw[j]
      exact gO rfl
theorem jw {xs:List ae} {i:Int} {x u:ae}:u∈jh xs i x↔u=x∨u∈xs:=by
 unfold jh
 rw[bH,aY]
 have:u∈xs↔u∈xs.take i.toNat∨u∈xs.drop i.toNat:=by rw[←bH,bO]
 rw[this]
 constructor
 ·rintro (h | h | h)
  ·exact .inr (.inl h)
  ·exact .inl h
  ·exact .inr (.inr h)
 ·rintro (h | h | h)
  ·exact .inr (.inl h)
  ·exact .inl h
  ·exact .inr (.inr h)
theorem TB {xs:List ae} {i:Int} {x:ae} (h:xs.Nodup) (hx:x ∉ xs):(jh xs i x).Nodup:=by
 have hp:(jh xs i x).Perm (x::xs):=by
  unfold jh
  have:(xs.take i.toNat++x::xs.drop i.toNat).Perm (x::(xs.take i.toNat++xs.drop i.toNat)):=List.perm_middle
  rw[bO] at this
  exact this
 exact hp.nodup_iff.2 (iP.2 ⟨hx,h⟩)
theorem ER {o:cw} (h:fj o) (l:List Wd) (e:Int) (he:0≤e) (h0:0<l.length) (ha:∀w∈l,0≤w.at_) (D:∀w∈l,w.text.size≤65536):fj (ox o l e).2:=by
 have E:=h.ul;have F:=h.ll
 unfold ox
 by_cases h1:o.lines.length=256
 ·rw[ax h1];exact h
 rw[ap h1]
 by_cases h2:0≤l8 l e
 ·rw[ax h2];exact h
 rw[ap h2]
 have c:=wU he ha h0 h2
 cases hf:jD (decide ((l.getD 0 w0).text=ig)) 0 l with
 |inl a=>exact h
 |inr fs=>
  obtain⟨fs,s⟩:=fs
  have r:=zd _ _ _ _ _ hf
  have H:2≤l.length:=by rcases c with h | h | h<;>omega
  show fj (ew (ite _ _ _))
  by_cases b:(l.getD 0 w0).text=mj
  ·rw[ax b]
   cases hb:(zbO (iH (fD fs 1)) o.skips).getD false with
   |true=>rw[ax rfl];exact h
   |false=>
    rw[ap (by simp)]
    exact⟨h.pl,h.nd,by show o.units.length≤90+(o.lines++_).length;rw[aa];omega,by show (o.lines++_).length≤_;rw[aa];show _+1≤_;omega,h.fo,h.dj,h.us,h.fk,h.lw⟩
  ·rw[ap b]
   cases hb:lr o (fD fs 1) with
   |true=>rw[ax rfl];exact h
   |false=>
    rw[ap (by simp)]
    have t:(zbO (fD fs 1) o.place).isSome=false∧(zbO (fD fs 1) o.fors).isSome=false:=by
     unfold lr at hb
     exact bI.1 hb
    have n:=Tz h t.1
    cases y:mK o 0 fs l with
    |some a=>exact h
    |none=>
     obtain⟨v,f⟩:=wV hf 1 (by omega) (by omega)
     have d:uR (fD fs 1):=by
      rw[v] at f ⊢
      exact Ty _ (D _ (aL (oT (by omega)))) f
     show fj (ite _ _ _)
     by_cases hp:(l.getD 0 w0).text=ig
     ·rw[ax hp]
      have I:l.length=4:=by
       rcases c with h|h|h
       ·exact h.2.1
       ·rw[h.1] at hp;exact absurd hp (by decide)
       ·exact absurd h.1 b
      unfold Bv
      generalize (zbO (fD fs 3) o.place).getD 0+1=i
      have hnd:=TB (i:=i) h.nd n
      refine⟨fun u=>?_,hnd,?_,?_,fun u xs hx=>?_,fun u hu=>?_,fun u hu=>?_,h.fk,?_⟩
      ·show zbO u (zw6 (jh o.units i (fD fs 1)) 0 o.place)=lq (jh o.units i (fD fs 1)) u
       rw[EP _ _ _ _ hnd]
       cases hi:lq (jh o.units i (fD fs 1)) u with
       |some k=>show some (0+k)=_;rw[pU]
       |none=>
        show zbO u o.place=none
        rw[h.pl]
        cases hj:lq o.units u with
        |none=>rfl
        |some j=>
         have hm:u∈jh o.units i (fD fs 1):=jw.2 (.inr (ij.1 (by rw[hj];rfl)))
         have:=ij.2 hm
         rw[hi] at this;cases this
      ·show (jh o.units i (fD fs 1)).length≤90+(o.lines++_).length
       unfold jh
       simp only[aa,ab,aI,bw,aR]
       omega
      ·show (o.lines++_).length≤256
       rw[aa];show _+1≤_;omega
      ·have:=h.fo u xs hx
       exact⟨this.1,this.2.1,fun x hx=>jw.2 (.inr (this.2.2 x hx))⟩
      ·intro hm
       rcases jw.1 hm with rfl|hm
       ·have hu:(zbO (fD fs 1) o.fors).isSome=true:=hu
        rw[t.2] at hu;cases hu
       ·exact h.dj u hu hm
      ·rcases jw.1 hu with rfl|hm
       ·exact d
       ·exact h.us u hm
      ·have:=h.lw
       show 26≤(jh o.units i (fD fs 1)).length
       unfold jh
       rw[aa,ab,bw,aR];omega
     ·rw[ap hp]
      have G:3≤l.length∧l.length≤6:=by
       rcases c with h|h|h
       ·exact absurd h.1 hp
       ·exact h.2
       ·exact absurd h.1 b
      have m:decide ((l.getD 0 w0).text=ig)=false:=aj hp
      refine⟨h.pl,h.nd,by show o.units.length≤90+(o.lines++_).length;rw[aa];omega,by show (o.lines++_).length≤_;rw[aa];show _+1≤_;omega,fun u xs hx=>?_,fun u hu=>?_,h.us,fun u hu=>?_,h.lw⟩
      ·have hx:zbO u (hU (fD fs 1) (fs.drop 2) o.fors)=some xs:=hx
       rw[wS] at hx
       by_cases hu:u=fD fs 1
       ·rw[ax hu] at hx
        injection hx with hx
        subst hx
        refine⟨fun e=>?_,by rw[aR];omega,fun x hx=>?_⟩
        ·have:=aH fu e
         rw[aR,aI] at this;omega
        ·obtain⟨k,hk⟩:=List.mem_iff_getElem?.1 hx
         rw[List.getElem?_drop] at hk
         have z:=(az.1 hk).1
         have C:fD fs (2+k)=x:=by
          have:=Bx (fs:=fs) (k:=2+k) z
          rw[hk] at this
          injection this with this
          exact this.symm
         have q:=(wV hf (2+k) (by omega) (by rw[m];rintro (h | h);omega;cases h.1)).2
         rw[C] at q
         exact KB h (Bw o fs l 0 r y (2+k) x hk (by omega) q)
       ·rw[ap hu] at hx
        exact h.fo u xs hx
      ·have hu:(zbO u (hU (fD fs 1) (fs.drop 2) o.fors)).isSome=true:=hu
       rw[wS] at hu
       by_cases g:u=fD fs 1
       ·rw[g];exact n
       ·rw[ap g] at hu
        exact h.dj u hu
      ·have hu:(zbO u (hU (fD fs 1) (fs.drop 2) o.fors)).isSome=true:=hu
       rw[wS] at hu
       by_cases g:u=fD fs 1
       ·rw[g];exact d
       ·rw[ap g] at hu
        exact h.fk u hu
def oU:List Int:=[97,98,99,100,101,102,103,104,105,106,107,108,109,110,111,112,113,114,115,116,117,118,119,120,121,122,945,946,947,948,949,950,951,952,953,954,955,956,957,958,959,960,961,963,964,965,966,967,968,969,1072,1073,1074,1075,1076,1077,1078,1079,1080,1082,1083,1084,1085,1086,1087,1088,1089,1090,1091,1092,1093,1094,1095,1096,1097,1098,1099,1100,1101,1102,1103,1106,1108,1109,1110,1112,1113,1114,1115,1119]
def us0:List ae:=oU.map ac
def rF:cw:=⟨us0,zw6 us0 0 [],[],[],[]⟩
theorem TD:(match wM with | some o=>decide (o.units=us0)&&(decide (o.place.map bv=(zw6 us0 0 []).map bv)&&decide (o.place.map ew=(zw6 us0 0 []).map ew))&&o.fors.isEmpty&&o.skips.isEmpty&&o.lines.isEmpty | none=>false)=true:=by decide +kernel
theorem KC {α β:Type}:∀ {a b:List (α×β)},a.map bv=b.map bv→a.map ew=b.map ew→a=b
 |[],[],_,_=>rfl
 |[],_::_,h,_=>by cases h
 |_::_,[],h,_=>by cases h
 |x::a,y::b,h1,h2=>by
  rw[av,av] at h1 h2
  injection h1 with p1 q1
  injection h2 with c q2
  rw[Prod.ext p1 c,KC q1 q2]
theorem TE:wM=some rF:=by
 have h:=TD
 cases hb:wM with
 |none=>rw[hb] at h;cases h
 |some o=>
  rw[hb] at h
  simp only[aN,decide_eq_true_eq,List.isEmpty_iff] at h
  obtain⟨⟨⟨⟨h1,h2,h3⟩,b⟩,h5⟩,a⟩:=h
  obtain⟨u,p,f,s,l⟩:=o
  simp only at h1 h2 h3 b h5 a
  subst h1;subst b;subst h5;subst a
  rw[KC h2 h3];rfl
theorem KD:us0.Nodup:=by decide +kernel
theorem TF:(us0.all fun u=>!decide (u=zfn)&&decide (zfV u=u))=true:=by decide +kernel
theorem Bz:fj rF where
 pl:=fun u=>by
  show zbO u (zw6 us0 0 [])=lq us0 u
  rw[EP _ _ _ _ KD]
  cases lq us0 u with
  |none=>rfl
  |some k=>show some (0+k)=_;rw[pU]
 nd:=KD
 ul:=by show us0.length≤90+0;decide
 ll:=by show 0≤256;omega
 fo:=fun u xs h=>by cases h
 dj:=fun u h=>by cases h
 fk:=fun u h=>by cases h
 lw:=by show 26≤us0.length;decide
 us:=fun u hu=>by
  have:=bd.1 TF u hu
  rw[aN,cM,decide_eq_false_iff_not,decide_eq_true_iff] at this
  exact this
def lns:List UInt8→List UInt8→List (List UInt8)
 |[],cur=>[cur]
 |c::l,cur=>if c=10 then cur::lns l [] else lns l (cur++[c])
theorem KE:∀ (l a:List UInt8),bp l 10<0→lns l a=[a++l]
 |[],a,_=>by rw[lns,aE]
 |c::l,a,h=>by
  unfold bp at h
  by_cases hc:c=10
  ·rw[hc] at h;exact absurd (show (0:Int)<0 from h) (by decide)
  ·have hb:(c==(10:UInt8))=false:=aA.2 hc
   rw[hb] at h
   simp only[bg,if_false] at h
   have:bp l 10<0:=by
    by_cases h1:bp l 10=-1
    ·omega
    ·rw[aA.2 h1] at h
     simp only[bg,if_false] at h
     have:=indexByte_ge l 10
     omega
   rw[lns,ap hc,KE l _ this,aB];rfl
theorem KF:∀ (l a:List UInt8) (m:Nat),bp l 10=(m:Int)→lns l a=(a++l.take m)::lns (l.drop (m+1)) []∧m<l.length
 |[],a,m,h=>by
  have:(-1:Int)=(m:Int):=h
  omega
 |c::l,a,m,h=>by
  unfold bp at h
  by_cases hc:c=10
  ·rw[hc] at h
   have hm:(0:Int)=(m:Int):=h
   obtain rfl:m=0:=by omega
   rw[lns,ax hc,List.take_zero,aE]
   exact⟨rfl,by rw[ab];omega⟩
  ·have hb:(c==(10:UInt8))=false:=aA.2 hc
   rw[hb] at h
   simp only[bg,if_false] at h
   by_cases h1:bp l 10=-1
   ·rw[h1] at h
    have:(-1:Int)=(m:Int):=h
    omega
   ·rw[aA.2 h1] at h
    simp only[bg,if_false] at h
    have:=indexByte_ge l 10
    obtain⟨k,hk⟩:∃k:Nat,bp l 10=(k:Int):=⟨(bp l 10).toNat,by omega⟩
    obtain rfl:m=k+1:=by omega
    obtain⟨e1,e2⟩:=KF l (a++[c]) k hk
    rw[lns,ap hc,e1,aB]
    exact⟨rfl,by rw[ab];omega⟩
theorem TG (J:ae→Option (List ae)) (g:∀x,J x=some [x]):∀ (n:Nat) (x:ae),x.size<n→x.size≤1000000000→zaC (fun _=>none) (zc2 (⟨#[10]⟩:ae) 0 J) n x=some ((lns x.data.toList []).map ba):=by
 intro n
 induction n with
 |zero=>intro x h;omega
 |succ n e=>
  intro x i hb
  rw[fX]
  generalize c:zaC (fun _=>none) (zc2 (⟨#[10]⟩:ae) 0 J) n=ag
  unfold zc2
  have f:=indexByte_ge x.data.toList 10
  refine zdG rfl ?_
  by_cases h:bp x.data.toList 10<0
  ·refine bQ (au h) ?_
   rw[g,KE _ _ h]
   show some [x]=some [ba ([]++x.data.toList)]
   rw[aW,show ba x.data.toList=x from qM (qN _)]
  ·obtain⟨m,hm⟩:∃m:Nat,bp x.data.toList 10=(m:Int):=⟨(bp x.data.toList 10).toNat,by omega⟩
   obtain⟨e1,e2⟩:=KF x.data.toList [] m hm
   rw[←gJ] at e2
   rw[hm,e1]
   have a:((⟨#[10]⟩:ae).size:Int)=1:=rfl
   rw[a,Int.add_zero]
   refine fP (gO (gO ?_))
   have c1:cL x 0 (m:Int)=ba ([]++x.data.toList.take m):=by
    apply qM
    have:=rD x 0 m
    rw[show ((0:Nat):Int)=0 from rfl] at this
    rw[this,qN];rfl
   have d:(cL x ((m:Int)+1) (x.size:Int)).data.toList=x.data.toList.drop (m+1):=by
    have:=rD x (m+1) x.size
    push_cast at this
    rw[this,dX (by rw[aR,←gJ];omega)]
   have j:(cL x ((m:Int)+1) (x.size:Int)).size=x.size-(m+1):=by rw[gJ,d,aR,←gJ]
   have:=e (cL x ((m:Int)+1) (x.size:Int)) (by omega) (by omega)
   rw[c,d] at this
   rw[c1]
   have b:(aU (cp ((m:Int)+1))<|aU (0≤((m:Int)+1:Int)∧((m:Int)+1:Int)≤(x.size:Int)∧((x.size:Int):Int)≤(x.size:Int))<|ag (cL x ((m:Int)+1) (x.size:Int)))=some ((lns (x.data.toList.drop (m+1)) []).map ba):=gO (gO this)
   rw[b];rfl
def oV:cw→Int→List (List UInt8)→(Option cw)×zaw
 |o,_,[]=>(some o,⟨0,0⟩)
 |o,at_,x::xs=>
  if gC x 0 none=[] then oV o (at_+((x.length:Int)+1)) xs
  else if (ox o ((gC x 0 none).map (jv at_)) (at_+(x.length:Int))).1.Err=0 then oV (ox o ((gC x 0 none).map (jv at_)) (at_+(x.length:Int))).2 (at_+((x.length:Int)+1)) xs
  else (none,(ox o ((gC x 0 none).map (jv at_)) (at_+(x.length:Int))).1)
def zDD (xs:List (List UInt8)):Nat:=(xs.map fun x=>x.length+1).sum
theorem BA (x:List UInt8) (xs:List (List UInt8)):zDD (x::xs)=x.length+1+zDD xs:=by unfold zDD;simp
theorem BB:∀ (l a:List UInt8),zDD (lns l a)=l.length+a.length+1
 |[],a=>by rw[lns,BA];show a.length+1+0=0+a.length+1;omega
 |c::l,a=>by
  rw[lns]
  split
  ·rw[BA,BB l []];simp;omega
  ·rw[BB l];simp;omega
theorem uS:∀ (l:List UInt8) (i:Nat) (b:Option (Nat×List UInt8)),(∀p∈gC l i b,p.2.length≤l.length+(b.toList.map fun p=>p.2.length).sum)∧(gC l i b).length≤l.length+b.toList.length
 |[],i,none=>⟨(fun p h=>by cases h),by show 0≤0;omega⟩
 |[],i,some q=>⟨fun p h=>by
   have:p=q:=bl.1 h
   subst this;simp,by show 1≤0+1;omega⟩
 |c::l,i,b=>by
  by_cases hc:c=32
  ·subst hc
   obtain⟨h1,h2⟩:=uS l (i+1) none
   rw[y9]
   have h2:(gC l (i+1) none).length≤l.length+0:=h2
   refine⟨fun p hp=>?_,by rw[aa,ab];omega⟩
   rcases bH.1 hp with hp|hp
   ·cases b with
    |none=>cases hp
    |some q=>rw[bl.1 hp];simp
   ·have:=h1 p hp
    simp at this ⊢
    omega
  ·cases b with
   |none=>
    obtain⟨h1,h2⟩:=uS l (i+1) (some (i,[c]))
    rw[EM hc]
    have h2:(gC l (i+1) (some (i,[c]))).length≤l.length+1:=h2
    refine⟨fun p hp=>?_,by rw[ab];show _≤l.length+1+0;omega⟩
    have:=h1 p hp
    simp at this ⊢
    omega
   |some q=>
    obtain⟨a,w⟩:=q
    obtain⟨h1,h2⟩:=uS l (i+1) (some (a,w++[c]))
    rw[EN hc]
    have h2:(gC l (i+1) (some (a,w++[c]))).length≤l.length+1:=h2
    refine⟨fun p hp=>?_,by rw[ab];show _≤l.length+1+1;omega⟩
    have:=h1 p hp
    simp at this ⊢
    omega
theorem KG:∀ (xs:List (List UInt8)) (o:cw) (at_:Int),fj o→0≤at_→at_+(zDD xs:Int)≤200000→(∀x∈xs,x.length≤65536) →
  zdw (fun (h:List ae) (g:List (ae×Int)) (f:List (ae×List ae)) (d:List (ae×Bool)) (c:List ae) (l:Int)=>(some ((some (⟨h,g,f,d,c⟩:cw)),(⟨0,0⟩:zaw)):Option ((Option cw)×zaw)))
   (zfi (fun (x2:Int) (q:Int) (z:List ae) (v:List (ae×Int)) (u:List (ae×List ae)) (t:List (ae×Bool)) (s:List ae) (F:Int)=>some (none,(⟨x2,q⟩:zaw)))) (xs.map ba) o.units o.place o.fors o.skips o.lines at_=some (oV o at_ xs)
 |[],o,at_,_,_,_,_=>rfl
 |x::xs,o,at_,hi,ha,hb,hx=>by
  have C:=hx x (aq ..)
  rw[BA] at hb
  push_cast at hb
  have next:=fun (n:cw) (h':fj n)=>KG xs n (at_+((x.length:Int)+1)) h' (by omega) (by omega) (fun y hy=>hx y (ak _ hy))
  rw[av,nI]
  generalize E:zdw (fun (h:List ae) (g:List (ae×Int)) (f:List (ae×List ae)) (d:List (ae×Bool)) (c:List ae) (l:Int)=>(some ((some (⟨h,g,f,d,c⟩:cw)),(⟨0,0⟩:zaw)):Option ((Option cw)×zaw))) _ (xs.map ba)=ag at next ⊢
  unfold zfi
  have D:(ba x).size=x.length:=wR x
  obtain⟨w1,m⟩:=uS x 0 none
  have m:(gC x 0 none).length≤x.length+0:=m
  refine gO (gO (bf (Tp (ba x) at_ (by omega) ⟨by omega,by omega⟩) ?_))
  rw[qN,D,ar,oV]
  by_cases h0:gC x 0 none=[]
  ·rw[ax h0,h0]
   exact bQ rfl (next o hi)
  ·rw[ap h0]
   have a:0<(gC x 0 none).length:=cU.2 h0
   have j:∀w∈(gC x 0 none).map (jv at_),0≤w.at_:=fun w k=>by
    obtain⟨p,hp,rfl⟩:=aS.1 k
    show 0≤at_+(p.1:Int)
    omega
   have i:∀w∈(gC x 0 none).map (jv at_),w.text.size≤65536:=fun w k=>by
    obtain⟨p,hp,rfl⟩:=aS.1 k
    show (ba p.2).size≤65536
    rw[wR]
    have:=w1 p hp
    have:p.2.length≤x.length+0:=this
    omega
   have e:(⟨o.units,o.place,o.fors,o.skips,o.lines⟩:cw)=o:=rfl
   refine bM (aA.2 (by omega)) (gO ?_)
   rw[e]
   refine bf (TA hi _ _ (by omega) (by rw[ar];exact a) (by rw[ar];omega) j i) ?_
   have b:=ER hi ((gC x 0 none).map (jv at_)) (at_+(x.length:Int)) (by omega) (by rw[ar];exact a) j i
   generalize ox o ((gC x 0 none).map (jv at_)) (at_+(x.length:Int))=r at b ⊢
   by_cases h1:r.1.Err=0
   ·rw[ax h1]
    exact bM (by rw[h1];rfl) (next r.2 b)
   ·rw[ap h1]
    exact bQ (du.2 h1) rfl
theorem KH:∀ (xs:List (List UInt8)) (o:cw) (at_:Int),fj o→0≤at_→(∀x∈xs,x.length≤65536)→(∃a,oV o at_ xs=(some a,⟨0,0⟩)∧fj a)∨(∃e,oV o at_ xs=(none,e)∧e.Err≠0)
 |[],o,at_,hi,_,_=>.inl ⟨o,rfl,hi⟩
 |x::xs,o,at_,hi,ha,hx=>by
  have c:=hx x (aq ..)
  have next:=fun (a:cw) (h':fj a)=>KH xs a (at_+((x.length:Int)+1)) h' (by omega) (fun y hy=>hx y (ak _ hy))
  obtain⟨w1,d⟩:=uS x 0 none
  rw[oV]
  by_cases h0:gC x 0 none=[]
  ·rw[ax h0];exact next o hi
  ·rw[ap h0]
   by_cases h1:(ox o ((gC x 0 none).map (jv at_)) (at_+(x.length:Int))).1.Err=0
   ·rw[ax h1]
    refine next _ (ER hi _ _ (by omega) (by rw[ar];exact cU.2 h0) (fun w b=>?_) (fun w b=>?_))
    ·obtain⟨p,hp,rfl⟩:=aS.1 b
     show 0≤at_+(p.1:Int)
     omega
    ·obtain⟨p,hp,rfl⟩:=aS.1 b
     show (ba p.2).size≤65536
     rw[wR]
     have:p.2.length≤x.length+0:=w1 p hp
     omega
   ·rw[ap h1];exact .inr ⟨_,rfl,h1⟩
def rG (text:ae):(Option cw)×zaw:=if 65536<text.size then (none,⟨3,65536⟩) else oV rF 0 (lns text.data.toList [])
theorem KI (l a:List UInt8):∀x∈lns l a,x.length≤l.length+a.length:=by
 intro x hx
 have h1:=BB l a
 have:∀ (xs:List (List UInt8)),x∈xs→x.length+1≤zDD xs:=by
  intro xs
  induction xs with
  |nil=>intro h;cases h
  |cons y ys b=>
   intro h
   rw[BA]
   rcases aY.1 h with rfl|h
   ·omega
   ·have:=b h;omega
 have:=this _ hx
 omega
theorem ES (text:ae):uQ text=some (rG text):=by
 unfold uQ rG
 by_cases h:65536<text.size
 ·rw[ax h];exact eW rfl
 ·rw[ap h]
  refine fP (cA (bf TE (bf (a:=((⟨#[10]⟩:ae),text,0)) rfl (bf (a:=(lns text.data.toList []).map ba) ?_ (cA (cA ?_))))))
  ·unfold A9
   exact cA (bM rfl (cA (TG _ (fun x=>rfl) zbC text (by unfold zbC;omega) (by omega))))
  ·have b:=BB text.data.toList []
   rw[←gJ,aI] at b
   exact KG (lns text.data.toList []) rF 0 Bz (fg _) (by omega) (fun x hx=>by have:=KI text.data.toList [] x hx;rw[←gJ,aI] at this;omega)
theorem ET (text:ae):(∃a,rG text=(some a,⟨0,0⟩)∧fj a)∨(∃e,rG text=(none,e)∧e.Err≠0):=by
 unfold rG
 by_cases h:65536<text.size
 ·rw[ax h];exact .inr ⟨_,rfl,by show (3:Int)≠0;omega⟩
 ·rw[ap h]
  exact KH _ _ _ Bz (fg _) (fun x hx=>by have:=KI text.data.toList [] x hx;rw[←gJ,aI] at this;omega)
def sP (text:ae):cw:=(rG text).1.getD rF
theorem TH (text:ae):fj (sP text):=by
 unfold sP
 rcases ET text with⟨o,h,hi⟩|⟨e,h,he⟩
 ·rw[h];exact hi
 ·rw[h];exact Bz
theorem KJ:rG (⟨#[]⟩:ae)=(some rF,⟨0,0⟩):=rfl
def ze  : Option Bool := aT (uQ (⟨#[112,117,116,32,99,104,32,97,102,116,101,114,32,99]⟩:ae)) fun (r1:((Option cw)×zaw))=>aT (r1.1) fun (p1:cw)=>aT (EF p1 (⟨#[99,122]⟩:ae) (⟨#[99,104,97]⟩:ae)) fun (r2:(Int×Int))=>aM (vM r1.2 (⟨0,0⟩:zaw)) (aM ((r2.1:Int)==(-1)) (aM ((r2.2:Int)==1) (aT (wP p1 (⟨#[99,104,111,112]⟩:ae)) fun (r3:ae)=>some (decide (r3=(⟨#[67,72]⟩:ae)))) (some false)) (some false)) (some false)
theorem KK  {r:Bool} (h:ze=some r):dB prog 7 [] (.bool r):=by
 unfold ze at h
 refine dB.intro func7 rfl ntmps7 (by simp) (fun w0 K=>zyG (zyR 1 rfl (zyH (zbl h fun r1 m h=>zbJ (vs:=[.string (⟨#[112,117,116,32,99,104,32,97,102,116,101,114,32,99]⟩:ae)]) rfl dc rfl rfl rfl CE (EO m) ah (fun v1=>lm (L':=[jA nj nk 72 v1 r1.1]) (cj 1) (zyR 1 rfl (eT rfl dc rfl rfl (eT rfl dc rfl rfl (zbk zrj rfl dc (fun b1=>zyR 1 rfl (eK (k:=1) (vs:=(kD r1.2)) (l':=(kD r1.2)) kn rfl rfl rfl rfl rfl (show _≤_ by simp) rfl rfl (zyH (zyR 1 rfl (zbl h fun p1 l h=>qX (As:=[jA nj nk 72 v1 r1.1]) (cj 1) (z6 l) ?_))))))))))))))
 rintro⟨f,e,d,c,b,a⟩ g
 have n:=h
 subst g
 have h:=n
 refine zbl h fun r2 j h=>kZ (v:=.tuple #[zI r2.1,zI r2.2]) (vs:=[zP f,.string (⟨#[99,122]⟩:ae),.string (⟨#[99,104,97]⟩:ae)]) (Rd.nil:Rd _ _ []) rfl dc rfl rfl rfl G0 (S3 (_g:=f) (o1:=p1) (_f:=e) (_a:=d) (_c:=c) (_d:=b) (_h:=a) j) (.own (cg [2] kr rfl) (fun _ _ h=>aQ.1 h) (.own (cg [3] kr rfl) (fun _ _ h=>aQ.1 h) (.own (cg [4] kr rfl) (fun _ _ h=>aQ.1 h) (.own (cg [5] kr rfl) (fun _ _ h=>aQ.1 h) (.own (cg [6] kr rfl) (fun _ _ h=>aQ.1 h) (.own (cg [7] kr rfl) (fun _ _ h=>aQ.1 h) .nil)))))) (zyR 1 rfl (eT rfl dc rfl rfl (eT rfl dc rfl rfl (zyR 2 rfl (zyH (zbT (k:=1) (cs:=(kD r1.2)) kM rfl dc rfl rfl rfl rfl (zbb (v:=.agg #[zI 0,zI 0]) (ps:=[]) rfl dc rfl (fun _=>by kernel_rfl) (zaR rfl (OI r1.2 (⟨0,0⟩:zaw)) (zyR 1 rfl (zyS (s:=17) rfl h (fun h=>?_) (fun h=>?_)))))))))))
 ·refine zyR 1 rfl (zaR rfl zbe (zyR 2 rfl (zyS (s:=21) rfl h (fun h=>?_) (fun h=>?_))))
  ·refine zyR 1 rfl (zaR rfl zbe (zyR 2 rfl (zyS (s:=25) rfl h (fun h=>?_) (fun h=>?_))))
   ·refine zyR 1 rfl (zbl h fun r3 i h=>kZ (v:=.string r3) (vs:=[zP f,.string (⟨#[99,104,111,112]⟩:ae)]) (Rd.nil:Rd _ _ []) rfl dc rfl rfl rfl Am (JZ (_g:=f) (o1:=p1) (_f:=e) (_a:=d) (_c:=c) (_d:=b) (_h:=a) i) (.own (cg [2] kr rfl) (fun _ _ h=>aQ.1 h) (.own (cg [3] kr rfl) (fun _ _ h=>aQ.1 h) (.own (cg [4] kr rfl) (fun _ _ h=>aQ.1 h) (.own (cg [5] kr rfl) (fun _ _ h=>aQ.1 h) (.own (cg [6] kr rfl) (fun _ _ h=>aQ.1 h) (.own (cg [7] kr rfl) (fun _ _ h=>aQ.1 h) .nil)))))) (zaR rfl zdn (zyR 2 rfl (zyN (zaz ?_)))))
    cases h
    exact cZ 0 results7
   refine zyR 5 rfl (zyN (zaz ?_))
   cases h
   exact cZ 0 results7
  refine zyR 9 rfl (zyN (zaz ?_))
  cases h
  exact cZ 0 results7
 refine zyR 13 rfl (bG (ct (zaz ?_)))
 cases h
 exact cZ 0 results7
def zf (a:ae):Option ae := aM (decide ((512:Int)<(a.size:Int))) (aU (0≤(0:Int)∧(0:Int)≤512∧(512:Int)≤(a.size:Int)) <|some (cL a 0 512)) (some a)
theorem TI {b:ae} {r:ae} (h:zf b=some r):dB prog 15 [.string b] (.string r):=by
 unfold zf at h
 refine dB.intro func15 rfl ntmps15 (by simp) (fun w0 K=>zyG (zyR 1 rfl (zyN (zaL (zyG (zyR 1 rfl (zcX rfl dc rfl al (zaR rfl zdV (zyN (zyB rfl h (fun h=>?_) (fun h=>?_)))))))))))
 ·refine zyG (zyR 1 rfl (zbt h fun a h=>ia rfl dc rfl rfl rfl (ka (i:=0) (j:=512) al (.inl ⟨rfl,rfl⟩) (.inr rfl) a) (zyR 1 rfl (zyN (zaz (bP ?_))))))
  cases h
  exact cZ 2 results15
 refine bA (ct (zyG (zyR 2 rfl (zyN (zaz ?_)))))
 cases h
 exact cZ 2 results15
theorem KL:ze=some true:=by decide +kernel
def zg (s:ae):ae:=if 512<s.size then cL s 0 512 else s
theorem TJ (s:ae):zf s=some (zg s):=by
 unfold zf zg
 by_cases h:512<s.size
 ·rw[ax h];exact eW (gO rfl)
 ·rw[ap h];exact fP rfl
theorem TK (s:ae):(zg s).size≤512:=by
 unfold zg
 by_cases h:512<s.size
 ·rw[ax h]
  have:=rD s 0 512
  rw[gJ]
  rw[show cL s 0 512=cL s ((0:Nat):Int) ((512:Nat):Int) from rfl,this,bw]
  omega
 ·rw[ap h];omega
section
section snoc
variable {α:Type}
end snoc
structure Wi (o:lP) (y:Tk):Prop where
 lt:dY y=false
 mm:iE y=false
 dg:fy y=false
 k1:kT y≠1
 k3:kT y≠3
 kb:¬(kT y=5∨kT y=4∨kT y=6)
 k11:kT y≠11
 no:∀f,o.p (f++ac (cr y.1))=none∧o.f (f++ac (cr y.1))=none
theorem TL (o:lP) (n:Nat):lZ o n []=[]:=by cases n<;>rfl
theorem TM {t:cN} (ht:jC t) (h:0≤(tkT t).1):(tkT t).2=ac (tkT t).1:=by
 rcases ht with ht|ht
 ·have hb:=vP ht
  have e:=DZ ht
  unfold zgb ji at e
  have e2:=aH (fun x:bc=>x.Text) e
  dsimp only at e2
  have a:(tkT t).1=(t.r:Int):=by unfold tkT;rw[hb];rfl
  rw[a,←e2];rfl
 ·exfalso
  have:(tkT t).1=-1:=by unfold tkT;rw[ht];rfl
  omega
end
theorem TN {r:Int} (h:zbO r tabS=none):ic r=[r]:=by unfold ic;rw[h]
def KM (t:cN):Prop:=jC t∧(dY (tkT t)=true→zbO (tkT t).1 tabS=none)
theorem TP (s:ae) (g:s.size≤65536):∀t∈mI s,KM t:=by
 intro t ht
 refine⟨nX _ t ht,fun a=>?_⟩
 rw[EI s g] at ht
 obtain⟨c,hc,ht⟩:=gD.1 ht
 rcases A8 (nX _) c hc with⟨d,f,e⟩|⟨d,f,u,e,g4⟩
 ·obtain⟨h1,h2⟩:=yM f
  have e1:iO gA c=(c.1.Rune::(np c++nq c)).map jL:=by unfold iO;rw[d,Eg];rfl
  rw[e1] at ht
  obtain⟨m,hm,rfl⟩:=aS.1 ht
  rcases aY.1 hm with rfl|hm
  ·rw[y8 (tJ d)];exact e
  ·exfalso
   have b:eE m=true:=by
    rcases bH.1 hm with hm|hm
    ·exact h1 m hm
    ·exact h2 m hm
   rw[y8 (yL b)] at a
   have a:cW m=true:=a
   rw[qa b] at a
   cases a
 ·exfalso
  have e1:iO gA c=[u]:=by unfold iO;rw[d,g4,uJ e];rfl
  rw[e1,bl] at ht
  subst ht
  have:dI (zgb t)=false:=by rw[←g4];exact d
  have a:dI (zgb t)=true:=a
  rw[this] at a;cases a
theorem TQ {t:cN} (ht:jC t) (h:iS (tkT t)=true):t.valid:=by
 rcases ht with ht|ht
 ·exact ht
 ·exfalso
  have e:(tkT t).1=-1:=by unfold tkT;rw[ht];rfl
  unfold iS dY iE at h
  rw[e] at h
  exact absurd h (by decide)
theorem TS {ts:List cN} (h:∀t∈ts,t.valid):iH (im (ts.map tkT))=FT ts:=by
 rw[IX,wN]
 have:=C5 h []
 rw[aE,uk,aE] at this
 rw[this]
theorem TU {x:Tk} (h:dY x=false):gW x=x:=by unfold gW;rw[h];rfl
section
variable {p:Tk→Bool} (hp:∀x,p (gW x)=p x)
include hp
end
theorem EU (p:Tk→Bool):∀ts:List cN,(ts.map tkT).takeWhile p=(ts.takeWhile fun t=>p (tkT t)).map tkT
 |[]=>rfl
 |t::ts=>by
  rw[av,aV,aV,EU p ts]
  cases p (tkT t)<;>rfl
theorem BC (p:Tk→Bool):∀ts:List cN,(ts.map tkT).dropWhile p=(ts.dropWhile fun t=>p (tkT t)).map tkT
 |[]=>rfl
 |t::ts=>by
  rw[av,cC,cC,BC p ts]
  cases p (tkT t)<;>rfl
theorem BD {u:ae} (h:uR u):u.size≤32:=by have:=zc u;rw[h.2] at this;exact this
theorem TV {u:ae} (h:uR u):nb 0 (fR u)=true∧jm u=u∧fY u=u:=by
 have a:=BD h
 obtain⟨h1,h2⟩:=h
 unfold zfV at h2
 by_cases hk:nb 0 (fR u)=true
 ·rw[ax hk] at h2
  have:=EL u (by omega)
  rw[h2] at this
  exact⟨hk,h2,this⟩
 ·rw[ap hk] at h2
  exact absurd h2.symm h1
theorem KN:∀ {ts:List cN},(∀t∈ts,t.bs.length≤4)→(bJ ts).length≤4*ts.length
 |[],_=>bi _
 |t::ts,h=>by
  have h1:=h t (aq ..)
  have h2:=KN fun u hu=>h u (ak _ hu)
  rw[ko,aa,ab];omega
theorem KO {f g:bc×List bc→List cN}:∀ {l:List (bc×List bc)},(∀c∈l,(f c).length≤(g c).length)→(l.flatMap f).length≤(l.flatMap g).length
 |[],_=>bi _
 |c::l,h=>by
  have h1:=h c (aq ..)
  have h2:=KO fun u hu=>h u (ak _ hu)
  rw[aK,aK,aa,aa];omega
theorem TW (c:bc×List bc):(iO gT c).length≤(iO gA c).length:=by
 unfold iO
 split
 ·rw[ar,ar]
  have h1:=wF ((loI c.2).map (·.Rune)) (c.1.Rune,[],true)
  have h2:=wF ((hiI c.2).map (·.Rune)) ((((loI c.2).map (·.Rune)).foldl gy (c.1.Rune,[],true)).1,(((loI c.2).map (·.Rune)).foldl gy (c.1.Rune,[],true)).2.1,true)
  have h3:=qG c.2
  have a:=Bh c
  rw[aa] at h3
  simp only[ar,aI] at h1 h2
  unfold gT gA
  rw[ar,ab]
  show _+1≤_
  omega
 ·exact bi _
theorem KP {u:ae} (h:uR u):(zzN u).size≤32:=by
 have k:=BD h
 have hk:=(TV h).1
 have j:=Bt _ 0 (by omega) hk
 have i:(fR u).length=(mI u).length:=by unfold fR;rw[ar]
 rw[i,EI u (by omega)] at j
 have h2:=KO (l:=je (dK u.data.toList)) (f:=iO gT) (g:=iO gA) (fun c _=>TW c)
 have h3:(bJ ((je (dK u.data.toList)).flatMap (iO gT))).length≤4*((je (dK u.data.toList)).flatMap (iO gT)).length:=KN fun t ht=>by
  obtain⟨d,hd,ht⟩:=gD.1 ht
  rcases A8 (nX _) d hd with⟨b,e,a⟩|⟨b,e,v,a,g4⟩
  ·exact sM (.inl (yN.val d b a e t ht).1)
  ·have e1:iO gT d=[v]:=by unfold iO;rw[b,g4,uJ a];rfl
   rw[e1,bl] at ht
   rw[ht];exact sM a
 rw[gJ,RI u (by omega)]
 omega
theorem KQ:∀ (w l:List UInt8) (i a:Nat) (v:List UInt8),(∀c∈w,c≠32)→gC (w++l) i (some (a,v))=gC l (i+w.length) (some (a,v++w))
 |[],l,i,a,v,_=>by rw[aW,aE];rfl
 |c::w,l,i,a,v,h=>by
  rw[bq,EN (h c (aq ..)),KQ w l _ a _ (fun d hd=>h d (ak _ hd)),ab,aB,show i+1+w.length=i+(w.length+1) by omega]
  rfl
theorem TY {w:List UInt8} (a:w≠[]) (h:∀c∈w,c≠32) (l:List UInt8) (i:Nat):gC (w++l) i none=gC l (i+w.length) (some (i,w)):=by
 cases w with
 |nil=>exact absurd rfl a
 |cons c w=>
  rw[bq,EM (h c (aq ..)),KQ w l _ i _ (fun d hd=>h d (ak _ hd)),ab,show i+1+w.length=i+(w.length+1) by omega]
  rfl
def TZ (o:cw):List (List UInt8):=o.lines.map fun t=>t.data.toList
structure Wj (o:cw):Prop where
 rd:∀at_,oV rF at_ (TZ o)=(some o,⟨0,0⟩)
 sz:∀t∈o.lines,t.size≤250∧∀c∈t.data.toList,c≠10
theorem T0 (c p:ae):y4 c p=some (decide (c.data.toList.take p.size=p.data.toList)):=by
 unfold y4 Bi
 have e:=rD c 0 p.size
 rw[jY,Nat.sub_zero] at e
 by_cases h:p.size≤c.size
 ·refine bf (eW (gO rfl)) ?_
  congr 1
  by_cases h2:c.data.toList.take p.size=p.data.toList
  ·rw[au h2]
   exact au (qM (e.trans h2))
  ·rw[aj h2]
   exact aj fun a=>h2 (by rw[←e];exact aH (fun b:ae=>b.data.toList) a)
 ·refine bf (fP rfl) ?_
  congr 1
  refine (aj fun a=>?_).symm
  have:=aH fu a
  rw[bw,←gJ,←gJ] at this
  omega
theorem KR {s:ae} {A ts:List cN} {t:cN} (h:dK s.data.toList=A++t::ts):∃p:Pc,(eA s.data.toList)[A.length]?=some p∧p.i=(bJ A).length∧p.r=t.r:=by
 have h1:=qL (dK s.data.toList) 0 A.length t (by rw[h];simp)
 have hA:(dK s.data.toList).take A.length=A:=by rw[h];simp
 rw[←sI,List.getElem?_map,hA,bL] at h1
 cases hp:(eA s.data.toList)[A.length]? with
 |none=>rw[hp] at h1;cases h1
 |some p=>
  rw[hp] at h1
  injection h1 with h1
  have e1:=aH (fun q:cT=>q.At) h1
  have e2:=aH (fun q:cT=>q.Rune) h1
  have e1:(p.i:Int)=((bJ A).length:Int):=e1
  have e2:(p.r:Int)=(t.r:Int):=e2
  exact⟨p,rfl,by omega,by omega⟩
theorem T1 (s:ae) (E:s.size≤2147483648):∀ (n:Nat) (ts A:List cN),dK s.data.toList=A++ts→ts.length<n →
  zaC (fun _=>none) (zd2 s) n A.length=some (pL (bJ A).length ts):=by
 intro n
 induction n with
 |zero=>intro ts A _ h;omega
 |succ n y=>
  intro ts A j C
  rw[fX]
  generalize o:zaC (fun _=>none) (zd2 s) n=ag
  unfold zd2
  have e:(eA s.data.toList).length=A.length+ts.length:=by
   rw[←aa,←j,←mJ (dK s.data.toList) 0,←sI,ar]
  cases ts with
  |nil=>exact bM (aj (by rw[e];simp)) rfl
  |cons t ts=>
   have d:jC t:=nX s.data.toList t (by rw[j];simp)
   obtain⟨p,hp,hi,hr⟩:=KR j
   have k:s.data.toList=bJ A++(t.bs++bJ ts):=by rw[←pa s.data.toList,j,kp,ko]
   have hsz:s.size=(bJ A).length+(t.bs.length+(bJ ts).length):=by rw[gJ,k,aa,aa]
   have q:dK s.data.toList=(A++[t])++ts:=by rw[j,aB];rfl
   have v:=y ts (A++[t]) q (by rw[ab] at C;omega)
   rw[o,show (A++[t]).length=A.length+1 by simp,show (bJ (A++[t])).length=(bJ A).length+t.bs.length by rw[kp,aa];simp[bJ]] at v
   have u:∀ (w:Int) (b:Bool),w=(t.bs.length:Int)→b=t.broken→(ti (⟨(p.i:Int),w,(p.r:Int),b⟩:cT)<|ag (A.length+1))=some (pL (bJ A).length (t::ts)):=fun w b z hb=>by
    rw[v,hi,hr,z,hb];rfl
   have f:t.broken=false→(ac (t.r:Int)).size=t.bs.length:=fun hb=>by
    rcases d with h|h
    ·rw[gJ,mW,←h.2]
    ·rw[h] at hb;cases hb
   refine bQ (au (by rw[e];simp)) (bf hp (cA ?_))
   by_cases h5:t.r=65533
   ·refine bQ (by rw[hr,h5];rfl) (gO (bf (T0 _ _) ?_))
    have l:(cL s (p.i:Int) (s.size:Int)).data.toList=t.bs++bJ ts:=by rw[hi];exact JY k
    rw[l]
    cases hb:t.broken with
    |true=>
     have g:t.bs.length=1:=by have:=hb;unfold pN at this;simp at this;exact this.2
     have m:¬(t.bs++bJ ts).take 3=[239,191,189]:=fun D=>by
      have hg:dK (t.bs++bJ ts)=t::ts:=by
       have:=xH (a:=A) (ts:=t::ts) (by rw[←j];exact C6 _)
       rw[←ko];exact this
      have hv:=HJ (t:=jL 65533) (wA (by unfold vr;omega)) ((t.bs++bJ ts).drop 3)
      have c:(jL 65533).bs=[239,191,189]:=by decide
      rw[c,←D,bO,hg] at hv
      injection hv with hv _
      rw[hv] at g
      rw[c] at g
      exact absurd g (by decide)
     refine bQ ?_ (u 1 true (by omega) hb.symm)
     show (!decide ((t.bs++bJ ts).take 3=[239,191,189]))=true
     rw[aj m];rfl
    |false=>
     have c:t.bs=[239,191,189]:=by
      rcases d with h|h
      ·rw[h.2,h5];decide
      ·rw[h] at hb;cases hb
     refine bM ?_ (u _ false (by rw[hr,f hb]) hb.symm)
     show (!decide ((t.bs++bJ ts).take 3=[239,191,189]))=false
     rw[c]
     rfl
   ·have hb:t.broken=false:=by
     cases hb:t.broken with
     |false=>rfl
     |true=>unfold pN at hb;simp at hb;exact absurd hb.1 h5
    exact bM (aA.2 (by omega)) (u _ false (by rw[hr,f hb]) hb.symm)
theorem T2 (s:ae) (a:s.size≤2147483648):y5 s=some (pL 0 (dK s.data.toList)):=by
 unfold y5
 have b:=qc s
 exact T1 s a zbC (dK s.data.toList) [] rfl (by unfold zbC;omega)
def nv (t:cN):ae:=if dY (tkT t) then (if t.r=223 then ⟨#[83,83]⟩ else ac (mY (t.r:Int))) else (tkT t).2
theorem KS (S:ae) (w:S.size≤1000000000):∀ (ts A:List cN) (b:ae) (g:Bool),S.data.toList=bJ (A++ts)→(∀t∈ts,jC t)→b.size+4*ts.length≤100000000000 →
  zdw (fun (f:ae) (j:Bool)=>(some f:Option ae)) (zb8 S) (pL (bJ A).length ts) b g=some (b++J nv ts)
 |[],A,b,g,_,_,_=>by
  rw[pL,xc]
  show some b=some (b++ad)
  rw[aX]
 |t::ts,A,b,g,hd,hok,hb=>by
  have ht:=hok t (aq ..)
  have u:(bJ A).length+(t.bs.length+(bJ ts).length)=S.size:=by rw[gJ,hd,kp,ko,aa,aa]
  have e:(bJ A).length+t.bs.length=(bJ (A++[t])).length:=by rw[kp,aa];simp[bJ]
  rw[ab] at hb
  have next:∀ (x:ae) (c:Bool),x.size≤4→x=nv t→zdw (fun (f:ae) (j:Bool)=>(some f:Option ae)) (zb8 S) (pL ((bJ A).length+t.bs.length) ts) (b++x) c=some (b++J nv (t::ts)):=fun x c hx h=>by
   rw[e,KS S w ts (A++[t]) (b++x) c (by rw[hd,aB];rfl) (fun y hy=>hok y (ak _ hy)) (by rw[aJ];omega),iN,h,cu]
  rw[pL,nI]
  generalize v:zdw (fun (f:ae) (j:Bool)=>(some f:Option ae)) (zb8 S) (pL ((bJ A).length+t.bs.length) ts)=ag at next ⊢
  unfold zb8
  have m:∀ (x:ae),x.size≤4→x=nv t→(aM (((fq (pT (bJ A).length t).Broken (pT (bJ A).length t).Rune):Int) != 2) (ag (b++x) (((fq (pT (bJ A).length t).Broken (pT (bJ A).length t).Rune):Int)==1)) (ag (b++x) g))=some (b++J nv (t::ts)):=fun x hx h=>by
   cases hk:(((fq (pT (bJ A).length t).Broken (pT (bJ A).length t).Rune):Int) != 2) with
   |true=>exact bQ rfl (next x _ hx h)
   |false=>exact bM rfl (next x _ hx h)
  refine cA (zdG ⟨by show _≤((bJ A).length:Int)+(t.bs.length:Int);omega,by show ((bJ A).length:Int)+(t.bs.length:Int)≤_;omega⟩ (zdG (nt ht) ?_))
  have q:(pT (bJ A).length t).At+(pT (bJ A).length t).Width=(((bJ A).length+t.bs.length:Nat):Int):=by
   show ((bJ A).length:Int)+(t.bs.length:Int)=_;push_cast;rfl
  have k:(((fq (pT (bJ A).length t).Broken (pT (bJ A).length t).Rune):Int)==1)=dY (tkT t):=by
   show ((fq t.broken (t.r:Int):Int)==1)=_
   rw[rC,tL]
  cases n:dY (tkT t) with
  |true=>
   refine bQ (k.trans n) ?_
   rw[q]
   refine gO ?_
   have i:nv t=if t.r=223 then ⟨#[83,83]⟩ else ac (mY (t.r:Int)):=by unfold nv;rw[n];rfl
   have z:(nv t).size≤4:=by
    rw[i]
    split
    ·decide
    ·exact mh _
   refine bf (a:=nv t) ?_ (gO (m _ z rfl))
   unfold Bj
   rw[i]
   by_cases d:t.r=223
   ·rw[ax d]
    exact bQ (by show ((t.r:Int)==223)=true;rw[d];rfl) rfl
   ·rw[ap d]
    exact bM (aA.2 (by show (t.r:Int)≠223;omega)) (zdG (nt ht) rfl)
  |false=>
   refine bM (k.trans n) ?_
   have i:nv t=(tkT t).2:=by unfold nv;rw[n];rfl
   have l:cL S (pT (bJ A).length t).At (((bJ A).length+t.bs.length:Nat):Int)=(tkT t).2:=by
    have:=yW (s:=S) (A:=A) (W:=[t]) (Z:=ts) (by rw[hd];rfl) rfl (b:=(bJ A).length+t.bs.length) (by simp[bJ])
    rw[show (pT (bJ A).length t).At=((bJ A).length:Int) from rfl,this]
    show J (·.2) [tkT t]=_
    rw[iN,pA,aX]
   have hsz:=sM ht
   have o:(tkT t).2.size≤4:=by rw[gJ];show t.bs.toArray.toList.length≤4;simpa using hsz
   rw[q,l]
   exact zdG ⟨by show (0:Int)≤((bJ A).length:Int);omega,by show ((bJ A).length:Int)≤_;omega,by omega⟩ (gO (m _ o i.symm))
def EV (s:ae):ae:=J nv (dK s.data.toList)
theorem T3 (s:ae) (b:s.size≤1000000000):y6 s=some (EV s):=by
 have c:=qc s
 unfold y6 Bk
 refine bf (cA (bf (a:=s) rfl (bf (T2 s (by omega)) (cA ?_)))) rfl
 have:=KS s b (dK s.data.toList) [] ad false (by rw[aW,pa]) (nX _) (by show 0+_≤_;omega)
 rw[c8] at this
 exact this

theorem EW {x:Tk} (h:dY x=true∨iE x=true):0≤x.1:=by
 rcases h with h|h
 ·have:=mF _ (show cW x.1=true from h);omega
 ·have h:eE x.1=true:=h
  unfold eE at h
  have:=of_decide_eq_true h;omega
theorem T4 {o:cw} (hi:fj o) {u:ae} (hu:u∈o.units):∃i,zbO u o.place=some i∧lq o.units u=some i:=by
 have:=ij.2 hu
 obtain⟨i,h⟩:=iU.1 this
 exact⟨i,by rw[hi.pl,h],h⟩
theorem T5 {P:El→Prop} (b:∀e m,P e→P ⟨e.sort,e.place,e.digits,m,e.great⟩) (m:ae) {l:List El} (h:∀e∈l,P e):∀e∈ow m l,P e:=fun e he=>by
 rcases Bm m he with he|⟨c,a,rfl⟩
 ·exact h e he
 ·exact b _ _ (h c a)
def KT (n:Nat) (e:El):Prop:=e.sort=3→0≤e.place∧e.place<(n:Int)
theorem KU {P:El→Prop} (o:lP):∀ (n:Nat) (l:List Tk),(∀x l a,(kO o x l).2=some a→∀e∈a,P e)→∀a,some a∈lZ o n l→∀e∈a,P e
 |0,_,_,a,h=>by cases h
 |n+1,[],_,a,h=>by cases h
 |n+1,x::l,hc,a,h=>by
  rw[lZ] at h
  rcases aY.1 h with h|h
  ·exact hc x l a h.symm
  ·exact KU o n _ hc a h
theorem BE {P:El→Prop} (hg:P kH):∀ (cs:List (Option (List El))) (out:List El) (sp:Bool),(∀b,some b∈cs→∀e∈b,P e)→(∀e∈out,P e)→∀e∈l0 cs out sp,P e
 |[],out,sp,_,h=>h
 |none::cs,out,sp,hc,h=>BE hg cs out true (fun b he=>hc b (ak _ he)) h
 |some []::cs,out,sp,hc,h=>BE hg cs out sp (fun b he=>hc b (ak _ he)) h
 |some (e::b)::cs,out,sp,hc,h=>BE hg cs _ false (fun b he=>hc b (ak _ he)) fun a ha=>by
  rcases bH.1 ha with ha|ha
  ·rcases bH.1 ha with ha|ha
   ·exact h a ha
   ·split at ha
    ·rw[bl.1 ha];exact hg
    ·cases ha
  ·exact hc _ (aq ..) a ha
theorem KV {o:cw} (hi:fj o) (t:ae):∀e∈pC o t,KT o.units.length e:=by
 unfold pC sH
 have b:=hi.lw
 refine BE (fun h=>absurd h (by decide)) _ _ _ (KU _ _ _ fun x l c h e he=>?_) (fun e h=>by cases h)
 have base:∀g u,KT o.units.length (ie (dw o) g u):=fun g u _=>by
  show 0≤(zbO u o.place).getD 0∧(zbO u o.place).getD 0<_
  cases hp:zbO u o.place with
  |none=>rw[hO];omega
  |some i=>
   rw[hi.pl] at hp
   have:=tO hp
   rw[ei];exact⟨this.1,this.2.1⟩
 unfold kO at h
 split at h
 ·injection h with h
  subst h
  refine T5 (fun e m h=>h) _ (fun d a=>?_) e he
  obtain⟨u,_,rfl⟩:=aS.1 a
  exact base _ u
 ·split at h
  ·injection h with h
   subst h
   rw[bl.1 he]
   exact fun h=>absurd h (by show (2:Int)≠3;decide)
  ·split at h
   ·cases h
   ·split at h
    ·injection h with h
     subst h
     rw[bl.1 he]
     exact fun h=>absurd h (by show (4:Int)≠3;decide)
    ·injection h with h
     subst h
     cases he
def BF (o:cw) (t:ae):ae :=
 match pC o t with
 |[]=>⟨#[63]⟩
 |e::_=>if e.sort=3 then EV (zzN (o.units.getD e.place.toNat zfn)) else if e.sort=2 then ⟨#[48,45,57]⟩ else ⟨#[63]⟩
theorem T6 {o:cw} (hi:fj o) (t:ae) (ht:sK t):wP o t=some (BF o t):=by
 unfold wP BF
 have b:=KV hi t
 refine cA (bf (SN o hi.ok.fo t ht) ?_)
 show zaC none (zcv o _ (pC o t)) zbC=_
 generalize pC o t=l at b ⊢
 obtain⟨n,c⟩:∃n,zbC=n+1:=⟨zbC-1,by unfold zbC;omega⟩
 rw[c,fX]
 generalize zaC none (zcv o (some (⟨#[63]⟩:ae)) l) n=ag
 unfold zcv
 cases l with
 |nil=>exact bM (by decide) rfl
 |cons e l=>
  refine bQ (au (by rw[ab];omega)) (bf (a:=e) rfl ?_)
  show _=some (ite (e.sort=3) _ _)
  by_cases h3:e.sort=3
  ·rw[ax h3]
   have hr:=b e (aq ..) h3
   have hk:e.place.toNat<o.units.length:=by omega
   have hg:=pg (l:=o.units) (k:=e.place.toNat) zfn hk
   rw[show ((e.place.toNat:Nat):Int)=e.place by omega] at hg
   have hu:=hi.us _ (aL (oT (d:=zfn) hk))
   generalize o.units.getD e.place.toNat zfn=u at hg hu ⊢
   refine bQ (by rw[h3];rfl) (bf hg (bf (Jg u (by have:=BD hu;omega)) (bf (T3 _ (by have:=KP hu;omega)) rfl)))
  ·rw[ap h3]
   refine bM (aA.2 h3) ?_
   by_cases h2:e.sort=2
   ·rw[ax h2];exact bQ (by rw[h2];rfl) rfl
   ·rw[ap h2];exact bM (aA.2 h2) rfl
def ze5 (g:ae→Option ae) (r2:(List bK)) (e:ae→Int→Option ae) (a:ae) (c:Int):Option ae := aM (decide ((c:Int)<(r2.length:Int))) (cn (fun (d:ae→Option ae)=>aT (zcx r2 c) fun (q1:bK)=>aM (decide ((0:Int)≤q1.Rune)) (aT (rq q1.Rune) fun (r3:Bool)=>aM (r3) (aU (fl q1.Rune) <|aT (rp (cr q1.Rune)) fun (f:ae)=>aU (a.size+f.size≤9223372036854775807) <|d (a++f)) (aU (a.size+q1.Text.size≤9223372036854775807) <|d (a++q1.Text))) (aU (a.size+q1.Text.size≤9223372036854775807) <|d (a++q1.Text))) (fun (b:ae)=>aU (cp (c+1)) <|e b (c+1))) (g a)
def zh (b:ae):Option ae := cn (fun (c:ae→Option ae)=>aT (wC b) fun (r1:ae)=>aT (rr r1) fun (r2:(List bK))=>zaC (fun _ _=>none) (ze5 c r2) zbC (⟨#[]⟩:ae) 0) (fun (a:ae)=>some a)
theorem T7 {n:ae} {r:ae} (h:zh n=some r):dB prog 114 [.string n] (.string r):=by
 unfold zh at h
 refine dB.intro func114 rfl ntmps114 (by simp) (fun w0 K=>zbp h fun m C h=>zaM (β:=ae) 2 rfl (fun b=>m b=some r) (fun b=>[]) (fun b=>[(3,.string b)]) (fun b=>[]) (fun cut=>?_) ?_)
 ·refine zyG (zyR 1 rfl (zyH (zyR 1 rfl (zyN (cut (zyG (zyR 1 rfl (zbl h fun r1 y h=>zaI (v:=.string r1) (vs:=[.string n]) rfl dc rfl rfl rfl Hf (I1 y) (zbl h fun r2 u h=>zbJ (vs:=[.string r1]) rfl dc rfl rfl rfl vJ (wi u) ah (fun v1=>gK (k:=0) rfl dc rfl rfl aF (zyR 1 rfl (zyN (zau (eO (β:=Nat×ae×Int) (fun b=>zaC (fun _ _=>none) (ze5 m r2) b.1 b.2.1 b.2.2=some r) (fun b=>[]) (fun b=>[(3,.string b.2.1),(8,v1),(9,zI (r2.length:Int)),(10,zI b.2.2)]) (fun b=>[eI v1 r2]) (fun b=>b.1) (zbC,(⟨#[]⟩:ae),0) (by exact h) rfl (bE rfl) (cj 1) ?_))))))))))))))
  rintro⟨l,a,d⟩ h
  cases l with
  |zero=>exact eG h
  |succ l=>
   obtain⟨H,c⟩:∃ag,ag=zaC (fun _ _=>none) (ze5 m r2) l:=⟨_,rfl⟩
   have h:ze5 m r2 H a d=some r:=by rw[c];exact h
   unfold ze5 at h
   refine zyG (zaR rfl zbi (zyN (zaL (zyB rfl h (fun h=>?_) (fun h=>?_)))))
   ·refine bA (ct (zbp h fun M z h=>zaM (β:=ae) 0 rfl (fun b=>M b=some r) (fun b=>[]) (fun b=>[(3,.string b),(8,v1),(9,zI (r2.length:Int)),(10,zI d)]) (fun b=>[eI v1 r2]) (fun cut=>cut (zau (zyG (zbl h fun q1 f h=>eY (k:=0) f aF gH rfl dc rfl rfl rfl rfl (mz (i:=(d:Int).toNat) (j:=0) (k:=0) (q:=q1) (cs:=(fO q1)) lM js rfl dc rfl rfl (ep f) rfl rfl rfl (zbk zoE rfl dc (fun b1=>eK (k:=1) (vs:=(fO q1)) (l':=(fO q1)) gH rfl rfl rfl rfl rfl (show _≤_ by simp) rfl rfl (zyH (zab zdh rfl dc rfl (show _=0 from rfl) (zat (k:=1) eP rfl dc rfl rfl rfl (zaR rfl zbF (zyR 1 rfl (zyS (s:=17) rfl h (fun h=>zab zdh rfl dc rfl (show _=0 from rfl) (zat (k:=1) eP rfl dc rfl rfl rfl (zbl h fun r3 t h=>zaI (v:=.bool r3) (vs:=[.int .i32 q1.Rune]) rfl dc rfl rfl rfl xz (ym t) (zyR 1 rfl (zyN (zyB rfl h (fun h=>bV (zyR 1 rfl (zab zdh rfl dc rfl (show _=0 from rfl) (zat (k:=1) eP rfl dc rfl rfl rfl (zbt h fun g h=>zaI (v:=.int .i32 (cr q1.Rune)) (vs:=[.int .i32 q1.Rune]) rfl dc rfl rfl rfl Au (mw fun w=>uo q1.Rune w g.1 g.2) (zbl h fun I o h=>zaI (v:=.string I) (vs:=[.int .i32 (cr q1.Rune)]) rfl dc rfl rfl rfl Aq (AK o) (zbt h fun G h=>zaR rfl (lx G) (zyR 1 rfl (bG (ca (mD (a++I) h 1))))))))))) (fun h=>bV (zyR 1 rfl (zab qv rfl dc rfl (show _=1 from rfl) (zat (k:=1) eb rfl dc rfl rfl rfl (zbt h fun F h=>zaR rfl (lx F) (zyR 1 rfl (bG (ca (mD (a++q1.Text) h 1))))))))))))))) (fun h=>zyR 4 rfl (zyN (eh rfl (bV (zyR 1 rfl (zab qv rfl dc rfl (show _=1 from rfl) (zat (k:=1) eb rfl dc rfl rfl rfl (zbt h fun E h=>zaR rfl (lx E) (zyR 1 rfl (bG (ca (mD (a++q1.Text) h 1))))))))))))))))))))))))) (fun e h=>?_)))
    rw[z] at h
    refine bV (zbt h fun D h=>zaR rfl (dE (r:=d+1) (ai _ D)) (zyR 1 rfl (bG ?_)))
    subst c
    exact aD (l,e,d+1) h 1
   exact dF (bU (bU (dG (cH a h rfl (bE rfl) ah))))
 rintro J h
 rw[C] at h
 refine zyG (zyR 2 rfl (zyN (zaz ?_)))
 cases h
 exact cZ 2 results114
def zdZ (r2:(List bK)) (f:Option ae) (c:Int→Option ae) (a:Int):Option ae := aM (decide ((a:Int)<(r2.length:Int))) (cn (fun (b:Option ae)=>aT (zcx r2 a) fun (q1:bK)=>aM (decide ((0:Int)≤q1.Rune)) (aT (rq q1.Rune) fun (r3:Bool)=>aM (!r3) (aM ((a:Int)==0) (some (⟨#[]⟩:ae)) (aM (decide ((q1.Rune:Int)<0)) (some (⟨#[]⟩:ae)) (aT (qF q1.Rune) fun (e:Bool)=>aM (!e) (some (⟨#[]⟩:ae)) (b)))) (b)) (aM ((a:Int)==0) (some (⟨#[]⟩:ae)) (aM (decide ((q1.Rune:Int)<0)) (some (⟨#[]⟩:ae)) (aT (qF q1.Rune) fun (d:Bool)=>aM (!d) (some (⟨#[]⟩:ae)) (b))))) (aU (cp (a+1)) <|c (a+1))) (f)
def zi (a:ae):Option ae := aT (zh a) fun (r1:ae)=>aT (rr r1) fun (r2:(List bK))=>aM (decide (((r2.length:Int):Int)<1)) (some (⟨#[]⟩:ae)) (aM (decide ((8:Int)<(r2.length:Int))) (some (⟨#[]⟩:ae)) (cn (fun (b:Option ae)=>zaC (fun _=>none) (zdZ r2 b) zbC 0) (some r1)))
theorem T8 {g:ae} {r:ae} (h:zi g=some r):dB prog 60 [.string g] (.string r):=by
 unfold zi at h
 refine dB.intro func60 rfl ntmps60 (by simp) (fun w0 K=>zyG (zyR 1 rfl (zyH (zyR 1 rfl (zbl h fun r1 t h=>zaI (v:=.string r1) (vs:=[.string g]) rfl dc rfl rfl rfl N3 (T7 t) (zyR 1 rfl (zyH (zyR 1 rfl (zbl h fun r2 o h=>zbJ (vs:=[.string r1]) rfl dc rfl rfl rfl vJ (wi o) ah (fun v1=>zyR 1 rfl (zyN (zaL (zyG (zyR 1 rfl (gK (k:=0) rfl dc rfl rfl aF (zaR rfl zbi (zyR 1 rfl (zyS (s:=15) rfl h (fun h=>?_) (fun h=>?_)))))))))))))))))))
 ·refine zyR 4 rfl (zyN (gM rfl (zyG (zyR 1 rfl (zyN (zaz (bP ?_)))))))
  cases h
  exact cZ 2 iy
 refine zyR 1 rfl (gK (k:=0) rfl dc rfl rfl aF (zaR rfl zdV (zyR 1 rfl (zyN (zyB rfl h (fun h=>?_) (fun h=>?_))))))
 ·refine zyG (zyR 1 rfl (zyN (zaz (bP ?_))))
  cases h
  exact cZ 2 iy
 refine bA (ct (zbp h fun f w h=>zaM (β:=Unit) 0 rfl (fun b=>f=some r) (fun b=>[]) (fun b=>[(3,.string r1)]) (fun b=>[]) (fun cut=>?_) ?_))
 ·refine cut (zyG (zyR 1 rfl (gK (k:=0) rfl dc rfl rfl aF (zyR 1 rfl (zyN (zau (eO (β:=Nat×Int) (fun b=>zaC (fun _=>none) (zdZ r2 f) b.1 b.2=some r) (fun b=>[]) (fun b=>[(3,.string r1),(20,v1),(21,zI (r2.length:Int)),(22,zI b.2)]) (fun b=>[eI v1 r2]) (fun b=>b.1) (zbC,0) h rfl (bE rfl) (cj 1) ?_)))))))
  rintro⟨e,c⟩ h
  cases e with
  |zero=>exact eG h
  |succ e=>
   obtain⟨z,a⟩:∃ag,ag=zaC (fun _=>none) (zdZ r2 f) e:=⟨_,rfl⟩
   have h:zdZ r2 f z c=some r:=by rw[a];exact h
   unfold zdZ at h
   refine zyG (zaR rfl zbi (zyN (zaL (zyB rfl h (fun h=>?_) (fun h=>?_)))))
   ·refine bA (ct (zbp h fun E u h=>zaM (β:=Unit) 0 rfl (fun b=>E=some r) (fun b=>[]) (fun b=>[(3,.string r1),(20,v1),(21,zI (r2.length:Int)),(22,zI c)]) (fun b=>[eI v1 r2]) (fun cut=>?_) ?_))
    ·refine cut (zau (zyG (zyR 1 rfl (zbl h fun q1 d h=>eY (k:=0) d aF gH rfl dc rfl rfl rfl rfl (mz (i:=(c:Int).toNat) (j:=0) (k:=0) (q:=q1) (cs:=(fO q1)) lM js rfl dc rfl rfl (ep d) rfl rfl rfl (zbk zoE rfl dc (fun b1=>zyR 1 rfl (eK (k:=1) (vs:=(fO q1)) (l':=(fO q1)) gH rfl rfl rfl rfl rfl (show _≤_ by simp) rfl rfl (zyH (zab zdh rfl dc rfl (show _=0 from rfl) (zat (k:=1) eP rfl dc rfl rfl rfl (zaR rfl zbF (zyR 1 rfl (zyS (s:=30) rfl h (fun h=>?_) (fun h=>?_)))))))))))))))
     ·refine zab zdh rfl dc rfl (show _=0 from rfl) (zat (k:=1) eP rfl dc rfl rfl rfl (zbl h fun r3 n h=>zaI (v:=.bool r3) (vs:=[.int .i32 q1.Rune]) rfl dc rfl rfl rfl xz (ym n) (zyR 2 rfl (zyH (zyR 1 rfl (jU rfl dc rfl jV (zyR 1 rfl (zyS (s:=37) rfl h (fun h=>?_) (fun h=>?_)))))))))
      ·refine zyR 1 rfl (zaR rfl zbe (zyR 1 rfl (zyS (s:=40) rfl h (fun h=>?_) (fun h=>?_))))
       ·refine zyR 11 rfl (zyN (gM rfl (zyG (zyR 1 rfl (zyN (zaz (cD (bP (bP (cD (bP ?_)))))))))))
        cases h
        exact cZ 2 iy
       refine zab zdh rfl dc rfl (show _=0 from rfl) (zat (k:=1) eP rfl dc rfl rfl rfl (zaR rfl zbi (zyR 2 rfl (zyS (s:=45) rfl h (fun h=>?_) (fun h=>?_)))))
       ·refine zyR 6 rfl (zyN (gM rfl (zyG (zyR 1 rfl (zyN (zaz (cD (bP (bP (cD (bP ?_)))))))))))
        cases h
        exact cZ 2 iy
       refine zab zdh rfl dc rfl (show _=0 from rfl) (zat (k:=1) eP rfl dc rfl rfl rfl (zbl h fun D m h=>zaI (v:=.bool D) (vs:=[.int .i32 q1.Rune]) rfl dc rfl rfl rfl xA (yn m) (jU rfl dc rfl jV (zyR 2 rfl (zyN (zyB rfl h (fun h=>?_) (fun h=>?_)))))))
       ·refine zyG (zyR 1 rfl (zyN (zaz (cD (bP (bP (cD (bP ?_))))))))
        cases h
        exact cZ 2 iy
       exact bA (ca (mD () h 1))
      exact zyR 14 rfl (zyN (eh rfl (bA (ca (mD () h 1)))))
     refine zyR 5 rfl (zyH (zyR 1 rfl (jU rfl dc rfl jV (zyR 2 rfl (zaR rfl zbe (zyR 1 rfl (zyS (s:=40) rfl h (fun h=>?_) (fun h=>?_))))))))
     ·refine zyR 11 rfl (zyN (gM rfl (zyG (zyR 1 rfl (zyN (zaz (cD (bP (bP (cD (bP ?_)))))))))))
      cases h
      exact cZ 2 iy
     refine zab zdh rfl dc rfl (show _=0 from rfl) (zat (k:=1) eP rfl dc rfl rfl rfl (zaR rfl zbi (zyR 2 rfl (zyS (s:=45) rfl h (fun h=>?_) (fun h=>?_)))))
     ·refine zyR 6 rfl (zyN (gM rfl (zyG (zyR 1 rfl (zyN (zaz (cD (bP (bP (cD (bP ?_)))))))))))
      cases h
      exact cZ 2 iy
     refine zab zdh rfl dc rfl (show _=0 from rfl) (zat (k:=1) eP rfl dc rfl rfl rfl (zbl h fun C l h=>zaI (v:=.bool C) (vs:=[.int .i32 q1.Rune]) rfl dc rfl rfl rfl xA (yn l) (jU rfl dc rfl jV (zyR 2 rfl (zyN (zyB rfl h (fun h=>?_) (fun h=>?_)))))))
     ·refine zyG (zyR 1 rfl (zyN (zaz (cD (bP (bP (cD (bP ?_))))))))
      cases h
      exact cZ 2 iy
     exact bA (ca (mD () h 1))
    rintro _ h
    rw[u] at h
    refine bV (zbt h fun y h=>zaR rfl (dE (r:=c+1) (ai _ y)) (zyR 1 rfl (bG ?_)))
    subst a
    exact aD (e,c+1) h 1
   exact dF (bU (bU (dG (cH () h rfl (bE rfl) ah))))
 rintro _ h
 rw[w] at h
 refine zyG (zyR 2 rfl (zyN (zaz ?_)))
 cases h
 exact cZ 2 iy
def zhj (g:(List ae)→Option db) (c:(List ae)→Int→Option db) (a:List ae) (r3:Int):Option db := aM (decide ((r3:Int)<1280)) (cn (fun (b:(List ae)→Option db)=>aU (fl r3) <|aM (nZ r3) (aT (wg r3) fun (e:(List Int))=>aM (((e.length:Int):Int)==1) (aT (sA (ac r3)) fun (d:ae)=>aM (decide (d=ac r3)) (aU (a.length+1≤2147483648) <|b (a++[ac r3])) (b a)) (b a)) (b a)) (fun (f:List ae)=>aU (fl (r3+1)) <|c f (r3+1))) (g a)
def wW  : Option db := cn (fun (a:(List ae)→Option db)=>zaC (fun _ _=>none) (zhj a) zbC ([]:List ae) 1) (fun (o1:List ae)=>some (⟨o1,([]:List (ae×List ae)),([]:List ae),([]:List ae)⟩:db))
theorem T9  {r:db} (h:wW=some r):Fn prog 25 [] [] (fun b:Nat×Hd×Hd×Hd×Hd=>zP b.1) (fun b=>[cells b.1 [b.2.1.v,.map (some (bm b.2.2.1)),b.2.2.2.1.v,b.2.2.2.2.v] 39,bD b.2.1.v r.Units,dU (bm b.2.2.1) r.Fors,bD b.2.2.2.1.v r.Skips,bD b.2.2.2.2.v r.Lines]):=by
 unfold wW at h
 refine Fn.intro func25 rfl ntmps25 (by simp) (fun w0 K=>zbp h fun m t h=>zaM (β:=(List ae)×Nat×Hd×Nat) 2 rfl (fun b=>m b.1=some r) (fun b=>[]) (fun b=>[(1,zP b.2.1)]) (fun b=>[cells b.2.1 [b.2.2.1.v,.map (some b.2.2.2),.slice none 0 0,.slice none 0 0] 39,bD b.2.2.1.v b.1,dU b.2.2.2 ([]:List (ae×List ae))]) (fun cut=>?_) ?_)
 ·refine zyG (zyR 1 rfl (zyH (vz (fun s:ae=>af s) pr rfl dc (fun c=>qX (As:=[cG (fun s:ae=>af s) pr c []]) (cj 1) (GA (b:=c)) (fun _ _=>zbb (v:=.agg #[.slice none 0 0,.map (some c),.slice none 0 0,.slice none 0 0]) (ps:=[(1,.tmp 3)]) rfl dc rfl (fun _=>by kernel_rfl) (zeV rfl dc rfl (fun j=>zyR 1 rfl (zyN (cut (zyG (zyR 1 rfl (zyN (zau (mU (enc:=gN) (e:=9) (size:=1) (eO (β:=Nat×(List ae)×Int×Hd) (fun b=>zaC (fun _ _=>none) (zhj m) b.1 b.2.1 b.2.2.1=some r) (fun b=>[]) (fun b=>[(1,zP j),(2,.int .i32 b.2.2.1)]) (fun b=>[cells j [b.2.2.2.v,.map (some c),.slice none 0 0,.slice none 0 0] 39,bD b.2.2.2.v b.2.1,dU c ([]:List (ae×List ae))]) (fun b=>b.1) (zbC,([]:List ae),1,eu) h rfl (bE rfl) (cg [2,3,1] kr rfl) ?_)))))))))))))))
  rintro⟨l,f,r3,a⟩ h
  cases l with
  |zero=>exact eG h
  |succ l=>
   obtain⟨F,d⟩:∃ag,ag=zaC (fun _ _=>none) (zhj m) l:=⟨_,rfl⟩
   have h:zhj m F f r3=some r:=by rw[d];exact h
   unfold zhj at h
   refine zaL (zyG (zyR 1 rfl (zaR rfl zbi (zyN (zyB rfl h (fun h=>?_) (fun h=>?_))))))
   ·refine bA (ct (zbp h fun I q h=>zaM (β:=(List ae)×Hd) 0 rfl (fun b=>I b.1=some r) (fun b=>[]) (fun b=>[(1,zP j),(2,.int .i32 r3)]) (fun b=>[cells j [b.2.v,.map (some c),.slice none 0 0,.slice none 0 0] 39,bD b.2.v b.1,dU c ([]:List (ae×List ae))]) (fun cut=>?_) ?_))
    ·refine cut (zau (zyG (zyR 1 rfl (zbt h fun g h=>zaI (v:=.bool (nZ r3)) (vs:=[.int .i32 r3]) rfl dc rfl rfl rfl G6 (mw fun w=>vS r3 w g.1 g.2) (zyR 1 rfl (zyS (s:=12) rfl h (fun h=>?_) (fun h=>?_)))))))
     ·refine zyR 1 rfl (zbl h fun O o h=>zbJ (vs:=[.int .i32 r3]) rfl dc rfl rfl rfl CL (H2 o) ah (fun v1=>iq (k:=3) rfl (fun J C=>?_)))
      subst C
      refine gK (k:=3) rfl dc rfl rfl underlying103 (zaR rfl zbe (zyR 2 rfl (zyS (s:=18) rfl h (fun h=>?_) (fun h=>?_))))
      ·refine zyR 1 rfl (zdi rfl dc rfl (lJ aZ al) (zbl h fun G n h=>zaI (v:=.string G) (vs:=[.string (ac r3)]) rfl dc rfl rfl rfl An (AM n) (zyR 1 rfl (zdi rfl dc rfl (lJ aZ al) (zaR rfl zdn (zyR 1 rfl (zyN (zyB rfl h (fun h=>?_) (fun h=>?_)))))))))
       ·refine bV (zyR 2 rfl (za8 rfl dc rfl (zab uf rfl dc rfl (show _=0 from rfl) (zat (k:=0) nK rfl dc rfl rfl rfl (zyR 1 rfl (zdi rfl dc rfl (lJ aZ al) (fE (cs:=[.string (ac r3)]) (te:=9) (ps:=[(0,.tmp 32)]) rfl dc rfl (fun _=>by kernel_rfl) (fun P=>zbt h fun y h=>iC (k:=1) (k2:=4) (ys:=[ac r3]) aG oq gj oG rfl dc rfl rfl rfl rfl rfl rfl y (fun N=>iq (k:=1) rfl (fun i z=>?_))))))))))
        subst z
        exact za8 rfl dc rfl (zab uf rfl dc rfl (show _=0 from rfl) (ef (k:=0) (l':=[i.v,.map (some c),.slice none 0 0,.slice none 0 0]) se rfl rfl rfl rfl rfl (fun _ _=>rfl) rfl (bG (ca (mD (f++[ac r3],i) h 3)))))
       exact bA (ca (mD (f,a) h 3))
      exact zyR 7 rfl (zyN (eh rfl (bA (ca (mD (f,a) h 3)))))
     exact zyR 13 rfl (bG (ct (eh rfl (bA (ca (mD (f,a) h 3))))))
    rintro⟨H,D⟩ h
    rw[q] at h
    refine bV (zyR 1 rfl (zbt h fun u h=>zaR rfl (dE (r:=r3+1) (IntWalk.i32_in _ u)) (zyR 1 rfl (bG ?_))))
    subst d
    exact aD (l,H,r3+1,D) h 3
   exact dF (bU (bU (dG (mD (f,j,a,c) h 3))))
 rintro⟨o1,b1,E,M⟩ h
 rw[t] at h
 refine zyG (zyR 2 rfl (zyN (zaz (xe (enc:=gN) (e:=9) (size:=1) (xe (enc:=gN) (e:=9) (size:=1) ?_)))))
 cases h
 exact eB (rs:=[.tmp 0]) (b1,E,(⟨some ⟨M,0,none⟩,0,0⟩:Hd),eu,eu) (.inl rfl) results25 (.cons (.tmp rfl) .nil) rfl (cj 5)
def zdf (o1:db) (u1:ae) (c:Option Int) (b:Int→Option Int) (a:Int):Option Int := aM (decide ((a:Int)<(o1.Units.length:Int))) (aT (zcx o1.Units a) fun (q1:ae)=>aM (decide (q1=u1)) (some a) (aU (cp (a+1)) <|b (a+1))) (c)
def rH (o1:db) (u1:ae):Option Int := cn (fun (a:Option Int)=>zaC (fun _=>none) (zdf o1 u1 a) zbC 0) (some (-1))
theorem zj {_g:Nat} {o1:db} {_f _a _c _d:Hd} {u1:ae} {r:Int} (h:rH o1 u1=some r):iu prog 62 [zP _g,.string u1] [cells _g [_f.v,.map (some (bm _a)),_c.v,_d.v] 39,bD _f.v o1.Units,dU (bm _a) o1.Fors,bD _c.v o1.Skips,bD _d.v o1.Lines] [] (fun _:Unit=>(zI r)) (fun _=>[]):=by
 unfold rH at h
 refine iu.intro func62 rfl ntmps62 (by simp) (fun w0 K a=>zbp h fun g k h=>zaM (β:=Unit) 1 rfl (fun b=>g=some r) (fun b=>[]) (fun b=>[]) (fun b=>[]) (fun cut=>?_) ?_)
 ·refine zyG (zyR 1 rfl (zyN (cut (zyG (zyR 1 rfl (za8 rfl dc rfl (zab uf rfl dc rfl (show _=0 from rfl) (zd3 (i:=0) a rfl nK rfl dc rfl rfl (zbV (a.vw (i:=1) rfl) rfl dc rfl aG (zyR 1 rfl (zyN (zau (eO (β:=Nat×Int) (fun b=>zaC (fun _=>none) (zdf o1 u1 g) b.1 b.2=some r) (fun b=>[]) (fun b=>[(1,.string u1),(10,_f.v),(11,zI (o1.Units.length:Int)),(12,zI b.2)]) (fun b=>[]) (fun b=>b.1) (zbC,0) h rfl (bE rfl) ah ?_)))))))))))))
  rintro⟨f,e⟩ h
  cases f with
  |zero=>exact eG h
  |succ f=>
   obtain⟨m,c⟩:∃ag,ag=zaC (fun _=>none) (zdf o1 u1 g) f:=⟨_,rfl⟩
   have h:zdf o1 u1 g m e=some r:=by rw[c];exact h
   unfold zdf at h
   refine zyG (zaR rfl zbi (zyN (zaL (zyB rfl h (fun h=>?_) (fun h=>?_)))))
   ·refine bA (ct (zaL (zau (zyG (zyR 1 rfl (zbl h fun q1 d h=>fm (a.vw (i:=1) rfl) d aG gG rfl dc rfl rfl rfl (zY (n:=0+(e:Int).toNat) (j:=0) (i:=1) (q:=q1) a rfl eb gj rfl dc rfl (bX (a.vw (i:=1) rfl) d) rfl dc rfl (zyR 2 rfl (zyH (zyR 2 rfl (zaR rfl zdn (zyN (zyB rfl h (fun h=>?_) (fun h=>?_))))))))))))))
    ·refine zyG (zyR 2 rfl (zyN (zaz (cD (bP (bP (cD (bP ?_))))))))
     cases h
     exact cZ 4 results62
    refine bA (ca (ct (bV (zbt h fun l h=>zaR rfl (dE (r:=e+1) (ai _ l)) (zyR 1 rfl (bG ?_))))))
    subst c
    exact ni (f,e+1) h (cq _) rfl (bE rfl) ah
   exact dF (bU (bU (dG (cH () h rfl (qo) ah))))
 rintro _ h
 rw[k] at h
 refine zyG (zyR 1 rfl (zyN (zaz ?_)))
 cases h
 exact cZ 4 results62
def uT (o1:db) (u1:ae):Option Bool := aM ((zbO u1 o1.Fors).isSome) (some true) (aT (rH o1 u1) fun (r1:Int)=>some (decide ((0:Int)≤r1)))
theorem KW {_g:Nat} {o1:db} {_f _a _c _d:Hd} {u1:ae} {r:Bool} (h:uT o1 u1=some r):iu prog 61 [zP _g,.string u1] [cells _g [_f.v,.map (some (bm _a)),_c.v,_d.v] 39,bD _f.v o1.Units,dU (bm _a) o1.Fors,bD _c.v o1.Skips,bD _d.v o1.Lines] [] (fun _:Unit=>(.bool r)) (fun _=>[]):=by
 unfold uT at h
 refine iu.intro func61 rfl ntmps61 (by simp) (fun w0 K a=>zyG (zyR 1 rfl (zyH (zyR 1 rfl (za8 rfl dc rfl (zab zut rfl dc rfl (show _=1 from rfl) (zd3 (i:=0) a rfl vC rfl dc rfl rfl (zyR 1 rfl (GC (i:=2) (kk:=u1) al underlying37 kr rfl dc rfl rfl a rfl (fun d c=>zyR 1 rfl (eT rfl dc rfl rfl (eT rfl dc rfl rfl (zyR 2 rfl (zyH (zyR 2 rfl (zyS (s:=17) rfl h (fun h=>?_) (fun h=>?_)))))))))))))))))
 ·refine zyR 6 rfl (zyN (zaz ?_))
  cases h
  exact cZ 4 results61
 refine zyR 2 rfl (zbl h fun r1 b h=>kZ (v:=zI r1) (vs:=[zP _g,.string u1]) a rfl dc rfl rfl rfl xy (zj (_g:=_g) (o1:=o1) (_f:=_f) (_a:=_a) (_c:=_c) (_d:=_d) b) (.ro 0 rfl (.ro 1 rfl (.ro 2 rfl (.ro 3 rfl (.ro 4 rfl .nil))))) (zaR rfl zbF (zyR 2 rfl (zyN (zaz ?_)))))
 cases h
 exact cZ 4 results61
def ze3 (e:ae) (b:Int) (d:Int→Option (List gI)) (c:Int→Option (List gI)) (a:Int):Option (List gI) := aM (decide ((a:Int)<b)) (aT (jz e a) fun (f:Int)=>aM ((f:Int) != 32) (aU (cp (a+1)) <|c (a+1)) (d a)) (d a)
def ze4 (d:ae) (b:Int) (g:(List gI)→Option (List gI)) (c:(List gI)→Int→Option (List gI)) (e:List gI) (a:Int):Option (List gI) := aM (decide ((a:Int)<b)) (aT (jz d a) fun (c1:Int)=>aM ((c1:Int)==32) (aU (cp (a+1)) <|c e (a+1)) (cn (fun (f:Int→Option (List gI))=>zaC (fun _=>none) (ze3 d b f) zbC a) (fun (k1:Int)=>aU (0≤(a:Int)∧(a:Int)≤k1∧(k1:Int)≤(d.size:Int)) <|aU (e.length+1≤2147483648) <|c (e++[(⟨a,cL d a k1⟩:gI)]) k1))) (g e)
def zk (d:ae) (a:Int) (b:Int):Option (List gI) := cn (fun (e:(List gI)→Option (List gI))=>zaC (fun _ _=>none) (ze4 d b e) zbC ([]:List gI) a) (fun (c:List gI)=>aU (c.length+1≤2147483648) <|some (c++[(⟨b,(⟨#[]⟩:ae)⟩:gI)]))
theorem Ua {c:ae} {f:Int} {a:Int} {r:(List gI)} (h:zk c f a=some r):Fn prog 26 [.string c,zI f,zI a] [] (fun v0:Value=>v0) (fun v0=>[ur v0 r]):=by
 unfold zk at h
 refine Fn.intro func26 rfl ntmps26 (by simp) (fun w0 K=>zbp h fun w D h=>zaM (β:=(List gI)×Value) 2 rfl (fun b=>w b.1=some r) (fun b=>[]) (fun b=>[(2,zI a),(7,b.2)]) (fun b=>[ur b.2 b.1]) (fun cut=>?_) ?_)
 ·refine zyG (zyR 1 rfl (zyH (zyR 1 rfl (zyN (cut (zyG (zyR 1 rfl (zyR 1 rfl (zyN (zau (mU (enc:=vO) (e:=106) (size:=2) (eO (β:=Nat×(List gI)×Int×Value) (fun b=>zaC (fun _ _=>none) (ze4 c a w) b.1 b.2.1 b.2.2.1=some r) (fun b=>[]) (fun b=>[(0,.string c),(2,zI a),(7,b.2.2.2),(8,zI b.2.2.1)]) (fun b=>[ur b.2.2.2 b.2.1]) (fun b=>b.1) (zbC,([]:List gI),f,(.slice none 0 0)) h rfl (bE rfl) (cj 1) ?_))))))))))))
  rintro⟨o,n,d,m⟩ h
  cases o with
  |zero=>exact eG h
  |succ o=>
   obtain⟨M,g⟩:∃ag,ag=zaC (fun _ _=>none) (ze4 c a w) o:=⟨_,rfl⟩
   have h:ze4 c a w M n d=some r:=by rw[g];exact h
   unfold ze4 at h
   refine zaL (zyG (zyR 2 rfl (zaR rfl zbi (zyN (zyB rfl h (fun h=>?_) (fun h=>?_))))))
   ·refine bA (ct (zau (zaL (zyG (zyR 2 rfl (zbl h fun c1 z h=>mS rfl dc rfl rfl (oY al z) (zaR rfl zbe (zyN (zyB rfl h (fun h=>?_) (fun h=>?_))))))))))
    ·refine zyG (zyR 1 rfl (zbt h fun I h=>zaR rfl (dE (r:=d+1) (ai _ I)) (zyR 1 rfl (zyN (dF (bU (dG ?_)))))))
     subst g
     exact aD (o,n,d+1,m) h 1
    refine bA (ct (zbp h fun u C h=>zaM (β:=Int) 1 rfl (fun b=>u b=some r) (fun b=>[]) (fun b=>[(0,.string c),(2,zI a),(7,m),(8,zI d),(9,zI b)]) (fun b=>[ur m n]) (fun cut=>?_) ?_))
    ·refine zyG (zyR 2 rfl (zyN (cut (zau (eO (β:=Nat×Int) (fun b=>zaC (fun _=>none) (ze3 c a u) b.1 b.2=some r) (fun b=>[]) (fun b=>[(0,.string c),(2,zI a),(7,m),(8,zI d),(9,zI b.2)]) (fun b=>[ur m n]) (fun b=>b.1) (zbC,d) h rfl (bE rfl) (cj 1) ?_)))))
     rintro⟨t,q⟩ h
     cases t with
     |zero=>exact eG h
     |succ t=>
      obtain⟨J,l⟩:∃ag,ag=zaC (fun _=>none) (ze3 c a u) t:=⟨_,rfl⟩
      have h:ze3 c a u J q=some r:=by rw[l];exact h
      unfold ze3 at h
      refine zaL (zyG (zyR 2 rfl (zaR rfl zbi (zyR 1 rfl (zyS (s:=24) rfl h (fun h=>?_) (fun h=>?_))))))
      ·refine zyR 2 rfl (zbl h fun Q y h=>mS rfl dc rfl rfl (oY al y) (zaR rfl zf8 (zyR 1 rfl (zyN (zyB rfl h (fun h=>?_) (fun h=>?_))))))
       ·refine bA (ct (zau (bV (zyR 1 rfl (zbt h fun H h=>zaR rfl (dE (r:=q+1) (ai _ H)) (zyR 1 rfl (bG (ca ?_))))))))
        subst l
        exact aD (t,q+1) h 1
       exact dF (bU (bU (dG (mD q h 1))))
      exact zyR 5 rfl (zyN (eh rfl (dF (bU (bU (dG (mD q h 1)))))))
    rintro k1 h
    rw[C] at h
    refine zyG (zyR 5 rfl (zbt h fun G h=>ia rfl dc rfl rfl rfl (ka (i:=d) (j:=k1) al (.inr rfl) (.inr rfl) G) (zbb (v:=.agg #[zI d,.string (cL c d k1)]) (ps:=[(0,.tmp 33),(1,.tmp 37)]) rfl dc rfl (fun _=>by kernel_rfl) (fE (cs:=[zI d,.string (cL c d k1)]) (te:=106) (ps:=[(0,.tmp 38)]) rfl dc rfl (fun _=>by kernel_rfl) (fun b1=>zbt h fun F h=>iC (k:=0) (k2:=1) (ys:=[(⟨d,cL c d k1⟩:gI)]) underlying58 GJ CW Hu rfl dc rfl rfl rfl rfl rfl rfl F (fun O=>zyR 1 rfl (zyN (bV (zyR 2 rfl (bG (ca ?_)))))))))))
    subst g
    exact aD (o,n++[(⟨d,cL c d k1⟩:gI)],k1,O) h 1
   exact dF (bU (bU (dG (mD (n,m) h 1))))
 rintro⟨P,v1⟩ h
 rw[D] at h
 refine zyG (zyR 2 rfl (zbb (v:=.agg #[zI a,.string (⟨#[]⟩:ae)]) (ps:=[(0,.tmp 43),(1,.const (.string (⟨#[]⟩:ae)))]) rfl dc rfl (fun _=>by kernel_rfl) (fE (cs:=[zI a,.string (⟨#[]⟩:ae)]) (te:=106) (ps:=[(0,.tmp 44)]) rfl dc rfl (fun _=>by kernel_rfl) (fun S=>zbt h fun E h=>iC (k:=0) (k2:=1) (ys:=[(⟨a,(⟨#[]⟩:ae)⟩:gI)]) underlying58 GJ CW Hu rfl dc rfl rfl rfl rfl rfl rfl E (fun N=>zyR 1 rfl (zyN (zaz ?_)))))))
 cases h
 exact eB (rs:=[.tmp 6]) N (.inl rfl) results26 (.cons (.tmp rfl) .nil) rfl (cj 1)
def tkI (x:bc):Tk:=(x.Rune,x.Text)
theorem wX (s:ae):(fQ s).map tkI=(dK s.data.toList).map tkT:=by
 have h:=aH (lG tkI) (IW s)
 rw[bY,bY] at h
 have e1:(fQ s).map (tkI ∘ jB)=(fQ s).map tkI:=dt fun x _=>rfl
 have e2:(dK s.data.toList).map (tkI ∘ zgb)=(dK s.data.toList).map tkT:=dt fun t _=>rfl
 rw[e1,e2] at h
 exact h
theorem BG (r:Int) (h:fl r):rq r=some (cW r):=by
 unfold rq
 refine zdG h ?_
 cases hg:great r with
 |true=>exact bQ rfl (by unfold cW;rw[hg];rfl)
 |false=>exact bM rfl (zdG h (by unfold cW;rw[hg];rfl))
theorem zl (r:Int):qF r=some (eE r):=by
 unfold qF eE
 by_cases h1:768≤r
 ·exact bQ (au h1) (aH some (by simp[h1]))
 ·exact bM (aj h1) (aH some (by simp[h1]))
structure nw (x:bc):Prop where
 i32:fl x.Rune
 sz:x.Text.size≤4
 en:0≤x.Rune→x.Text=ac x.Rune
 ne:0<x.Text.size
theorem zm (s:ae):∀x∈fQ s,nw x:=by
 intro x hx
 have hm:tkI x∈(dK s.data.toList).map tkT:=by rw[←wX];exact aS.2 ⟨x,hx,rfl⟩
 obtain⟨t,ht,e⟩:=aS.1 hm
 have a:=nX _ t ht
 have e1:(tkT t).1=x.Rune:=aH bv e
 have e2:(tkT t).2=x.Text:=aH ew e
 have hsz:=sM a
 have c:(tkT t).2.size=t.bs.length:=by rw[gJ];show t.bs.toArray.toList.length=_;simp
 have b:=cU.2 (Az a)
 refine⟨?_,by rw[←e2,c];exact hsz,fun h=>by rw[←e1] at h ⊢;rw[←e2];exact TM a h,by rw[←e2,c];exact b⟩
 rw[←e1]
 unfold tkT
 have:=nt a
 unfold fl at this ⊢
 split
 ·exact⟨by show (-2147483648:Int)≤-1;decide,by show (-1:Int)≤2147483647;decide⟩
 ·exact this
theorem EX (s:ae):(fQ s).length≤s.size:=by
 have:=aH fu (wX s)
 rw[ar,ar] at this
 have:=qc s
 omega
theorem EY {r:Int} (h:cW r=true):0≤r:=(mF r h).1
theorem Ub (s:ae) (c:s.size≤65536):zh s=some (jm s):=by
 unfold zh
 have j:=EX (fY s)
 have h2:=(sJ s c).2.1
 refine cA (bf (I5 s c) (bf (wt (fY s) (by omega)) ?_))
 have:=qE (xs:=fQ (fY s)) (F:=ze5 some (fQ (fY s))) (bot:=fun _ _=>none) (f:=fun b x=>b++(gW (tkI x)).2) (J:=some) (fun k b=>b.size≤4*k) (fun ag k x a hx hb=>by
   have hk:=(az.1 hx).1
   have ok:=zm _ x (aL hx)
   have i:=ok.sz
   unfold ze5
   refine bQ (mE hx) (cA (bf (lX hx) ?_))
   have other:cW x.Rune=false→(gW (tkI x)).2=x.Text:=fun h=>by rw[TU (show dY (tkI x)=false from h)];rfl
   by_cases h0:0≤x.Rune
   ·refine bQ (au h0) (bf (BG _ ok.i32) ?_)
    cases hL:cW x.Rune with
    |true=>
     have m:=mh (cr x.Rune)
     have e:(gW (tkI x)).2=ac (cr x.Rune):=by unfold gW;rw[show dY (tkI x)=true from hL];rfl
     rw[e]
     exact bQ rfl (zdG ok.i32 (bf (AL _ (IP _ hL)) (gO (zdG (jt (by omega)) rfl))))
    |false=>
     rw[other hL]
     exact bM rfl (gO (zdG (jt (by omega)) rfl))
   ·have hL:cW x.Rune=false:=by
     cases h:cW x.Rune with
     |false=>rfl
     |true=>exact absurd (EY h) h0
    rw[other hL]
    exact bM (aj h0) (gO (zdG (jt (by omega)) rfl))) (fun k x a hx hb=>by
   have ok:=zm _ x (aL hx)
   have i:(gW (tkI x)).2.size≤4:=Bp ok.sz
   rw[aJ];omega) (fun ag a _=>by unfold ze5;exact bM me rfl) (n:=zbC) (kF (by omega)) (a:=(⟨#[]⟩:ae)) (cm _)
 refine this.trans ?_
 have key:∀ (l:List bc) (b:ae),l.foldl (fun b x=>b++(gW (tkI x)).2) b=b++im ((l.map tkI).map gW):=by
  intro l
  induction l with
  |nil=>intro b;show b=b++ad;rw[aX]
  |cons x l d=>
   intro b
   have g:im (((x::l).map tkI).map gW)=(gW (tkI x)).2++im ((l.map tkI).map gW):=by unfold im;rw[av,av,iN]
   rw[bn,d,g,cu]
 rw[key,wX]
 show some (ad++jm s)=_
 rw[c8]
theorem Uc (l:List bc) (e:∀x∈l,nw x) (r:ae):∀ (n:Nat) (B A:List bc),l=A++B→B.length<n→l.length≤8 →
  zaC (fun _=>none) (zdZ l (some r)) n (A.length:Int)=some (if nb A.length (B.map tkI) then r else ⟨#[]⟩):=by
 intro n
 induction n with
 |zero=>intro B A _ h;omega
 |succ n j=>
  intro B A c k o
  rw[fX]
  generalize f:zaC (fun _=>none) (zdZ l (some r)) n=ag
  unfold zdZ
  have a:l.length=A.length+B.length:=by rw[c,aa]
  cases B with
  |nil=>exact bM (aj (by rw[a];simp)) rfl
  |cons x B=>
   have ok:=e x (by rw[c];simp)
   have hx:l[A.length]?=some x:=by rw[c];simp
   have d:=j B (A++[x]) (by rw[c,aB];rfl) (by rw[ab] at k;omega) o
   rw[f,show (A++[x]).length=A.length+1 by simp] at d
   push_cast at d
   rw[ab] at a
   have g:(aU (cp ((A.length:Int)+1))<|ag ((A.length:Int)+1))=some (if nb (A.length+1) (B.map tkI) then r else ⟨#[]⟩):=gO d
   refine eW (cA (bf (gw hx) ?_))
   rw[av,nb,au (show A.length+1≤8 by omega),fB]
   have s:dY (tkI x)=cW x.Rune:=rfl
   have q:iE (tkI x)=eE x.Rune:=rfl
   rw[s,q]
   have b:cW x.Rune=false→0≤x.Rune→(aM (((A.length:Int):Int)==0) (some (⟨#[]⟩:ae)) (aM (decide ((x.Rune:Int)<0)) (some (⟨#[]⟩:ae)) (aT (qF x.Rune) fun (i:Bool)=>aM (!i) (some (⟨#[]⟩:ae)) (aU (cp ((A.length:Int)+1))<|ag ((A.length:Int)+1))))) =
     some (if (cW x.Rune||(decide (A.length≠0)&&eE x.Rune))&&nb (A.length+1) (B.map tkI) then r else ⟨#[]⟩):=fun hL h0=>by
    rw[hL,dk]
    by_cases hA:A.length=0
    ·rw[hA]
     exact bQ rfl rfl
    ·rw[au (show A.length≠0 from hA),fB]
     refine bM (aA.2 (by omega)) (fP (bf (zl _) ?_))
     cases eE x.Rune with
     |true=>exact bM rfl (by rw[fB];exact g)
     |false=>exact bQ rfl rfl
   by_cases h0:0≤x.Rune
   ·refine bQ (au h0) (bf (BG _ ok.i32) ?_)
    cases hL:cW x.Rune with
    |true=>
     refine bM rfl ?_
     rw[pj,fB];exact g
    |false=>
     have:=b hL h0
     rw[hL] at this
     exact bQ rfl this
   ·have hL:cW x.Rune=false:=by
     cases h:cW x.Rune with
     |false=>rfl
     |true=>exact absurd (EY h) h0
    have m:eE x.Rune=false:=by unfold eE;exact aj (by omega)
    rw[hL,m,dk,Bool.and_false,Bool.false_and]
    refine bM (aj h0) ?_
    by_cases hA:A.length=0
    ·exact bQ (by rw[hA];rfl) rfl
    ·exact bM (aA.2 (by omega)) (eW rfl)
theorem Ud:∀ (l:List Tk) (k:Nat),k≤8→8<k+l.length→nb k l=false:=by
 intro l k hk h
 cases e:nb k l with
 |false=>rfl
 |true=>have:=Bt l k hk e;omega
theorem Ue (s:ae) (b:s.size≤65536):zi s=some (zfV s):=by
 have d:fY (jm s)=jm s:=EL s b
 have a:(fQ (jm s)).map tkI=(fR s).map gW:=by
  rw[wX,EK s b]
  unfold fR
  rw[bY,bY]
  exact dt fun t _=>Bo t
 have c:(fQ (jm s)).length=(fR s).length:=by
  have:=aH fu a
  rw[ar,ar] at this;exact this
 have h5:(fR s).length≤786432:=by
  have h1:=qc (fY s)
  have h2:=(sJ s b).2.1
  unfold fR mI
  rw[ar];omega
 have hsz:(jm s).size≤4000000:=by
  have:(jm s).size≤4*((fR s).map gW).length:=wQ fun y hy=>by
   obtain⟨x,hx,rfl⟩:=aS.1 hy
   exact Bp (KA s x hx)
  rw[ar] at this;omega
 unfold zi zfV
 refine bf (Ub s b) (bf (wt (jm s) (by omega)) ?_)
 rw[←Bq,←a]
 by_cases h1:(fQ (jm s)).length=0
 ·refine eW ?_
  have e0:fR s=[]:=gu.1 (by omega)
  have:jm s=⟨#[]⟩:=by unfold jm;rw[e0];rfl
  rw[this,ite_self]
 ·refine fP ?_
  by_cases e:8<(fQ (jm s)).length
  ·rw[Ud _ 0 (by omega) (by rw[ar];omega)]
   exact eW rfl
  ·refine fP (cA ?_)
   exact Uc (fQ (jm s)) (zm _) (jm s) zbC (fQ (jm s)) [] (aW _).symm (by unfold zbC;omega) (by omega)
theorem zn (w:db) (u:ae) (i:w.Units.length≤1000000000):rH w u=some ((lq w.Units u).getD (-1)):=by
 unfold rH
 refine cA ?_
 have key:∀ (n:Nat) (B A:List ae),w.Units=A++B→B.length<n→zaC (fun _=>none) (zdf w u (some (-1))) n (A.length:Int)=some (((lq B u).map fun k=>(A.length:Int)+k).getD (-1)):=by
  intro n
  induction n with
  |zero=>intro B A _ h;omega
  |succ n f=>
   intro B A d g
   rw[fX]
   generalize e:zaC (fun _=>none) (zdf w u (some (-1))) n=ag
   unfold zdf
   have b:w.Units.length=A.length+B.length:=by rw[d,aa]
   cases B with
   |nil=>exact bM (aj (by rw[b];simp)) rfl
   |cons x B=>
    have hx:w.Units[A.length]?=some x:=by rw[d];simp
    have c:=f B (A++[x]) (by rw[d,aB];rfl) (by rw[ab] at g;omega)
    rw[e,show (A++[x]).length=A.length+1 by simp] at c
    push_cast at c
    rw[ab] at b
    refine eW (bf (gw hx) ?_)
    rw[lq]
    by_cases a:x=u
    ·rw[ax a.symm]
     refine bQ (au a) ?_
     show some (A.length:Int)=some ((A.length:Int)+0)
     rw[Int.add_zero]
    ·rw[ap (fun h=>a h.symm)]
     refine bM (aj a) (gO (c.trans ?_))
     cases lq B u with
     |none=>rfl
     |some k=>
      show some ((A.length:Int)+1+k)=some ((A.length:Int)+(k+1))
      congr 1;omega
 have:=key zbC w.Units [] rfl (by unfold zbC;omega)
 refine this.trans ?_
 cases lq w.Units u with
 |none=>rfl
 |some k=>show some ((0:Int)+k)=some k;rw[pU]
def zcH (c1:Int) (c:ae→Option ae) (b:ae→Option ae) (a:ae):Option ae := aM (decide ((0:Int)<(a.size:Int))) (aT (jz a 0) fun (d:Int)=>aM ((d:Int)==c1) (aU (0≤(1:Int)∧(1:Int)≤(a.size:Int)∧((a.size:Int):Int)≤(a.size:Int)) <|b (cL a 1 (a.size:Int))) (c a)) (c a)
def BH (b:ae) (c1:Int):Option ae := cn (fun (c:ae→Option ae)=>zaC (fun _=>none) (zcH c1 c) zbC b) (fun (a:ae)=>some a)
theorem Ug {f:ae} {c1:Int} {r:ae} (h:BH f c1=some r):dB prog 140 [.string f,.int .u8 c1] (.string r):=by
 unfold BH at h
 refine dB.intro func140 rfl ntmps140 (by simp) (fun w0 K=>zbp h fun e k h=>zaM (β:=ae) 1 rfl (fun b=>e b=some r) (fun b=>[]) (fun b=>[(0,.string b)]) (fun b=>[]) (fun cut=>?_) ?_)
 ·refine zyG (zyR 1 rfl (zyN (cut (zau (eO (β:=Nat×ae) (fun b=>zaC (fun _=>none) (zcH c1 e) b.1 b.2=some r) (fun b=>[]) (fun b=>[(0,.string b.2),(1,.int .u8 c1)]) (fun b=>[]) (fun b=>b.1) (zbC,f) h rfl (bE rfl) ah ?_)))))
  rintro⟨d,c⟩ h
  cases d with
  |zero=>exact eG h
  |succ d=>
   obtain⟨m,a⟩:∃ag,ag=zaC (fun _=>none) (zcH c1 e) d:=⟨_,rfl⟩
   have h:zcH c1 e m c=some r:=by rw[a];exact h
   unfold zcH at h
   refine zaL (zyG (zyR 1 rfl (zcX rfl dc rfl al (zaR rfl zdV (zyR 1 rfl (zyS (s:=8) rfl h (fun h=>?_) (fun h=>?_)))))))
   ·refine zyR 1 rfl (zbl h fun o g h=>mS rfl dc rfl rfl (oY al g) (zyR 1 rfl (zaR rfl zbe (zyR 1 rfl (zyN (zyB rfl h (fun h=>?_) (fun h=>?_)))))))
    ·refine bA (ct (zau (bV (zyR 1 rfl (zbt h fun l h=>ia rfl dc rfl rfl rfl (ka (i:=1) (j:=(c.size:Int)) al (.inr rfl) (.inl ⟨rfl,rfl⟩) l) (zyR 1 rfl (bG (ca ?_))))))))
     subst a
     exact ni (d,cL c 1 (c.size:Int)) h (cq _) rfl (bE rfl) ah
    exact dF (bU (bU (dG (cH c h rfl (bE rfl) ah))))
   exact zyR 5 rfl (zyN (eh rfl (dF (bU (bU (dG (cH c h rfl (bE rfl) ah)))))))
 rintro n h
 rw[k] at h
 refine zyG (zyR 2 rfl (zyN (zaz ?_)))
 cases h
 exact cZ 4 results140
def zo (a:ae):Option ae := aM (decide (a=(⟨#[]⟩:ae))) (some a) (aM (decide ((⟨#[48]⟩:ae)=(⟨#[]⟩:ae))) (some a) (cn (fun (b:Option ae)=>aM ((((⟨#[48]⟩:ae).size:Int):Int)==1) (aT (jz (⟨#[48]⟩:ae) 0) fun (c1:Int)=>aM (decide ((c1:Int)<128)) (aT (jz (⟨#[48]⟩:ae) 0) fun (c:Int)=>aT (BH a c) fun (r1:ae)=>some r1) (b)) (b)) (none)))
theorem Uh {a:ae} {r:ae} (h:zo a=some r):dB prog 103 [.string a,.string (⟨#[48]⟩:ae)] (.string r):=by
 unfold zo at h
 refine dB.intro func103 rfl ntmps103 (by simp) (fun w0 K=>zyG (zyR 1 rfl (zyN (zaL (zyG (zyR 1 rfl (zaR rfl zdn (zyR 1 rfl (zyS (s:=9) rfl h (fun h=>?_) (fun h=>?_))))))))))
 ·refine zyR 3 rfl (zyN (gM rfl (zyG (zyR 2 rfl (zyN (zaz (bP ?_)))))))
  cases h
  exact cZ 4 results103
 refine zyR 1 rfl (zaR rfl zdn (zyR 1 rfl (zyN (zyB rfl h (fun h=>?_) (fun h=>?_)))))
 ·refine zyG (zyR 2 rfl (zyN (zaz (bP ?_))))
  cases h
  exact cZ 4 results103
 refine bA (ct (zbp h fun g f h=>zaM (β:=Unit) 0 rfl (fun b=>g=some r) (fun b=>[]) (fun b=>[(0,.string a),(1,.string (⟨#[48]⟩:ae))]) (fun b=>[]) (fun cut=>?_) ?_))
 ·refine cut (zyG (zyR 1 rfl (zcX rfl dc rfl al (zaR rfl zbe (zyR 1 rfl (zyS (s:=17) rfl h (fun h=>?_) (fun h=>?_)))))))
  ·refine zyR 1 rfl (zbl h fun c1 e h=>mS rfl dc rfl rfl (oY al e) (zaR rfl zbi (zyR 1 rfl (zyN (zyB rfl h (fun h=>?_) (fun h=>?_))))))
   ·refine zyG (zyR 2 rfl (zbl h fun i d h=>mS rfl dc rfl rfl (oY al d) (zbl h fun r1 c h=>zaI (v:=.string r1) (vs:=[.string a,.int .u8 i]) rfl dc rfl rfl rfl Of (Ug c) (zyR 1 rfl (zyN (zaz (bP ?_)))))))
    cases h
    exact cZ 4 results103
   exact bA (cH () h rfl (bE rfl) ah)
  exact zyR 4 rfl (zyN (eh rfl (bA (cH () h rfl (bE rfl) ah))))
 rintro _ h
 rw[f] at h
 exact zaL (zaL (eG h))
def sQ (a:List bK) (k1:Int):Option Bool := aM (decide ((k1:Int)<(a.length:Int))) (aT (zcx a k1) fun (q1:bK)=>aM (decide ((0:Int)≤q1.Rune)) (aT (rq q1.Rune) fun (r1:Bool)=>some r1) (some false)) (some false)
theorem EZ {d e:Value} {g:List bK} {b:Nat} {l:List bK} (a:Vw d g 3 b e l) {k1:Int} {r:Bool} (h:sQ l k1=some r):iu prog 139 [e,zI k1] [iX oL 3 d b g] [] (fun _:Unit=>(.bool r)) (fun _=>[]):=by
 unfold sQ at h
 refine iu.intro func139 rfl ntmps139 (by simp) (fun w0 K f=>zyG (zyR 1 rfl (zyH (zyR 2 rfl (zbV a rfl dc rfl aF (zaR rfl zbi (zyR 1 rfl (zyS (s:=9) rfl h (fun h=>?_) (fun h=>?_)))))))))
 ·refine zyR 2 rfl (zbl h fun q1 c h=>fm a c aF gH rfl dc rfl rfl rfl (zab zdh rfl dc rfl (show _=(b+(k1:Int).toNat)*3 from rfl) (jr (n:=b+(k1:Int).toNat) (j:=0) (i:=0) (q:=q1) f rfl (by omega) eP rfl dc rfl (bX a c) rfl rfl (zaR rfl zbF (zyR 2 rfl (zyS (s:=17) rfl h (fun h=>?_) (fun h=>?_)))))))
  ·refine zyR 2 rfl (fm a c aF gH rfl dc rfl rfl rfl (zab zdh rfl dc rfl (show _=(b+(k1:Int).toNat)*3 from rfl) (jr (n:=b+(k1:Int).toNat) (j:=0) (i:=0) (q:=q1) f rfl (by omega) eP rfl dc rfl (bX a c) rfl rfl (zbl h fun r1 k h=>zaI (v:=.bool r1) (vs:=[.int .i32 q1.Rune]) rfl dc rfl rfl rfl xz (ym k) (zyR 2 rfl (zyN (zaz ?_)))))))
   cases h
   exact cZ 4 results139
  refine zyR 8 rfl (zyN (zaz ?_))
  cases h
  exact cZ 4 results139
 refine zyR 14 rfl (zyR 2 rfl (zyN (zaz ?_)))
 cases h
 exact cZ 4 results139
def zcL (c:List bK) (d:Int→Option Int) (b:Int→Option Int) (a:Int):Option Int := aM (decide ((a:Int)<(c.length:Int))) (aT (sQ c a) fun (r1:Bool)=>aM (!r1) (aU (cp (a+1)) <|b (a+1)) (d a)) (d a)
def zbP (c:List bK) (f:Int) (b:Int→Option Int) (d:Int→Option Int) (a:Int):Option Int := cn (fun (e:Option Int)=>aT (sQ c a) fun (r2:Bool)=>aM (r2) (e) (aM (decide ((a:Int)<(c.length:Int))) (aM (decide ((f:Int)<a)) (aT (zcx c a) fun (q1:bK)=>aM (decide ((0:Int)≤q1.Rune)) (aT (qF q1.Rune) fun (r3:Bool)=>aM (r3) (e) (b a)) (b a)) (b a)) (b a))) (aU (cp (a+1)) <|d (a+1))
def zcK (c:List bK) (k1:Int) (g:Option Int) (d:Int→Option Int) (b:Int):Option Int := aM (decide ((b:Int)<(c.length:Int))) (cn (fun (e:Int→Bool→Bool→Bool→Option Int)=>aT (sQ c b) fun (f:Bool)=>aM (f) (some k1) (aT (zcx c b) fun (a:bK)=>aM (decide ((48:Int)≤a.Rune)) (aM (decide ((a.Rune:Int)≤57)) (some k1) (e a.Rune (decide ((48:Int)≤a.Rune)) true (decide ((a.Rune:Int)≤57)))) (e a.Rune (decide ((48:Int)≤a.Rune)) false false))) (fun (k:Int) (j:Bool) (i:Bool) (h:Bool)=>aU (cp (b+1)) <|d (b+1))) (g)
def zc6 (o1:db) (e:List bK) (k1:Int) (f:Option Int) (d:ae) (c:Int→Option Int) (a:Int):Option Int := aM (decide ((a:Int)<(o1.Skips.length:Int))) (cn (fun (b:Option Int)=>aT (zcx o1.Skips a) fun (q2:ae)=>aM (!decide (q2=d)) (b) (aM (decide (d=(⟨#[]⟩:ae))) (b) (zaC (fun _=>none) (zcK e k1 b) zbC k1))) (aU (cp (a+1)) <|c (a+1))) (f)
def zp (o1:db) (a:List bK):Option Int := cn (fun (g:Int→Option Int)=>zaC (fun _=>none) (zcL a g) zbC 0) (fun (b:Int)=>cn (fun (f:Int→Option Int)=>zaC (fun _=>none) (zbP a b f) zbC b) (fun (k1:Int)=>cn (fun (e:Option Int)=>aU (0≤(b:Int)∧(b:Int)≤k1∧(k1:Int)≤(a.length:Int)) <|aT (uu (dM a b k1)) fun (d:ae)=>aT (sA d) fun (c:ae)=>zaC (fun _=>none) (zc6 o1 a k1 e c) zbC 0) (some 0)))
theorem Ui {_g:Nat} {o1:db} {_f _a _c _d:Hd} {f c:Value} {w:List bK} {e:Nat} {g:List bK} (a:Vw f w 3 e c g) {r:Int} (h:zp o1 g=some r):iu prog 97 [zP _g,c] [cells _g [_f.v,.map (some (bm _a)),_c.v,_d.v] 39,bD _f.v o1.Units,dU (bm _a) o1.Fors,bD _c.v o1.Skips,bD _d.v o1.Lines,iX oL 3 f e w] [] (fun _:Unit=>(zI r)) (fun _=>[]):=by
 unfold zp at h
 refine iu.intro func97 rfl ntmps97 (by simp) (fun w0 K d=>zbp h fun S a5 h=>zaM (β:=Int) 2 rfl (fun b=>S b=some r) (fun b=>[]) (fun b=>[(0,zP _g),(1,c),(5,zI b)]) (fun b=>[]) (fun cut=>?_) ?_)
 ·refine zyG (zyR 1 rfl (zyH (zyR 1 rfl (zyN (cut (zau (eO (β:=Nat×Int) (fun b=>zaC (fun _=>none) (zcL g S) b.1 b.2=some r) (fun b=>[]) (fun b=>[(0,zP _g),(1,c),(5,zI b.2)]) (fun b=>[]) (fun b=>b.1) (zbC,0) h rfl (bE rfl) ah ?_)))))))
  rintro⟨N,G⟩ h
  cases N with
  |zero=>exact eG h
  |succ N=>
   obtain⟨b0,D⟩:∃ag,ag=zaC (fun _=>none) (zcL g S) N:=⟨_,rfl⟩
   have h:zcL g S b0 G=some r:=by rw[D];exact h
   unfold zcL at h
   refine zaL (zyG (zyR 2 rfl (zbV a rfl dc rfl aF (zaR rfl zbi (zyR 1 rfl (zyS (s:=15) rfl h (fun h=>?_) (fun h=>?_)))))))
   ·refine zyR 2 rfl (zbl h fun r1 aw h=>kZ (v:=.bool r1) (vs:=[c,zI G]) d rfl dc rfl rfl rfl CU (EZ a aw) (.ro 5 rfl .nil) (jU rfl dc rfl jV (zyR 1 rfl (zyN (zyB rfl h (fun h=>?_) (fun h=>?_))))))
    ·refine bA (ct (zau (bV (zyR 1 rfl (zbt h fun bb h=>zaR rfl (dE (r:=G+1) (ai _ bb)) (zyR 1 rfl (bG (ca ?_))))))))
     subst D
     exact ni (N,G+1) h (cq _) rfl (bE rfl) ah
    exact dF (bU (bU (dG (cH G h rfl (bE rfl) ah))))
   exact zyR 5 rfl (zyN (eh rfl (dF (bU (bU (dG (cH G h rfl (bE rfl) ah)))))))
 rintro o h
 rw[a5] at h
 refine zbp h fun Q a4 h=>zaM (β:=Int) 1 rfl (fun b=>Q b=some r) (fun b=>[]) (fun b=>[(0,zP _g),(1,c),(5,zI o),(6,zI b)]) (fun b=>[]) (fun cut=>?_) ?_
 ·refine zyG (zyR 2 rfl (zyN (cut (zau (eO (β:=Nat×Int) (fun b=>zaC (fun _=>none) (zbP g o Q) b.1 b.2=some r) (fun b=>[]) (fun b=>[(0,zP _g),(1,c),(5,zI o),(6,zI b.2)]) (fun b=>[]) (fun b=>b.1) (zbC,o) h rfl (bE rfl) ah ?_)))))
  rintro⟨M,k⟩ h
  cases M with
  |zero=>exact eG h
  |succ M=>
   obtain⟨bs,C⟩:∃ag,ag=zaC (fun _=>none) (zbP g o Q) M:=⟨_,rfl⟩
   have h:zbP g o Q bs k=some r:=by rw[C];exact h
   unfold zbP at h
   refine zbp h fun j3 a3 h=>zaM (β:=Unit) 0 rfl (fun b=>j3=some r) (fun b=>[]) (fun b=>[(0,zP _g),(1,c),(5,zI o),(6,zI k)]) (fun b=>[]) (fun cut=>cut (zyG (zyR 2 rfl (zbl h fun r2 ao h=>kZ (v:=.bool r2) (vs:=[c,zI k]) d rfl dc rfl rfl rfl CU (EZ a ao) (.ro 5 rfl .nil) (zyR 1 rfl (zyS (s:=27) rfl h (fun h=>zyR 14 rfl (zyR 12 rfl (zyN (gM rfl (bA (cH () h rfl (bE rfl) ah)))))) (fun h=>zyR 2 rfl (zbV a rfl dc rfl aF (zaR rfl zbi (zyR 1 rfl (zyS (s:=32) rfl h (fun h=>zyR 2 rfl (zaR rfl zdV (zyR 2 rfl (zyS (s:=37) rfl h (fun h=>zyR 2 rfl (zbl h fun q1 u h=>fm a u aF gH rfl dc rfl rfl rfl (zab zdh rfl dc rfl (show _=(e+(k:Int).toNat)*3 from rfl) (jr (n:=e+(k:Int).toNat) (j:=0) (i:=5) (q:=q1) d rfl (by omega) eP rfl dc rfl (bX a u) rfl rfl (zaR rfl zbF (zyR 2 rfl (zyS (s:=45) rfl h (fun h=>zyR 2 rfl (fm a u aF gH rfl dc rfl rfl rfl (zab zdh rfl dc rfl (show _=(e+(k:Int).toNat)*3 from rfl) (jr (n:=e+(k:Int).toNat) (j:=0) (i:=5) (q:=q1) d rfl (by omega) eP rfl dc rfl (bX a u) rfl rfl (zbl h fun r3 Z h=>zaI (v:=.bool r3) (vs:=[.int .i32 q1.Rune]) rfl dc rfl rfl rfl xA (yn Z) (zyR 2 rfl (zyN (zyB rfl h (fun h=>bA (cH () h rfl (bE rfl) ah)) (fun h=>dF (bU (bU (dG (cH k h rfl (bE rfl) ah))))))))))))) (fun h=>zyR 8 rfl (zyN (eh rfl (dF (bU (bU (dG (cH k h rfl (bE rfl) ah))))))))))))))) (fun h=>zyR 14 rfl (zyR 2 rfl (zyN (eh rfl (dF (bU (bU (dG (cH k h rfl (bE rfl) ah))))))))))))) (fun h=>zyR 14 rfl (zyR 7 rfl (zyN (eh rfl (dF (bU (bU (dG (cH k h rfl (bE rfl) ah)))))))))))))))))))) (fun _ h=>?_)
   rw[a3] at h
   refine zau (bV (zyR 1 rfl (zbt h fun a9 h=>zaR rfl (dE (r:=k+1) (ai _ a9)) (zyR 1 rfl (bG (ca ?_))))))
   subst C
   exact ni (M,k+1) h (cq _) rfl (bE rfl) ah
 rintro k1 h
 rw[a4] at h
 refine zbp h fun P a2 h=>zaM (β:=Unit) 1 rfl (fun b=>P=some r) (fun b=>[]) (fun b=>[]) (fun b=>[]) (fun cut=>?_) ?_
 ·refine zyG (zyR 3 rfl (zbt h fun a8 h=>?_))
  obtain⟨v1,T,U⟩:=om (lo:=some (zI o)) (hi:=some (zI k1)) a aF gH (.inr rfl) (.inr rfl) a8
  refine ia rfl dc rfl rfl rfl U ?_
  have d:Rd _ _ [cells _g [_f.v,.map (some (bm _a)),_c.v,_d.v] 39,bD _f.v o1.Units,dU (bm _a) o1.Fors,bD _c.v o1.Skips,bD _d.v o1.Lines,iX oL 3 f e w,iX oL 3 f (e+(o:Int).toNat) w]:=d.up (i:=5) rfl
  refine zbl h fun r4 Y h=>kZ (v:=.string r4) (vs:=[v1]) d rfl dc rfl rfl rfl CQ (Dt T Y) (.ro 6 rfl .nil) (zbl h fun l W h=>zaI (v:=.string l) (vs:=[.string r4]) rfl dc rfl rfl rfl An (AM W) (zyR 1 rfl (zyN (cut (zyG (zyR 1 rfl (za8 rfl dc rfl (zab Ab rfl dc rfl (show _=2 from rfl) (zd3 (i:=0) d rfl nK rfl dc rfl rfl (zbV (d.vw (i:=3) rfl) rfl dc rfl aG (zyR 1 rfl (bG (ct (zau (eO (β:=Nat×Int) (fun b=>zaC (fun _=>none) (zc6 o1 g k1 P l) b.1 b.2=some r) (fun b=>[]) (fun b=>[(1,c),(6,zI k1),(7,.string l),(65,_c.v),(66,zI (o1.Skips.length:Int)),(67,zI b.2)]) (fun b=>[]) (fun b=>b.1) (zbC,0) h rfl (bE rfl) ah ?_)))))))))))))))
  rintro⟨J,E⟩ h
  cases J with
  |zero=>exact eG h
  |succ J=>
   obtain⟨bk,z⟩:∃ag,ag=zaC (fun _=>none) (zc6 o1 g k1 P l) J:=⟨_,rfl⟩
   have h:zc6 o1 g k1 P l bk E=some r:=by rw[z];exact h
   unfold zc6 at h
   refine zyG (zaR rfl zbi (zyN (zaL (zyB rfl h (fun h=>?_) (fun h=>?_)))))
   ·refine bA (ct (zbp h fun O a1 h=>zaM (β:=Unit) 0 rfl (fun b=>O=some r) (fun b=>[]) (fun b=>[(1,c),(6,zI k1),(7,.string l),(65,_c.v),(66,zI (o1.Skips.length:Int)),(67,zI E)]) (fun b=>[]) (fun cut=>?_) ?_))
    ·refine cut (zau (zyG (zbl h fun q2 H h=>fm (d.vw (i:=3) rfl) H aG gG rfl dc rfl rfl rfl (zY (n:=0+(E:Int).toNat) (j:=0) (i:=3) (q:=q2) d rfl eb gj rfl dc rfl (bX (d.vw (i:=3) rfl) H) rfl dc rfl (zyR 1 rfl (zyN (zaL (zyG (zyR 2 rfl (zaR rfl qV (zyR 1 rfl (zyS (s:=74) rfl h (fun h=>zyR 3 rfl (zyN (gM rfl (dF (bU (dG (cH () h rfl (bE rfl) ah))))))) (fun h=>zyR 1 rfl (zaR rfl zdn (zyR 1 rfl (zyN (zyB rfl h (fun h=>dF (bU (dG (cH () h rfl (bE rfl) ah)))) (fun h=>bA (ct (zyG (zyR 2 rfl (zyN (zau (eO (β:=Nat×Int) (fun b=>zaC (fun _=>none) (zcK g k1 O) b.1 b.2=some r) (fun b=>[]) (fun b=>[(1,c),(6,zI k1),(7,.string l),(10,zI b.2),(65,_c.v),(66,zI (o1.Skips.length:Int)),(67,zI E),(75,.string l),(76,.bool (decide (l=(⟨#[]⟩:ae))))]) (fun b=>[]) (fun b=>b.1) (zbC,k1) h rfl (bE rfl) ah ?_))))))))))))))))))))))))
     rintro⟨I,m⟩ h
     cases I with
     |zero=>exact eG h
     |succ I=>
      obtain⟨bh,y⟩:∃ag,ag=zaC (fun _=>none) (zcK g k1 O) I:=⟨_,rfl⟩
      have h:zcK g k1 O bh m=some r:=by rw[y];exact h
      unfold zcK at h
      refine zaL (zyG (zyR 2 rfl (zbV a rfl dc rfl aF (zaR rfl zbi (zyN (zyB rfl h (fun h=>?_) (fun h=>?_)))))))
      ·refine bA (ct (zbp h fun j9 a0 h=>zaM (β:=Int×Bool×Bool×Bool) 0 rfl (fun b=>j9 b.1 b.2.1 b.2.2.1 b.2.2.2=some r) (fun b=>[]) (fun b=>[(1,c),(6,zI k1),(7,.string l),(10,zI m),(65,_c.v),(66,zI (o1.Skips.length:Int)),(67,zI E),(75,.string l),(76,.bool (decide (l=(⟨#[]⟩:ae)))),(89,c),(90,zI m),(91,.pointer (some ⟨gn f,(e+(m:Int).toNat)*3,none⟩)),(92,.pointer (some ⟨gn f,(e+(m:Int).toNat)*3,none⟩)),(93,.int .i32 b.1),(94,.bool b.2.1),(95,.bool b.2.2.1),(102,.bool b.2.2.2)]) (fun b=>[]) (fun cut=>?_) ?_))
       ·refine cut (zau (zyG (zyR 2 rfl (zbl h fun r6 V h=>kZ (v:=.bool r6) (vs:=[c,zI m]) d rfl dc rfl rfl rfl CU (EZ a V) (.ro 5 rfl .nil) (zyR 1 rfl (zyS (s:=88) rfl h (fun h=>?_) (fun h=>?_)))))))
        ·refine zyR 14 rfl (zyR 1 rfl (zyN (gM rfl (zyG (zyR 2 rfl (zyN (zaz (cD (bP (bP (cD (cD (bP (bP (cD (bP ?_))))))))))))))))
         cases h
         exact cZ 4 results97
        refine zyR 2 rfl (zbl h fun F t h=>fm a t aF gH rfl dc rfl rfl rfl (zab zdh rfl dc rfl (show _=(e+(m:Int).toNat)*3 from rfl) (jr (n:=e+(m:Int).toNat) (j:=0) (i:=5) (q:=F) d rfl (by omega) eP rfl dc rfl (bX a t) rfl rfl (zaR rfl zbF (zyR 1 rfl (zyS (s:=95) rfl h (fun h=>?_) (fun h=>?_)))))))
        ·refine zyR 2 rfl (fm a t aF gH rfl dc rfl rfl rfl (zab zdh rfl dc rfl (show _=(e+(m:Int).toNat)*3 from rfl) (jr (n:=e+(m:Int).toNat) (j:=0) (i:=5) (q:=F) d rfl (by omega) eP rfl dc rfl (bX a t) rfl rfl (zaR rfl hQ (zyR 2 rfl (zyN (zyB rfl h (fun h=>?_) (fun h=>?_))))))))
         ·refine zyG (zyR 2 rfl (zyN (zaz (cD (bP (bP (cD (cD (bP (bP (cD (bP ?_))))))))))))
          cases h
          exact cZ 4 results97
         exact bA (ca (cH (F.Rune,decide ((48:Int)≤F.Rune),true,decide ((F.Rune:Int)≤57)) h rfl (bE rfl) ah))
        exact zyR 8 rfl (zyN (eh rfl (bA (ca (cH (F.Rune,decide ((48:Int)≤F.Rune),false,false) h rfl (bE rfl) ah)))))
       rintro⟨x4,x5,x6,x7⟩ h
       rw[a0] at h
       refine bV (zyR 1 rfl (zbt h fun a7 h=>zaR rfl (dE (r:=m+1) (ai _ a7)) (zyR 1 rfl (bG ?_))))
       subst y
       exact ni (I,m+1) h (cq _) rfl (bE rfl) ah
      exact dF (bU (bU (dG (ca (cH () h rfl (bE rfl) ah)))))
    rintro _ h
    rw[a1] at h
    refine bV (zbt h fun a6 h=>zaR rfl (dE (r:=E+1) (ai _ a6)) (zyR 1 rfl (bG ?_)))
    subst z
    exact ni (J,E+1) h (cq _) rfl (bE rfl) ah
   exact dF (bU (bU (dG (cH () h rfl (qo) ah))))
 rintro _ h
 rw[a2] at h
 refine zyG (zyR 1 rfl (zyN (zaz ?_)))
 cases h
 exact cZ 4 results97
def zdq (o1:db) (h:List bK) (i:ae→Int→Option (ae×Int)) (j:ae→Int→ae→Int→Option (ae×Int)) (c:ae) (a:Int) (b:ae) (e:Int):Option (ae×Int) := aM (decide ((e:Int)≤(h.length:Int))) (aM (decide ((e:Int)≤8)) (aU (cp (e-1)) <|aT (zcx h (e-1)) fun (q1:bK)=>aM (decide ((0:Int)≤q1.Rune)) (cn (fun (l:ae→Int→ae→Option (ae×Int))=>cn (fun (k:Int→Option (ae×Int))=>aU (cp (e-1)) <|aT (zcx h (e-1)) fun (q2:bK)=>aT (rq q2.Rune) fun (r2:Bool)=>aM (r2) (aU (fl q2.Rune) <|k (cr q2.Rune)) (k q2.Rune)) (fun (r1:Int)=>aU (b.size+(ac r1).size≤9223372036854775807) <|aT (uT o1 (b++(ac r1))) fun (r3:Bool)=>aM (r3) (l (b++(ac r1)) e (b++(ac r1))) (l c a (b++(ac r1))))) (fun (g:ae) (d:Int) (f:ae)=>aU (cp (e+1)) <|j g d f (e+1))) (i c a)) (i c a)) (i c a)
def wY (o1:db) (c:List bK):Option (ae×Int) := cn (fun (d:ae→Int→Option (ae×Int))=>zaC (fun _ _ _ _=>none) (zdq o1 c d) zbC (⟨#[]⟩:ae) 0 (⟨#[]⟩:ae) 1) (fun (b:ae) (a:Int)=>some (b,a))
theorem Uj {_g:Nat} {o1:db} {_f _a _c _d:Hd} {g l:Value} {G:List bK} {f:Nat} {C:List bK} (k:Vw g G 3 f l C) {r:(ae×Int)} (h:wY o1 C=some r):iu prog 99 [zP _g,l] [cells _g [_f.v,.map (some (bm _a)),_c.v,_d.v] 39,bD _f.v o1.Units,dU (bm _a) o1.Fors,bD _c.v o1.Skips,bD _d.v o1.Lines,iX oL 3 g f G] [] (fun _:Unit=>(.tuple #[.string r.1,zI r.2])) (fun _=>[]):=by
 unfold wY at h
 refine iu.intro func99 rfl ntmps99 (by simp) (fun w0 K t=>zbp h fun I P h=>zaM (β:=ae×Int) 3 rfl (fun b=>I b.1 b.2=some r) (fun b=>[]) (fun b=>[(6,.string b.1),(7,zI b.2)]) (fun b=>[]) (fun cut=>?_) ?_)
 ·refine zyG (zyR 2 rfl (zyH (zyR 2 rfl (zyH (zyR 1 rfl (zyN (cut (zyG (zyR 1 rfl (zyN (zau (eO (β:=Nat×ae×Int×ae×Int) (fun b=>zaC (fun _ _ _ _=>none) (zdq o1 C I) b.1 b.2.1 b.2.2.1 b.2.2.2.1 b.2.2.2.2=some r) (fun b=>[]) (fun b=>[(0,zP _g),(1,l),(6,.string b.2.1),(7,zI b.2.2.1),(8,.string b.2.2.2.1),(9,zI b.2.2.2.2)]) (fun b=>[]) (fun b=>b.1) (zbC,(⟨#[]⟩:ae),0,(⟨#[]⟩:ae),1) (by exact h) rfl (bE rfl) ah ?_))))))))))))
  rintro⟨H,d,a,c,e⟩ h
  cases H with
  |zero=>exact eG h
  |succ H=>
   obtain⟨W,o⟩:∃ag,ag=zaC (fun _ _ _ _=>none) (zdq o1 C I) H:=⟨_,rfl⟩
   have h:zdq o1 C I W d a c e=some r:=by rw[o];exact h
   unfold zdq at h
   refine zaL (zyG (zyR 2 rfl (zbV k rfl dc rfl aF (zaR rfl hQ (zyR 1 rfl (zyS (s:=15) rfl h (fun h=>?_) (fun h=>?_)))))))
   ·refine zyR 1 rfl (zaR rfl hQ (zyR 2 rfl (zyS (s:=19) rfl h (fun h=>?_) (fun h=>?_))))
    ·refine zyR 2 rfl (zbt h fun U h=>zaR rfl (jH (r:=e-1) (ai _ U)) (zbl h fun q1 E h=>fm k E aF gH rfl dc rfl rfl rfl (zab zdh rfl dc rfl (show _=(f+(e-1:Int).toNat)*3 from rfl) (jr (n:=f+(e-1:Int).toNat) (j:=0) (i:=5) (q:=q1) t rfl (by omega) eP rfl dc rfl (bX k E) rfl rfl (zaR rfl zbF (zyR 1 rfl (zyN (zyB rfl h (fun h=>?_) (fun h=>?_)))))))))
     ·refine bA (ct (zbp h fun Z O h=>zaM (β:=ae×Int×ae) 0 rfl (fun b=>Z b.1 b.2.1 b.2.2=some r) (fun b=>[]) (fun b=>[(0,zP _g),(1,l),(6,.string b.1),(7,zI b.2.1),(8,.string b.2.2),(9,zI e),(16,zI e),(17,.bool (decide ((e:Int)≤8))),(20,l),(21,zI e),(22,zI (e-1)),(23,.pointer (some ⟨gn g,(f+(e-1:Int).toNat)*3,none⟩)),(24,.pointer (some ⟨gn g,(f+(e-1:Int).toNat)*3,none⟩)),(25,.int .i32 q1.Rune),(26,.bool (decide ((0:Int)≤q1.Rune)))]) (fun b=>[]) (fun cut=>?_) ?_))
      ·refine cut (zau (zbp h fun Y N h=>zaM (β:=Int) 1 rfl (fun b=>Y b=some r) (fun b=>[]) (fun b=>[(0,zP _g),(1,l),(6,.string d),(7,zI a),(8,.string c),(9,zI e),(10,.int .i32 b),(16,zI e),(17,.bool (decide ((e:Int)≤8))),(20,l),(21,zI e),(22,zI (e-1)),(23,.pointer (some ⟨gn g,(f+(e-1:Int).toNat)*3,none⟩)),(24,.pointer (some ⟨gn g,(f+(e-1:Int).toNat)*3,none⟩)),(25,.int .i32 q1.Rune),(26,.bool (decide ((0:Int)≤q1.Rune)))]) (fun b=>[]) (fun cut=>zyG (zyR 2 rfl (zbt h fun T h=>zaR rfl (jH (r:=e-1) (ai _ T)) (zbl h fun q2 D h=>fm k D aF gH rfl dc rfl rfl rfl (zab zdh rfl dc rfl (show _=(f+(e-1:Int).toNat)*3 from rfl) (jr (n:=f+(e-1:Int).toNat) (j:=0) (i:=5) (q:=q2) t rfl (by omega) eP rfl dc rfl (bX k D) rfl rfl (zyR 1 rfl (zyN (cut (zyG (zyR 1 rfl (zbl h fun r2 M h=>zaI (v:=.bool r2) (vs:=[.int .i32 q2.Rune]) rfl dc rfl rfl rfl xz (ym M) (zyN (zyB rfl h (fun h=>bV (zyR 1 rfl (zbt h fun F h=>zaI (v:=.int .i32 (cr q2.Rune)) (vs:=[.int .i32 q2.Rune]) rfl dc rfl rfl rfl Au (mw fun w=>uo q2.Rune w F.1 F.2) (zyR 1 rfl (bG (cH (cr q2.Rune) h rfl (bE rfl) ah)))))) (fun h=>bA (cH q2.Rune h rfl (bE rfl) ah)))))))))))))))) (fun r1 h=>?_)))
       rw[N] at h
       exact zyG (zyR 2 rfl (zdi rfl dc rfl (lJ aZ al) (zbt h fun S h=>zaR rfl (lx S) (zyR 1 rfl (zyH (zyR 2 rfl (zbl h fun r3 J h=>kZ (v:=.bool r3) (vs:=[zP _g,.string (c++(ac r1))]) t rfl dc rfl rfl rfl G7 (KW (_g:=_g) (o1:=o1) (_f:=_f) (_a:=_a) (_c:=_c) (_d:=_d) J) (.ro 0 rfl (.ro 1 rfl (.ro 2 rfl (.ro 3 rfl (.ro 4 rfl .nil))))) (zyN (zyB rfl h (fun h=>bV (zyR 4 rfl (bG (ca (cH (c++(ac r1),e,c++(ac r1)) h rfl (bE rfl) ah))))) (fun h=>bA (ca (cH (d,a,c++(ac r1)) h rfl (bE rfl) ah))))))))))))
      rintro⟨y,m,u⟩ h
      rw[O] at h
      refine bV (zyR 1 rfl (zbt h fun Q h=>zaR rfl (dE (r:=e+1) (ai _ Q)) (zyR 1 rfl (bG ?_))))
      subst o
      exact ni (H,y,m,u,e+1) h (cq _) rfl (bE rfl) ah
     exact dF (bU (bU (dG (cH (d,a) h rfl (bE rfl) ah))))
    exact zyR 8 rfl (zyN (eh rfl (dF (bU (bU (dG (cH (d,a) h rfl (bE rfl) ah)))))))
   exact zyR 12 rfl (zyN (eh rfl (dF (bU (bU (dG (cH (d,a) h rfl (bE rfl) ah)))))))
 rintro⟨V,z⟩ h
 rw[P] at h
 refine zyG (zyR 4 rfl (zyN (zaz ?_)))
 cases h
 exact eB (rs:=[.tmp 4,.tmp 5]) () (.inl rfl) results99 (.cons (.tmp rfl) (.cons (.tmp rfl) .nil)) rfl ah
def zbZ (e:Int→Nat→(List ae)→Option (List dr)) (d:ae) (c:(List ae)→Nat→Option (List dr)) (a:List ae) (b:Nat):Option (List dr) := aM (decide (b<(eA d.data.toList).length)) (aT ((eA d.data.toList)[b]?) fun (p1:Pc)=>aU (a.length+1≤2147483648) <|c (a++[ac (p1.r:Int)]) (b+1)) (e 1 1 a)
def zbY (r2:(List bK)) (r3:Int) (d:Int) (f:Int) (h:Bool→Option (List dr)) (e:Bool→Int→Option (List dr)) (a:Bool) (c:Int):Option (List dr) := aM (decide ((c:Int)<((dM (dM r2 r3 (r2.length:Int)) d (d+f)).length:Int))) (cn (fun (g:Bool→Option (List dr))=>aT (zcx (dM (dM r2 r3 (r2.length:Int)) d (d+f)) c) fun (q2:bK)=>aM (a) (g true) (aU (fl q2.Rune) <|g (great q2.Rune))) (fun (b:Bool)=>aU (cp (c+1)) <|e b (c+1))) (h a)
def zbQ (r2:(List bK)) (r3:Int) (c:Int→ae→Option (List dr)) (d:Int→ae→Option (List dr)) (b:Int) (a:ae):Option (List dr) := aM (decide ((b:Int)<((dM r2 r3 (r2.length:Int)).length:Int))) (aT (zcx (dM r2 r3 (r2.length:Int)) b) fun (f:bK)=>aM (decide ((0:Int)≤f.Rune)) (aT (qF f.Rune) fun (g:Bool)=>aM (g) (aT (zcx (dM r2 r3 (r2.length:Int)) b) fun (e:bK)=>aU (a.size+e.Text.size≤9223372036854775807) <|aU (cp (b+1)) <|d (b+1) (a++e.Text)) (c b a)) (c b a)) (c b a)
def zbX (o1:db) (a:List ae) (c:Bool) (h:(List dr)→Option (List dr)) (e:(List dr)→Int→Option (List dr)) (b:List dr) (d:Int):Option (List dr) := aM (decide ((d:Int)<(a.length:Int))) (aT (zcx a d) fun (g:ae)=>aT (rH o1 g) fun (f:Int)=>aU (b.length+1≤2147483648) <|aU (cp (d+1)) <|e (b++[(⟨3,ad,f,ad,c⟩:dr)]) (d+1)) (h b)
def zbW (r2:(List bK)) (r3:Int) (c:Int→ae→Option (List dr)) (d:Int→ae→Option (List dr)) (b:Int) (a:ae):Option (List dr) := aM (decide ((b:Int)<((dM r2 r3 (r2.length:Int)).length:Int))) (aT (zcx (dM r2 r3 (r2.length:Int)) b) fun (f:bK)=>aM (decide ((48:Int)≤f.Rune)) (aM (decide ((f.Rune:Int)≤57)) (aT (zcx (dM r2 r3 (r2.length:Int)) b) fun (e:bK)=>aU (a.size+e.Text.size≤9223372036854775807) <|aU (cp (b+1)) <|d (b+1) (a++e.Text)) (c b a)) (c b a)) (c b a)
def zcI (o1:db) (J:(List dr)→Option (List dr)) (r2:(List bK)) (r3:Int) (d:(List dr)→Int→Option (List dr)) (a:List dr) (b:Int):Option (List dr) := aM (decide ((b:Int)<((dM r2 r3 (r2.length:Int)).length:Int))) (cn (fun (w:Int→ae→Int→Int→Option (List dr))=>aT (zcx (dM r2 r3 (r2.length:Int)) b) fun (q1:bK)=>aM (decide ((0:Int)≤q1.Rune)) (aU (fl q1.Rune) <|w q1.Rune q1.Text q1.At (kind q1.Rune)) (w q1.Rune q1.Text q1.At 0)) (fun (x1:Int) (x2:ae) (N:Int) (zmD:Int)=>aM (decide ((x1:Int)<0)) (aT (jz x2 0) fun (c1:Int)=>aU (cp c1) <|aU (a.length+1≤2147483648) <|aU (cp (b+1)) <|d (a++[(⟨4,ad,c1,ad,false⟩:dr)]) (b+1)) (aM ((zmD:Int)==1) (cn (fun (v:Int→Nat→(List ae)→Option (List dr))=>aU (0≤(b:Int)∧(b:Int)≤((dM r2 r3 (r2.length:Int)).length:Int)∧(((dM r2 r3 (r2.length:Int)).length:Int):Int)≤((dM r2 r3 (r2.length:Int)).length:Int)) <|aT (wY o1 (dM (dM r2 r3 (r2.length:Int)) b ((dM r2 r3 (r2.length:Int)).length:Int))) fun (m:(ae×Int))=>aM ((m.2:Int)==0) (aU (fl x1) <|aT (sA (ac (cr x1))) fun (C:ae)=>zaC (fun _ _=>none) (zbZ v C) zbC ([]:List ae) 0) (aT (rH o1 m.1) fun (z:Int)=>aM (decide ((0:Int)≤z)) (v m.2 1 ([m.1]:List ae)) (aT ((zbO m.1 o1.Fors)) fun (r:List ae)=>v m.2 2 r))) (fun (n:Int) (E:Nat) (e:List ae)=>cn (fun (I:Bool→Option (List dr))=>aU (cp (b+n)) <|aU (0≤(b:Int)∧(b:Int)≤(b+n)∧(b+n:Int)≤((dM r2 r3 (r2.length:Int)).length:Int)) <|zaC (fun _ _=>none) (zbY r2 r3 b n I) zbC false 0) (fun (h:Bool)=>cn (fun (H:Int→ae→Option (List dr))=>aU (cp (b+n)) <|zaC (fun _ _=>none) (zbQ r2 r3 H) zbC (b+n) (⟨#[]⟩:ae)) (fun (M:Int) (g:ae)=>cn (fun (G:(List dr)→Option (List dr))=>zaC (fun _ _=>none) (zbX o1 e h G) zbC a 0) (fun (c:List dr)=>aU (cp ((c.length:Int)-1)) <|aT (zcx c ((c.length:Int)-1)) fun (q:dr)=>d (c.set ((c.length:Int)-1:Int).toNat (⟨q.Sort_,q.Digits,q.Place,g,q.Great⟩:dr)) M))))) (aM ((zmD:Int)==3) (cn (fun (F:Int→ae→Option (List dr))=>zaC (fun _ _=>none) (zbW r2 r3 F) zbC b (⟨#[]⟩:ae)) (fun (K:Int) (f:ae)=>aT (zo f) fun (y:ae)=>aU (a.length+1≤2147483648) <|d (a++[(⟨2,y,0,ad,false⟩:dr)]) K)) (aM ((zmD:Int)==4) (cn (fun (u:(List dr)→Option (List dr))=>aM (decide ((0:Int)<(a.length:Int))) (aU (cp ((a.length:Int)-1)) <|aT (zcx a ((a.length:Int)-1)) fun (D:dr)=>aM ((D.Sort_:Int) != 1) (aU (a.length+1≤2147483648) <|u (a++[(⟨1,ad,0,ad,false⟩:dr)])) (u a)) (u a)) (fun (o:List dr)=>aU (cp (b+1)) <|d o (b+1))) (aM ((zmD:Int)==5) (cn (fun (l:(List dr)→Option (List dr))=>aM (decide ((0:Int)<(a.length:Int))) (aU (cp ((a.length:Int)-1)) <|aT (zcx a ((a.length:Int)-1)) fun (t:dr)=>aM ((t.Sort_:Int) != 1) (aU (a.length+1≤2147483648) <|l (a++[(⟨1,ad,0,ad,false⟩:dr)])) (l a)) (l a)) (fun (j:List dr)=>aU (cp (b+1)) <|d j (b+1))) (aM ((zmD:Int)==6) (cn (fun (k:(List dr)→Option (List dr))=>aM (decide ((0:Int)<(a.length:Int))) (aU (cp ((a.length:Int)-1)) <|aT (zcx a ((a.length:Int)-1)) fun (s:dr)=>aM ((s.Sort_:Int) != 1) (aU (a.length+1≤2147483648) <|k (a++[(⟨1,ad,0,ad,false⟩:dr)])) (k a)) (k a)) (fun (i:List dr)=>aU (cp (b+1)) <|d i (b+1))) (aU (cp (b+1)) <|d a (b+1))))))))) (J a)
def zq (o1:db) (t1:ae):Option (List dr) := cn (fun (e:(List dr)→Option (List dr))=>aT (wC t1) fun (r1:ae)=>aT (rr r1) fun (r2:(List bK))=>aT (zp o1 r2) fun (r3:Int)=>aU (0≤(r3:Int)∧(r3:Int)≤(r2.length:Int)∧((r2.length:Int):Int)≤(r2.length:Int)) <|zaC (fun _ _=>none) (zcI o1 e r2 r3) zbC ([]:List dr) 0) (fun (a:List dr)=>cn (fun (c:(List dr)→Option (List dr))=>aM (decide ((0:Int)<(a.length:Int))) (aU (cp ((a.length:Int)-1)) <|aT (zcx a ((a.length:Int)-1)) fun (d:dr)=>aM ((d.Sort_:Int)==1) (aU (cp ((a.length:Int)-1)) <|aU (0≤((a.length:Int)-1:Int)∧((a.length:Int)-1:Int)≤(a.length:Int)) <|c (a.take ((a.length:Int)-1:Int).toNat)) (c a)) (c a)) (fun (b:List dr)=>some b))
theorem Uk {_g:Nat} {o1:db} {_f _a _c _d:Hd} {t1:ae} {r:(List dr)} (h:zq o1 t1=some r):iu prog 50 [zP _g,.string t1] [cells _g [_f.v,.map (some (bm _a)),_c.v,_d.v] 39,bD _f.v o1.Units,dU (bm _a) o1.Fors,bD _c.v o1.Skips,bD _d.v o1.Lines] [] (fun v0:Value=>v0) (fun v0=>[nl v0 r]):=by
 unfold zq at h
 refine iu.intro func50 rfl ntmps50 (by simp) (fun w0 K l=>?_)
 obtain⟨Lf,hw,l⟩:=l.fors (i:=2) rfl
 replace l:Rd _ _ [cells _g [_f.v,.map (some (bm _a)),_c.v,_d.v] 39,bD _f.v o1.Units,dU (bm _a) o1.Fors,bD _c.v o1.Skips,bD _d.v o1.Lines,pt (bm _a) Lf,o6 Lf]:=l
 refine zbp h fun j1 hb h=>zaM (β:=(List dr)×Hd) 4 rfl (fun b=>j1 b.1=some r) (fun b=>[]) (fun b=>[(6,b.2.v)]) (fun b=>[nl b.2.v b.1]) (fun cut=>?_) ?_
 ·refine zyG (zyR 1 rfl (zyH (zyR 1 rfl (zbl h fun r1 g2 h=>zaI (v:=.string r1) (vs:=[.string t1]) rfl dc rfl rfl rfl Hf (I1 g2) (zbl h fun r2 g1 h=>zbJ (vs:=[.string r1]) rfl dc rfl rfl rfl vJ (wi g1) ah (fun v1=>iq (k:=0) rfl (fun o hu=>?_)))))))
  subst hu
  refine zyR 1 rfl (zyH (zyR 3 rfl (kj (k:=0) rfl (fun ge=>zbl h fun r3 g0 h=>kZ (v:=zI r3) (vs:=[zP _g,o.v]) l rfl dc rfl rfl rfl NT (Ui (_g:=_g) (o1:=o1) (_f:=_f) (_a:=_a) (_c:=_c) (_d:=_d) ge g0) (.ro 0 rfl (.ro 1 rfl (.ro 2 rfl (.ro 3 rfl (.ro 4 rfl (.own (As:=[eI o.v r2]) (cj 1) (fun _ _ h=>oo js (aQ.1 h)) .nil)))))) (kj (k:=0) rfl (fun gc=>zbt h fun hk h=>?_))))))
  obtain⟨I,g,gs⟩:=om (lo:=some (zI r3)) (hi:=none) gc aF gH (.inr rfl) (.inl ⟨rfl,rfl⟩) hk
  refine ia rfl dc rfl rfl rfl gs (zyR 1 rfl (zyH (zyR 1 rfl (zyN (cut (zyG (zyR 1 rfl (bG (ct (zau (mU (enc:=xE) (e:=100) (size:=5) (eO (β:=Nat×(List dr)×Int×Hd) (fun b=>zaC (fun _ _=>none) (zcI o1 j1 r2 r3) b.1 b.2.1 b.2.2.1=some r) (fun b=>[]) (fun b=>[(0,zP _g),(5,I),(6,b.2.2.2.v),(7,zI b.2.2.1)]) (fun b=>[eI o.v r2,nl b.2.2.2.v b.2.1]) (fun b=>b.1) (zbC,([]:List dr),0,eu) h rfl (bE rfl) (cj 2) ?_))))))))))))
  rintro⟨U,a,t,d⟩ h
  cases U with
  |zero=>exact eG h
  |succ U=>
   obtain⟨hC,D⟩:∃ag,ag=zaC (fun _ _=>none) (zcI o1 j1 r2 r3) U:=⟨_,rfl⟩
   have h:zcI o1 j1 r2 r3 hC a t=some r:=by rw[D];exact h
   unfold zcI at h
   refine zaL (zyG (zyR 2 rfl (zbV g rfl dc rfl aF (zaR rfl zbi (zyN (zyB rfl h (fun h=>?_) (fun h=>?_)))))))
   ·refine bA (ct (zau (zbp h fun j2 ha h=>zaM (β:=Int×ae×Int×Int×Nat) 2 rfl (fun b=>j2 b.1 b.2.1 b.2.2.1 b.2.2.2.1=some r) (fun b=>[]) (fun b=>[(0,zP _g),(5,I),(6,d.v),(7,zI t),(8,zP b.2.2.2.2),(9,zI b.2.2.2.1)]) (fun b=>[eI o.v r2,nl d.v a,cells b.2.2.2.2 [.int .i32 b.1,.string b.2.1,zI b.2.2.1] 81]) (fun cut=>zyG (zyR 2 rfl (zbl h fun q1 dd h=>fm g dd aF gH rfl dc rfl rfl rfl (mz (i:=0+(r3:Int).toNat+(t:Int).toNat) (j:=0) (k:=0) (q:=q1) (cs:=(fO q1)) lM js rfl dc rfl rfl (bX g dd) rfl rfl rfl (zbk zoE rfl dc (fun b2=>eK (k:=2) (vs:=(fO q1)) (l':=(fO q1)) gH rfl rfl rfl rfl rfl (show _≤_ by simp) rfl rfl (zyH (zyR 1 rfl (zyN (cut (zyG (zab zdh rfl dc rfl (show _=0 from rfl) (zat (k:=2) eP rfl dc rfl rfl rfl (zaR rfl zbF (bG (ct (zyB rfl h (fun h=>bV (zab zdh rfl dc rfl (show _=0 from rfl) (zat (k:=2) eP rfl dc rfl rfl rfl (zbt h fun es h=>zaI (v:=zI (kind q1.Rune)) (vs:=[.int .i32 q1.Rune]) rfl dc rfl rfl rfl Hh (mw fun w=>HO q1.Rune w es.1 es.2) (zyR 1 rfl (bG (mD (q1.Rune,q1.Text,q1.At,kind q1.Rune,b2) h 3))))))) (fun h=>bA (mD (q1.Rune,q1.Text,q1.At,0,b2) h 3))))))))))))))))))) ?_)))
    rintro⟨x1,x2,x3,zmD,b1⟩ h
    rw[ha] at h
    refine zau (zyG (zab zdh rfl dc rfl (show _=0 from rfl) (zat (k:=2) eP rfl dc rfl rfl rfl (zaR rfl zbi (zyR 1 rfl (zyN (zyB rfl h (fun h=>?_) (fun h=>?_))))))))
    ·refine zyG (zyR 1 rfl (zab qv rfl dc rfl (show _=1 from rfl) (zat (k:=2) eb rfl dc rfl rfl rfl (zbl h fun c1 gF h=>mS rfl dc rfl rfl (oY al gF) (zbt h fun hj h=>zdi rfl dc rfl (vg (r:=c1) underlying5 underlying3 (ai _ hj)) (zbb (v:=.agg #[zI 4,.string ad,zI c1,.string ad,.bool false]) (ps:=[(0,.const (zI 4)),(2,.tmp 56)]) rfl dc rfl (fun _=>by kernel_rfl) (fE (cs:=[zI 4,.string ad,zI c1,.string ad,.bool false]) (te:=100) (ps:=[(0,.tmp 57)]) rfl dc rfl (fun _=>by kernel_rfl) (fun b3=>zbt h fun hh h=>iC (k:=1) (k2:=3) (ys:=[(⟨4,ad,c1,ad,false⟩:dr)]) cF vG oM vN rfl dc rfl rfl rfl rfl rfl rfl hh (fun v3=>iq (k:=1) rfl (fun hv ht=>?_))))))))))
     subst ht
     refine zyR 1 rfl (zyN (bV (zyR 1 rfl (zbt h fun hg h=>zaR rfl (dE (r:=t+1) (ai _ hg)) (zyR 1 rfl (bG (ca (ca ?_))))))))
     subst D
     exact aD (U,a++[(⟨4,ad,c1,ad,false⟩:dr)],t+1,hv) h 2
    refine zyG (zyR 1 rfl (zaR rfl zbe (zyR 1 rfl (zyN (zyB rfl h (fun h=>?_) (fun h=>?_))))))
    ·refine zbp h fun j3 g9 h=>zaM (β:=Int×Nat×(List ae)×Hd) 2 rfl (fun b=>j3 b.1 b.2.1 b.2.2.1=some r∧nM b.2.1 b.2.2.2 b.2.2.1 Lf) (fun b=>[]) (fun b=>[(0,zP _g),(5,I),(6,d.v),(7,zI t),(11,zI b.1),(12,b.2.2.2.v)]) (fun b=>[eI o.v r2,nl d.v a,oO b.2.1 b.2.2.2 b.2.2.1]) (fun cut=>?_) ?_
     ·refine zyG (zyR 3 rfl (zbt h fun hf h=>?_))
      obtain⟨v4,gf,gr⟩:=om (lo:=some (zI t)) (hi:=none) g aF gH (.inr rfl) (.inl ⟨rfl,rfl⟩) hf
      refine ia rfl dc rfl rfl rfl gr (zbl h fun V gB h=>kZ (v:=.tuple #[.string V.1,zI V.2]) (vs:=[zP _g,v4]) l rfl dc rfl rfl rfl NU (Uj (_g:=_g) (o1:=o1) (_f:=_f) (_a:=_a) (_c:=_c) (_d:=_d) gf gB) (.ro 0 rfl (.ro 1 rfl (.ro 2 rfl (.ro 3 rfl (.ro 4 rfl (.own (As:=[eI o.v r2]) (cj 1) (fun _ _ h=>Gw js (aQ.1 h)) .nil)))))) (zyR 1 rfl (eT rfl dc rfl rfl (eT rfl dc rfl rfl (zyR 2 rfl (zyH (zyR 1 rfl (zyN (cut (zau (zyG (zyR 1 rfl (zaR rfl zbe (zyR 1 rfl (zyN (zyB rfl h (fun h=>?_) (fun h=>?_)))))))))))))))))
      ·refine zyG (zyR 1 rfl (zyH (zab zdh rfl dc rfl (show _=0 from rfl) (zat (k:=2) eP rfl dc rfl rfl rfl (zbt h fun d0 h=>zaI (v:=.int .i32 (cr x1)) (vs:=[.int .i32 x1]) rfl dc rfl rfl rfl Au (mw fun w=>uo x1 w d0.1 d0.2) (zdi rfl dc rfl (lJ aZ al) (zbl h fun r5 gz h=>zaI (v:=.string r5) (vs:=[.string (ac (cr x1))]) rfl dc rfl rfl rfl An (AM gz) (tu al rfl dc rfl (fun b4=>zyN (zau (mU (enc:=gN) (e:=9) (size:=1) (eO (β:=Nat×(List ae)×Nat×Hd) (fun b=>zaC (fun _ _=>none) (zbZ j3 r5) b.1 b.2.1 b.2.2.1=some r) (fun b=>[]) (fun b=>[(0,zP _g),(5,I),(6,d.v),(7,zI t),(11,zI 1),(12,b.2.2.2.v),(87,zP b4)]) (fun b=>[eI o.v r2,nl d.v a,bD b.2.2.2.v b.2.1,obj b4 (.stringIter r5 (lO r5 b.2.2.1))]) (fun b=>b.1) (zbC,([]:List ae),0,eu) (by exact h) rfl (bE rfl) (cg [0,1,4,3] kr rfl) ?_))))))))))))
       rintro⟨n3,G,m3,a9⟩ h
       cases n3 with
       |zero=>exact eG h
       |succ n3=>
        obtain⟨hB,b0⟩:∃ag,ag=zaC (fun _ _=>none) (zbZ j3 r5) n3:=⟨_,rfl⟩
        have h:zbZ j3 r5 hB G m3=some r:=by rw[b0];exact h
        unfold zbZ at h
        refine zyG (qW (b:=decide (m3<(eA r5.data.toList).length)) (fun Y=>?_) (fun Y=>?_))
        ·have h:=nG Y h
         refine zbl h fun p1 gx h=>tv (k:=3) (m:=m3) (p:=p1) rfl dc rfl rfl gx (eT rfl dc rfl rfl (zyN (zaL (gM rfl (bA (ct (zau (zyG (eT rfl dc rfl rfl (zyR 1 rfl (bG (ct (bV (zyR 2 rfl (zdi rfl dc rfl (lJ aZ al) (fE (cs:=[.string (ac (p1.r:Int))]) (te:=9) (ps:=[(0,.tmp 93)]) rfl dc rfl (fun _=>by kernel_rfl) (fun b5=>zbt h fun he h=>iC (k:=2) (k2:=4) (ys:=[ac (p1.r:Int)]) aG oq gj oG rfl dc rfl rfl rfl rfl rfl rfl he (fun v5=>iq (k:=2) rfl (fun ft hs=>?_)))))))))))))))))))
         subst hs
         refine zyR 1 rfl (bG (ca ?_))
         subst b0
         exact aD (n3,G++[ac (p1.r:Int)],m3+1,ft) h 4
        have h:=nH Y h
        exact tw (k:=3) (m:=m3) rfl dc rfl rfl (Nat.le_of_not_lt (of_decide_eq_false Y)) (eT rfl dc rfl rfl (zyN (zaL (eh rfl (Lz (k:=2) rfl (Db (hd:=a9)) (dF (bU (bU (dG (ca (cH (1,1,G,a9) ⟨h,nM.own⟩ rfl (bE rfl) (cj 3))))))))))))
      exact zyG (zyR 2 rfl (zbl h fun r6 gt h=>kZ (v:=zI r6) (vs:=[zP _g,.string V.1]) l rfl dc rfl rfl rfl xy (zj (_g:=_g) (o1:=o1) (_f:=_f) (_a:=_a) (_c:=_c) (_d:=_d) gt) (.ro 0 rfl (.ro 1 rfl (.ro 2 rfl (.ro 3 rfl (.ro 4 rfl .nil))))) (zaR rfl zbF (zyR 1 rfl (zyN (zyB rfl h (fun h=>bV (zyR 1 rfl (fE (cs:=[.string V.1]) (te:=9) (ps:=[(0,.tmp 101)]) rfl dc rfl (fun _=>by kernel_rfl) (fun b6=>zyR 1 rfl (mA ([V.1]:List ae) (k:=3) rfl gj rfl (show 1≤maxLen by decide) (pX (k:=3) rfl (Db (hd:=(⟨some ⟨b6,0,none⟩,1,1⟩:Hd))) (bG (ca (cH (V.2,1,([V.1]:List ae),(⟨some ⟨b6,0,none⟩,1,1⟩:Hd)) ⟨h,nM.own⟩ rfl (bE rfl) (cg [0,1,3] kr rfl)))))))))) (fun h=>bV (zyR 1 rfl (za8 rfl dc rfl (zab zut rfl dc rfl (show _=1 from rfl) (zd3 (i:=0) l rfl vC rfl dc rfl rfl (zyR 1 rfl (Pp (i:=5) (kk:=V.1) hw al underlying37 kr rfl dc rfl rfl l rfl (fun a8 f9=>zyR 1 rfl (zbl h fun cc dj h=>Gi (pX (k:=3) rfl (HS (hd:=a8) (xs:=cc)) (bG (ca (cH (V.2,2,cc,a8) ⟨h,(nM.map (f9 cc dj))⟩ rfl (bE rfl) (cg [0,1,3] kr rfl))))))))))))))))))))
     rintro⟨O,S,c,z⟩ ⟨h,gb⟩
     rw[g9] at h
     refine zbp h fun j4 g8 h=>zaM (β:=Bool) 1 rfl (fun b=>j4 b=some r) (fun b=>[]) (fun b=>[(0,zP _g),(5,I),(6,d.v),(7,zI t),(11,zI O),(12,z.v),(15,.bool b)]) (fun b=>[eI o.v r2,nl d.v a,oO S z c]) (fun cut=>?_) ?_
     ·refine zyG (zyR 1 rfl (zyN (cut (zyG (zyR 4 rfl (zbt h fun hc h=>zaR rfl (dE (r:=t+O) (ai _ hc)) (zbt h fun e2 h=>?_)))))))
      obtain⟨v6,c2,go⟩:=om (lo:=some (zI t)) (hi:=some (zI (t+O))) g aF gH (.inr rfl) (.inr rfl) e2
      refine ia rfl dc rfl rfl rfl go (zbV c2 rfl dc rfl aF (zyR 1 rfl (zyN (zau (eO (β:=Nat×Bool×Int) (fun b=>zaC (fun _ _=>none) (zbY r2 r3 t O j4) b.1 b.2.1 b.2.2=some r) (fun b=>[]) (fun b=>[(0,zP _g),(5,I),(6,d.v),(7,zI t),(11,zI O),(12,z.v),(15,.bool b.2.1),(108,v6),(109,zI ((dM (dM r2 r3 (r2.length:Int)) t (t+O)).length:Int)),(110,zI b.2.2)]) (fun b=>[eI o.v r2,nl d.v a,oO S z c]) (fun b=>b.1) (zbC,false,0) h rfl (bE rfl) (cj 3) ?_)))))
      rintro⟨n4,N,x6⟩ h
      cases n4 with
      |zero=>exact eG h
      |succ n4=>
       obtain⟨hA,bs⟩:∃ag,ag=zaC (fun _ _=>none) (zbY r2 r3 t O j4) n4:=⟨_,rfl⟩
       have h:zbY r2 r3 t O j4 hA N x6=some r:=by rw[bs];exact h
       unfold zbY at h
       refine zyG (zaR rfl zbi (zyN (zaL (zyB rfl h (fun h=>?_) (fun h=>?_)))))
       ·refine bA (ct (zbp h fun j5 g7 h=>zaM (β:=Bool) 0 rfl (fun b=>j5 b=some r) (fun b=>[]) (fun b=>[(0,zP _g),(5,I),(6,d.v),(7,zI t),(11,zI O),(12,z.v),(15,.bool b),(108,v6),(109,zI ((dM (dM r2 r3 (r2.length:Int)) t (t+O)).length:Int)),(110,zI x6)]) (fun b=>[eI o.v r2,nl d.v a,oO S z c]) (fun cut=>cut (zau (zyG (zbl h fun q2 a6 h=>fm c2 a6 aF gH rfl dc rfl rfl rfl (mz (i:=0+(r3:Int).toNat+(t:Int).toNat+(x6:Int).toNat) (j:=0) (k:=0) (q:=q2) (cs:=(fO q2)) lM js rfl dc rfl rfl (bX c2 a6) rfl rfl rfl (zbk zoE rfl dc (fun b7=>eK (k:=3) (vs:=(fO q2)) (l':=(fO q2)) gH rfl rfl rfl rfl rfl (show _≤_ by simp) rfl rfl (zyN (bV (zyR 2 rfl (zyS (s:=115) rfl h (fun h=>zyR 5 rfl (bG (ca (mD true h 3)))) (fun h=>zab zdh rfl dc rfl (show _=0 from rfl) (zat (k:=3) eP rfl dc rfl rfl rfl (zbt h fun a7 h=>zaI (v:=.bool (great q2.Rune)) (vs:=[.int .i32 q2.Rune]) rfl dc rfl rfl rfl Hi (mw fun w=>tr q2.Rune w a7.1 a7.2) (zyR 2 rfl (bG (ca (mD (great q2.Rune) h 3)))))))))))))))))) (fun Z h=>?_)))
        rw[g7] at h
        refine bV (zbt h fun e1 h=>zaR rfl (dE (r:=x6+1) (ai _ e1)) (zyR 1 rfl (bG ?_)))
        subst bs
        exact aD (n4,Z,x6+1) h 3
       exact dF (bU (bU (dG (mD N h 3))))
     rintro f h
     rw[g8] at h
     refine zbp h fun j6 g6 h=>zaM (β:=Int×ae) 2 rfl (fun b=>j6 b.1 b.2=some r) (fun b=>[]) (fun b=>[(0,zP _g),(5,I),(6,d.v),(7,zI b.1),(12,z.v),(15,.bool f),(18,.string b.2)]) (fun b=>[eI o.v r2,nl d.v a,oO S z c]) (fun cut=>?_) ?_
     ·refine zyG (zyR 2 rfl (zbt h fun e0 h=>zaR rfl (dE (r:=t+O) (ai _ e0)) (zyR 1 rfl (zyH (zyR 1 rfl (zyN (cut (zau (eO (β:=Nat×Int×ae) (fun b=>zaC (fun _ _=>none) (zbQ r2 r3 j6) b.1 b.2.1 b.2.2=some r) (fun b=>[]) (fun b=>[(0,zP _g),(5,I),(6,d.v),(7,zI b.2.1),(12,z.v),(15,.bool f),(18,.string b.2.2)]) (fun b=>[eI o.v r2,nl d.v a,oO S z c]) (fun b=>b.1) (zbC,t+O,(⟨#[]⟩:ae)) (by exact h) rfl (bE rfl) (cj 3) ?_)))))))))
      rintro⟨n5,P,y⟩ h
      cases n5 with
      |zero=>exact eG h
      |succ n5=>
       obtain⟨hz,bk⟩:∃ag,ag=zaC (fun _ _=>none) (zbQ r2 r3 j6) n5:=⟨_,rfl⟩
       have h:zbQ r2 r3 j6 hz P y=some r:=by rw[bk];exact h
       unfold zbQ at h
       refine zaL (zyG (zyR 2 rfl (zbV g rfl dc rfl aF (zaR rfl zbi (zyR 1 rfl (zyS (s:=128) rfl h (fun h=>?_) (fun h=>?_)))))))
       ·refine zyR 2 rfl (zbl h fun q3 M h=>fm g M aF gH rfl dc rfl rfl rfl (zab zdh rfl dc rfl (show _=(0+(r3:Int).toNat+(P:Int).toNat)*3 from rfl) (fW (i:=0+(r3:Int).toNat+(P:Int).toNat) (j:=0) (k:=0) (q:=q3) eP js rfl dc rfl rfl (bX g M) rfl dc rfl (zaR rfl zbF (zyR 2 rfl (zyS (s:=136) rfl h (fun h=>?_) (fun h=>?_)))))))
        ·refine zyR 2 rfl (fm g M aF gH rfl dc rfl rfl rfl (zab zdh rfl dc rfl (show _=(0+(r3:Int).toNat+(P:Int).toNat)*3 from rfl) (fW (i:=0+(r3:Int).toNat+(P:Int).toNat) (j:=0) (k:=0) (q:=q3) eP js rfl dc rfl rfl (bX g M) rfl dc rfl (zbl h fun r7 di h=>zaI (v:=.bool r7) (vs:=[.int .i32 q3.Rune]) rfl dc rfl rfl rfl xA (yn di) (zyR 1 rfl (zyN (zyB rfl h (fun h=>?_) (fun h=>?_))))))))
         ·refine bA (ct (zau (zyG (zyR 3 rfl (zbl h fun q4 a5 h=>fm g a5 aF gH rfl dc rfl rfl rfl (zab qv rfl dc rfl (show _=(0+(r3:Int).toNat+(P:Int).toNat)*3+1 from rfl) (fW (i:=0+(r3:Int).toNat+(P:Int).toNat) (j:=1) (k:=0) (q:=q4) eb js rfl dc rfl rfl (bX g a5) rfl dc rfl (zbt h fun eM h=>zaR rfl (lx eM) (zyR 1 rfl (zyN (bV (zyR 1 rfl (zbt h fun eL h=>zaR rfl (dE (r:=P+1) (ai _ eL)) (zyR 1 rfl (bG (ca ?_))))))))))))))))
          subst bk
          exact aD (n5,P+1,y++q4.Text) h 3
         exact dF (bU (bU (dG (mD (P,y) h 3))))
        exact zyR 7 rfl (zyN (eh rfl (dF (bU (bU (dG (mD (P,y) h 3)))))))
       exact zyR 14 rfl (zyR 1 rfl (zyN (eh rfl (dF (bU (bU (dG (mD (P,y) h 3))))))))
     rintro⟨i4,F⟩ h
     rw[g6] at h
     refine zbp h fun j7 g5 h=>zaM (β:=(List dr)×Hd) 0 rfl (fun b=>j7 b.1=some r) (fun b=>[]) (fun b=>[(0,zP _g),(5,I),(6,b.2.v),(7,zI i4),(18,.string F)]) (fun b=>[eI o.v r2,nl b.2.v b.1]) (fun cut=>?_) ?_
     ·refine cut (zyG (Po (i:=6) (cg [2] kr rfl) gb rfl l (fun hD hK c5 l=>?_)))
      replace l:Rd _ _ [cells _g [_f.v,.map (some (bm _a)),_c.v,_d.v] 39,bD _f.v o1.Units,dU (bm _a) o1.Fors,bD _c.v o1.Skips,bD _d.v o1.Lines,pt (bm _a) Lf,o6 Lf,lV gN 1 z c]:=l
      obtain⟨f0,k1,L1,c3,l⟩:=l.openSl (i:=7) rfl
      replace l:Rd _ _ [cells _g [_f.v,.map (some (bm _a)),_c.v,_d.v] 39,bD _f.v o1.Units,dU (bm _a) o1.Fors,bD _c.v o1.Skips,bD _d.v o1.Lines,pt (bm _a) Lf,o6 Lf,lV gN 1 z c,iX gN 1 f0 k1 L1]:=l
      refine zyR 1 rfl (zbV c3 rfl dc rfl aG (zyR 1 rfl (zyN (zau (eO (β:=Nat×(List dr)×Int×Hd) (fun b=>zaC (fun _ _=>none) (zbX o1 c f j7) b.1 b.2.1 b.2.2.1=some r) (fun b=>[]) (fun b=>[(0,zP _g),(5,I),(6,b.2.2.2.v),(7,zI i4),(15,.bool f),(18,.string F),(153,z.v),(154,zI (c.length:Int)),(155,zI b.2.2.1)]) (fun b=>[eI o.v r2,nl b.2.2.2.v b.2.1]) (fun b=>b.1) (zbC,a,0,d) h rfl (bE rfl) (cj 2) ?_)))))
      rintro⟨n6,Q,x9,fo⟩ h
      cases n6 with
      |zero=>exact eG h
      |succ n6=>
       obtain⟨hy,bh⟩:∃ag,ag=zaC (fun _ _=>none) (zbX o1 c f j7) n6:=⟨_,rfl⟩
       have h:zbX o1 c f j7 hy Q x9=some r:=by rw[bh];exact h
       unfold zbX at h
       refine zyG (zaR rfl zbi (zyN (zaL (zyB rfl h (fun h=>?_) (fun h=>?_)))))
       ·refine bA (ct (zaL (zau (zyG (zbl h fun q5 a4 h=>fm c3 a4 aG gG rfl dc rfl rfl rfl (jr (n:=k1+(x9:Int).toNat) (j:=0) (i:=8) (q:=q5) l rfl (by omega) eb rfl dc rfl (bX c3 a4) rfl rfl (zyR 1 rfl (zyN (bV (zyR 3 rfl (zbl h fun r8 dg h=>kZ (v:=zI r8) (vs:=[zP _g,.string q5]) l rfl dc rfl rfl rfl xy (zj (_g:=_g) (o1:=o1) (_f:=_f) (_a:=_a) (_c:=_c) (_d:=_d) dg) (.ro 0 rfl (.ro 1 rfl (.ro 2 rfl (.ro 3 rfl (.ro 4 rfl .nil))))) (zyR 1 rfl (zbb (v:=.agg #[zI 3,.string ad,zI r8,.string ad,.bool f]) (ps:=[(0,.const (zI 3)),(2,.tmp 162),(4,.tmp 163)]) rfl dc rfl (fun _=>by kernel_rfl) (fE (cs:=[zI 3,.string ad,zI r8,.string ad,.bool f]) (te:=100) (ps:=[(0,.tmp 164)]) rfl dc rfl (fun _=>by kernel_rfl) (fun b8=>zbt h fun ez h=>iC (k:=1) (k2:=2) (ys:=[(⟨3,ad,r8,ad,f⟩:dr)]) cF vG oM vN rfl dc rfl rfl rfl rfl rfl rfl ez (fun v7=>iq (k:=1) rfl (fun fn hr=>?_)))))))))))))))))
        subst hr
        refine zyR 1 rfl (bG (ca (ct (bV (zbt h fun ey h=>zaR rfl (dE (r:=x9+1) (ai _ ey)) (zyR 1 rfl (bG ?_)))))))
        subst bh
        exact aD (n6,Q++[(⟨3,ad,r8,ad,f⟩:dr)],x9+1,fn) h 2
       exact dF (bU (bU (dG (Da c5 (mD (Q,fo) h 2)))))
     rintro⟨H,fs⟩ h
     rw[g5] at h
     refine bV (zyR 2 rfl (gK (k:=1) rfl dc rfl rfl cF (zbt h fun ex h=>zaR rfl (jH (r:=(H.length:Int)-1) (ai _ ex)) (zyR 1 rfl (zbl h fun W a3 h=>eY (k:=1) a3 cF sf rfl dc rfl rfl rfl rfl (zab M1 rfl dc rfl (show _=(((H.length:Int)-1:Int).toNat)*5+3 from rfl) (oF (i:=((H.length:Int)-1:Int).toNat) (j:=3) (k:=1) (q:=W) (q':=(⟨W.Sort_,W.Digits,W.Place,F,W.Great⟩:dr)) gG oM rfl rfl rfl rfl (ep a3) rfl dc rfl (fun _ _=>rfl) (bG (ca (ca ?_))))))))))
     subst D
     exact aD (U,H.set ((H.length:Int)-1:Int).toNat (⟨W.Sort_,W.Digits,W.Place,F,W.Great⟩:dr),i4,fs) h 2
    refine zyG (zyR 1 rfl (zaR rfl zbe (zyR 1 rfl (zyN (zyB rfl h (fun h=>?_) (fun h=>?_))))))
    ·refine zbp h fun j8 g4 h=>zaM (β:=Int×ae) 1 rfl (fun b=>j8 b.1 b.2=some r) (fun b=>[]) (fun b=>[(0,zP _g),(5,I),(6,d.v),(7,zI b.1),(21,.string b.2)]) (fun b=>[eI o.v r2,nl d.v a]) (fun cut=>?_) ?_
     ·refine zyG (zyR 1 rfl (zyN (cut (zau (eO (β:=Nat×Int×ae) (fun b=>zaC (fun _ _=>none) (zbW r2 r3 j8) b.1 b.2.1 b.2.2=some r) (fun b=>[]) (fun b=>[(0,zP _g),(5,I),(6,d.v),(7,zI b.2.1),(21,.string b.2.2)]) (fun b=>[eI o.v r2,nl d.v a]) (fun b=>b.1) (zbC,t,(⟨#[]⟩:ae)) (by exact h) rfl (bE rfl) (cj 2) ?_)))))
      rintro⟨n7,E,u⟩ h
      cases n7 with
      |zero=>exact eG h
      |succ n7=>
       obtain⟨hx,bb⟩:∃ag,ag=zaC (fun _ _=>none) (zbW r2 r3 j8) n7:=⟨_,rfl⟩
       have h:zbW r2 r3 j8 hx E u=some r:=by rw[bb];exact h
       unfold zbW at h
       refine zaL (zyG (zyR 2 rfl (zbV g rfl dc rfl aF (zaR rfl zbi (zyR 1 rfl (zyS (s:=182) rfl h (fun h=>?_) (fun h=>?_)))))))
       ·refine zyR 2 rfl (zbl h fun q7 J h=>fm g J aF gH rfl dc rfl rfl rfl (zab zdh rfl dc rfl (show _=(0+(r3:Int).toNat+(E:Int).toNat)*3 from rfl) (fW (i:=0+(r3:Int).toNat+(E:Int).toNat) (j:=0) (k:=0) (q:=q7) eP js rfl dc rfl rfl (bX g J) rfl dc rfl (zaR rfl zbF (zyR 2 rfl (zyS (s:=190) rfl h (fun h=>?_) (fun h=>?_)))))))
        ·refine zyR 2 rfl (fm g J aF gH rfl dc rfl rfl rfl (zab zdh rfl dc rfl (show _=(0+(r3:Int).toNat+(E:Int).toNat)*3 from rfl) (fW (i:=0+(r3:Int).toNat+(E:Int).toNat) (j:=0) (k:=0) (q:=q7) eP js rfl dc rfl rfl (bX g J) rfl dc rfl (zaR rfl hQ (zyR 1 rfl (zyN (zyB rfl h (fun h=>?_) (fun h=>?_))))))))
         ·refine bA (ct (zau (zyG (zyR 3 rfl (zbl h fun q8 a2 h=>fm g a2 aF gH rfl dc rfl rfl rfl (zab qv rfl dc rfl (show _=(0+(r3:Int).toNat+(E:Int).toNat)*3+1 from rfl) (fW (i:=0+(r3:Int).toNat+(E:Int).toNat) (j:=1) (k:=0) (q:=q8) eb js rfl dc rfl rfl (bX g a2) rfl dc rfl (zbt h fun et h=>zaR rfl (lx et) (zyR 1 rfl (zyN (bV (zyR 1 rfl (zbt h fun eq h=>zaR rfl (dE (r:=E+1) (ai _ eq)) (zyR 1 rfl (bG (ca ?_))))))))))))))))
          subst bb
          exact aD (n7,E+1,u++q8.Text) h 2
         exact dF (bU (bU (dG (mD (E,u) h 2))))
        exact zyR 7 rfl (zyN (eh rfl (dF (bU (bU (dG (mD (E,u) h 2)))))))
       exact zyR 14 rfl (zyR 1 rfl (zyN (eh rfl (dF (bU (bU (dG (mD (E,u) h 2))))))))
     rintro⟨i8,T⟩ h
     rw[g4] at h
     refine bV (zyR 2 rfl (zbl h fun r9 df h=>zaI (v:=.string r9) (vs:=[.string T,.string (⟨#[48]⟩:ae)]) rfl dc rfl rfl rfl NV (Uh df) (zbb (v:=.agg #[zI 2,.string r9,zI 0,.string ad,.bool false]) (ps:=[(0,.const (zI 2)),(1,.tmp 209)]) rfl dc rfl (fun _=>by kernel_rfl) (fE (cs:=[zI 2,.string r9,zI 0,.string ad,.bool false]) (te:=100) (ps:=[(0,.tmp 210)]) rfl dc rfl (fun _=>by kernel_rfl) (fun b9=>zbt h fun en h=>iC (k:=1) (k2:=2) (ys:=[(⟨2,r9,0,ad,false⟩:dr)]) cF vG oM vN rfl dc rfl rfl rfl rfl rfl rfl en (fun v8=>iq (k:=1) rfl (fun fk hq=>?_)))))))
     subst hq
     refine zyR 1 rfl (bG (ca (ca ?_)))
     subst D
     exact aD (U,a++[(⟨2,r9,0,ad,false⟩:dr)],i8,fk) h 2
    refine zyG (zyR 1 rfl (zaR rfl zbe (zyR 1 rfl (zyS (s:=216) rfl h (fun h=>?_) (fun h=>?_)))))
    ·refine zyR 8 rfl (zyN (gM rfl (zbp h fun j9 g3 h=>zaM (β:=(List dr)×Hd) 0 rfl (fun b=>j9 b.1=some r) (fun b=>[]) (fun b=>[(0,zP _g),(5,I),(6,b.2.v),(7,zI t),(217,undef),(218,undef),(221,undef),(222,undef)]) (fun b=>[eI o.v r2,nl b.2.v b.1]) (fun cut=>?_) ?_)))
     ·refine cut (zyG (zyR 1 rfl (gK (k:=1) rfl dc rfl rfl cF (zyR 1 rfl (zyH (zyR 1 rfl (zaR rfl zdV (zyR 1 rfl (zyS (s:=228) rfl h (fun h=>?_) (fun h=>?_))))))))))
      ·refine zyR 2 rfl (zbt h fun em h=>zaR rfl (jH (r:=(a.length:Int)-1) (ai _ em)) (zbl h fun q9 a1 h=>eY (k:=1) a1 cF sf rfl dc rfl rfl rfl rfl (zab vF rfl dc rfl (show _=(((a.length:Int)-1:Int).toNat)*5 from rfl) (fW (i:=((a.length:Int)-1:Int).toNat) (j:=0) (k:=1) (q:=q9) dQ oM rfl dc rfl rfl (ep a1) rfl dc rfl (zaR rfl zf8 (zyR 1 rfl (zyN (zyB rfl h (fun h=>?_) (fun h=>?_)))))))))
       ·refine bV (zyR 1 rfl (zbb (v:=.agg #[zI 1,.string ad,zI 0,.string ad,.bool false]) (ps:=[(0,.const (zI 1))]) rfl dc rfl (fun _=>by kernel_rfl) (fE (cs:=[zI 1,.string ad,zI 0,.string ad,.bool false]) (te:=100) (ps:=[(0,.tmp 238)]) rfl dc rfl (fun _=>by kernel_rfl) (fun hJ=>zbt h fun ek h=>iC (k:=1) (k2:=3) (ys:=[(⟨1,ad,0,ad,false⟩:dr)]) cF vG oM vN rfl dc rfl rfl rfl rfl rfl rfl ek (fun v9=>iq (k:=1) rfl (fun e9 ho=>?_))))))
        subst ho
        exact zyR 1 rfl (bG (mD (a++[(⟨1,ad,0,ad,false⟩:dr)],e9) h 2))
       exact bA (mD (a,d) h 2)
      exact zyR 8 rfl (zyN (eh rfl (bA (mD (a,d) h 2))))
     rintro⟨c4,fd⟩ h
     rw[g3] at h
     refine bV (zyR 1 rfl (zbt h fun eg h=>zaR rfl (dE (r:=t+1) (ai _ eg)) (zyR 1 rfl (bG (ca (ca ?_))))))
     subst D
     exact aD (U,c4,t+1,fd) h 2
    refine zyR 1 rfl (zaR rfl zbe (zyR 2 rfl (zyS (s:=220) rfl h (fun h=>?_) (fun h=>?_))))
    ·refine zyR 4 rfl (zyN (gM rfl (zbp h fun f8 dT h=>zaM (β:=(List dr)×Hd) 0 rfl (fun b=>f8 b.1=some r) (fun b=>[]) (fun b=>[(0,zP _g),(5,I),(6,b.2.v),(7,zI t),(217,zI zmD),(218,.bool ((zmD:Int)==5)),(221,undef),(222,undef)]) (fun b=>[eI o.v r2,nl b.2.v b.1]) (fun cut=>?_) ?_)))
     ·refine cut (zyG (zyR 1 rfl (gK (k:=1) rfl dc rfl rfl cF (zyR 1 rfl (zyH (zyR 1 rfl (zaR rfl zdV (zyR 1 rfl (zyS (s:=228) rfl h (fun h=>?_) (fun h=>?_))))))))))
      ·refine zyR 2 rfl (zbt h fun ec h=>zaR rfl (jH (r:=(a.length:Int)-1) (ai _ ec)) (zbl h fun f4 a0 h=>eY (k:=1) a0 cF sf rfl dc rfl rfl rfl rfl (zab vF rfl dc rfl (show _=(((a.length:Int)-1:Int).toNat)*5 from rfl) (fW (i:=((a.length:Int)-1:Int).toNat) (j:=0) (k:=1) (q:=f4) dQ oM rfl dc rfl rfl (ep a0) rfl dc rfl (zaR rfl zf8 (zyR 1 rfl (zyN (zyB rfl h (fun h=>?_) (fun h=>?_)))))))))
       ·refine bV (zyR 1 rfl (zbb (v:=.agg #[zI 1,.string ad,zI 0,.string ad,.bool false]) (ps:=[(0,.const (zI 1))]) rfl dc rfl (fun _=>by kernel_rfl) (fE (cs:=[zI 1,.string ad,zI 0,.string ad,.bool false]) (te:=100) (ps:=[(0,.tmp 238)]) rfl dc rfl (fun _=>by kernel_rfl) (fun hI=>zbt h fun d9 h=>iC (k:=1) (k2:=3) (ys:=[(⟨1,ad,0,ad,false⟩:dr)]) cF vG oM vN rfl dc rfl rfl rfl rfl rfl rfl d9 (fun hG=>iq (k:=1) rfl (fun e7 hn=>?_))))))
        subst hn
        exact zyR 1 rfl (bG (mD (a++[(⟨1,ad,0,ad,false⟩:dr)],e7) h 2))
       exact bA (mD (a,d) h 2)
      exact zyR 8 rfl (zyN (eh rfl (bA (mD (a,d) h 2))))
     rintro⟨c0,e8⟩ h
     rw[dT] at h
     refine bV (zyR 1 rfl (zbt h fun d8 h=>zaR rfl (dE (r:=t+1) (ai _ d8)) (zyR 1 rfl (bG (ca (ca ?_))))))
     subst D
     exact aD (U,c0,t+1,e8) h 2
    refine zyR 1 rfl (zaR rfl zbe (zyR 2 rfl (zyN (zyB rfl h (fun h=>?_) (fun h=>?_)))))
    ·refine zbp h fun f7 ds h=>zaM (β:=(List dr)×Hd) 0 rfl (fun b=>f7 b.1=some r) (fun b=>[]) (fun b=>[(0,zP _g),(5,I),(6,b.2.v),(7,zI t),(217,zI zmD),(218,.bool ((zmD:Int)==5)),(221,zI zmD),(222,.bool ((zmD:Int)==6))]) (fun b=>[eI o.v r2,nl b.2.v b.1]) (fun cut=>?_) ?_
     ·refine cut (zyG (zyR 1 rfl (gK (k:=1) rfl dc rfl rfl cF (zyR 1 rfl (zyH (zyR 1 rfl (zaR rfl zdV (zyR 1 rfl (zyS (s:=228) rfl h (fun h=>?_) (fun h=>?_))))))))))
      ·refine zyR 2 rfl (zbt h fun d7 h=>zaR rfl (jH (r:=(a.length:Int)-1) (ai _ d7)) (zbl h fun f2 aw h=>eY (k:=1) aw cF sf rfl dc rfl rfl rfl rfl (zab vF rfl dc rfl (show _=(((a.length:Int)-1:Int).toNat)*5 from rfl) (fW (i:=((a.length:Int)-1:Int).toNat) (j:=0) (k:=1) (q:=f2) dQ oM rfl dc rfl rfl (ep aw) rfl dc rfl (zaR rfl zf8 (zyR 1 rfl (zyN (zyB rfl h (fun h=>?_) (fun h=>?_)))))))))
       ·refine bV (zyR 1 rfl (zbb (v:=.agg #[zI 1,.string ad,zI 0,.string ad,.bool false]) (ps:=[(0,.const (zI 1))]) rfl dc rfl (fun _=>by kernel_rfl) (fE (cs:=[zI 1,.string ad,zI 0,.string ad,.bool false]) (te:=100) (ps:=[(0,.tmp 238)]) rfl dc rfl (fun _=>by kernel_rfl) (fun hH=>zbt h fun d6 h=>iC (k:=1) (k2:=3) (ys:=[(⟨1,ad,0,ad,false⟩:dr)]) cF vG oM vN rfl dc rfl rfl rfl rfl rfl rfl d6 (fun hF=>iq (k:=1) rfl (fun e5 hm=>?_))))))
        subst hm
        exact zyR 1 rfl (bG (mD (a++[(⟨1,ad,0,ad,false⟩:dr)],e5) h 2))
       exact bA (mD (a,d) h 2)
      exact zyR 8 rfl (zyN (eh rfl (bA (mD (a,d) h 2))))
     rintro⟨ch,e6⟩ h
     rw[ds] at h
     refine bV (zyR 1 rfl (zbt h fun d5 h=>zaR rfl (dE (r:=t+1) (ai _ d5)) (zyR 1 rfl (bG (ca (ca ?_))))))
     subst D
     exact aD (U,ch,t+1,e6) h 2
    refine bV (zyR 1 rfl (zbt h fun d4 h=>zaR rfl (dE (r:=t+1) (ai _ d4)) (zyR 1 rfl (bG (ca (ca ?_))))))
    subst D
    exact aD (U,a,t+1,d) h 2
   exact dF (bU (bU (dG (cH (a,d) h rfl (bE rfl) (cg [1] kr rfl)))))
 rintro⟨C,fz⟩ h
 rw[hb] at h
 refine zbp h fun f6 dn h=>zaM (β:=(List dr)×Hd) 0 rfl (fun b=>f6 b.1=some r) (fun b=>[]) (fun b=>[(6,b.2.v)]) (fun b=>[nl b.2.v b.1]) (fun cut=>?_) ?_
 ·refine cut (zyG (zyR 1 rfl (gK (k:=0) rfl dc rfl rfl cF (zyR 1 rfl (zyH (zyR 1 rfl (zaR rfl zdV (zyR 1 rfl (zyS (s:=247) rfl h (fun h=>?_) (fun h=>?_))))))))))
  ·refine zyR 2 rfl (zbt h fun d3 h=>zaR rfl (jH (r:=(C.length:Int)-1) (ai _ d3)) (zbl h fun f1 ao h=>eY (k:=0) ao cF sf rfl dc rfl rfl rfl rfl (zab vF rfl dc rfl (show _=(((C.length:Int)-1:Int).toNat)*5 from rfl) (fW (i:=((C.length:Int)-1:Int).toNat) (j:=0) (k:=0) (q:=f1) dQ oM rfl dc rfl rfl (ep ao) rfl dc rfl (zaR rfl zbe (zyR 1 rfl (zyN (zyB rfl h (fun h=>?_) (fun h=>?_)))))))))
   ·refine bV (zyR 2 rfl (zbt h fun d2 h=>zaR rfl (jH (r:=(C.length:Int)-1) (ai _ d2)) (zbt h fun d1 h=>Ps (k:=0) cF sf oM rfl dc rfl rfl rfl d1 (fun hE=>iq (k:=0) rfl (fun e3 hl=>?_)))))
    subst hl
    exact zyR 1 rfl (bG (mD (C.take ((C.length:Int)-1:Int).toNat,e3) h 1))
   exact bA (mD (C,fz) h 1)
  exact zyR 8 rfl (zyN (eh rfl (bA (mD (C,fz) h 1))))
 rintro⟨f5,e4⟩ h
 rw[dn] at h
 refine zyG (zyR 2 rfl (zyN (zaz ?_)))
 cases h
 exact eB (rs:=[.tmp 4]) e4.v (.inl rfl) results50 (.cons (.tmp rfl) .nil) rfl (cj 1)
structure rI (o:cw) (w:db):Prop where
 un:w.Units=o.units
 fo:w.Fors=o.fors
 li:w.Lines=o.lines
 sk:∀f,(zbO f o.skips).getD false=w.Skips.any fun s=>decide (s=f)
 sl:w.Skips.length≤256
section
variable {X R:Type}
theorem E0 {l:List X} {p:X→Bool} {F:(Int→Option R)→Int→Option R} {bot:Int→Option R} {J:Int→Option R} {m:Nat} (he:∀ag,m≤l.length→F ag (l.length:Int)=J (l.length:Int))
  (ht:∀ag A x B,l=A++x::B→m≤A.length→p x=true→F ag (A.length:Int)=ag ((A.length:Int)+1)) (hf:∀ag A x B,l=A++x::B→m≤A.length→p x=false→F ag (A.length:Int)=J (A.length:Int)) :
  ∀ (n:Nat) (B A:List X),l=A++B→m≤A.length→B.length<n→zaC bot F n (A.length:Int)=J ((A.length+(B.takeWhile p).length:Nat):Int):=by
 intro n
 induction n with
 |zero=>intro B A _ _ h;omega
 |succ n c=>
  intro B A a hm d
  rw[fX]
  cases B with
  |nil=>
   have e:A.length=l.length:=by rw[a,aE]
   rw[e,he _ (by omega)];rfl
  |cons x B=>
   rw[aV]
   cases hp:p x with
   |true=>
    rw[ht _ A x B a hm hp,ax rfl]
    have b:=c B (A++[x]) (by rw[a,aB];rfl) (by rw[aa];omega) (by rw[ab] at d;omega)
    rw[show (A++[x]).length=A.length+1 by simp] at b
    push_cast at b
    rw[b]
    congr 1
    rw[ab];push_cast;omega
   |false=>rw[hf _ A x B a hm hp,ap (by simp)];rfl
end
theorem wZ {l:List bc} (a:∀x∈l,nw x) {A:List bc} {x:bc} {B:List bc} (b:l=A++x::B):sQ l (A.length:Int)=some (cW x.Rune):=by
 have ok:=a x (by rw[b];simp)
 have hx:l[A.length]?=some x:=by rw[b];simp
 unfold sQ
 refine bQ (au (by rw[b];simp;omega)) (bf (gw hx) ?_)
 by_cases h0:0≤x.Rune
 ·exact bQ (au h0) (bf (BG _ ok.i32) rfl)
 ·refine bM (aj h0) ?_
  cases h:cW x.Rune with
  |false=>rfl
  |true=>exact absurd (EY h) h0
theorem Um (l:List bc):sQ l (l.length:Int)=some false:=by
 unfold sQ
 exact fP rfl
theorem BI (p:Tk→Bool):∀l:List bc,(l.takeWhile fun x=>p (tkI x)).length=((l.map tkI).takeWhile p).length
 |[]=>rfl
 |x::l=>by
  rw[av,aV,aV]
  cases p (tkI x) with
  |true=>rw[ax rfl,ax rfl,ab,ab,BI p l]
  |false=>rfl
theorem uU {a:Int} (h:0≤a∧a≤1000000000):cp a:=⟨by omega,by omega⟩
theorem Uo {l:List bc} (a:∀x∈l,nw x) (c:l.length≤1000000) (J:Int→Option Int):zaC (fun _=>none) (zcL l J) zbC 0=J ((((l.map tkI).takeWhile fun x=>!dY x).length:Nat):Int):=by
 have:=E0 (l:=l) (p:=fun x=>!dY (tkI x)) (F:=zcL l J) (bot:=fun _=>none) (J:=J) (m:=0) (fun ag _=>by
   unfold zcL
   exact fP rfl) (fun ag A x B hx _ hp=>by
   have b:l.length=A.length+(B.length+1):=by rw[hx,aa,ab]
   unfold zcL
   exact eW (bf (wZ a hx) (bQ hp (zdG (uU ⟨by omega,by omega⟩) rfl)))) (fun ag A x B hx _ hp=>by
   have b:l.length=A.length+(B.length+1):=by rw[hx,aa,ab]
   unfold zcL
   exact eW (bf (wZ a hx) (bM hp rfl))) zbC l [] rfl (cm _) (by unfold zbC;omega)
 refine this.trans ?_
 rw[aI,bL,BI (fun x=>!dY x)]
theorem Up {l A B:List bc} (d:∀x∈l,nw x) (q:l.length≤1000000) (a:l=A++B) (hB:∀x o,B=x::o→cW x.Rune=true) (J:Int→Option Int) :
  zaC (fun _=>none) (zbP l (A.length:Int) J) zbC (A.length:Int)=J ((A.length+((B.map tkI).takeWhile iS).length:Nat):Int):=by
 have step:∀ag C x D,l=C++x::D→(A.length<C.length∨cW x.Rune=true)→iS (tkI x)=true→zbP l (A.length:Int) J ag (C.length:Int)=ag ((C.length:Int)+1):=fun ag C x D hx hc hp=>by
  have b:l.length=C.length+(D.length+1):=by rw[hx,aa,ab]
  have hg:l[C.length]?=some x:=by rw[hx];simp
  unfold zbP
  refine cA (bf (wZ d hx) ?_)
  cases hL:cW x.Rune with
  |true=>exact bQ rfl (zdG (uU ⟨by omega,by omega⟩) rfl)
  |false=>
   have hc:A.length<C.length:=by rcases hc with h | h;exact h;rw[hL] at h;cases h
   have i:eE x.Rune=true:=by
    have hp:(cW x.Rune||eE x.Rune)=true:=hp
    rw[hL,dk] at hp;exact hp
   have h0:0≤x.Rune:=EW (x:=tkI x) (.inr i)
   exact bM rfl (eW (eW (bf (gw hg) (bQ (au h0) (bf (zl _) (bQ i (zdG (uU ⟨by omega,by omega⟩) rfl)))))))
 have c:∀ag C x D,l=C++x::D→iS (tkI x)=false→zbP l (A.length:Int) J ag (C.length:Int)=J (C.length:Int):=fun ag C x D hx hp=>by
  have b:l.length=C.length+(D.length+1):=by rw[hx,aa,ab]
  have hg:l[C.length]?=some x:=by rw[hx];simp
  have hp:(cW x.Rune||eE x.Rune)=false:=hp
  rw[bI] at hp
  unfold zbP
  refine cA (bf (wZ d hx) (bM hp.1 (eW ?_)))
  by_cases hc:A.length<C.length
  ·refine eW (bf (gw hg) ?_)
   by_cases h0:0≤x.Rune
   ·exact bQ (au h0) (bf (zl _) (bM hp.2 rfl))
   ·exact bM (aj h0) rfl
  ·exact fP rfl
 have f:∀ag,zbP l (A.length:Int) J ag (l.length:Int)=J (l.length:Int):=fun ag=>by
  unfold zbP
  exact cA (bf (Um l) (bM rfl (fP rfl)))
 have j:=E0 (l:=l) (p:=fun x=>iS (tkI x)) (F:=zbP l (A.length:Int) J) (bot:=fun _=>none) (J:=J) (m:=A.length+1) (fun ag _=>f ag) (fun ag C x D hx hm hp=>step ag C x D hx (.inl (by omega)) hp) (fun ag C x D hx hm hp=>c ag C x D hx hp)
 obtain⟨n,g⟩:∃n,zbC=n+1:=⟨zbC-1,by unfold zbC;omega⟩
 have k:1000000<n:=by unfold zbC at g;omega
 rw[g,fX]
 cases B with
 |nil=>
  have e:A.length=l.length:=by rw[a,aE]
  have:=f (zaC (fun _=>none) (zbP l (A.length:Int) J) n)
  rw[←e] at this
  rw[this];rfl
 |cons x B=>
  have hL:=hB x B rfl
  have hp:iS (tkI x)=true:=by show (cW x.Rune||eE x.Rune)=true;rw[hL];rfl
  rw[step _ A x B a (.inr hL) hp]
  have b:l.length=A.length+(B.length+1):=by rw[a,aa,ab]
  have:=j n B (A++[x]) (by rw[a,aB];rfl) (by simp) (by omega)
  rw[show (A++[x]).length=A.length+1 by simp] at this
  push_cast at this
  rw[this,BI iS,av,aV,hp,ax rfl,ab]
  congr 1
  push_cast;omega
theorem Uq {t:cN} {ts:List cN} (a:dY (tkT t)=true) (d:zbO (tkT t).1 tabS=none):FT (t::ts)≠⟨#[]⟩:=by
 intro e
 have hL:dI (zgb t)=true:=a
 have hr:(zgb t).Rune=(tkT t).1:=rfl
 have e1:jd (zgb t)=[⟨(tkT t).1,ac (tkT t).1,(zgb t).At⟩]:=by
  unfold jd
  rw[hL,ax rfl,hr,TN d];rfl
 unfold FT je at e
 rw[av,Jt,e1,List.singleton_append,wu (x:=⟨(tkT t).1,ac (tkT t).1,(zgb t).At⟩) a,iN,JA (c:=((⟨(tkT t).1,ac (tkT t).1,(zgb t).At⟩:bc),_)) a] at e
 have h2:=(Jr (r:=(tkT t).1) a).2.1
 have b:=aH ByteArray.size e
 rw[aJ] at b
 have h3:(ku (cr (tkT t).1)).size=0:=by
  have:(ku (cr (tkT t).1)).size+(J oS (cl (List.dropWhile isM (apL (ts.map zgb))))).size=0:=b
  omega
 have f:=vq (ku (cr (tkT t).1))
 exact h2 (gu.1 (by omega))
theorem Ur {l A B:List bc} (e:∀x∈l,nw x) (n:l.length≤1000000) (c:l=A++B) (k:Int) (d:Option Int) :
  zaC (fun _=>none) (zcK l k d) zbC (A.length:Int)=if (B.map tkI).any (fun x=>dY x||fy x) then some k else d:=by
 have f:∀x:bc,fy (tkI x)=(decide ((48:Int)≤x.Rune)&&decide ((x.Rune:Int)≤57)):=fun x=>by
  unfold fy tkI
  by_cases h1:48≤x.Rune<;>by_cases h2:x.Rune≤57<;>simp[h1,h2]
 have b:∀ (C:List bc) (x:bc) (D:List bc),l=C++x::D→l[C.length]?=some x∧l.length=C.length+(D.length+1):=fun C x D hx=>⟨by rw[hx];simp,by rw[hx,aa,ab]⟩
 have:=E0 (l:=l) (p:=fun x=>!(dY (tkI x)||fy (tkI x))) (F:=zcK l k d) (bot:=fun _=>none) (J:=fun i=>if i<(l.length:Int) then some k else d) (m:=0) (fun ag _=>by
   unfold zcK
   rw[ap (by omega)]
   exact fP rfl) (fun ag C x D hx _ hp=>by
   obtain⟨hg,a⟩:=b C x D hx
   have hp:(!(dY (tkI x)||fy (tkI x)))=true:=hp
   rw[cM,bI] at hp
   have hd:=hp.2
   rw[f] at hd
   unfold zcK
   refine eW (cA (bf (wZ e hx) (bM hp.1 (bf (gw hg) ?_))))
   have g:(aU (cp ((C.length:Int)+1))<|ag ((C.length:Int)+1))=ag ((C.length:Int)+1):=zdG (uU ⟨by omega,by omega⟩) rfl
   cases h1:decide ((48:Int)≤x.Rune) with
   |true=>
    rw[h1,fB] at hd
    exact bQ rfl (bM hd g)
   |false=>exact bM rfl g) (fun ag C x D hx _ hp=>by
   obtain⟨hg,a⟩:=b C x D hx
   have hp:(!(dY (tkI x)||fy (tkI x)))=false:=hp
   rw[cK] at hp
   rw[ax (by omega)]
   unfold zcK
   refine eW (cA (bf (wZ e hx) ?_))
   cases hL:cW x.Rune with
   |true=>exact bQ rfl rfl
   |false=>
    rw[show dY (tkI x)=false from hL,dk,f,aN] at hp
    exact bM rfl (bf (gw hg) (bQ hp.1 (bQ hp.2 rfl)))) zbC B A c (cm _) (by
   have:l.length=A.length+B.length:=by rw[c,aa]
   unfold zbC;omega)
 refine this.trans ?_
 have a:l.length=A.length+B.length:=by rw[c,aa]
 show (if ((A.length+(B.takeWhile fun x=>!(dY (tkI x)||fy (tkI x))).length:Nat):Int)<(l.length:Int) then some k else d)=_
 have key:∀B:List bc,((B.map tkI).any (fun x=>dY x||fy x)=true↔(B.takeWhile fun x=>!(dY (tkI x)||fy (tkI x))).length<B.length):=by
  intro B
  induction B with
  |nil=>simp
  |cons x B j=>
   rw[av,jb,aV,ab]
   cases hx:(dY (tkI x)||fy (tkI x)) with
   |true=>simp
   |false=>
    rw[dk,ax (by rfl),ab]
    exact j.trans ⟨fun h=>by omega,fun h=>by omega⟩
 have hk:=key B
 by_cases ha:(B.map tkI).any (fun x=>dY x||fy x)=true
 ·rw[ax ha,ax (by have:=hk.1 ha;omega)]
 ·rw[ap ha,ap (by intro h;exact ha (hk.2 (by omega)))]
theorem Us {w:db} {l A B:List bc} (r:w.Skips.length≤1000000) (e:∀x∈l,nw x) (q:l.length≤1000000) (j:l=A++B) (b:Option Int) (f:ae) :
  zaC (fun _=>none) (zc6 w l (A.length:Int) b f) zbC 0=if (w.Skips.any fun s=>decide (s=f))=true∧f≠⟨#[]⟩∧(B.map tkI).any (fun x=>dY x||fy x)=true then some (A.length:Int) else b:=by
 have key:∀ (n:Nat) (T S:List ae),w.Skips=S++T→T.length<n→zaC (fun _=>none) (zc6 w l (A.length:Int) b f) n (S.length:Int) =
   if (T.any fun s=>decide (s=f))=true∧f≠⟨#[]⟩∧(B.map tkI).any (fun x=>dY x||fy x)=true then some (A.length:Int) else b:=by
  intro n
  induction n with
  |zero=>intro T S _ h;omega
  |succ n m=>
   intro T S i o
   rw[fX]
   generalize g:zaC (fun _=>none) (zc6 w l (A.length:Int) b f) n=ag
   unfold zc6
   have a:w.Skips.length=S.length+T.length:=by rw[i,aa]
   cases T with
   |nil=>
    rw[ap (by rintro⟨h,_⟩;cases h)]
    exact bM (aj (by rw[a];simp)) rfl
   |cons s T=>
    have hg:w.Skips[S.length]?=some s:=by rw[i];simp
    have c:=m T (S++[s]) (by rw[i,aB];rfl) (by rw[ab] at o;omega)
    rw[g,show (S++[s]).length=S.length+1 by simp] at c
    push_cast at c
    rw[ab] at a
    have k:(aU (cp ((S.length:Int)+1))<|ag ((S.length:Int)+1))=if (T.any fun s=>decide (s=f))=true∧f≠⟨#[]⟩∧(B.map tkI).any (fun x=>dY x||fy x)=true then some (A.length:Int) else b:=zdG (uU ⟨by omega,by omega⟩) c
    refine eW (cA (bf (gw hg) ?_))
    rw[jb]
    by_cases d:s=f
    ·refine bM (by rw[au d];rfl) ?_
     rw[au d,pj]
     by_cases hf:f=(⟨#[]⟩:ae)
     ·refine bQ (au hf) (k.trans ?_)
      rw[ap (fun h=>h.2.1 hf),ap (fun h=>h.2.1 hf)]
     ·refine bM (aj hf) ?_
      rw[Ur e q j,k]
      by_cases ha:(B.map tkI).any (fun x=>dY x||fy x)=true
      ·rw[ax ha,ax ⟨rfl,hf,ha⟩]
      ·rw[ap ha,ap (fun h=>ha h.2.2),ap (fun h=>ha h.2.2)]
    ·rw[aj d,dk]
     exact bQ rfl k
 exact key zbC w.Skips [] (aW _).symm (by unfold zbC;omega)
theorem E2 (l:List bc):sD l=im (l.map tkI):=by
 have key:∀ (l:List bc) (b:ae),l.foldl (fun s x=>s++x.Text) b=b++im (l.map tkI):=by
  intro l
  induction l with
  |nil=>intro b;show b=b++ad;rw[aX]
  |cons x l a=>
   intro b
   have c:im ((x::l).map tkI)=x.Text++im (l.map tkI):=by unfold im;rw[av,iN];rfl
   rw[bn,a,c,cu]
 unfold sD
 rw[key]
 show ad++_=_
 rw[c8]
theorem KX:∀ {l:List bc},(∀x∈l,nw x)→oQ l≤4*l.length
 |[],_=>bi _
 |x::l,h=>by
  have h1:=(h x (aq ..)).sz
  have h2:=KX fun y hy=>h y (ak _ hy)
  unfold oQ at h2 ⊢
  rw[av,List.sum_cons,ab];omega
theorem BJ (p:Tk→Bool):∀l:List bc,(l.map tkI).takeWhile p=(l.takeWhile fun x=>p (tkI x)).map tkI
 |[]=>rfl
 |x::l=>by
  rw[av,aV,aV,BJ p l]
  cases p (tkI x)<;>rfl
theorem E3 (p:Tk→Bool):∀l:List bc,(l.map tkI).dropWhile p=(l.dropWhile fun x=>p (tkI x)).map tkI
 |[]=>rfl
 |x::l=>by
  rw[av,cC,cC,E3 p l]
  cases p (tkI x)<;>rfl
theorem Ut {α:Type} (A H T:List α):dM (A++(H++T)) (A.length:Int) ((A.length+H.length:Nat):Int)=H:=by
 unfold dM
 rw[bN,bN,gV,fh,List.take_left]
theorem Uu {o:cw} {w:db} (hr:rI o w) (t:ae) (ht:sK t):zp w (fQ (fY t))=some ((qK (dw o) (fR t):Nat):Int):=by
 have f:=zm (fY t)
 have m:=EX (fY t)
 have hL:(fQ (fY t)).map tkI=fR t:=wX (fY t)
 have K:=hr.sl
 have J:=ht.2
 generalize N:fQ (fY t)=l at f m hL ⊢
 have j:l.length≤1000000:=by omega
 unfold zp
 refine cA ((Uo f j _).trans (cA ?_))
 have c:l=(l.takeWhile fun x=>!dY (tkI x))++(l.dropWhile fun x=>!dY (tkI x)):=List.takeWhile_append_dropWhile.symm
 have hA:(l.takeWhile fun x=>!dY (tkI x)).length=((l.map tkI).takeWhile fun x=>!dY x).length:=BI (fun x=>!dY x) l
 have D:(l.map tkI).dropWhile (fun x=>!dY x)=(l.dropWhile fun x=>!dY (tkI x)).map tkI:=E3 (fun x=>!dY x) l
 have hB:∀x G,(l.dropWhile fun x=>!dY (tkI x))=x::G→cW x.Rune=true:=fun x G h=>by
  have:=jS (fun x:bc=>!dY (tkI x)) l
  rw[h] at this
  have h2:(!dY (tkI x))=false:=by simpa using this
  rw[cK] at h2;exact h2
 generalize (l.takeWhile fun x=>!dY (tkI x))=A at c hA
 generalize (l.dropWhile fun x=>!dY (tkI x))=B at c D hB
 rw[←hA]
 refine (Up f j c hB _).trans (cA ?_)
 have C:(B.map tkI).takeWhile iS=(B.takeWhile fun x=>iS (tkI x)).map tkI:=BJ iS B
 have F:(B.map tkI).dropWhile iS=(B.dropWhile fun x=>iS (tkI x)).map tkI:=E3 iS B
 have i:B=(B.takeWhile fun x=>iS (tkI x))++(B.dropWhile fun x=>iS (tkI x)):=List.takeWhile_append_dropWhile.symm
 generalize (B.takeWhile fun x=>iS (tkI x))=H at C i
 generalize (B.dropWhile fun x=>iS (tkI x))=T at F i
 have d:nr (fR t)=H.map tkI:=by unfold nr;rw[←hL,D,C]
 have e:qJ (fR t)=T.map tkI:=by unfold qJ;rw[←hL,D,F]
 have E:l.length=A.length+(H.length+T.length):=by rw[c,aa,i,aa]
 rw[C,ar]
 have g:l=(A++H)++T:=by rw[c,i,aB]
 have n:dM l (A.length:Int) ((A.length+H.length:Nat):Int)=H:=by
  rw[c,i];exact Ut A H T
 have q:∀x∈H,nw x:=fun x hx=>f x (by rw[g];exact List.mem_append_left _ (j0 _ hx))
 have hsz:=KX q
 rw[n]
 have z:(sD H).size≤65536:=by
  rw[E2,←d]
  have h1:bJ (dK (fY t).data.toList)=(fY t).data.toList:=pa _
  have h2:nr (fR t)=(((mI t).dropWhile fun t=>!dY (tkT t)).takeWhile fun t=>iS (tkT t)).map tkT:=by unfold nr fR;rw[BC,EU]
  rw[h2,gJ,wN]
  have h3:∀ {a b:List cN},a.Sublist b→(bJ a).length≤(bJ b).length:=fun h=>by
   induction h with
   |slnil=>exact bi _
   |cons a _ I=>rw[ko,aa];omega
   |cons_cons a _ I=>rw[ko,ko,aa,aa];omega
  have O:=h3 ((cV (fun t=>iS (tkT t)) (l:=(mI t).dropWhile fun t=>!dY (tkT t))).trans (pn _))
  have h5:(bJ (mI t)).length=(fY t).size:=by unfold mI;rw[pa,←gJ]
  omega
 refine gO (bf (DB H (by omega) (by omega)) (bf (DY _ z) ?_))
 have h3:=Us (w:=w) (l:=l) (A:=A++H) (B:=T) (by omega) f j g (some 0) (iH (sD H))
 rw[aa] at h3
 refine h3.trans ?_
 have u:(T.map tkI).any (fun x=>dY x||fy x)=true→iH (sD H)≠⟨#[]⟩:=fun ha=>by
  rw[E2,←d]
  have r:=TP t ht.1
  have h2:nr (fR t)=(((mI t).dropWhile fun t=>!dY (tkT t)).takeWhile fun t=>iS (tkT t)).map tkT:=by unfold nr fR;rw[BC,EU]
  cases hd:(mI t).dropWhile fun t=>!dY (tkT t) with
  |nil=>
   exfalso
   have:qJ (fR t)=[]:=by unfold qJ fR;rw[BC,hd];rfl
   rw[e] at this
   rw[this] at ha;cases ha
  |cons x xs=>
   rw[hd] at h2
   have hx:dY (tkT x)=true:=by
    have:=jS (fun t:cN=>!dY (tkT t)) (mI t)
    rw[hd] at this
    have h2:(!dY (tkT x))=false:=by simpa using this
    rw[cK] at h2;exact h2
   have k:∀y∈x::xs,KM y:=fun y hy=>r y ((pn _).subset (by rw[hd];exact hy))
   rw[h2,TS (fun y hy=>TQ (k y (uP hy).2).1 (uP (p:=fun t=>iS (tkT t)) hy).1),aV,ax (by unfold iS;rw[hx];rfl)]
   exact Uq hx ((k x (aq ..)).2 hx)
 have M:(dw o).s (iH (im (nr (fR t))))=w.Skips.any fun s=>decide (s=iH (sD H)):=by
  rw[d,←E2];exact hr.sk _
 have v:((fR t).takeWhile fun x=>!dY x).length=A.length:=by rw[←hL];exact hA.symm
 unfold qK
 rw[M,e,d,v,ar]
 by_cases h1:(T.map tkI).any (fun x=>dY x||fy x)=true
 ·by_cases h2:(w.Skips.any fun s=>decide (s=iH (sD H)))=true
  ·rw[ax ⟨h2,u h1,h1⟩,ax (by rw[h1,h2];rfl)]
  ·rw[ap (fun h=>h2 h.1),ap (by rw[aN];exact fun h=>h2 h.2)];rfl
 ·rw[ap (fun h=>h1 h.2.2),ap (by rw[aN];exact fun h=>h1 h.1)];rfl
theorem KY {o:cw} {w:db} (hi:fj o) (hr:rI o w) (u:ae):uT w u=some (lr o u):=by
 have a:=hi.ul;have b:=hi.ll
 unfold uT lr
 rw[hr.fo]
 cases hf:(zbO u o.fors).isSome with
 |true=>rw[Bool.or_true];exact bQ rfl rfl
 |false=>
  rw[mv]
  refine bM rfl (bf (zn w u (by rw[hr.un];omega)) ?_)
  rw[hr.un,hi.pl]
  cases hx:lq o.units u with
  |none=>rfl
  |some k=>
   have:=(tO hx).1
   show some (decide ((0:Int)≤k))=some true
   rw[au this]
def qe (o:cw) (a:ae×Nat×Option (Nat×ae)) (x:Tk):ae×Nat×Option (Nat×ae) :=
 let f:=a.1++ac (cr x.1)
 (f,a.2.1+1,if lr o f then some (a.2.1+1,f) else a.2.2)
def w3 (o:cw) (l:List Tk):Option (Nat×ae):=((uN l).foldl (qe o) (ad,0,none)).2.2
def zw5 (o:cw) (q:Nat×ae):Nat×List ae:=(q.1,if (zbO q.2 o.place).isSome then [q.2] else (zbO q.2 o.fors).getD [])
theorem KZ (o:cw):∀ (l:List Tk) (f:ae) (n:Nat) (r:Option (Nat×ae)),
  (l.foldl (pd (dw o)) (f,n,r.map (zw5 o))).2.2=((l.foldl (qe o) (f,n,r)).2.2).map (zw5 o)
 |[],f,n,r=>rfl
 |x::l,f,n,r=>by
  rw[bn,bn]
  have e:pd (dw o) (f,n,r.map (zw5 o)) x=(f++ac (cr x.1),n+1,(if lr o (f++ac (cr x.1)) then some (n+1,f++ac (cr x.1)) else r).map (zw5 o)):=by
   unfold pd
   dsimp only
   generalize f++ac (cr x.1)=g
   show (g,n+1,if (zbO g o.place).isSome then some (n+1,[g]) else match zbO g o.fors with | some xs=>some (n+1,xs) | none=>r.map (zw5 o))=_
   unfold lr
   cases hp:(zbO g o.place).isSome with
   |true=>
    rw[pj,ax rfl,ax rfl]
    show _=(g,n+1,some (zw5 o (n+1,g)))
    unfold zw5
    dsimp only
    rw[hp,ax rfl]
   |false=>
    rw[dk,ap (by simp)]
    cases hf:zbO g o.fors with
    |none=>rfl
    |some xs=>
     show _=(g,n+1,some (zw5 o (n+1,g)))
     unfold zw5
     dsimp only
     rw[hp,ap (by simp),hf];rfl
  rw[e,KZ o l]
  rfl
theorem K0 (o:cw) (l:List Tk):tK (dw o) l=(w3 o l).map (zw5 o):=by
 unfold tK w3
 exact KZ o (uN l) ad 0 none
def pE:Option (Nat×ae)→ae×Int
 |none=>(⟨#[]⟩,0)
 |some (m,g)=>(g,(m:Int))
theorem Uv {o:cw} {w:db} (hi:fj o) (hr:rI o w) {l:List bc} (g:∀x∈l,nw x) (t:l.length≤1000000) (J:ae→Int→Option (ae×Int)) :
  ∀ (n:Nat) (B A:List bc) (f:ae) (r:Option (Nat×ae)),l=A++B→B.length<n→A.length≤8→f.size≤4*A.length →
   zaC (fun _ _ _ _=>none) (zdq w l J) n (pE r).1 (pE r).2 f ((A.length:Int)+1) =
    J (pE (((((B.map tkI).take (8-A.length)).takeWhile fun x=>!decide (x.1<0)).foldl (qe o) (f,A.length,r)).2.2)).1 (pE (((((B.map tkI).take (8-A.length)).takeWhile fun x=>!decide (x.1<0)).foldl (qe o) (f,A.length,r)).2.2)).2:=by
 intro n
 induction n with
 |zero=>intro B A f r _ h;omega
 |succ n k=>
  intro B A f r a q u hf
  rw[fX]
  generalize i:zaC (fun _ _ _ _=>none) (zdq w l J) n=ag
  unfold zdq
  have b:l.length=A.length+B.length:=by rw[a,aa]
  cases B with
  |nil=>exact bM (aj (by rw[b];simp;omega)) (by rw[dW,List.take_nil];rfl)
  |cons x B=>
   rw[ab] at b
   refine eW ?_
   by_cases hA:A.length=8
   ·refine fP ?_
    rw[show 8-A.length=0 by omega,List.take_zero];rfl
   ·have hx:zcx l ((A.length:Int)+1-1)=some x:=by
     rw[show (A.length:Int)+1-1=(A.length:Int) by omega]
     exact gw (by rw[a];simp)
    have ok:=g x (by rw[a];simp)
    obtain⟨m,hm⟩:∃m,8-A.length=m+1:=⟨7-A.length,by omega⟩
    have e:cp ((A.length:Int)+1-1):=⟨by omega,by omega⟩
    refine eW (zdG e (bf hx ?_))
    rw[hm,av,List.take_succ_cons,aV]
    by_cases h0:0≤x.Rune
    ·rw[ax (by show (!decide (x.Rune<0))=true;rw[aj (by omega)];rfl),bn]
     refine bQ (au h0) (cA (cA (zdG e (bf hx (bf (BG _ ok.i32) ?_)))))
     have v:=mh (cr x.Rune)
     have j:∀d,(aU (cp ((A.length:Int)+1+1))<|ag (pE d).1 (pE d).2 (f++ac (cr x.Rune)) ((A.length:Int)+1+1)) =
       J (pE (((((B.map tkI).take m).takeWhile fun x=>!decide (x.1<0)).foldl (qe o) (f++ac (cr x.Rune),A.length+1,d)).2.2)).1 (pE (((((B.map tkI).take m).takeWhile fun x=>!decide (x.1<0)).foldl (qe o) (f++ac (cr x.Rune),A.length+1,d)).2.2)).2:=fun d=>by
      have:=k B (A++[x]) (f++ac (cr x.Rune)) d (by rw[a,aB];rfl) (by rw[ab] at q;omega) (by rw[aa];show A.length+1≤8;omega) (by rw[aJ,aa];show _≤4*(A.length+1);omega)
      rw[i,show (A++[x]).length=A.length+1 by simp,show 8-(A.length+1)=m by omega] at this
      push_cast at this
      exact gO this
     have c:(aU (f.size+(ac (cr x.Rune)).size≤9223372036854775807)<|aT (uT w (f++(ac (cr x.Rune)))) fun (r3:Bool)=>
       aM (r3) (aU (cp ((A.length:Int)+1+1))<|ag (f++(ac (cr x.Rune))) ((A.length:Int)+1) (f++(ac (cr x.Rune))) ((A.length:Int)+1+1)) (aU (cp ((A.length:Int)+1+1))<|ag (pE r).1 (pE r).2 (f++(ac (cr x.Rune))) ((A.length:Int)+1+1))) =
       J (pE (((((B.map tkI).take m).takeWhile fun x=>!decide (x.1<0)).foldl (qe o) (qe o (f,A.length,r) (tkI x))).2.2)).1 (pE (((((B.map tkI).take m).takeWhile fun x=>!decide (x.1<0)).foldl (qe o) (qe o (f,A.length,r) (tkI x))).2.2)).2:=by
      refine gO (bf (KY hi hr _) ?_)
      have s:qe o (f,A.length,r) (tkI x)=(f++ac (cr x.Rune),A.length+1,if lr o (f++ac (cr x.Rune)) then some (A.length+1,f++ac (cr x.Rune)) else r):=rfl
      rw[s]
      cases hu:lr o (f++ac (cr x.Rune)) with
      |true=>
       have:=j (some (A.length+1,f++ac (cr x.Rune)))
       refine bQ rfl ?_
       rw[ax rfl,←this]
       show _=aU _ (ag _ (((A.length+1:Nat):Int)) _ _)
       push_cast;rfl
      |false=>
       refine bM rfl ?_
       rw[ap (by simp)];exact j r
     cases hL:cW x.Rune with
     |true=>exact bQ rfl (zdG ok.i32 c)
     |false=>
      rw[Tb hL] at c
      exact bM rfl c
    ·rw[ap (by show ¬(!decide (x.Rune<0))=true;rw[au (by omega)];simp)]
     exact bM (aj h0) rfl
theorem Uw {o:cw} {w:db} (hi:fj o) (hr:rI o w) {l:List bc} (a:∀x∈l,nw x) (c:l.length≤1000000):wY w l=some (pE (w3 o (l.map tkI))):=by
 unfold wY
 refine cA ?_
 have:=Uv hi hr a c (fun b k=>some (b,k)) zbC l [] ⟨#[]⟩ none (aW _).symm (by unfold zbC;omega) (cm _) (cm _)
 exact this
theorem Ux {o:cw} {l:List Wd} {e:Int} {u:ae} (h:u∈o.units):u∈(ox o l e).2.units:=by
 unfold ox
 by_cases h1:o.lines.length=256
 ·rw[ax h1];exact h
 rw[ap h1]
 by_cases h2:0≤l8 l e
 ·rw[ax h2];exact h
 rw[ap h2]
 cases hf:jD (decide ((l.getD 0 w0).text=ig)) 0 l with
 |inl a=>exact h
 |inr fs=>
  obtain⟨fs,s⟩:=fs
  show u∈(ew (ite _ _ _):cw).units
  by_cases b:(l.getD 0 w0).text=mj
  ·rw[ax b]
   cases hb:(zbO (iH (fD fs 1)) o.skips).getD false with
   |true=>rw[ax rfl];exact h
   |false=>rw[ap (by simp)];exact h
  ·rw[ap b]
   cases hb:lr o (fD fs 1) with
   |true=>rw[ax rfl];exact h
   |false=>
    rw[ap (by simp)]
    cases c:mK o 0 fs l with
    |some a=>exact h
    |none=>
     show u∈(ite _ _ _:cw).units
     by_cases hp:(l.getD 0 w0).text=ig
     ·rw[ax hp]
      unfold Bv
      exact jw.2 (.inr h)
     ·rw[ap hp];exact h
theorem E4 {u:ae}:∀ (xs:List (List UInt8)) (o:cw) (at_:Int),u∈o.units→∀a e,oV o at_ xs=(some a,e)→u∈a.units
 |[],o,at_,hi,a,e,h=>by
  have h:(some o,(⟨0,0⟩:zaw))=(some a,e):=h
  injection h with h
  injection h with h
  rw[←h];exact hi
 |x::xs,o,at_,hi,a,e,h=>by
  rw[oV] at h
  by_cases h0:gC x 0 none=[]
  ·rw[ax h0] at h;exact E4 xs _ _ hi _ _ h
  ·rw[ap h0] at h
   by_cases h1:(ox o ((gC x 0 none).map (jv at_)) (at_+(x.length:Int))).1.Err=0
   ·rw[ax h1] at h
    exact E4 xs _ _ (Ux hi) _ _ h
   ·rw[ap h1] at h
    injection h with h _
    cases h
def zr (o:cw):Prop:=∀u∈us0,u∈o.units
theorem Uy (text:ae):zr (sP text):=by
 intro u hu
 unfold sP
 rcases ET text with⟨o,h,hi⟩|⟨e,h,he⟩
 ·rw[h]
  unfold rG at h
  by_cases a:65536<text.size
  ·rw[ax a] at h
   injection h with h _
   cases h
  ·rw[ap a] at h
   exact E4 _ rF _ hu _ _ h
 ·rw[h];exact hu
theorem Uz:((List.range 1120).all fun n=>!cW (n:Int)||decide (zbO (n:Int) tabS≠none)||((eH (ku (cr (n:Int)))).all fun r=>oU.contains r))=true:=by decide +kernel
theorem UA {r:Int} (h:cW r=true):∀u∈rA r,u∈us0:=by
 obtain⟨b,hb,a,e⟩:=JR h
 have hr:=mF b hb
 have:=bd.1 Uz b.toNat (List.mem_range.2 (by omega))
 rw[show ((b.toNat:Nat):Int)=b by omega,hb,a] at this
 have h2:((eH (ku (cr b))).all fun r=>oU.contains r)=true:=by simpa using this
 intro u hu
 rw[e] at hu
 obtain⟨x,hx,rfl⟩:=aS.1 hu
 have h3:=bd.1 h2 x hx
 exact aS.2 ⟨x,by simpa using h3,rfl⟩
theorem UB {o:cw} (hi:fj o) (hu:zr o) (x:Tk) (l:List Tk) (hx:cW x.1=true):∀u∈(kv (dw o) x l).2,u∈o.units:=by
 unfold kv
 rw[K0]
 have a:=UA hx
 generalize rA x.1=P at a ⊢
 cases w3 o (x::l) with
 |none=>rw[sU,hO];exact fun u h=>hu u (a u h)
 |some q=>
  rw[s6,ei]
  unfold zw5
  intro u h
  dsimp only at h
  cases hp:(zbO q.2 o.place).isSome with
  |true=>
   rw[hp,ax rfl,bl] at h
   rw[h];exact KB hi hp
  |false=>
   rw[hp,ap (by simp)] at h
   cases hf:zbO q.2 o.fors with
   |none=>rw[hf] at h;cases h
   |some xs=>rw[hf] at h;exact (hi.fo _ _ hf).2.2 u h
def rJ (out:List El):Bool:=match out.getLast? with | some e=>decide (e.sort=1) | none=>true
def mn:List (Option (List El))→List El→List El
 |[],out=>out
 |none::cs,out=>mn cs (if rJ out then out else out++[kH])
 |some es::cs,out=>mn cs (out++es)
def sR (out:List El):List El:=match out.getLast? with | some e=>if e.sort=1 then out.dropLast else out | none=>out
theorem UC (out:List El) (e:El):rJ (out++[e])=decide (e.sort=1):=by unfold rJ;rw[kB]
def BK (a:List El):Prop:=∀e∈a,e.sort≠1
def K2 (out:List El):Prop:=∀e,out.getLast?=some e→e.sort≠1
theorem UD {out:List El} (h:K2 out):rJ out=out.isEmpty:=by
 unfold rJ
 cases a:out.getLast? with
 |none=>rw[oe.1 a];rfl
 |some e=>
  show decide (e.sort=1)=_
  rw[aj (h e a)]
  cases out with
  |nil=>cases a
  |cons x xs=>rfl
theorem BL:∀ (cs:List (Option (List El))) (out:List El) (sp:Bool),(∀a,some a∈cs→BK a)→K2 out→sR (mn cs (out++iZ sp out))=l0 cs out sp
 |[],out,sp,_,hE=>by
  show sR (out++iZ sp out)=out
  unfold iZ
  cases b:sp&&!out.isEmpty with
  |true=>
   rw[ax rfl]
   unfold sR
   rw[kB]
   show (if kH.sort=1 then _ else _)=_
   rw[ax (show kH.sort=1 from rfl),List.dropLast_concat]
  |false=>
   rw[ap (by simp),aE]
   unfold sR
   cases f:out.getLast? with
   |none=>rfl
   |some e=>exact ap (hE e f)
 |none::cs,out,sp,hc,hE=>by
  show sR (mn cs (if rJ (out++iZ sp out) then out++iZ sp out else out++iZ sp out++[kH]))=l0 cs out true
  have key:(if rJ (out++iZ sp out) then out++iZ sp out else out++iZ sp out++[kH])=out++iZ true out:=by
   cases b:sp&&!out.isEmpty with
   |true=>
    have hg:iZ sp out=[kH]:=by unfold iZ;rw[b];rfl
    rw[aN] at b
    have d:iZ true out=[kH]:=by unfold iZ;rw[b.2];rfl
    rw[hg,d,UC]
    exact ax (by decide)
   |false=>
    have hg:iZ sp out=[]:=by unfold iZ;rw[b];rfl
    rw[hg,aE,UD hE]
    cases out with
    |nil=>rfl
    |cons x xs=>rfl
  rw[key]
  exact BL cs out true (fun a h=>hc a (ak _ h)) hE
 |some []::cs,out,sp,hc,hE=>by
  show sR (mn cs (out++iZ sp out++[]))=l0 cs out sp
  rw[aE]
  exact BL cs out sp (fun a h=>hc a (ak _ h)) hE
 |some (e::a)::cs,out,sp,hc,hE=>by
  show sR (mn cs (out++iZ sp out++e::a))=l0 cs (out++iZ sp out++e::a) false
  have g:=hc (e::a) (aq ..)
  have:=BL cs (out++iZ sp out++e::a) false (fun a h=>hc a (ak _ h)) (fun x hx=>by
   rw[List.getLast?_append] at hx
   cases c:(e::a).getLast? with
   |none=>exact absurd (oe.1 c) (by simp)
   |some y=>
    rw[c,Option.some_or] at hx
    injection hx with hx
    rw[←hx]
    exact g y (List.mem_of_getLast? c))
  rw[show iZ false (out++iZ sp out++e::a)=[] from rfl,aE] at this
  exact this
def rE (e:El):dr:=⟨e.sort,e.digits,e.place,e.marks,decide (e.great=1)⟩
theorem UE (r:ae) (hr:r.size≤1000) (J:Int→Nat→List ae→Option (List dr)):zaC (fun _ _=>none) (zbZ J r) zbC [] 0=J 1 1 ((eH r).map ac):=by
 have b:=p6 r
 have:=JP (xs:=eA r.data.toList) (F:=zbZ J r) (bot:=fun _ _=>none) (f:=fun a (p:Pc)=>a++[ac (p.r:Int)]) (J:=J 1 1) (fun k a=>a.length=k) (fun ag k x a hx hi=>by
   have hk:=(az.1 hx).1
   unfold zbZ
   exact bQ (au hk) (bf hx (gO rfl))) (fun k x a _ hi=>by simp[hi]) (fun ag a _=>by unfold zbZ;exact fP rfl) (n:=zbC) (kF (by omega)) (a:=[]) rfl
 refine this.trans ?_
 have e:(eA r.data.toList).map (fun p=>ac (p.r:Int))=(eH r).map ac:=by
  unfold eH
  rw[bY]
  exact dt fun p _=>by rw[Function.comp_apply]
 rw[Be,aW,e]
section
variable {R:Type}
theorem K3 {l:List bc} {p:bc→Bool} {F:(Int→ae→Option R)→Int→ae→Option R} {bot:Int→ae→Option R} {J:Int→ae→Option R} (f:∀x∈l,nw x)
  (he:∀ag b,F ag (l.length:Int) b=J (l.length:Int) b)
  (ht:∀ag A x B b,l=A++x::B→p x=true→b.size≤4*A.length→F ag (A.length:Int) b=ag ((A.length:Int)+1) (b++x.Text)) (hf:∀ag A x B b,l=A++x::B→p x=false→F ag (A.length:Int) b=J (A.length:Int) b) :
  ∀ (n:Nat) (B A:List bc) (b:ae),l=A++B→B.length<n→b.size≤4*A.length→zaC bot F n (A.length:Int) b=J ((A.length+(B.takeWhile p).length:Nat):Int) (b++im ((B.takeWhile p).map tkI)):=by
 intro n
 induction n with
 |zero=>intro B A b _ h;omega
 |succ n g=>
  intro B A b c i hb
  rw[fX]
  have a:b++im (([]:List bc).map tkI)=b:=by show b++ad=b;rw[aX]
  cases B with
  |nil=>
   have e:A.length=l.length:=by rw[c,aE]
   rw[e,he,List.takeWhile_nil,a];rfl
  |cons x B=>
   have ok:=f x (by rw[c];simp)
   have k:=ok.sz
   rw[aV]
   cases hp:p x with
   |true=>
    rw[ht _ A x B b c hp hb,ax rfl]
    have d:=g B (A++[x]) (b++x.Text) (by rw[c,aB];rfl) (by rw[ab] at i;omega) (by rw[aJ,aa];show _≤4*(A.length+1);omega)
    rw[show (A++[x]).length=A.length+1 by simp] at d
    push_cast at d
    have j:im ((x::B.takeWhile p).map tkI)=x.Text++im ((B.takeWhile p).map tkI):=by unfold im;rw[av,iN];rfl
    rw[d,j,cu,ab]
    congr 1
    push_cast;omega
   |false=>
    rw[hf _ A x B b c hp,ap (by simp),a];rfl
end
theorem K4:∀ {l:List bc},(∀x∈l,nw x∧iE (tkI x)=true)→im (l.map tkI)=lY (l.map tkI)
 |[],_=>rfl
 |x::l,h=>by
  obtain⟨h1,h2⟩:=h x (aq ..)
  have a:=K4 fun y hy=>h y (ak _ hy)
  have e:=h1.en (EW (x:=tkI x) (.inr h2))
  unfold im lY at a ⊢
  rw[av,iN,iN,a]
  show x.Text++_=ac x.Rune++_
  rw[e]
section
variable {r2 L A B:List bc} {r3:Int}
theorem UF (hL:dM r2 r3 (r2.length:Int)=L) (a:∀x∈L,nw x) (f:L.length≤1000000) (c:L=A++B) (J:Int→ae→Option (List dr)) :
  zaC (fun _ _=>none) (zbQ r2 r3 J) zbC (A.length:Int) (⟨#[]⟩:ae)=J ((A.length+((B.map tkI).takeWhile iE).length:Nat):Int) (lY ((B.map tkI).takeWhile iE)):=by
 have d:L.length=A.length+B.length:=by rw[c,aa]
 have:=K3 (l:=L) (p:=fun x=>iE (tkI x)) (F:=zbQ r2 r3 J) (bot:=fun _ _=>none) (J:=J) a (fun ag b=>by
   unfold zbQ
   rw[hL]
   exact fP rfl) (fun ag C x D b hx hp hb=>by
   have e:L.length=C.length+(D.length+1):=by rw[hx,aa,ab]
   have hg:zcx L (C.length:Int)=some x:=gw (by rw[hx];simp)
   have g:=(a x (by rw[hx];simp)).sz
   have h0:=EW (x:=tkI x) (.inr hp)
   unfold zbQ
   rw[hL]
   exact eW (bf hg (bQ (au h0) (bf (zl _) (bQ hp (bf hg (gO (zdG (uU ⟨by omega,by omega⟩) rfl)))))))) (fun ag C x D b hx hp=>by
   have e:L.length=C.length+(D.length+1):=by rw[hx,aa,ab]
   have hg:zcx L (C.length:Int)=some x:=gw (by rw[hx];simp)
   unfold zbQ
   rw[hL]
   refine eW (bf hg ?_)
   by_cases h0:0≤x.Rune
   ·exact bQ (au h0) (bf (zl _) (bM hp rfl))
   ·exact bM (aj h0) rfl) zbC B A ⟨#[]⟩ c (by unfold zbC;omega) (cm _)
 refine this.trans ?_
 rw[BJ iE,ar,←K4 (l:=B.takeWhile fun x=>iE (tkI x)) (fun x hx=>⟨a x (by rw[c];exact j0 _ (uP hx).2),(uP (p:=fun x=>iE (tkI x)) hx).1⟩)]
 show J _ (ad++_)=_
 rw[c8]
theorem UG (hL:dM r2 r3 (r2.length:Int)=L) (a:∀x∈L,nw x) (g:L.length≤1000000) (d:L=A++B) (J:Int→ae→Option (List dr)) :
  zaC (fun _ _=>none) (zbW r2 r3 J) zbC (A.length:Int) (⟨#[]⟩:ae)=J ((A.length+((B.map tkI).takeWhile fy).length:Nat):Int) (im ((B.map tkI).takeWhile fy)):=by
 have e:L.length=A.length+B.length:=by rw[d,aa]
 have c:∀x:bc,fy (tkI x)=(decide ((48:Int)≤x.Rune)&&decide ((x.Rune:Int)≤57)):=fun x=>by
  unfold fy tkI
  by_cases h1:48≤x.Rune<;>by_cases h2:x.Rune≤57<;>simp[h1,h2]
 have:=K3 (l:=L) (p:=fun x=>fy (tkI x)) (F:=zbW r2 r3 J) (bot:=fun _ _=>none) (J:=J) a (fun ag b=>by
   unfold zbW
   rw[hL]
   exact fP rfl) (fun ag C x D b hx hp hb=>by
   have f:L.length=C.length+(D.length+1):=by rw[hx,aa,ab]
   have hg:zcx L (C.length:Int)=some x:=gw (by rw[hx];simp)
   have h:=(a x (by rw[hx];simp)).sz
   have hp:fy (tkI x)=true:=hp
   rw[c,aN] at hp
   unfold zbW
   rw[hL]
   exact eW (bf hg (bQ hp.1 (bQ hp.2 (bf hg (gO (zdG (uU ⟨by omega,by omega⟩) rfl))))))) (fun ag C x D b hx hp=>by
   have f:L.length=C.length+(D.length+1):=by rw[hx,aa,ab]
   have hg:zcx L (C.length:Int)=some x:=gw (by rw[hx];simp)
   have hp:fy (tkI x)=false:=hp
   rw[c] at hp
   unfold zbW
   rw[hL]
   refine eW (bf hg ?_)
   cases h1:decide ((48:Int)≤x.Rune) with
   |true=>rw[h1,fB] at hp;exact bQ rfl (bM hp rfl)
   |false=>exact bM rfl rfl) zbC B A ⟨#[]⟩ d (by unfold zbC;omega) (cm _)
 refine this.trans ?_
 rw[BJ fy,ar]
 show J _ (ad++_)=_
 rw[c8]
end
theorem UH {o:cw} {w:db} (hi:fj o) (hr:rI o w) (g:Int) (us:List ae) (hu:∀u∈us,u∈o.units) (h:us.length≤1000) (out:List dr) (d:out.length≤2000000000) (J:List dr→Option (List dr)) :
  zaC (fun _ _=>none) (zbX w us (decide (g=1)) J) zbC out 0=J (out++(us.map (ie (dw o) g)).map rE):=by
 have b:=hi.ul;have c:=hi.ll
 have:=qE (xs:=us) (F:=zbX w us (decide (g=1)) J) (bot:=fun _ _=>none) (f:=fun out u=>out++[rE (ie (dw o) g u)]) (J:=J) (fun k a=>a.length≤2000000000+k) (fun ag k x a hx hb=>by
   have hk:=(az.1 hx).1
   have hm:=hu x (aL hx)
   obtain⟨i,h1,h2⟩:=T4 hi hm
   unfold zbX
   refine bQ (mE hx) (bf (lX hx) (bf (zn w x (by rw[hr.un];omega)) (gO (zdG (jt (by omega)) ?_))))
   rw[hr.un,h2]
   have e:rE (ie (dw o) g x)=⟨3,ad,i,ad,decide (g=1)⟩:=by
    show (⟨3,ad,(zbO x o.place).getD 0,ad,decide (g=1)⟩:dr)=_
    rw[h1];rfl
   rw[e];rfl) (fun k x a hx hb=>by rw[aa];show a.length+1≤_;omega) (fun ag a _=>by unfold zbX;exact bM me rfl) (n:=zbC) (kF (by omega)) (a:=out) (by omega)
 refine this.trans ?_
 rw[Be,bY];rfl
theorem UI {r2 M:List bc} {r3 b c:Int} (e:dM (dM r2 r3 (r2.length:Int)) b (b+c)=M) (d:∀x∈M,nw x) (i:M.length≤1000000) (J:Bool→Option (List dr)) :
  zaC (fun _ _=>none) (zbY r2 r3 b c J) zbC false 0=J (decide (qb (M.map tkI)=1)):=by
 have:=qE (xs:=M) (F:=zbY r2 r3 b c J) (bot:=fun _ _=>none) (f:=fun (g:Bool) (x:bc)=>g||great x.Rune) (J:=J) (fun k a=>True) (fun ag k x a hx hb=>by
   have hk:=(az.1 hx).1
   unfold zbY
   rw[e]
   refine bQ (mE hx) (cA (bf (lX hx) ?_))
   cases a with
   |true=>exact bQ rfl (zdG (jt (by omega)) rfl)
   |false=>exact bM rfl (zdG (d x (aL hx)).i32 (zdG (jt (by omega)) (by rw[dk])))) (fun k x a hx hb=>trivial) (fun ag a _=>by unfold zbY;rw[e];exact bM me rfl) (n:=zbC) (kF (by omega)) (a:=false) trivial
 refine this.trans ?_
 have key:∀ (l:List bc) (a:Bool),l.foldl (fun (g:Bool) (x:bc)=>g||great x.Rune) a=(a||(l.map tkI).any fun x=>great x.1):=by
  intro l
  induction l with
  |nil=>intro a;rw[List.foldl_nil,dW,List.any_nil,mv]
  |cons x l h=>intro a;rw[bn,h,av,jb,Bool.or_assoc];rfl
 rw[key,dk]
 unfold qb
 cases (M.map tkI).any fun x=>great x.1<;>rfl
theorem UJ {b:ae} (h:0<b.size):jz b 0=some (kG b):=by
 rw[gJ] at h
 cases hd:b.data.toList with
 |nil=>rw[hd] at h;exact absurd h (by simp)
 |cons c l=>
  have:=za (s:=b) (k:=0) (c:=c) (by rw[hd];rfl)
  rw[show ((0:Nat):Int)=0 from rfl] at this
  rw[this]
  unfold kG
  rw[hd];rfl
theorem UK (J:ae→Option ae):∀ (n:Nat) (s:ae),s.size<n→s.size≤1000000000→zaC (fun _=>none) (zcH 48 J) n s=J (ba (sG s.data.toList)):=by
 intro n
 induction n with
 |zero=>intro s h;omega
 |succ n e=>
  intro s i g
  rw[fX]
  generalize b:zaC (fun _=>none) (zcH 48 J) n=ag
  unfold zcH
  cases hd:s.data.toList with
  |nil=>
   have h0:s.size=0:=by rw[gJ,hd];rfl
   refine fP (aH J ?_)
   apply qM
   rw[hd,qN];rfl
  |cons c l=>
   have hsz:s.size=l.length+1:=by rw[gJ,hd];rfl
   have hg:=za (s:=s) (k:=0) (c:=c) (by rw[hd];rfl)
   rw[show ((0:Nat):Int)=0 from rfl] at hg
   refine eW (bf hg ?_)
   have d:(((c.toNat:Int):Int)==48)=(c==48):=by
    rw[Bool.eq_iff_iff,beq_iff_eq,beq_iff_eq]
    constructor
    ·intro h;exact UInt8.toNat_inj.1 (by show c.toNat=48;omega)
    ·intro h;subst h;rfl
   rw[d]
   cases hc:c==48 with
   |true=>
    have a:(cL s 1 (s.size:Int)).data.toList=l:=by
     have:=rD s 1 s.size
     push_cast at this
     rw[this,hd,List.drop_succ_cons,jY,dX (by omega)]
    have f:(cL s 1 (s.size:Int)).size=l.length:=by rw[gJ,a]
    have:=e (cL s 1 (s.size:Int)) (by omega) (by omega)
    rw[b,a] at this
    refine bQ rfl (gO (this.trans ?_))
    unfold sG
    rw[cC,hc,ax rfl]
   |false=>
    refine bM rfl (aH J ?_)
    apply qM
    unfold sG
    rw[qN,cC,hc,ap (by simp),hd]
theorem UL (s:ae) (b:s.size≤1000000000):zo s=some (ba (sG s.data.toList)):=by
 unfold zo
 by_cases h:s=(⟨#[]⟩:ae)
 ·refine bQ (au h) ?_
  subst h;rfl
 ·refine bM (aj h) (bM (by decide) (cA (bQ (by decide) (bf (a:=48) (by decide) (bQ (by decide) (bf (a:=48) (by decide) (bf (a:=ba (sG s.data.toList)) ?_ rfl)))))))
  unfold BH
  exact cA (UK some zbC s (by unfold zbC;omega) b)
theorem UM {o:cw} {l:List Tk} {m:Nat} {g:ae} (h:w3 o l=some (m,g)):1≤m∧lr o g=true:=by
 have key:∀ (l:List Tk) (f:ae) (n:Nat) (r:Option (Nat×ae)),(∀q,r=some q→1≤q.1∧lr o q.2=true)→∀q,(l.foldl (qe o) (f,n,r)).2.2=some q→1≤q.1∧lr o q.2=true:=by
  intro l
  induction l with
  |nil=>intro f n r hr q a;exact hr q a
  |cons x l b=>
   intro f n r hr q a
   rw[bn] at a
   refine b _ _ _ ?_ q a
   intro p hp
   generalize f++ac (cr x.1)=G at hp
   by_cases hu:lr o G=true
   ·have hp:(if lr o G then some (n+1,G) else r)=some p:=hp
    rw[ax hu] at hp
    injection hp with hp
    rw[←hp]
    exact⟨by show 1≤n+1;omega,hu⟩
   ·have hp:(if lr o G then some (n+1,G) else r)=some p:=hp
    rw[ap hu] at hp
    exact hr p hp
 exact key _ _ _ _ (fun q h=>by cases h) (m,g) h
theorem UN {o:cw} {w:db} (hi:fj o) (hr:rI o w) {x:bc} {B:List bc} (f:∀y∈x::B,nw y) (hB:(x::B).length≤1000000) (hx:cW x.Rune=true) (J:Int→Nat→List ae→Option (List dr)) :
  ∃n,(aT (wY w (x::B)) fun (c:(ae×Int))=>
   aM ((c.2:Int)==0) (
   aU (fl x.Rune) <|
   aT (sA (ac (cr x.Rune))) fun (l:ae)=>
   zaC (fun _ _=>none) (zbZ J l) zbC ([]:List ae) 0
   ) (
   aT (rH w c.1) fun (k:Int)=>
   aM (decide ((0:Int)≤k)) (
   J c.2 1 ([c.1]:List ae)
   ) (
   aT ((zbO c.1 w.Fors)) fun (h:List ae)=>
   J c.2 2 h
   )
   ))=J ((kv (dw o) (tkI x) (B.map tkI)).1:Int) n (kv (dw o) (tkI x) (B.map tkI)).2:=by
 have s:=hi.ul;have t:=hi.ll
 have a:=Uw hi hr f hB
 rw[av] at a
 unfold kv
 rw[K0]
 cases hb:w3 o (tkI x::B.map tkI) with
 |none=>
  rw[hb] at a
  rw[sU,hO]
  refine⟨1,bf a (bQ rfl (zdG (f x (aq ..)).i32 ?_))⟩
  have v:=mh (cr x.Rune)
  have hf:=(sJ (ac (cr x.Rune)) (by omega)).1
  refine bf (DY _ (by omega)) ?_
  have h5:(iH (ac (cr x.Rune))).size≤1000:=by omega
  have hp:rA (tkI x).1=(eH (iH (ac (cr x.Rune)))).map ac:=rfl
  generalize iH (ac (cr x.Rune))=r at h5 hp ⊢
  have u:=UE r h5 J
  rw[u,hp]
  rfl
 |some q=>
  obtain⟨m,g⟩:=q
  rw[hb] at a
  obtain⟨h1,h2⟩:=UM hb
  rw[s6,ei]
  have hm:(((m:Nat):Int)==0)=false:=aA.2 (by omega)
  have b:=zn w g (by rw[hr.un];omega)
  rw[hr.un] at b
  unfold zw5
  dsimp only
  have hp:=hi.pl g
  cases hx:lq o.units g with
  |some i=>
   have j:=(tO hx).1
   rw[hx] at b hp
   rw[hp]
   exact⟨1,bf a (bM hm (bf b (bQ (au j) rfl)))⟩
  |none=>
   rw[hx] at b hp
   rw[hp]
   unfold lr at h2
   rw[hp] at h2
   have h3:(zbO g o.fors).isSome=true:=by simpa using h2
   obtain⟨xs,e⟩:=iU.1 h3
   have d:zbO g w.Fors=some xs:=by rw[hr.fo];exact e
   rw[e]
   exact⟨2,bf a (bM hm (bf b (bM (aj (by show ¬(0:Int)≤-1;omega)) (bf d rfl))))⟩
def tP (out:List El):List El:=if rJ out then out else out++[kH]
theorem K5 {out:List El} (h:0<out.length):∃e,out.getLast?=some e∧zcx (out.map rE) (((out.map rE).length:Int)-1)=some (rE e):=by
 obtain⟨P,e,rfl⟩:∃P e,out=P++[e]:=⟨out.dropLast,out.getLast (cU.1 h),(nh (cU.1 h)).symm⟩
 refine⟨e,kB,?_⟩
 rw[cQ,aa,ar]
 have:((P.length+(lG rE [e]).length:Nat):Int)-1=(P.length:Int):=by
  show ((P.length+1:Nat):Int)-1=_
  omega
 rw[this]
 exact gw (by rw[List.getElem?_append_right (by rw[ar];exact bi _),ar,mR];rfl)
theorem E5 {out:List El} (b:out.length≤2000000000) (J:List dr→Option (List dr)) :
  cn (fun (j:(List dr)→Option (List dr))=>
  aM (decide ((0:Int)<((out.map rE).length:Int))) (
  aU (cp (((out.map rE).length:Int)-1)) <|
  aT (zcx (out.map rE) (((out.map rE).length:Int)-1)) fun (a:dr)=>
  aM ((a.Sort_:Int) != 1) (
  aU ((out.map rE).length+1≤2147483648) <|
  j (out.map rE++[(⟨1,ad,0,ad,false⟩:dr)])
  ) (
  j (out.map rE)
  )
  ) (
  j (out.map rE)
  )
  ) J=J ((tP out).map rE):=by
 have c:(out.map rE).length=out.length:=ar ..
 refine cA ?_
 by_cases h0:0<out.length
 ·obtain⟨e,h1,h2⟩:=K5 h0
  refine eW (gO (bf h2 ?_))
  have hg:rJ out=decide (e.sort=1):=by unfold rJ;rw[h1]
  unfold tP
  rw[hg]
  by_cases he:e.sort=1
  ·rw[au he,ax rfl]
   exact bM (bne_eq_false_iff_eq.2 he) rfl
  ·rw[aj he,ap (by simp)]
   refine bQ (du.2 he) (gO ?_)
   rw[cQ];rfl
 ·have:out=[]:=gu.1 (by omega)
  subst this
  exact bM rfl rfl
theorem UO (r:Int):0≤kind r∧kind r≤10:=by
 unfold kind rl
 repeat' split
 all_goals omega
theorem UP (b:ae):0≤kG b∧kG b≤255:=by unfold kG;have:=(b.data.toList.headD 0).toNat_lt;omega
theorem K6 (out:List El):(tP out).length≤out.length+1:=by
 unfold tP
 split
 ·omega
 ·rw[aa];exact bi _
theorem K7 (cs:List (Option (List El))) (out:List El):mn (none::cs) out=mn cs (tP out):=rfl
theorem UQ (l:List Tk):ba (sG (im l).data.toList)=rB l:=rfl
theorem UR {L A B:List bc} (h:L=A++B):dM L (A.length:Int) (L.length:Int)=B:=by
 unfold dM
 rw[bN,bN,h,gV,aa,fh,List.take_length]
theorem US {L A B:List bc} (h:L=A++B) (m:Nat) (hm:m≤B.length):dM L (A.length:Int) ((A.length:Int)+(m:Int))=B.take m:=by
 unfold dM
 rw[show (A.length:Int)+(m:Int)=((A.length+m:Nat):Int) by push_cast;rfl,bN,bN,h,gV,fh]
theorem UT {o:cw} {w:db} (hi:fj o) (hu:zr o) (hr:rI o w) {r2 L:List bc} {r3:Int} (hL:dM r2 r3 (r2.length:Int)=L) (C:∀x∈L,nw x) (hl:L.length≤65536) (J:List dr→Option (List dr)) :
  ∀ (n:Nat) (B A:List bc) (out:List El) (k:Nat),L=A++B→B.length<n→B.length≤k→out.length+5*B.length≤1000000 →
   zaC (fun _ _=>none) (zcI w J r2 r3) n (out.map rE) (A.length:Int)=J ((mn (lZ (dw o) k (B.map tkI)) out).map rE):=by
 intro n
 induction n with
 |zero=>intro B A out k _ h;omega
 |succ n ih=>
  intro B A out k d hn hk ho
  rw[fX]
  generalize a7:zaC (fun _ _=>none) (zcI w J r2 r3) n=ag
  unfold zcI
  rw[hL]
  have F:L.length=A.length+B.length:=by rw[d,aa]
  have bh:(out.map rE).length=out.length:=ar ..
  cases B with
  |nil=>
   refine bM (aj (by rw[F];simp)) ?_
   rw[dW,TL];rfl
  |cons x B=>
   rw[ab] at hn hk ho F
   obtain⟨k,rfl⟩:∃k',k=k'+1:=⟨k-1,by omega⟩
   have ok:=C x (by rw[d];simp)
   have okB:∀y∈x::B,nw y:=fun y hy=>C y (by rw[d];exact j0 _ hy)
   have hx:zcx L (A.length:Int)=some x:=gw (by rw[d];simp)
   have T:∀ (m:Nat) (c:Option (List El)) (a:List El),1≤m→m≤(x::B).length→kO (dw o) (tkI x) (B.map tkI)=(m,c)→(∀cs,mn (c::cs) out=mn cs a)→a.length≤out.length+5 →
     ag (a.map rE) ((A.length:Int)+(m:Int))=J ((mn (lZ (dw o) (k+1) ((x::B).map tkI)) out).map rE):=fun m c a h1 h2 hc O aw=>by
    rw[ab] at h2
    have:=ih ((x::B).drop m) (A++(x::B).take m) a k (by rw[d,aB,bO]) (by rw[aR,ab];omega) (by rw[aR,ab];omega) (by rw[aR,ab];omega)
    rw[a7,show (A++(x::B).take m).length=A.length+m by rw[aa,bw,ab];omega] at this
    push_cast at this
    rw[this,av,lZ,hc]
    dsimp only
    rw[O,←av,jR]
   have t:∀ (c:Option (List El)) (a:List El),kO (dw o) (tkI x) (B.map tkI)=(1,c)→(∀cs,mn (c::cs) out=mn cs a)→a.length≤out.length+5 →
     (aU (cp ((A.length:Int)+1))<|ag (a.map rE) ((A.length:Int)+1))=J ((mn (lZ (dw o) (k+1) ((x::B).map tkI)) out).map rE):=fun c a hc O aw=>
    gO (T 1 c a (bi 1) (by rw[ab];omega) hc O aw)
   refine eW (cA (bf hx ?_))
   by_cases h0:0≤x.Rune
   ·refine bQ (au h0) (zdG ok.i32 (fP ?_))
    have b:kT (tkI x)=kind x.Rune:=by
     show (if x.Rune<0 then 11 else kind x.Rune)=_
     rw[ap (by omega)]
    cases a4:((kind x.Rune:Int)==1) with
    |true=>
     have i:kT (tkI x)=1:=by rw[b];exact beq_iff_eq.1 a4
     have K:cW x.Rune=true:=(y3 (tkI x)).1.1 i
     refine bQ rfl (cA (zdG ⟨by omega,by omega,fg _⟩ ?_))
     rw[UR d]
     obtain⟨kd,Z⟩:=UN hi hr (x:=x) (B:=B) okB (by rw[ab];omega) K (fun (U:Int) (a9:Nat) (j:List ae)=>
      cn (fun (j4:Bool→Option (List dr))=>
      aU (cp ((A.length:Int)+U)) <|
      aU (0≤((A.length:Int):Int)∧((A.length:Int):Int)≤((A.length:Int)+U)∧((A.length:Int)+U:Int)≤(L.length:Int)) <|
      zaC (fun _ _=>none) (zbY r2 r3 (A.length:Int) U j4) zbC false 0
      ) (fun (D:Bool)=>
      cn (fun (j6:Int→ae→Option (List dr))=>
      aU (cp ((A.length:Int)+U)) <|
      zaC (fun _ _=>none) (zbQ r2 r3 j6) zbC ((A.length:Int)+U) (⟨#[]⟩:ae)
      ) (fun (i4:Int) (v:ae)=>
      cn (fun (j7:(List dr)→Option (List dr))=>
      zaC (fun _ _=>none) (zbX w j D j7) zbC (out.map rE) 0
      ) (fun (e:List dr)=>
      aU (cp ((e.length:Int)-1)) <|
      aT (zcx e ((e.length:Int)-1)) fun (q6:dr)=>
      ag (e.set ((e.length:Int)-1:Int).toNat (⟨q6.Sort_,q6.Digits,q6.Place,v,q6.Great⟩:dr)) i4
      ))))
     refine Z.trans ?_
     clear Z
     have g:=Et (dw o) hi.ok.fo (tkI x) (B.map tkI) K
     have H:=UB hi hu (tkI x) (B.map tkI) K
     have f:kO (dw o) (tkI x) (B.map tkI)=((kv (dw o) (tkI x) (B.map tkI)).1+(((tkI x::B.map tkI).drop (kv (dw o) (tkI x) (B.map tkI)).1).takeWhile iE).length,some (ow (lY (((tkI x::B.map tkI).drop (kv (dw o) (tkI x) (B.map tkI)).1).takeWhile iE)) ((kv (dw o) (tkI x) (B.map tkI)).2.map (ie (dw o) (qb ((tkI x::B.map tkI).take (kv (dw o) (tkI x) (B.map tkI)).1)))))):=by
      unfold kO;rw[ax i]
     generalize kv (dw o) (tkI x) (B.map tkI)=M at g H f ⊢
     obtain⟨m,ps⟩:=M
     dsimp only at g H f ⊢
     rw[←av,ar,ab] at g
     rw[←av,←jR,←List.map_take] at f
     have a5:=US d m (by rw[ab];omega)
     refine cA (gO (gO ?_))
     refine (UI (M:=(x::B).take m) (by rw[hL];exact a5) (fun y hy=>okB y (List.mem_of_mem_take hy)) (by rw[bw,ab];omega) _).trans ?_
     generalize bs:qb (((x::B).take m).map tkI)=gr at f ⊢
     refine cA (gO ?_)
     have I:=fun Jm=>UF (A:=A++(x::B).take m) (B:=(x::B).drop m) hL C (by omega) (by rw[d,aB,bO]) Jm
     have a8:(A++(x::B).take m).length=A.length+m:=by rw[aa,bw,ab];omega
     rw[a8] at I
     have Q:((A.length+m:Nat):Int)=(A.length:Int)+(m:Int):=by push_cast;rfl
     rw[Q] at I
     refine (I _).trans ?_
     have ao:((((x::B).drop m).map tkI).takeWhile iE).length+m≤(x::B).length:=by
      have:=(cV iE (l:=((x::B).drop m).map tkI)).length_le
      rw[ar,aR,ab] at this
      rw[ab];omega
     generalize bk:(((x::B).drop m).map tkI).takeWhile iE=ms at f ao ⊢
     refine cA ?_
     refine (UH hi hr gr ps H (by omega) (out.map rE) (by omega) _).trans ?_
     obtain⟨us,u,V⟩:∃us u,ps=us++[u]:=⟨ps.dropLast,ps.getLast g.2.2.1,(nh g.2.2.1).symm⟩
     have E:ps.map (ie (dw o) gr)=us.map (ie (dw o) gr)++[ie (dw o) gr u]:=by rw[V];simp
     have Y:ow (lY ms) (ps.map (ie (dw o) gr))=us.map (ie (dw o) gr)++[⟨3,((dw o).p u).getD 0,ad,lY ms,gr⟩]:=by rw[E,Eu];rfl
     have bb:us.length≤3:=by have:=g.2.2.2;rw[V,aa,ab,aI] at this;omega
     generalize hP:out++us.map (ie (dw o) gr)=P
     have b3:P.length≤out.length+4:=by rw[←hP];simp only[aa,ar];omega
     have hall:out.map rE++(ps.map (ie (dw o) gr)).map rE=P.map rE++[rE (ie (dw o) gr u)]:=by rw[E,←hP,cQ,cQ,aB];rfl
     rw[hall]
     have N:((P.map rE++[rE (ie (dw o) gr u)]).length:Int)-1=((P.map rE).length:Int):=by rw[aa,ab,aI];push_cast;omega
     rw[N]
     have b2:(P.map rE).length=P.length:=ar ..
     refine gO (bf (gw (show (P.map rE++[rE (ie (dw o) gr u)])[(P.map rE).length]?=some (rE (ie (dw o) gr u)) by simp)) ?_)
     have W:=Bu (P.map rE) (rE (ie (dw o) gr u)) (⟨(rE (ie (dw o) gr u)).Sort_,(rE (ie (dw o) gr u)).Digits,(rE (ie (dw o) gr u)).Place,lY ms,(rE (ie (dw o) gr u)).Great⟩:dr) []
     rw[W]
     have:=T (m+ms.length) (some (ow (lY ms) (ps.map (ie (dw o) gr)))) (P++[⟨3,((dw o).p u).getD 0,ad,lY ms,gr⟩]) (by omega) (by omega) f (fun cs=>by
      show mn cs (out++ow _ _)=_
      rw[Y,←aB,hP]) (by rw[aa,ab,aI];omega)
     rw[cQ] at this
     have S:((A.length+m+ms.length:Nat):Int)=(A.length:Int)+((m+ms.length:Nat):Int):=by push_cast;omega
     rw[S]
     exact this
    |false=>
     have i:¬kT (tkI x)=1:=by rw[b];exact aA.1 a4
     refine bM rfl ?_
     cases a3:((kind x.Rune:Int)==3) with
     |true=>
      have q:kT (tkI x)=3:=by rw[b];exact beq_iff_eq.1 a3
      have a6:fy (tkI x)=true:=by rw[←uO,q];rfl
      have f:kO (dw o) (tkI x) (B.map tkI)=(1+((B.map tkI).takeWhile fy).length,some [⟨2,0,rB (tkI x::(B.map tkI).takeWhile fy),ad,0⟩]):=by
       unfold kO;rw[ap i,ax q]
      refine bQ rfl (cA ?_)
      refine (UG hL C (by omega) d _).trans ?_
      rw[av,aV,a6,ax rfl,ab]
      have b1:((B.map tkI).takeWhile fy).length≤B.length:=by
       have:=(cV fy (l:=B.map tkI)).length_le
       rw[ar] at this;exact this
      have hsz:(im (tkI x::(B.map tkI).takeWhile fy)).size≤4*(tkI x::(B.map tkI).takeWhile fy).length:=wQ fun y hy=>by
       have:y∈(x::B).map tkI:=by
        rw[av]
        rcases aY.1 hy with rfl|hy
        ·exact aq ..
        ·exact ak _ (uP hy).2
       obtain⟨z,hz,rfl⟩:=aS.1 this
       exact (okB z hz).sz
      rw[ab] at hsz
      refine bf (UL _ (by omega)) (gO ?_)
      rw[UQ]
      have:=T (1+((B.map tkI).takeWhile fy).length) (some [⟨2,0,rB (tkI x::(B.map tkI).takeWhile fy),ad,0⟩]) (out++[⟨2,0,rB (tkI x::(B.map tkI).takeWhile fy),ad,0⟩]) (by omega) (by rw[ab];omega) f (fun cs=>rfl) (by rw[aa,ab,aI];omega)
      rw[cQ] at this
      have S:((A.length+(((B.map tkI).takeWhile fy).length+1):Nat):Int)=(A.length:Int)+((1+((B.map tkI).takeWhile fy).length:Nat):Int):=by push_cast;omega
      rw[S]
      exact this
     |false=>
      have q:¬kT (tkI x)=3:=by rw[b];exact aA.1 a3
      have r:¬kT (tkI x)=11:=by
       intro h
       rw[b] at h
       have:=UO x.Rune
       omega
      have s:kT (tkI x)=5∨kT (tkI x)=4∨kT (tkI x)=6→(aU (cp ((A.length:Int)+1))<|ag ((tP out).map rE) ((A.length:Int)+1))=J ((mn (lZ (dw o) (k+1) ((x::B).map tkI)) out).map rE):=fun G=>
       t none (tP out) (by unfold kO;rw[ap i,ap q,ax G]) (fun cs=>K7 cs out) (by have:=K6 out;omega)
      refine bM rfl ?_
      cases a2:((kind x.Rune:Int)==4) with
      |true=>
       refine bQ rfl ((E5 (by omega) _).trans ?_)
       exact s (.inr (.inl (by rw[b];exact beq_iff_eq.1 a2)))
      |false=>
       refine bM rfl ?_
       cases a1:((kind x.Rune:Int)==5) with
       |true=>
        refine bQ rfl ((E5 (by omega) _).trans ?_)
        exact s (.inl (by rw[b];exact beq_iff_eq.1 a1))
       |false=>
        refine bM rfl ?_
        cases a0:((kind x.Rune:Int)==6) with
        |true=>
         refine bQ rfl ((E5 (by omega) _).trans ?_)
         exact s (.inr (.inr (by rw[b];exact beq_iff_eq.1 a0)))
        |false=>
         refine bM rfl ?_
         have G:¬(kT (tkI x)=5∨kT (tkI x)=4∨kT (tkI x)=6):=by
          rw[b]
          have h4:=aA.1 a2;have h5:=aA.1 a1;have h6:=aA.1 a0
          omega
         refine t (some []) out (by unfold kO;rw[ap i,ap q,ap G,ap r]) (fun cs=>?_) (by omega)
         show mn cs (out++[])=_
         rw[aE]
   ·have r:kT (tkI x)=11:=by
     show (if x.Rune<0 then 11 else kind x.Rune)=_
     rw[ax (by omega)]
    have b0:=UP x.Text
    refine bM (aj h0) (eW (bf (UJ ok.ne) (gO (gO ?_))))
    have:=t (some [⟨4,kG x.Text,ad,ad,0⟩]) (out++[⟨4,kG x.Text,ad,ad,0⟩]) (by unfold kO;rw[r];rfl) (fun cs=>rfl) (by rw[aa,ab,aI];omega)
    rw[cQ] at this
    exact this
theorem UU (o:lP) (x:Tk) (l:List Tk) {b:List El} (h:(kO o x l).2=some b):BK b:=by
 unfold kO at h
 split at h
 ·injection h with h
  subst h
  intro e he
  rcases Bm _ he with he|⟨c,a,rfl⟩
  ·obtain⟨u,_,rfl⟩:=aS.1 he
   show (3:Int)≠1;omega
  ·obtain⟨u,_,rfl⟩:=aS.1 a
   show (3:Int)≠1;omega
 ·split at h
  ·injection h with h
   subst h
   intro e he
   rw[bl.1 he]
   show (2:Int)≠1;omega
  ·split at h
   ·cases h
   ·split at h
    ·injection h with h
     subst h
     intro e he
     rw[bl.1 he]
     show (4:Int)≠1;omega
    ·injection h with h
     subst h
     intro e he
     cases he
theorem E6 (o:lP):∀ (n:Nat) (l:List Tk) (a:List El),some a∈lZ o n l→BK a
 |0,l,a,h=>by cases h
 |n+1,[],a,h=>by cases h
 |n+1,x::l,a,h=>by
  rw[lZ] at h
  rcases aY.1 h with h|h
  ·exact UU o x l h.symm
  ·exact E6 o n _ a h
theorem E7:∀ (cs:List (Option (List El))) (out:List El),(∀a,some a∈cs→a.length≤4)→(mn cs out).length≤out.length+5*cs.length
 |[],out,_=>bi _
 |none::cs,out,h=>by
  have h1:=E7 cs (tP out) fun a he=>h a (ak _ he)
  have h2:=K6 out
  rw[K7,ab];omega
 |some a::cs,out,h=>by
  have h1:=E7 cs (out++a) fun a he=>h a (ak _ he)
  have h2:=h a (aq ..)
  rw[aa] at h1
  show (mn cs (out++a)).length≤_
  rw[ab];omega
theorem UV {o:cw} {w:db} (hi:fj o) (hu:zr o) (hr:rI o w) (t:ae) (ht:sK t):zq w t=some ((pC o t).map rE):=by
 have n:=zm (fY t)
 have r:=EX (fY t)
 have f:(fQ (fY t)).map tkI=fR t:=wX (fY t)
 have g:=JX (dw o) (fR t)
 have s:=ht.2
 have v:(fQ (fY t)).length=(fR t).length:=by
  have:=aH fu f
  rw[ar] at this;exact this
 unfold zq
 refine cA (bf (I5 t ht.1) (bf (wt (fY t) (by omega)) (bf (Uu hr t ht) (zdG ⟨by omega,by omega,fg _⟩ ?_))))
 generalize hp:qK (dw o) (fR t)=p at g ⊢
 have j:dM (fQ (fY t)) (p:Int) ((fQ (fY t)).length:Int)=(fQ (fY t)).drop p:=by
  unfold dM
  rw[bN,bN,dX (by rw[aR];omega)]
 have h1:=UT hi hu hr (r2:=fQ (fY t)) (r3:=(p:Int)) j (fun x hx=>n x (fV hx)) (by rw[aR];omega) (fun (a:List dr)=>
  cn (fun (d:(List dr)→Option (List dr))=>
  aM (decide ((0:Int)<(a.length:Int))) (
  aU (cp ((a.length:Int)-1)) <|
  aT (zcx a ((a.length:Int)-1)) fun (m:dr)=>
  aM ((m.Sort_:Int)==1) (
  aU (cp ((a.length:Int)-1)) <|
  aU (0≤((a.length:Int)-1:Int)∧((a.length:Int)-1:Int)≤(a.length:Int)) <|
  d (a.take ((a.length:Int)-1:Int).toNat)
  ) (
  d a
  )
  ) (
  d a
  )
  ) (fun (c:List dr)=>
  some c
  )) zbC ((fQ (fY t)).drop p) [] [] (fR t).length (aW _).symm (by rw[aR];unfold zbC;omega) (by rw[aR];omega) (by rw[aR];show 0+_≤_;omega)
 refine h1.trans ?_
 rw[jR,f]
 have k:=EG (dw o) hi.ok.fo hi.ok.pl (fR t).length ((fR t).drop p) (fun y hy=>(EH t ht).1 y (fV hy)) (by rw[aR];omega)
 have i:=E6 (dw o) (fR t).length ((fR t).drop p)
 have b:=BL (lZ (dw o) (fR t).length ((fR t).drop p)) [] false i (fun e h=>by cases h)
 rw[show ([]:List El)++iZ false []=[] from rfl] at b
 have l:=E7 (lZ (dw o) (fR t).length ((fR t).drop p)) [] fun E he=>(k.1 E he).2
 have q:pC o t=sR (mn (lZ (dw o) (fR t).length ((fR t).drop p)) []):=by
  rw[b];unfold pC sH;rw[hp]
 rw[q]
 have z:=k.2
 rw[aI] at l
 generalize mn (lZ (dw o) (fR t).length ((fR t).drop p)) []=out at l ⊢
 have u:(out.map rE).length=out.length:=ar ..
 refine cA ?_
 by_cases h0:0<out.length
 ·obtain⟨e,D,C⟩:=K5 h0
  refine eW (gO (bf C ?_))
  unfold sR
  rw[D]
  show aM ((e.sort:Int)==1) _ _=some ((if e.sort=1 then out.dropLast else out).map rE)
  by_cases he:e.sort=1
  ·rw[ax he]
   refine bQ (beq_iff_eq.2 he) (gO (gO (aH some ?_)))
   rw[List.map_dropLast,List.dropLast_eq_take]
   congr 1
   omega
  ·rw[ap he]
   exact bM (aA.2 he) rfl
 ·have:out=[]:=gu.1 (by omega)
  subst this
  exact bM rfl rfl

end Go.Proofs.YtifpjbgnikjglaaGreatDoor
