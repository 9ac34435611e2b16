/-
  Texts laid together: PgP, LgI, LgG, LgK, LgX, PlPageSets. Nothing is assumed.
-/
import Derived.Test.YtbempdelckaccaaGreatDoorPageSets6
import Derived.Test.YtbempdelckaccaaGreatDoorPageSets2
import Derived.Test.YtbempdelckaccaaGreatDoorPageSets4
set_option maxRecDepth 100000
set_option maxHeartbeats 4000000

namespace Go.Proofs.YtbempdelckaccaaGreatDoor
open Go.RowKit Go.Lib
set_option linter.unusedVariables false
set_option linter.unusedSimpArgs false
theorem zl2 {R:Nat→Nat→Bool} {K:Nat→Nat→Int} {n:Nat} {T:Nat→Bst} {f:Nat}:∀ (d t:Nat),(∀ t',t≤t'→t'<t+d→R f t'=false)→zhk R K n T f d t=bm
 | 0,t,_=>rfl
 | d+1,t,h=>by
  have ih:=zl2 (K:=K) (n:=n) (T:=T) d (t+1) (fun t' ht' h2=>h t' (by omega) (by omega))
  have hc:zfv R K n T f t=none:=by unfold zfv; rw [h t (Nat.le_refl _) (by omega),if_neg (by decide)]
  unfold zhk
  rw [ih,hc]; rfl
section
variable {rows:List Gapi_Row} {F L:List Int} {H:Int} (hR:RowsOk rows F L) (hH:4≤H∧H≤200)
include hR hH
theorem zwU (k f:Nat) (hf:f+(k+1)=rows.length) (j2:List Int→List Int→List Int→Option ((List Int)×Int)) :
  ∀ (e t m:Nat) (x:Bst),t=f+e→t≤rows.length→e<m→x=zhk (Rp rows H) (Kp rows H) rows.length (Bf (Rp rows H) (Kp rows H) rows.length k) f (rows.length - t) (t+1) →
  zaE (fun _ _ _ _=>none) (zcy rows H (f:Int) j2) m ((tC (Bf (Rp rows H) (Kp rows H) rows.length k) rows.length).set f x.cost) ((tR (Bf (Rp rows H) (Kp rows H) rows.length k) rows.length).set f x.rows) ((tN (Bf (Rp rows H) (Kp rows H) rows.length k) rows.length).set f x.to_) (t:Int) =
  (let y:=zhk (Rp rows H) (Kp rows H) rows.length (Bf (Rp rows H) (Kp rows H) rows.length k) f (rows.length - f) (f+1); j2 ((tC (Bf (Rp rows H) (Kp rows H) rows.length k) rows.length).set f y.cost) ((tR (Bf (Rp rows H) (Kp rows H) rows.length k) rows.length).set f y.rows) ((tN (Bf (Rp rows H) (Kp rows H) rows.length k) rows.length).set f y.to_)):=by
 have hle:=hR.n
 have hK:=zjN hR hH
 have hok:=zjX (R:=Rp rows H) (K:=Kp rows H) (n:=rows.length) hK k
 have hTn:=zrT (R:=Rp rows H) (K:=Kp rows H) (n:=rows.length) k
 intro e
 induction e with
 | zero =>
  intro t m x ht htn hm hx
  obtain ⟨m,rfl⟩:∃ q,m=q+1:=⟨m - 1,by omega⟩
  rw [zb5]
  generalize zaE (fun _ _ _ _=>none) (zcy rows H (f:Int) j2) m=ag
  have:t=f:=by omega
  subst this; subst hx
  unfold zcy
  exact zaw (decide_eq_false (by omega)) rfl
 | succ e ih =>
  intro t m x ht htn hm hx
  obtain ⟨m,rfl⟩:∃ q,m=q+1:=⟨m - 1,by omega⟩
  have ih':=fun y=>ih (t - 1) m y (by omega) (by omega) (by omega)
  rw [zb5]
  rw [show rows.length - (t - 1)=rows.length - t+1 by omega,show t - 1+1=t by omega] at ih'
  rw [show ((t - 1:Nat):Int)=(t:Int) - 1 by omega] at ih'
  generalize zaE (fun _ _ _ _=>none) (zcy rows H (f:Int) j2) m=ag at ih' ⊢
  have hstep:zhk (Rp rows H) (Kp rows H) rows.length (Bf (Rp rows H) (Kp rows H) rows.length k) f (rows.length - t+1) t=zuL x (zfv (Rp rows H) (Kp rows H) rows.length (Bf (Rp rows H) (Kp rows H) rows.length k) f t):=by rw [hx]; rfl
  rw [hstep] at ih'
  have hcnd:zfv (Rp rows H) (Kp rows H) rows.length (Bf (Rp rows H) (Kp rows H) rows.length k) f t=if Rp rows H f t=true then (if t<rows.length then (if (Bf (Rp rows H) (Kp rows H) rows.length k t).rows<0 then none else some ⟨Kp rows H f t+(Bf (Rp rows H) (Kp rows H) rows.length k t).cost,(Bf (Rp rows H) (Kp rows H) rows.length k t).rows+1,(t:Int)⟩) else some ⟨0,1,(t:Int)⟩) else none:=rfl
  generalize hT:Bf (Rp rows H) (Kp rows H) rows.length k=T at *
  generalize zhk (Rp rows H) (Kp rows H) rows.length T f (rows.length - f) (f+1)=yy at ih' ⊢
  clear hstep hx
  have gRt:=fun x=>zwv (·.rows) T rows.length f t x htn (by omega)
  have gCt:=fun x=>zwv (·.cost) T rows.length f t x htn (by omega)
  have gRf:=fun x=>zuV (·.rows) T rows.length f x (by omega)
  have gCf:=fun x=>zuV (·.cost) T rows.length f x (by omega)
  have gNf:=fun x=>zuV (·.to_) T rows.length f x (by omega)
  have hnext:∀ y:Bst,y=zuL x (zfv (Rp rows H) (Kp rows H) rows.length T f t)→(grd (I64 ((t:Int) - 1))<|ag ((tC T rows.length).set f y.cost) ((tR T rows.length).set f y.rows) ((tN T rows.length).set f y.to_) ((t:Int) - 1))=j2 ((tC T rows.length).set f yy.cost) ((tR T rows.length).set f yy.rows) ((tN T rows.length).set f yy.to_):=fun y hy=>zbl ⟨by omega,by omega⟩ (ih' y hy)
  obtain ⟨o1,o2,o3,o4⟩:=hok t
  have hk2:=hK f t
  have hI:I64 ((T t).rows+1):=⟨by omega,by omega⟩
  have hsets:∀ (L:List Int) (u v:Int),(L.set f u).set ((f:Int).toNat) v=L.set f v:=fun L u v=>by rw [Int.toNat_natCast,List.set_set]
  have hn:¬ (T t).rows<0:=by
   have:=zlh (R:=Rp rows H) (K:=Kp rows H) (n:=rows.length) hK (zmf hH) k t (by omega) htn
   rw [hT] at this; omega
  unfold zcy
  refine zaC (decide_eq_true (by omega)) (zbs (zbl ⟨by omega,by omega,by omega⟩ (zaJ (zt4 hR f t (by omega) htn) ?_)))
  by_cases hhi:H<zd1 rows f t
  ·have hRf:Rp rows H f t=false:=decide_eq_false (by omega)
   exact zaC (decide_eq_true hhi) (hnext x (by rw [hcnd,hRf,if_neg (by decide)]; rfl))
  ·have hRt:Rp rows H f t=true:=decide_eq_true (by omega)
   rw [hRt,if_pos rfl] at hcnd
   refine zaw (decide_eq_false hhi) ?_
   have hy:∃ y:Bst,zfv (Rp rows H) (Kp rows H) rows.length T f t=some y∧y.rows=(T t).rows+1∧y.to_=(t:Int)∧y.cost=(if t<rows.length then (T t).cost+Kp rows H f t else (T t).cost):=by
    by_cases htn2:t<rows.length
    ·rw [if_pos htn2] at hcnd ⊢
     rw [if_neg hn] at hcnd
     exact ⟨_,hcnd,rfl,rfl,Int.add_comm _ _⟩
    ·rw [if_neg htn2] at hcnd ⊢
     have e:t=rows.length:=by omega
     refine ⟨_,hcnd,?_,rfl,?_⟩ <;> rw [e,hTn] <;> rfl
   obtain ⟨y,hc,y1,y2,y3⟩:=hy
   rw [hc] at hnext
   have main:∀ c1:Int,c1=y.cost→(zah (zbm ((tR T rows.length).set f x.rows) (f:Int)) fun (q4:Int)=>zay (decide ((q4:Int)<0)) (zah (zbm ((tR T rows.length).set f x.rows) (t:Int)) fun (q5:Int)=>grd (I64 (q5+1))<|zah (zbm ((tC T rows.length).set f x.cost) (f:Int)) fun (q6:Int)=>zah (zbm ((tR T rows.length).set f x.rows) (f:Int)) fun (q7:Int)=>zah (zbm ((tN T rows.length).set f x.to_) (f:Int)) fun (q8:Int) =>
      grd (I64 ((t:Int) - 1))<|ag (((tC T rows.length).set f x.cost).set (f:Int).toNat c1) (((tR T rows.length).set f x.rows).set (f:Int).toNat (q5+1)) (((tN T rows.length).set f x.to_).set (f:Int).toNat (t:Int)) ((t:Int) - 1))
     (zah (zbm ((tC T rows.length).set f x.cost) (f:Int)) fun (q9:Int)=>zay (decide ((c1:Int)<q9)) (zah (zbm ((tR T rows.length).set f x.rows) (t:Int)) fun (q10:Int)=>grd (I64 (q10+1))<|zah (zbm ((tC T rows.length).set f x.cost) (f:Int)) fun (q11:Int)=>zah (zbm ((tR T rows.length).set f x.rows) (f:Int)) fun (q12:Int)=>zah (zbm ((tN T rows.length).set f x.to_) (f:Int)) fun (q13:Int) =>
      grd (I64 ((t:Int) - 1))<|ag (((tC T rows.length).set f x.cost).set (f:Int).toNat c1) (((tR T rows.length).set f x.rows).set (f:Int).toNat (q10+1)) (((tN T rows.length).set f x.to_).set (f:Int).toNat (t:Int)) ((t:Int) - 1))
     (zay ((c1:Int)==q9) (zah (zbm ((tR T rows.length).set f x.rows) (t:Int)) fun (q14:Int)=>grd (I64 (q14+1))<|zay (decide (((q14+1):Int)<q4)) (zah (zbm ((tR T rows.length).set f x.rows) (t:Int)) fun (q15:Int)=>grd (I64 (q15+1))<|zah (zbm ((tC T rows.length).set f x.cost) (f:Int)) fun (q16:Int)=>zah (zbm ((tR T rows.length).set f x.rows) (f:Int)) fun (q17:Int)=>zah (zbm ((tN T rows.length).set f x.to_) (f:Int)) fun (q18:Int) =>
      grd (I64 ((t:Int) - 1))<|ag (((tC T rows.length).set f x.cost).set (f:Int).toNat c1) (((tR T rows.length).set f x.rows).set (f:Int).toNat (q15+1)) (((tN T rows.length).set f x.to_).set (f:Int).toNat (t:Int)) ((t:Int) - 1))
      (grd (I64 ((t:Int) - 1))<|ag ((tC T rows.length).set f x.cost) ((tR T rows.length).set f x.rows) ((tN T rows.length).set f x.to_) ((t:Int) - 1)))
      (grd (I64 ((t:Int) - 1))<|ag ((tC T rows.length).set f x.cost) ((tR T rows.length).set f x.rows) ((tN T rows.length).set f x.to_) ((t:Int) - 1)))))=j2 ((tC T rows.length).set f yy.cost) ((tR T rows.length).set f yy.rows) ((tN T rows.length).set f yy.to_):=by
    rintro c1 rfl
    have hput:(grd (I64 ((t:Int) - 1))<|ag (((tC T rows.length).set f x.cost).set (f:Int).toNat y.cost) (((tR T rows.length).set f x.rows).set (f:Int).toNat ((T t).rows+1)) (((tN T rows.length).set f x.to_).set (f:Int).toNat (t:Int)) ((t:Int) - 1))=(grd (I64 ((t:Int) - 1))<|ag ((tC T rows.length).set f y.cost) ((tR T rows.length).set f y.rows) ((tN T rows.length).set f y.to_) ((t:Int) - 1)):=by
     rw [hsets,hsets,hsets,y1,y2]
    have hadd:zuL x (some y)=opB y x:=rfl
    rw [hadd] at hnext
    unfold opB at hnext
    refine zaJ (gRf _) ?_
    by_cases h1:x.rows<0
    ·rw [if_pos h1] at hnext
     exact zaC (decide_eq_true h1) (zaJ (gRt _) (zbl hI (zaJ (gCf _) (zaJ (gRf _) (zaJ (gNf _) (hput.trans (hnext y rfl)))))))
    rw [if_neg h1] at hnext
    refine zaw (decide_eq_false h1) (zaJ (gCf _) ?_)
    by_cases h2:y.cost<x.cost
    ·rw [if_neg (by omega)] at hnext
     exact zaC (decide_eq_true h2) (zaJ (gRt _) (zbl hI (zaJ (gCf _) (zaJ (gRf _) (zaJ (gNf _) (hput.trans (hnext y rfl)))))))
    refine zaw (decide_eq_false h2) ?_
    by_cases h3:y.cost=x.cost
    ·refine zaC (zgt h3) (zaJ (gRt _) (zbl hI ?_))
     by_cases h4:(T t).rows+1<x.rows
     ·rw [if_neg (by omega)] at hnext
      exact zaC (decide_eq_true h4) (zaJ (gRt _) (zbl hI (zaJ (gCf _) (zaJ (gRf _) (zaJ (gNf _) (hput.trans (hnext y rfl)))))))
     ·rw [if_pos (by omega)] at hnext
      exact zaw (decide_eq_false h4) (hnext x rfl)
    ·rw [if_pos (by omega)] at hnext
     exact zaw (zgD h3) (hnext x rfl)
   refine zbs (zaJ (gCt _) ?_)
   by_cases htn2:t<rows.length
   ·rw [if_pos htn2] at y3
    have hsq:=zqw hR hH (f:=f) (t:=t) (by omega) htn (by omega)
    have hcr:=zm8 rows t
    have hrng:=zj7 hR (f:=f) (t:=t) (by omega) htn
    have hKe:Kp rows H f t=(H - zd1 rows f t)*(H - zd1 rows f t)+zoH rows t:=by unfold Kp; rw [if_pos ⟨by omega,htn2,by omega⟩]
    rw [hKe] at y3
    generalize (H - zd1 rows f t)*(H - zd1 rows f t)=sq at hsq y3 ⊢
    refine zaC (decide_eq_true (by omega)) (zbl ⟨by omega,by omega⟩ (zbl ⟨by omega,by omega⟩ (zbl ⟨by omega,by omega⟩ (zbl ⟨?_,?_⟩ (zaJ (zvy rows hle t (by omega) htn2) (zbl ⟨?_,?_⟩ (main _ (by omega))))))))
    ·show -9223372036854775808≤(T t).cost+sq; omega
    ·show (T t).cost+sq≤9223372036854775807; omega
    ·show -9223372036854775808≤(T t).cost+sq+zoH rows t; omega
    ·show (T t).cost+sq+zoH rows t≤9223372036854775807; omega
   ·rw [if_neg htn2] at y3
    exact zaw (decide_eq_false (by omega)) (main _ y3.symm)
theorem zvt (j1:List Int→List Int→Option ((List Int)×Int)):∀ (d k m:Nat),k+d=rows.length→d<m →
  zaE (fun _ _ _ _=>none) (zcM rows H j1) m (tC (Tp rows H k) rows.length) (tR (Tp rows H k) rows.length) (tN (Tp rows H k) rows.length) ((rows.length:Int) - 1 - (k:Int)) =
  j1 (tC (Tt rows H) rows.length) (tN (Tt rows H) rows.length):=by
 have hle:=hR.n
 have hK:=zjN hR hH
 intro d
 induction d with
 | zero =>
  intro k m hk hm
  obtain ⟨m,rfl⟩:∃ q,m=q+1:=⟨m - 1,by omega⟩
  rw [zb5]
  generalize zaE (fun _ _ _ _=>none) (zcM rows H j1) m=ag
  unfold zcM
  refine zaw (decide_eq_false (by omega)) ?_
  rw [show k=rows.length by omega]; rfl
 | succ d ih =>
  intro k m hk hm
  obtain ⟨m,rfl⟩:∃ q,m=q+1:=⟨m - 1,by omega⟩
  have ih':=ih (k+1) m (by omega) (by omega)
  rw [zb5]
  generalize zaE (fun _ _ _ _=>none) (zcM rows H j1) m=ag at ih' ⊢
  obtain ⟨f,hf⟩:∃ f:Nat,f+(k+1)=rows.length:=⟨d,by omega⟩
  rw [show (rows.length:Int) - 1 - (k:Int)=(f:Int) by omega]
  rw [show (rows.length:Int) - 1 - ((k+1:Nat):Int)=(f:Int) - 1 by omega] at ih'
  have hb0:Bf (Rp rows H) (Kp rows H) rows.length k f=b0:=zrS k f (by omega)
  have hcand:∀ t y,zfv (Rp rows H) (Kp rows H) rows.length (Tp rows H k) f t=some y→0≤y.rows:=fun t y h=>(zhb hK (zjX hK k) h).2
  have hfold:=zrf (R:=Rp rows H) (K:=Kp rows H) (n:=rows.length) hcand (rows.length - f) (f+1)
  obtain ⟨h,hh⟩:∃ h:Nat,H=(h:Int):=⟨H.toNat,by omega⟩
  have hbm:∀ t,(f+h≤t∨t=rows.length)→t≤rows.length→bm=zhk (Rp rows H) (Kp rows H) rows.length (Tp rows H k) f (rows.length - t) (t+1):=fun t ht htn=>by
   rw [zl2]
   intro t' ht' ht2
   unfold Rp
   refine decide_eq_false ?_
   have:=(zj7 hR (f:=f) (t:=t') (by omega) (by omega)).1
   omega
  have hne:∀ j,j≠f→Tp rows H (k+1) j=Tp rows H k j:=fun j hj=>by
   show Bf _ _ _ (k+1) j=Bf _ _ _ k j
   rw [zfu,if_neg (by omega)]
  have e1:Tp rows H (k+1) f=zeA (Rp rows H) (Kp rows H) rows.length (Tp rows H k) f (rows.length - f) (f+1) bm:=by
   show Bf _ _ _ (k+1) f=_
   rw [zfu,if_pos hf]
  have hin:∀ t:Nat,(f+h≤t∨t=rows.length)→f≤t→t≤rows.length→zaE (fun _ _ _ _=>none) (zcy rows H (f:Int) (fun (cost5:List Int) (pages4:List Int) (next5:List Int)=>grd (I64 ((f:Int) - 1))<|ag cost5 pages4 next5 ((f:Int) - 1))) zbN (tC (Tp rows H k) rows.length) ((tR (Tp rows H k) rows.length).set f (-1)) (tN (Tp rows H k) rows.length) (t:Int)=j1 (tC (Tt rows H) rows.length) (tN (Tt rows H) rows.length):=fun t ht hft htn=>by
   have hin:=zwU hR hH k f hf (fun (cost5:List Int) (pages4:List Int) (next5:List Int)=>grd (I64 ((f:Int) - 1))<|ag cost5 pages4 next5 ((f:Int) - 1)) (t - f) t zbN bm (by omega) htn (zbM (by omega)) (hbm t ht htn)
   simp only at hin
   rw [← hfold,← e1] at hin
   unfold tC tR tN at hin ih' ⊢
   rw [zlM (·.cost) (by omega) hne,zlM (·.rows) (by omega) hne,zlM (·.to_) (by omega) hne,zo3 (·.cost) (by omega) (by rw [hb0]; rfl),zo3 (·.to_) (by omega) (by rw [hb0]; rfl)] at hin
   exact hin.trans (zbl ⟨by omega,by omega⟩ ih')
  have hgR:zbm (tR (Tp rows H k) rows.length) (f:Int)=some ((Tp rows H k f).rows):=zcj (zno (·.rows) _ _ f (by omega))
  unfold zcM
  refine zaC (decide_eq_true (by omega)) (zbs (zbs (zaJ hgR (zbl ⟨by omega,by omega⟩ ?_))))
  rw [Int.toNat_natCast]
  by_cases hm2:(rows.length:Int)<(f:Int)+H
  ·exact zaC (decide_eq_true hm2) (hin rows.length (.inr rfl) (by omega) (Nat.le_refl _))
  ·refine zaw (decide_eq_false hm2) ?_
   rw [show (f:Int)+H=((f+h:Nat):Int) by omega]
   exact hin (f+h) (.inl (Nat.le_refl _)) (by omega) (by omega)
theorem zvu (j6:List Int→Option ((List Int)×Int)):∀ (m f N:Nat) (out:List Int),rows.length≤f+m→m<N→out.length≤f→f≤rows.length→zaE (fun _ _=>none) (zcx rows (tN (Tt rows H) rows.length) j6) N out (f:Int)=j6 (out++(znZ (Tt rows H) rows.length m f).map (fun t=>((t:Nat):Int))):=by
 have hle:=hR.n
 intro m
 induction m with
 | zero =>
  intro f N out hm hN ho hf
  obtain ⟨N,rfl⟩:∃ q,N=q+1:=⟨N - 1,by omega⟩
  rw [zb5]
  generalize zaE (fun _ _=>none) (zcx rows (tN (Tt rows H) rows.length) j6) N=ag
  unfold zcx
  refine zaw (decide_eq_false (by omega)) ?_
  show j6 out=j6 (out++[])
  rw [List.append_nil]
 | succ m ih =>
  intro f N out hm hN ho hf
  obtain ⟨N,rfl⟩:∃ q,N=q+1:=⟨N - 1,by omega⟩
  rw [zb5]
  have ih':=fun t out=>ih t N out
  generalize zaE (fun _ _=>none) (zcx rows (tN (Tt rows H) rows.length) j6) N=ag at ih' ⊢
  unfold zcx znZ
  by_cases h:f<rows.length
  ·obtain ⟨t,h1,h2,h3,h4⟩:=zoX (zjN hR hH) (zmf hH) h
   have hg:zbm (tN (Tt rows H) rows.length) (f:Int)=some (t:Int):=by rw [← h1]; exact zcj (zno (·.to_) _ _ f (by omega))
   rw [if_pos h,h1,Int.toNat_natCast]
   refine zaC (decide_eq_true (by omega)) (zaJ hg (zbl (by omega) ?_))
   rw [ih' t (out++[(t:Int)]) (by omega) (by omega) (by rw [List.length_append]; simp; omega) h3,List.append_assoc]; rfl
  ·rw [if_neg h]
   refine zaw (decide_eq_false (by omega)) ?_
   show j6 out=j6 (out++[])
   rw [List.append_nil]
theorem zsm:zfi rows H=some ((zhE rows H).map (fun t=>((t:Nat):Int)),(Tt rows H 0).cost):=by
 have hle:=hR.n
 unfold zfi
 refine zbs (zbl ⟨by omega,by omega⟩ (zbl ⟨by omega,by omega⟩ (zbl ⟨by omega,by omega⟩ (zbl ⟨by omega,by omega⟩ (zbl ⟨by omega,by omega⟩ (zbl ⟨by omega,by omega⟩ (zbl ⟨by omega,by omega⟩ ?_)))))))
 have ho:=zvt hR hH (fun (cost1:List Int) (next1:List Int)=>zbk (fun (j6:(List Int)→Option ((List Int)×Int))=>zaE (fun _ _=>none) (zcx rows next1 j6) zbN ([]:List Int) 0) (fun (out1:List Int)=>zah (zbm cost1 0) fun (q19:Int)=>some (out1,q19))) rows.length 0 zbN (by omega) (zbM (by omega))
 have er:∀ g:Bst→Int,g b0=0→(zff (Tp rows H 0) rows.length).map g=List.replicate ((rows.length:Int)+1:Int).toNat 0:=by
  intro g hg
  rw [zqr,List.map_replicate,hg,show ((rows.length:Int)+1:Int).toNat=rows.length+1 by omega]
 unfold tC tR tN at ho
 rw [er _ rfl,er _ rfl,er _ rfl,show (rows.length:Int) - 1 - ((0:Nat):Int)=(rows.length:Int) - 1 by omega] at ho
 refine ho.trans (zbs ?_)
 have hext:=zvu hR hH (fun (out1:List Int)=>zah (zbm (tC (Tt rows H) rows.length) 0) fun (q19:Int)=>some (out1,q19)) rows.length 0 zbN [] (by omega) (zbM (by omega)) (Nat.zero_le _) (Nat.zero_le _)
 exact hext.trans (zaJ (zdk (n:=0) rfl (zno (·.cost) _ _ 0 (Nat.zero_le _))) rfl)
end
end Go.Proofs.YtbempdelckaccaaGreatDoor

namespace Go.Proofs.YtbempdelckaccaaGreatDoor
open Go.RowKit Go.Lib
set_option linter.unusedVariables false
set_option linter.unusedSimpArgs false
def zcm (b1:Gpage_Book) (k1:Int):Option ((List Gapi_Row)×Int) :=
zay (decide ((k1:Int)<0)) (
some (([]:List Gapi_Row),5)
) (
zay (decide (((b1.pages.length:Int):Int)≤k1)) (
some (([]:List Gapi_Row),5)
) (
zah (zbm b1.pages k1) fun (x1:List Gapi_Row) =>
zah (zeC x1) fun (r1:(List Gapi_Row)) =>
some (r1,0)
)
)
theorem zgQ {bb1:Nat} {b1:Gpage_Book} {b1_h0:Hd} {k1:Int} {r:((List Gapi_Row)×Int)} (h:zcm b1 k1=some r):FnR Tryz.prog 19 [zP bb1,zI k1] [cells bb1 [zI b1.layout_Width,zI b1.layout_Height,zI b1.layout_Turn,zI b1.layout_Every,b1_h0.v,zI b1.cost] 81,zgc zaP zaY 43 1 b1_h0.v b1.pages] [] (fun v0:Value=>.tuple #[v0,zI r.2]) (fun v0=>[zv1 v0 r.1]):=by
 unfold zcm at h
 refine FnR.intro Tryz.func19 rfl Tryz.ntmps19 (by simp) ?_
 intro w0 K hrd
 refine zyG (zyR 2 rfl (zyN (zaI (zaF (zyG (zyR 1 rfl (zaU rfl (zc6 Tryz.underlying25) (zyR 1 rfl (zaO ?_)))))))))
 refine zaH (zaS rfl (zyG (zyR 1 rfl (zaU rfl zbc (zyR 1 rfl ?_)))))
 refine zyS (s:=12) rfl h (fun h => ?_) (fun h => ?_)
 ·
  refine zyR 9 rfl (zyN (za5 rfl (zyG ?_)))
  refine zyR 2 rfl (zyN (zaG (zat (zao (zdq (enc:=zbf) (e:=33) (size:=6) ?_)))))
  cases h
  exact zaK (rs:=[.tmp 4,.tmp 5]) (.slice none 0 0) (.inl rfl) Tryz.results19 (.cons (.tmp rfl) (.cons (.tmp rfl) .nil)) rfl (zad [0] kr rfl)
 refine zyR 2 rfl (zaD rfl dc rfl (zab zji rfl dc rfl (show _=4 from rfl) (zbw (i:=0) hrd rfl zqI rfl dc rfl rfl ?_)))
 obtain ⟨zs1,hz1,hV1,hrd⟩:=hrd.openN (i:=1) rfl zew zgn
 replace hrd:Rd _ _ [cells bb1 [zI b1.layout_Width,zI b1.layout_Height,zI b1.layout_Turn,zI b1.layout_Every,b1_h0.v,zI b1.cost] 81,zgc zaP zaY 43 1 b1_h0.v b1.pages,zfh zaP 1 b1_h0.v 0 zs1,zlx zcP zs1]:=hrd
 refine zla hz1 hV1 rfl dc rfl Tryz.underlying79 (zaU rfl zer (zyR 2 rfl (zyN ?_)))
 refine zyB rfl h (fun h => ?_) (fun h => ?_)
 ·
  refine zyG (zyR 2 rfl (zyN (zaG (zat (zao (zdq (enc:=zbf) (e:=33) (size:=6) ?_))))))
  cases h
  exact zaK (rs:=[.tmp 4,.tmp 5]) (.slice none 0 0) (.inl rfl) Tryz.results19 (.cons (.tmp rfl) (.cons (.tmp rfl) .nil)) rfl (zad [0] kr rfl)
 refine zar (zag (zaH (zyG (zyR 1 rfl (zaD rfl dc rfl (zab zji rfl dc rfl (show _=4 from rfl) (zbw (i:=0) hrd rfl zqI rfl dc rfl rfl (zyR 1 rfl ?_))))))))
 obtain ⟨x1,hq1,h⟩:=zbi h
 obtain ⟨eh1,eq1⟩:=zpm hz1 hq1
 have hrd:Rd _ _ [cells bb1 [zI b1.layout_Width,zI b1.layout_Height,zI b1.layout_Turn,zI b1.layout_Every,b1_h0.v,zI b1.cost] 81,zgc zaP zaY 43 1 b1_h0.v b1.pages,zfh zaP 1 b1_h0.v 0 zs1,zlx zcP zs1,zt6 zbf 6 eh1 x1]:=hrd.openEl (i:=3) (z:=(x1,eh1)) rfl (Vw.get hV1 eq1)
 obtain ⟨vv1,k2,L1,hV2,hrd⟩:=hrd.openSl (i:=4) rfl
 replace hrd:Rd _ _ [cells bb1 [zI b1.layout_Width,zI b1.layout_Height,zI b1.layout_Turn,zI b1.layout_Every,b1_h0.v,zI b1.cost] 81,zgc zaP zaY 43 1 b1_h0.v b1.pages,zfh zaP 1 b1_h0.v 0 zs1,zlx zcP zs1,zt6 zbf 6 eh1 x1,zfh zbf 6 vv1 k2 L1]:=hrd
 refine za9 hV1 eq1 Tryz.underlying79 ztP rfl dc rfl rfl rfl (zca (n:=0+(k1:Int).toNat) (j:=0) (i:=2) (q:=(x1,eh1)) hrd rfl (by omega) zmz rfl dc rfl (Vw.get hV1 eq1) rfl rfl ?_)
 obtain ⟨r1,hq2,h⟩:=zbi h
 refine zft (vs:=[eh1.v]) hrd rfl dc rfl rfl rfl zxv (zf3 hV2 hq2) Splits.nil (.ro 5 rfl .nil) ?_
 rintro v1
 refine zby (k:=0) rfl (fun hd1 he1 => ?_)
 subst he1
 refine zyR 2 rfl (zyN (zaG ?_))
 cases h
 exact zaK (rs:=[.tmp 4,.tmp 5]) hd1.v (.inl rfl) Tryz.results19 (.cons (.tmp rfl) (.cons (.tmp rfl) .nil)) rfl (zad [0] kr rfl)
def zbO (line1:Int) (x3:Int) (j2:Option (Int×Int×Int)) (x4:List Gapi_Row) (ag2:Int→Option (Int×Int×Int)) (x7:Int):Option (Int×Int×Int) :=
zay (decide ((x7:Int)<(x4.length:Int))) (
zbk (fun (j3:Option (Int×Int×Int)) =>
zah (zbm x4 x7) fun (q1:Gapi_Row) =>
zay ((q1.Line:Int)==line1) (
zay ((q1.Part:Int)==0) (
some (x3,x7,0)
) (
j3
)
) (
j3
)
) (
grd (I64 (x7+1)) <|
ag2 (x7+1)
)
) (
j2
)
def zbA (b1:Gpage_Book) (line1:Int) (j1:Option (Int×Int×Int)) (ag1:Int→Option (Int×Int×Int)) (x3:Int):Option (Int×Int×Int) :=
zay (decide ((x3:Int)<(b1.pages.length:Int))) (
zbk (fun (j2:Option (Int×Int×Int)) =>
zah (zbm b1.pages x3) fun (x4:List Gapi_Row) =>
zaE (fun _=>none) (zbO line1 x3 j2 x4) zbN 0
) (
grd (I64 (x3+1)) <|
ag1 (x3+1)
)
) (
j1
)
def zbu (b1:Gpage_Book) (line1:Int):Option (Int×Int×Int) :=
zbk (fun (j1:Option (Int×Int×Int)) =>
zay (decide ((0:Int)≤line1)) (
zaE (fun _=>none) (zbA b1 line1 j1) zbN 0
) (
j1
)
) (
some (0,0,5)
)
theorem zfB {bb1:Nat} {b1:Gpage_Book} {b1_h0:Hd} {line1:Int} {r:(Int×Int×Int)} (h:zbu b1 line1=some r):FnR Tryz.prog 21 [zP bb1,zI line1] [cells bb1 [zI b1.layout_Width,zI b1.layout_Height,zI b1.layout_Turn,zI b1.layout_Every,b1_h0.v,zI b1.cost] 81,zgc zaP zaY 43 1 b1_h0.v b1.pages] [] (fun _:Unit=>(.tuple #[zI r.1,zI r.2.1,zI r.2.2])) (fun _=>[]):=by
 unfold zbu at h
 refine FnR.intro Tryz.func21 rfl Tryz.ntmps21 (by simp) ?_
 intro w0 K hrd
 refine zyG (zyR 3 rfl (zyN (zaI (zyG (zyR 1 rfl (zaU rfl (zc6 Tryz.underlying25) (zyN ?_)))))))
 refine zaS rfl (zar (zaH ?_))
 obtain ⟨j1,hj1,h⟩:=zbG h
 refine zaX (β:=Unit) 0 rfl (fun b=>j1=some r) (fun b=>[]) (fun b=>[]) (fun b=>[]) (fun cut => ?_) ?_
 ·
  refine cut (zyG (zyR 1 rfl (zaU rfl zer (zyN ?_))))
  refine zyB rfl h (fun h => ?_) (fun h => ?_)
  ·
   refine zyG (zyR 1 rfl (zaD rfl dc rfl (zab zji rfl dc rfl (show _=4 from rfl) (zbw (i:=0) hrd rfl zqI rfl dc rfl rfl ?_))))
   obtain ⟨zs1,hz1,hV1,hrd⟩:=hrd.openN (i:=1) rfl zew zgn
   replace hrd:Rd _ _ [cells bb1 [zI b1.layout_Width,zI b1.layout_Height,zI b1.layout_Turn,zI b1.layout_Every,b1_h0.v,zI b1.cost] 81,zgc zaP zaY 43 1 b1_h0.v b1.pages,zfh zaP 1 b1_h0.v 0 zs1,zlx zcP zs1]:=hrd
   refine zla hz1 hV1 rfl dc rfl Tryz.underlying79 (zyR 1 rfl (zyN (zaF ?_)))
   refine zbj (β:=Nat×Int) (fun b=>zaE (fun _=>none) (zbA b1 line1 j1) b.1 b.2=some r) (fun b=>[]) (fun b=>[(1,zI line1),(18,b1_h0.v),(19,zI (b1.pages.length:Int)),(20,zI b.2)]) (fun b=>[]) (fun b=>b.1) (zbN,0) h rfl (za0 rfl) Splits.nil ?_
   rintro ⟨n1,x3⟩ h
   cases n1 with
   | zero=>exact zdp h
   | succ n1 =>
    obtain ⟨ag1,hag1⟩:∃ ag,ag=zaE (fun _=>none) (zbA b1 line1 j1) n1:=⟨_,rfl⟩
    have h:zbA b1 line1 j1 ag1 x3=some r:=by rw [hag1]; exact h
    unfold zbA at h
    refine zyG (zaU rfl zbc (zyN (zaI ?_)))
    refine zyB rfl h (fun h => ?_) (fun h => ?_)
    ·
     refine zar (zaH ?_)
     obtain ⟨j2,hj2,h⟩:=zbG h
     refine zaX (β:=Unit) 0 rfl (fun b=>j2=some r) (fun b=>[]) (fun b=>[(1,zI line1),(18,b1_h0.v),(19,zI (b1.pages.length:Int)),(20,zI x3)]) (fun b=>[]) (fun cut => ?_) ?_
     ·
      refine cut (zaF (zyG (zyR 1 rfl ?_)))
      obtain ⟨x4,hq1,h⟩:=zbi h
      obtain ⟨eh1,eq1⟩:=zpm hz1 hq1
      have hrd:Rd _ _ [cells bb1 [zI b1.layout_Width,zI b1.layout_Height,zI b1.layout_Turn,zI b1.layout_Every,b1_h0.v,zI b1.cost] 81,zgc zaP zaY 43 1 b1_h0.v b1.pages,zfh zaP 1 b1_h0.v 0 zs1,zlx zcP zs1,zt6 zbf 6 eh1 x4]:=hrd.openEl (i:=3) (z:=(x4,eh1)) rfl (Vw.get hV1 eq1)
      obtain ⟨vv1,k1,L1,hV2,hrd⟩:=hrd.openSl (i:=4) rfl
      replace hrd:Rd _ _ [cells bb1 [zI b1.layout_Width,zI b1.layout_Height,zI b1.layout_Turn,zI b1.layout_Every,b1_h0.v,zI b1.cost] 81,zgc zaP zaY 43 1 b1_h0.v b1.pages,zfh zaP 1 b1_h0.v 0 zs1,zlx zcP zs1,zt6 zbf 6 eh1 x4,zfh zbf 6 vv1 k1 L1]:=hrd
      refine za9 hV1 eq1 Tryz.underlying79 ztP rfl dc rfl rfl rfl (zca (n:=0+(x3:Int).toNat) (j:=0) (i:=2) (q:=(x4,eh1)) hrd rfl (by omega) zmz rfl dc rfl (Vw.get hV1 eq1) rfl rfl (zyR 2 rfl (zyH (zyR 1 rfl (zdT hV2 rfl dc rfl Tryz.underlying43 (zyR 1 rfl (zyN (zaF ?_))))))))
      refine zbj (β:=Nat×Int) (fun b=>zaE (fun _=>none) (zbO line1 x3 j2 x4) b.1 b.2=some r) (fun b=>[]) (fun b=>[(1,zI line1),(7,zI x3),(18,b1_h0.v),(19,zI (b1.pages.length:Int)),(20,zI x3),(25,eh1.v),(26,zI (x4.length:Int)),(27,zI b.2)]) (fun b=>[]) (fun b=>b.1) (zbN,0) h rfl (za0 rfl) Splits.nil ?_
      rintro ⟨n2,x7⟩ h
      cases n2 with
      | zero=>exact zdp h
      | succ n2 =>
       obtain ⟨ag2,hag2⟩:∃ ag,ag=zaE (fun _=>none) (zbO line1 x3 j2 x4) n2:=⟨_,rfl⟩
       have h:zbO line1 x3 j2 x4 ag2 x7=some r:=by rw [hag2]; exact h
       unfold zbO at h
       refine zyG (zaU rfl zbc (zyN (zaI ?_)))
       refine zyB rfl h (fun h => ?_) (fun h => ?_)
       ·
        refine zar (zaH ?_)
        obtain ⟨j3,hj3,h⟩:=zbG h
        refine zaX (β:=Unit) 0 rfl (fun b=>j3=some r) (fun b=>[]) (fun b=>[(1,zI line1),(7,zI x3),(18,b1_h0.v),(19,zI (b1.pages.length:Int)),(20,zI x3),(25,eh1.v),(26,zI (x4.length:Int)),(27,zI x7)]) (fun b=>[]) (fun cut => ?_) ?_
        ·
         refine cut (zaF (zyG (zyR 1 rfl ?_)))
         obtain ⟨q1,hq2,h⟩:=zbi h
         refine za9 hV2 hq2 Tryz.underlying43 zeb rfl dc rfl rfl rfl (zf4 (m:=k1+(x7:Int).toNat) (j:=0) (i:=5) (q:=q1) (cs:=(zr3 q1)) hrd rfl (by omega) zia rfl dc rfl (Vw.get hV2 hq2) rfl rfl rfl ?_)
         refine zbE zoh rfl dc (fun b2 => ?_)
         refine zyR 1 rfl (za6 (k:=0) (vs:=(zr3 q1)) (l':=(zr3 q1)) zeb rfl rfl rfl rfl rfl (show _≤_ by simp) rfl rfl ?_)
         refine zyH (zab zfn rfl dc rfl (show _=0 from rfl) (zau (k:=0) zbp rfl dc rfl rfl rfl (zyR 1 rfl (zaU rfl zaT (zyR 1 rfl ?_)))))
         refine zyS (s:=36) rfl h (fun h => ?_) (fun h => ?_)
         ·
          refine zab zrl rfl dc rfl (show _=2 from rfl) (zau (k:=0) zbp rfl dc rfl rfl rfl (zaU rfl zaT (zyR 1 rfl (zyN ?_))))
          refine zyB rfl h (fun h => ?_) (fun h => ?_)
          ·
           refine zyG (zyR 5 rfl (zyN (zaG (zat (zao (zao (zat ?_)))))))
           refine zat (zao (zao (zat (zao ?_))))
           cases h
           exact zaK (rs:=[.tmp 4,.tmp 5,.tmp 6]) () (.inl rfl) Tryz.results21 (.cons (.tmp rfl) (.cons (.tmp rfl) (.cons (.tmp rfl) .nil))) rfl Splits.nil
          refine zar (zag ?_)
          exact zal () h rfl (za0 rfl) Splits.nil
         refine zyR 4 rfl (zyN (zaS rfl (zar (zag ?_))))
         exact zal () h rfl (za0 rfl) Splits.nil
        rintro _ h
        rw [hj3] at h
        refine zav ?_
        obtain ⟨hg1,h⟩:=zbr h
        refine zaU rfl (zaR (r:=x7+1) (IntWalk.i64_in _ hg1)) (zyR 1 rfl (zaO ?_))
        subst hag2
        exact za1 (n2,x7+1) h (Nat.lt_succ_self _) rfl (za0 rfl) Splits.nil
       refine za3 (zan (zan (zax (zag ?_))))
       exact zal () h rfl (za0 rfl) Splits.nil
     rintro _ h
     rw [hj2] at h
     refine zav ?_
     obtain ⟨hg2,h⟩:=zbr h
     refine zaU rfl (zaR (r:=x3+1) (IntWalk.i64_in _ hg2)) (zyR 1 rfl (zaO ?_))
     subst hag1
     exact za1 (n1,x3+1) h (Nat.lt_succ_self _) rfl (za0 rfl) Splits.nil
    refine za3 (zan (zan (zax ?_)))
    exact zal () h rfl (zio) Splits.nil
  refine zar ?_
  exact zal () h rfl (zio) Splits.nil
 rintro _ h
 rw [hj1] at h
 refine zyG (zyR 3 rfl (zyN (zaG ?_)))
 cases h
 exact zaK (rs:=[.tmp 4,.tmp 5,.tmp 6]) () (.inl rfl) Tryz.results21 (.cons (.tmp rfl) (.cons (.tmp rfl) (.cons (.tmp rfl) .nil))) rfl Splits.nil
end Go.Proofs.YtbempdelckaccaaGreatDoor

namespace Go.Proofs.YtbempdelckaccaaGreatDoor
open Go.RowKit Go.Lib
set_option linter.unusedVariables false
set_option linter.unusedSimpArgs false
end Go.Proofs.YtbempdelckaccaaGreatDoor

namespace Go.Proofs.YtbempdelckaccaaGreatDoor
open Go.RowKit Go.Lib
set_option linter.unusedVariables false
set_option linter.unusedSimpArgs false
def zds (rows1:List Gapi_Row) (j1:(List Gapi_Row)→Option (List Gapi_Row)) (ag1:(List Gapi_Row)→Int→Option (List Gapi_Row)) (out4:List Gapi_Row) (i3:Int):Option (List Gapi_Row) :=
zay (decide ((i3:Int)<(rows1.length:Int))) (
zbk (fun (j2:(List Gapi_Row)→Option (List Gapi_Row)) =>
zay (decide ((0:Int)<i3)) (
zah (zbm rows1 i3) fun (q1:Gapi_Row) =>
grd (I64 (i3 - 1)) <|
zah (zbm rows1 (i3 - 1)) fun (q2:Gapi_Row) =>
zay ((q1.Stanza:Int) != q2.Stanza) (
grd (out4.length+1≤2147483648) <|
j2 (out4++[(⟨(-1),0,0,0,0,ByteArray.empty⟩:Gapi_Row)])
) (
j2 out4
)
) (
j2 out4
)
) (fun (out5:List Gapi_Row) =>
zah (zbm rows1 i3) fun (q3:Gapi_Row) =>
grd (out5.length+1≤2147483648) <|
grd (I64 (i3+1)) <|
ag1 (out5++[q3]) (i3+1)
)
) (
j1 out4
)
def ze8 (rows1:List Gapi_Row):Option (List Gapi_Row) :=
zbk (fun (j1:(List Gapi_Row)→Option (List Gapi_Row)) =>
zaE (fun _ _=>none) (zds rows1 j1) zbN ([]:List Gapi_Row) 0
) (fun (out1:List Gapi_Row) =>
some out1
)
theorem zmL {vvrows1 vrows1:Value} {Lrows1:List Gapi_Row} {krows1:Nat} {rows1:List Gapi_Row} (hwrows1:Vw vvrows1 Lrows1 6 krows1 vrows1 rows1) {r:(List Gapi_Row)} (h:ze8 rows1=some r):FnR Tryz.prog 20 [vrows1] [zfh zbf 6 vvrows1 krows1 Lrows1] [] (fun v0:Value=>v0) (fun v0=>[zv1 v0 r]):=by
 unfold ze8 at h
 refine FnR.intro Tryz.func20 rfl Tryz.ntmps20 (by simp) ?_
 intro w0 K hrd
 obtain ⟨j1,hj1,h⟩:=zbG h
 refine zaX (β:=(List Gapi_Row)×Value) 2 rfl (fun b=>j1 b.1=some r) (fun b=>[]) (fun b=>[(3,b.2)]) (fun b=>[zv1 b.2 b.1]) (fun cut => ?_) ?_
 ·
  refine zyG (zyR 1 rfl (zyH (zyR 1 rfl (zyN (cut (zyG (zyR 1 rfl ?_)))))))
  refine zyN (zaF (zcR (enc:=zbf) (e:=33) (size:=6) ?_))
  refine zbj (β:=Nat×(List Gapi_Row)×Int×Value) (fun b=>zaE (fun _ _=>none) (zds rows1 j1) b.1 b.2.1 b.2.2.1=some r) (fun b=>[]) (fun b=>[(0,vrows1),(3,b.2.2.2),(4,zI b.2.2.1)]) (fun b=>[zv1 b.2.2.2 b.2.1]) (fun b=>b.1) (zbN,([]:List Gapi_Row),0,(.slice none 0 0)) h rfl (za0 rfl) (zad [0] kr rfl) ?_
  rintro ⟨n1,out4,i3,v4⟩ h
  cases n1 with
  | zero=>exact zdp h
  | succ n1 =>
   obtain ⟨ag1,hag1⟩:∃ ag,ag=zaE (fun _ _=>none) (zds rows1 j1) n1:=⟨_,rfl⟩
   have h:zds rows1 j1 ag1 out4 i3=some r:=by rw [hag1]; exact h
   unfold zds at h
   refine zaI (zyG (zyR 2 rfl (zdT hwrows1 rfl dc rfl Tryz.underlying43 (zaU rfl zbc (zyN ?_)))))
   refine zyB rfl h (fun h => ?_) (fun h => ?_)
   ·
    refine zar (zaH (zaI (zaF ?_)))
    obtain ⟨j2,hj2,h⟩:=zbG h
    refine zaX (β:=(List Gapi_Row)×Value) 0 rfl (fun b=>j2 b.1=some r) (fun b=>[]) (fun b=>[(0,vrows1),(3,b.2),(4,zI i3)]) (fun b=>[zv1 b.2 b.1]) (fun cut => ?_) ?_
    ·
     refine cut (zaI ?_)
     refine zcW (b:=decide ((0:Int)<i3)) (fun hb2 => ?_) (fun hb2 => ?_)
     ·
      have h:=zf0 hb2 h
      obtain ⟨q1,hq1,h⟩:=zbi h
      obtain ⟨hg1,h⟩:=zbr h
      obtain ⟨q2,hq2,h⟩:=zbi h
      refine zbn 14 [(0,11,zI i3),(1,12,.bool true),(2,13,.bool true),(3,14,vrows1),(4,15,zI i3),(5,16,.pointer (some ⟨zbY vvrows1,(krows1+(i3:Int).toNat)*6,none⟩)),(6,17,.pointer (some ⟨zbY vvrows1,(krows1+(i3:Int).toNat)*6+1,none⟩)),(7,18,zI q1.Stanza),(8,19,vrows1),(9,20,zI i3),(10,21,zI (i3 - 1)),(11,22,.pointer (some ⟨zbY vvrows1,(krows1+(i3 - 1:Int).toNat)*6,none⟩)),(12,23,.pointer (some ⟨zbY vvrows1,(krows1+(i3 - 1:Int).toNat)*6+1,none⟩)),(13,24,zI q2.Stanza)] mixed kr kr dc (by rfl) kr kr (zyP 1 0 rfl (zac ?_ (zyP 3 2 rfl (zac ?_ (zac ?_ (zac ?_ (zyP 2 8 rfl (zac ?_ (zac ?_ (zac ?_ (zac ?_ DrawPre.nil))))))))))) ?_
      · exact fun D n d c u i=>zbz rfl dc (zaa (m:=0) u rfl (d 0 dc)) rfl zct (zcq (show Value.bool (decide ((0:Int)<i3))=Value.bool true from congrArg Value.bool hb2) (zaf 1 u i rfl))
      · exact fun D n d c u i=>za9 hwrows1 hq1 Tryz.underlying43 zeb (zdU rfl (zaa (m:=2) u rfl (d 2 dc))) dc (zaa (m:=3) u rfl (d 3 dc)) (zaa (m:=4) u rfl (d 4 dc)) rfl (zaf 5 u i rfl)
      · exact fun D n d c u i=>zab zd0 (zdU rfl (zaa (m:=2) u rfl (d 2 dc))) dc (zaa (m:=5) u rfl (d 5 dc)) (show _=(krows1+(i3:Int).toNat)*6+1 from rfl) (zaf 6 u i rfl)
      · exact fun D n d c u i=>zca (n:=krows1+(i3:Int).toNat) (j:=1) (i:=0) (q:=q1) hrd rfl (by omega) zbp (zdU rfl (zaa (m:=2) u rfl (d 2 dc))) dc (zaa (m:=6) u rfl (d 6 dc)) (Vw.get hwrows1 hq1) rfl rfl (zaf 7 u i rfl)
      · exact fun D n d c u i=>zbz (zdU rfl (zaa (m:=2) u rfl (d 2 dc))) dc (zaa (m:=9) u rfl (d 9 dc)) rfl (zbt (r:=i3 - 1) (IntWalk.i64_in _ hg1)) (zaf 10 u i rfl)
      · exact fun D n d c u i=>za9 hwrows1 hq2 Tryz.underlying43 zeb (zdU rfl (zaa (m:=2) u rfl (d 2 dc))) dc (zaa (m:=8) u rfl (d 8 dc)) (zaa (m:=10) u rfl (d 10 dc)) rfl (zaf 11 u i rfl)
      · exact fun D n d c u i=>zab zd0 (zdU rfl (zaa (m:=2) u rfl (d 2 dc))) dc (zaa (m:=11) u rfl (d 11 dc)) (show _=(krows1+(i3 - 1:Int).toNat)*6+1 from rfl) (zaf 12 u i rfl)
      · exact fun D n d c u i=>zca (n:=krows1+(i3 - 1:Int).toNat) (j:=1) (i:=0) (q:=q2) hrd rfl (by omega) zbp (zdU rfl (zaa (m:=2) u rfl (d 2 dc))) dc (zaa (m:=12) u rfl (d 12 dc)) (Vw.get hwrows1 hq2) rfl rfl (zaf 13 u i rfl)
      refine zaU rfl zbS (zyR 1 rfl (zyN ?_))
      refine zyB rfl h (fun h => ?_) (fun h => ?_)
      ·
       refine zav (zyR 1 rfl ?_)
       refine zba (v:=.agg #[zI (-1),zI 0,zI 0,zI 0,zI 0,.string ByteArray.empty]) (ps:=[(0,.const (zI (-1)))]) rfl dc rfl (fun _=>by kernel_rfl) ?_
       refine zaV (cs:=[zI (-1),zI 0,zI 0,zI 0,zI 0,.string ByteArray.empty]) (te:=33) (ps:=[(0,.tmp 28)]) rfl dc rfl (fun _=>by kernel_rfl) (fun b1 => ?_)
       obtain ⟨hg2,h⟩:=zbr h
       refine za4 (k:=0) (k2:=1) (ys:=[(⟨(-1),0,0,0,0,ByteArray.empty⟩:Gapi_Row)]) Tryz.underlying43 zoD za8 zdm rfl dc rfl rfl rfl rfl rfl rfl hg2 (fun v6 => ?_)
       refine zyR 1 rfl (zaO ?_)
       exact zal (out4++[(⟨(-1),0,0,0,0,ByteArray.empty⟩:Gapi_Row)],v6) h rfl (za0 rfl) (zad [0] kr rfl)
      refine zar ?_
      exact zal (out4,v4) h rfl (za0 rfl) (zad [0] kr rfl)
     have h:=zf1 hb2 h
     refine zbn 14 [(0,11,zI i3),(1,12,.bool false),(2,13,.bool false),(3,14,undef),(4,15,undef),(5,16,undef),(6,17,undef),(7,18,undef),(8,19,undef),(9,20,undef),(10,21,undef),(11,22,undef),(12,23,undef),(13,24,undef)] mixed kr kr dc (by rfl) kr kr (zyP 1 0 rfl (zac ?_ (zyP 12 2 rfl DrawPre.nil))) ?_
     · exact fun D n d c u i=>zbz rfl dc (zaa (m:=0) u rfl (d 0 dc)) rfl zct (zcq (show Value.bool (decide ((0:Int)<i3))=Value.bool false from congrArg Value.bool hb2) (zaf 1 u i rfl))
     refine zyR 2 rfl (zyN (zaS rfl (zar ?_)))
     exact zal (out4,v4) h rfl (za0 rfl) (zad [0] kr rfl)
    rintro ⟨out5,v5⟩ h
    rw [hj2] at h
    refine zav (zyR 3 rfl ?_)
    obtain ⟨q3,hq3,h⟩:=zbi h
    refine za9 hwrows1 hq3 Tryz.underlying43 zeb rfl dc rfl rfl rfl (zf4 (m:=krows1+(i3:Int).toNat) (j:=0) (i:=0) (q:=q3) (cs:=(zr3 q3)) hrd rfl (by omega) zia rfl dc rfl (Vw.get hwrows1 hq3) rfl rfl rfl ?_)
    refine zaV (cs:=(zr3 q3)) (te:=33) (ps:=[(0,.tmp 35)]) rfl dc rfl (fun _=>by kernel_rfl) (fun b2 => ?_)
    obtain ⟨hg3,h⟩:=zbr h
    refine za4 (k:=0) (k2:=1) (ys:=[q3]) Tryz.underlying43 zoD za8 zdm rfl dc rfl rfl rfl rfl rfl rfl hg3 (fun v7 => ?_)
    refine zyR 1 rfl (zaO (zag (zaH (zav (zyR 1 rfl ?_)))))
    obtain ⟨hg4,h⟩:=zbr h
    refine zaU rfl (zaR (r:=i3+1) (IntWalk.i64_in _ hg4)) (zyR 1 rfl (zaO ?_))
    subst hag1
    exact za1 (n1,out5++[q3],i3+1,v7) h (Nat.lt_succ_self _) rfl (za0 rfl) (zad [0] kr rfl)
   refine za3 (zan (zan (zax ?_)))
   exact zal (out4,v4) h rfl (za0 rfl) (zad [0] kr rfl)
 rintro ⟨out1,v1⟩ h
 rw [hj1] at h
 refine zyG (zyR 2 rfl (zyN (zaG ?_)))
 cases h
 exact zaK (rs:=[.tmp 2]) v1 (.inl rfl) Tryz.results20 (.cons (.tmp rfl) .nil) rfl (zad [0] kr rfl)
end Go.Proofs.YtbempdelckaccaaGreatDoor

namespace Go.Proofs.YtbempdelckaccaaGreatDoor
open Go.RowKit Go.Lib
set_option linter.unusedVariables false
set_option linter.unusedSimpArgs false
def zco (p1:Gpage_Book) (k4:Int) (r7:((List Gapi_Row)×Int)) (r8:(List Gapi_Row)) (j3:Option Bool) (ag2:Int→Option Bool) (i3:Int):Option Bool :=
zay (decide ((i3:Int)<(r7.1.length:Int))) (
zbk (fun (j4:Option Bool) =>
zah (zbm r7.1 i3) fun (q3:Gapi_Row) =>
zah (zbm r8 i3) fun (q4:Gapi_Row) =>
zay (!(zdl q3 q4)) (
some false
) (
zah (zbm r8 i3) fun (q5:Gapi_Row) =>
zay (decide ((0:Int)≤q5.Line)) (
zay ((q5.Part:Int)==0) (
zah (zbm r8 i3) fun (q6:Gapi_Row) =>
zah (zbu p1 q6.Line) fun (r9:(Int×Int×Int)) =>
zay ((r9.1:Int) != k4) (
some false
) (
zay ((r9.2.1:Int) != i3) (
some false
) (
zay ((r9.2.2:Int) != 0) (
some false
) (
j4
)
)
)
) (
j4
)
) (
j4
)
)
) (
grd (I64 (i3+1)) <|
ag2 (i3+1)
)
) (
j3
)
def zcn (j2:Int→Option Bool) (r8:(List Gapi_Row)) (q2:Int) (r10:((List Gapi_Row)×Int)) (ag3:Int→Option Bool) (i6:Int):Option Bool :=
zay (decide ((i6:Int)<(r10.1.length:Int))) (
zah (zbm r10.1 i6) fun (q7:Gapi_Row) =>
zah (zbm r8 i6) fun (q8:Gapi_Row) =>
zay (!(zdl q7 q8)) (
some false
) (
zay ((r10.2:Int) != 0) (
some false
) (
grd (I64 (i6+1)) <|
ag3 (i6+1)
)
)
) (
j2 q2
)
def zbh (l1:Gapi_Layout) (r3:((List Gapi_Row)×Int)) (r4:((List Int)×Int)) (p1:Gpage_Book) (j1:Option Bool) (ag1:Int→Int→Option Bool) (from3:Int) (k4:Int):Option Bool :=
zay (decide ((k4:Int)≤(r4.1.length:Int))) (
zbk (fun (j2:Int→Option Bool) =>
zah (zcm p1 k4) fun (r7:((List Gapi_Row)×Int)) =>
zay (decide ((k4:Int)<0)) (
zay (((r7.1.length:Int):Int) != 0) (
some false
) (
zay ((r7.2:Int) != 5) (
some false
) (
j2 from3
)
)
) (
zay ((k4:Int)==(r4.1.length:Int)) (
zay (((r7.1.length:Int):Int) != 0) (
some false
) (
zay ((r7.2:Int) != 5) (
some false
) (
j2 from3
)
)
) (
zah (zbm r4.1 k4) fun (q1:Int) =>
grd (0≤(from3:Int)∧(from3:Int)≤q1∧(q1:Int)≤(r3.1.length:Int)) <|
zah (ze8 (zjV r3.1 from3 q1)) fun (r8:(List Gapi_Row)) =>
zah (zbm r4.1 k4) fun (q2:Int) =>
zay ((r7.2:Int) != 0) (
some false
) (
zay (((r7.1.length:Int):Int) != (r8.length:Int)) (
some false
) (
zay (decide ((l1.Height:Int)<(r7.1.length:Int))) (
some false
) (
zbk (fun (j3:Option Bool) =>
zaE (fun _=>none) (zco p1 k4 r7 r8 j3) zbN 0
) (
zbk (fun (j5:Option Bool) =>
grd (0<r7.1.length) <|
j5
) (
zah (zcm p1 k4) fun (r10:((List Gapi_Row)×Int)) =>
zaE (fun _=>none) (zcn j2 r8 q2 r10) zbN 0
)
)
)
)
)
)
)
) (fun (from4:Int) =>
grd (I64 (k4+1)) <|
ag1 from4 (k4+1)
)
) (
j1
)
def zeX (text1:ByteArray) (l1:Gapi_Layout):Option Bool :=
zah (zgx) fun (r1:Bool) =>
zay (!r1) (
some false
) (
zay (decide ((1200:Int)<(text1.size:Int))) (
some true
) (
zah (zdY text1 l1) fun (r2:((Option Gpage_Book)×(List Gapi_Verse)×Bool×Bool)) =>
zay (!r2.2.2.2) (
some r2.2.2.2
) (
zay (!r2.2.2.1) (
some r2.2.2.2
) (
zah (zfN r2.2.1 l1) fun (r3:((List Gapi_Row)×Int)) =>
zah (zfi r3.1 l1.Height) fun (r4:((List Int)×Int)) =>
zah (r2.1) fun (p1:Gpage_Book) =>
zah (zeK p1) fun (r5:Int) =>
zay ((r5:Int) != (r4.1.length:Int)) (
some false
) (
zah (zeW p1) fun (r6:Int) =>
grd (I64 (r3.2+r4.2)) <|
zay ((r6:Int) != (r3.2+r4.2)) (
some false
) (
zbk (fun (j1:Option Bool) =>
zaE (fun _ _=>none) (zbh l1 r3 r4 p1 j1) zbN 0 (-1)
) (
zah (zbu p1 (r2.2.1.length:Int)) fun (r11:(Int×Int×Int)) =>
zah (zbu p1 (-1)) fun (r12:(Int×Int×Int)) =>
zay ((r11.1:Int)==0) (
zay ((r11.2.1:Int)==0) (
zay ((r11.2.2:Int)==5) (
zay ((r12.1:Int)==0) (
zay ((r12.2.1:Int)==0) (
some ((r12.2.2:Int)==5)
) (
some false
)
) (
some false
)
) (
some false
)
) (
some false
)
) (
some false
)
)
)
)
)
)
)
)
theorem zjf {text1:ByteArray} {l1:Gapi_Layout} {r:Bool} (h:zeX text1 l1=some r):FnP Tryz.prog 4 [.string text1,.agg (zr0 l1).toArray] (.bool r):=by
 unfold zeX at h
 refine FnP.intro Tryz.func4 rfl Tryz.ntmps4 (by simp) ?_
 intro w0 K
 refine zyG ?_
 refine zea rfl dc rfl (fun b1 => ?_)
 refine zyR 1 rfl (zyN (zaI (zyG ?_)))
 obtain ⟨r1,hq1,h⟩:=zbi h
 refine zbD (v:=.bool r1) (vs:=[]) rfl dc rfl rfl rfl zyg (zmQ hq1) (zee rfl dc rfl zcN (zyN ?_))
 refine zyB rfl h (fun h => ?_) (fun h => ?_)
 ·
  refine zyG (zyR 1 rfl (zyN (zaG (zao ?_))))
  cases h
  exact zaK (rs:=[.tmp 4]) () (.inl rfl) Tryz.results4 (.cons (.tmp rfl) .nil) rfl Splits.nil
 refine zar (zaH (zaI (zyG (zyR 1 rfl (zcg rfl dc rfl Tryz.underlying9 (zaU rfl zct (zyN ?_)))))))
 refine zyB rfl h (fun h => ?_) (fun h => ?_)
 ·
  refine zyG (zyR 1 rfl (zyN (zaG (zao ?_))))
  cases h
  exact zaK (rs:=[.tmp 4]) () (.inl rfl) Tryz.results4 (.cons (.tmp rfl) .nil) rfl Splits.nil
 refine zar (zaH (zyG (zyR 1 rfl (zbd (k:=0) (cs:=(zr0 l1)) zja rfl dc rfl rfl rfl rfl ?_))))
 obtain ⟨r2,hq2,h⟩:=zbi h
 refine zes (vs:=[.string text1,.agg (zr0 l1).toArray]) rfl dc rfl rfl rfl zyf (znR (l1:=l1) hq2) Splits.nil ?_
 rintro ⟨v1,v2⟩
 refine zby (k:=2) rfl (fun hd1 he1 => ?_)
 subst he1
 refine zyR 1 rfl (zaN rfl dc rfl rfl (zaN rfl dc rfl rfl (zaN rfl dc rfl rfl (zaN rfl dc rfl rfl (zyR 4 rfl (zyN (zaI (zyG ?_))))))))
 refine zyR 1 rfl (zee rfl dc rfl zcN (zyR 1 rfl ?_))
 refine zyS (s:=46) rfl h (fun h => ?_) (fun h => ?_)
 ·
  refine zyR 3 rfl (zyN (za5 rfl (zyG (zyR 2 rfl (zyN (zaG (zao ?_)))))))
  cases h
  exact zaK (rs:=[.tmp 4]) () (.inl rfl) Tryz.results4 (.cons (.tmp rfl) .nil) rfl Splits.nil
 refine zyR 1 rfl (zee rfl dc rfl zcN (zyR 1 rfl (zyN ?_)))
 refine zyB rfl h (fun h => ?_) (fun h => ?_)
 ·
  refine zyG (zyR 2 rfl (zyN (zaG (zao ?_))))
  cases h
  exact zaK (rs:=[.tmp 4]) () (.inl rfl) Tryz.results4 (.cons (.tmp rfl) .nil) rfl Splits.nil
 refine zar (zaH (zyG (zyR 1 rfl (zbd (k:=0) (cs:=(zr0 l1)) zja rfl dc rfl rfl rfl rfl ?_))))
 refine zhU (k:=2) rfl (fun hw1 => ?_)
 obtain ⟨r3,hq3,h⟩:=zbi h
 refine zft (vs:=[hd1.v,.agg (zr0 l1).toArray]) (Rd.nil:Rd _ _ []) rfl dc rfl rfl rfl zxL (zmJ (l1:=l1) hw1 hq3) Splits.nil (.own (As:=[zv6 hd1.v r2.2.1]) (zad [2] (by kernel_rfl) rfl) (fun _ _ h=>zgN zdR (sepL.one1.1 h)) .nil) ?_
 rintro v3
 refine zby (k:=3) rfl (fun hd2 he2 => ?_)
 subst he2
 refine zyR 1 rfl (zaN rfl dc rfl rfl (zaN rfl dc rfl rfl (zyR 2 rfl (zyH (zyR 1 rfl (zab zii rfl dc rfl (show _=1 from rfl) (zau (k:=0) zbp rfl dc rfl rfl rfl ?_)))))))
 refine zhU (k:=3) rfl (fun hw2 => ?_)
 obtain ⟨r4,hq4,h⟩:=zbi h
 refine zft (vs:=[hd2.v,zI l1.Height]) (Rd.nil:Rd _ _ []) rfl dc rfl rfl rfl zxI (zlt hw2 hq4) Splits.nil (.own (As:=[zv1 hd2.v r3.1]) (zad [3] (by kernel_rfl) rfl) (fun _ _ h=>zgN za8 (sepL.one1.1 h)) .nil) ?_
 rintro v4
 refine zby (k:=4) rfl (fun hd3 he3 => ?_)
 subst he3
 refine zyR 1 rfl (zaN rfl dc rfl rfl (zaN rfl dc rfl rfl (zyR 2 rfl (zyN (zaI (zyG (zyR 1 rfl ?_)))))))
 obtain ⟨p1,hq5,h⟩:=zbi h
 refine zoQ (As:=[zmP zb6 zb4 81 v1 r2.1]) (zad [1] kr rfl) (zhJ hq5) ?_
 rintro ⟨b2,hd4⟩ hv1
 have hkp:=h
 subst hv1
 have h:=hkp
 obtain ⟨r5,hq6,h⟩:=zbi h
 refine zch (v:=zI r5) (vs:=[zP b2]) (Rd.nil:Rd _ _ []) rfl dc rfl rfl rfl zxJ (ziG (bb1:=b2) (b1:=p1) (b1_h0:=hd4) hq6) (.own (zad [5] (by kernel_rfl) rfl) (fun _ _ h=>sepL.one1.1 h) (.own (zad [6] (by kernel_rfl) rfl) (fun _ _ h=>sepL.one1.1 h) .nil)) ?_
 refine zyR 1 rfl (zbg (k:=4) rfl dc rfl rfl Tryz.underlying49 (zaU rfl zbS (zyR 1 rfl ?_)))
 refine zyS (s:=69) rfl h (fun h => ?_) (fun h => ?_)
 ·
  refine zyR 7 rfl (zyN (za5 rfl (zyG (zyR 1 rfl (zaO ?_)))))
  refine zaH (zaG (zao ?_))
  cases h
  exact zaK (rs:=[.tmp 4]) () (.inl rfl) Tryz.results4 (.cons (.tmp rfl) .nil) rfl Splits.nil
 refine zyR 1 rfl ?_
 obtain ⟨r6,hq7,h⟩:=zbi h
 refine zch (v:=zI r6) (vs:=[zP b2]) (Rd.nil:Rd _ _ []) rfl dc rfl rfl rfl zxH (zje (bb1:=b2) (b1:=p1) (b1_h0:=hd4) hq7) (.own (zad [5] (by kernel_rfl) rfl) (fun _ _ h=>sepL.one1.1 h) (.own (zad [6] (by kernel_rfl) rfl) (fun _ _ h=>sepL.one1.1 h) .nil)) ?_
 refine zyR 2 rfl ?_
 obtain ⟨hg1,h⟩:=zbr h
 refine zaU rfl (zaR (r:=r3.2+r4.2) (IntWalk.i64_in _ hg1)) (zaU rfl zbS (zyR 1 rfl (zyN ?_)))
 refine zyB rfl h (fun h => ?_) (fun h => ?_)
 ·
  refine zyG (zyR 1 rfl (zyN (zaG (zao ?_))))
  cases h
  exact zaK (rs:=[.tmp 4]) () (.inl rfl) Tryz.results4 (.cons (.tmp rfl) .nil) rfl Splits.nil
 refine zar (zaH ?_)
 obtain ⟨j1,hj1,h⟩:=zbG h
 refine zaX (β:=Unit) 1 rfl (fun b=>j1=some r) (fun b=>[]) (fun b=>[(5,zP b2),(6,hd1.v)]) (fun b=>[cells b2 [zI p1.layout_Width,zI p1.layout_Height,zI p1.layout_Turn,zI p1.layout_Every,hd4.v,zI p1.cost] 81,zgc zaP zaY 43 1 hd4.v p1.pages,zv6 hd1.v r2.2.1]) (fun cut => ?_) ?_
 ·
  refine zyG (zyR 1 rfl (zyN (cut (zyG (zyR 1 rfl (zyN (zaF ?_)))))))
  refine zbj (β:=Nat×Int×Int) (fun b=>zaE (fun _ _=>none) (zbh l1 r3 r4 p1 j1) b.1 b.2.1 b.2.2=some r) (fun b=>[]) (fun b=>[(3,zP b1),(5,zP b2),(6,hd1.v),(9,hd2.v),(11,hd3.v),(13,zI b.2.1),(14,zI b.2.2)]) (fun b=>[cells b1 (zr0 l1) 23,cells b2 [zI p1.layout_Width,zI p1.layout_Height,zI p1.layout_Turn,zI p1.layout_Every,hd4.v,zI p1.cost] 81,zgc zaP zaY 43 1 hd4.v p1.pages,zv6 hd1.v r2.2.1,zv1 hd2.v r3.1,zv0 hd3.v r4.1]) (fun b=>b.1) (zbN,0,(-1)) h rfl (za0 rfl) (zad [0,5,6,2,3,4] kr rfl) ?_
  rintro ⟨n1,from3,k4⟩ h
  cases n1 with
  | zero=>exact zdp h
  | succ n1 =>
   obtain ⟨ag1,hag1⟩:∃ ag,ag=zaE (fun _ _=>none) (zbh l1 r3 r4 p1 j1) n1:=⟨_,rfl⟩
   have h:zbh l1 r3 r4 p1 j1 ag1 from3 k4=some r:=by rw [hag1]; exact h
   unfold zbh at h
   refine zaI (zyG (zyR 2 rfl (zbg (k:=5) rfl dc rfl rfl Tryz.underlying49 (zaU rfl zdJ (zyN ?_)))))
   refine zyB rfl h (fun h => ?_) (fun h => ?_)
   ·
    refine zar (zaH ?_)
    obtain ⟨j2,hj2,h⟩:=zbG h
    refine zaX (β:=Int) 0 rfl (fun b=>j2 b=some r) (fun b=>[]) (fun b=>[(3,zP b1),(5,zP b2),(6,hd1.v),(9,hd2.v),(11,hd3.v),(13,zI b),(14,zI k4)]) (fun b=>[cells b1 (zr0 l1) 23,cells b2 [zI p1.layout_Width,zI p1.layout_Height,zI p1.layout_Turn,zI p1.layout_Every,hd4.v,zI p1.cost] 81,zgc zaP zaY 43 1 hd4.v p1.pages,zv6 hd1.v r2.2.1,zv1 hd2.v r3.1,zv0 hd3.v r4.1]) (fun cut => ?_) ?_
    ·
     refine cut (zaF (zyG (zyR 2 rfl ?_)))
     obtain ⟨r7,hq8,h⟩:=zbi h
     refine zft (vs:=[zP b2,zI k4]) (Rd.nil:Rd _ _ []) rfl dc rfl rfl rfl zvW (zgQ (bb1:=b2) (b1:=p1) (b1_h0:=hd4) hq8) Splits.nil (.own (zad [1] (by kernel_rfl) rfl) (fun _ _ h=>sepL.one1.1 h) (.own (zad [2] (by kernel_rfl) rfl) (fun _ _ h=>sepL.one1.1 h) .nil)) ?_
     rintro v5
     refine zby (k:=6) rfl (fun hd5 he4 => ?_)
     subst he4
     refine zyR 1 rfl (zaN rfl dc rfl rfl (zaN rfl dc rfl rfl (zyR 2 rfl (zyN (zaI (zyG (zyR 1 rfl (zaU rfl zbc (zyR 1 rfl ?_)))))))))
     refine zyS (s:=91) rfl h (fun h => ?_) (fun h => ?_)
     ·
      refine zyR 5 rfl (zyN (za5 rfl (zaI (zyG (zyR 1 rfl (zbg (k:=6) rfl dc rfl rfl Tryz.underlying43 (zaU rfl zbS ?_)))))))
      refine zyR 1 rfl ?_
      refine zyS (s:=100) rfl h (fun h => ?_) (fun h => ?_)
      ·
       refine zyR 3 rfl (zyN (za5 rfl (zyG (zyR 1 rfl (zyN (zaG (zao (zao ?_))))))))
       refine zat (zao (zao (zat (zao ?_))))
       cases h
       exact zaK (rs:=[.tmp 4]) () (.inl rfl) Tryz.results4 (.cons (.tmp rfl) .nil) rfl Splits.nil
      refine zyR 1 rfl (zaU rfl zbS (zyR 1 rfl (zyN ?_)))
      refine zyB rfl h (fun h => ?_) (fun h => ?_)
      ·
       refine zyG (zyR 1 rfl (zyN (zaG (zao (zao (zat (zao (zao (zat (zao ?_))))))))))
       cases h
       exact zaK (rs:=[.tmp 4]) () (.inl rfl) Tryz.results4 (.cons (.tmp rfl) .nil) rfl Splits.nil
      refine zar (zaH (za3 (zan (zax ?_))))
      exact zal from3 h rfl (za0 rfl) (zad [0,1,2,3,4,5] kr rfl)
     refine zyR 2 rfl (zbg (k:=5) rfl dc rfl rfl Tryz.underlying49 (zaU rfl zaT (zyR 1 rfl (zyN ?_))))
     refine zyB rfl h (fun h => ?_) (fun h => ?_)
     ·
      refine zaI (zyG (zyR 1 rfl (zbg (k:=6) rfl dc rfl rfl Tryz.underlying43 (zaU rfl zbS (zyR 1 rfl ?_)))))
      refine zyS (s:=100) rfl h (fun h => ?_) (fun h => ?_)
      ·
       refine zyR 3 rfl (zyN (za5 rfl (zyG (zyR 1 rfl (zyN (zaG (zao (zao ?_))))))))
       refine zat (zao (zao (zat (zao ?_))))
       cases h
       exact zaK (rs:=[.tmp 4]) () (.inl rfl) Tryz.results4 (.cons (.tmp rfl) .nil) rfl Splits.nil
      refine zyR 1 rfl (zaU rfl zbS (zyR 1 rfl (zyN ?_)))
      refine zyB rfl h (fun h => ?_) (fun h => ?_)
      ·
       refine zyG (zyR 1 rfl (zyN (zaG (zao (zao (zat (zao (zao (zat (zao ?_))))))))))
       cases h
       exact zaK (rs:=[.tmp 4]) () (.inl rfl) Tryz.results4 (.cons (.tmp rfl) .nil) rfl Splits.nil
      refine zar (zaH (za3 (zan (zax ?_))))
      exact zal from3 h rfl (za0 rfl) (zad [0,1,2,3,4,5] kr rfl)
     refine zar (zaH (zyG (zyR 4 rfl ?_)))
     obtain ⟨q1,hq9,h⟩:=zbi h
     refine zaj (k:=5) hq9 Tryz.underlying49 zcs rfl dc rfl rfl rfl rfl (zaA (i:=(k4:Int).toNat) (j:=0) (k:=5) (q:=q1) zbp zaQ rfl dc rfl rfl (zaz hq9) rfl dc rfl ?_)
     refine zhU (k:=4) rfl (fun hw3 => ?_)
     obtain ⟨hg2,h⟩:=zbr h
     obtain ⟨v6,hv2,hs1⟩:=zj2 (lo:=some (zI from3)) (hi:=some (zI q1)) hw3 Tryz.underlying43 zeb (.inr rfl) (.inr rfl) hg2
     refine zdG rfl dc rfl rfl rfl hs1 ?_
     obtain ⟨r8,hq10,h⟩:=zbi h
     refine zft (vs:=[v6]) (Rd.nil:Rd _ _ []) rfl dc rfl rfl rfl zxG (zmL hv2 hq10) Splits.nil (.own (As:=[zv1 hd2.v r3.1]) (zad [4] (by kernel_rfl) rfl) (fun _ _ h=>zpK za8 (sepL.one1.1 h)) .nil) ?_
     rintro v7
     refine zby (k:=7) rfl (fun hd6 he5 => ?_)
     subst he5
     refine zyR 1 rfl (zyH (zyR 2 rfl ?_))
     obtain ⟨q2,hq11,h⟩:=zbi h
     refine zaj (k:=5) hq11 Tryz.underlying49 zcs rfl dc rfl rfl rfl rfl (zaA (i:=(k4:Int).toNat) (j:=0) (k:=5) (q:=q2) zbp zaQ rfl dc rfl rfl (zaz hq11) rfl dc rfl (zyR 1 rfl (zyN (zaI (zyG (zyR 1 rfl (zaU rfl zbS (zyR 1 rfl ?_))))))))
     refine zyS (s:=118) rfl h (fun h => ?_) (fun h => ?_)
     ·
      refine zyR 13 rfl (zaO ?_)
      refine zaH (za5 rfl (zyG (zyR 1 rfl (zyN (zaG (zao (zat (zao (zao (zat (zao ?_)))))))))))
      cases h
      exact zaK (rs:=[.tmp 4]) () (.inl rfl) Tryz.results4 (.cons (.tmp rfl) .nil) rfl Splits.nil
     refine zyR 1 rfl (zbg (k:=6) rfl dc rfl rfl Tryz.underlying43 (zyR 1 rfl (zbg (k:=7) rfl dc rfl rfl Tryz.underlying43 (zaU rfl zbS (zyR 2 rfl ?_)))))
     refine zyS (s:=125) rfl h (fun h => ?_) (fun h => ?_)
     ·
      refine zyR 6 rfl (zyN (za5 rfl (zyG (zyR 1 rfl (zyN ?_)))))
      refine zaG (zao (zat (zao (zao (zat (zao ?_))))))
      cases h
      exact zaK (rs:=[.tmp 4]) () (.inl rfl) Tryz.results4 (.cons (.tmp rfl) .nil) rfl Splits.nil
     refine zyR 1 rfl (zbg (k:=6) rfl dc rfl rfl Tryz.underlying43 (zab zii rfl dc rfl (show _=1 from rfl) (zau (k:=0) zbp rfl dc rfl rfl rfl (zaU rfl zct (zyR 1 rfl (zyN ?_))))))
     refine zyB rfl h (fun h => ?_) (fun h => ?_)
     ·
      refine zyG (zyR 1 rfl (zyN (zaG (zao (zat (zao (zao (zat (zao ?_)))))))))
      cases h
      exact zaK (rs:=[.tmp 4]) () (.inl rfl) Tryz.results4 (.cons (.tmp rfl) .nil) rfl Splits.nil
     refine zar (zaH ?_)
     obtain ⟨j3,hj3,h⟩:=zbG h
     refine zaX (β:=Unit) 0 rfl (fun b=>j3=some r) (fun b=>[]) (fun b=>[(3,zP b1),(5,zP b2),(6,hd1.v),(9,hd2.v),(11,hd3.v),(13,zI q2),(14,zI k4),(15,hd5.v),(17,hd6.v),(92,zI k4),(93,hd3.v),(94,zI (r4.1.length:Int)),(95,.bool ((k4:Int)==(r4.1.length:Int))),(119,hd5.v),(120,zI (r7.1.length:Int)),(121,hd6.v),(122,zI (r8.length:Int)),(123,.bool (((r7.1.length:Int):Int) != (r8.length:Int))),(126,hd5.v),(127,zI (r7.1.length:Int)),(128,.pointer (some ⟨b1,1,none⟩)),(129,zI l1.Height),(130,.bool (decide ((l1.Height:Int)<(r7.1.length:Int))))]) (fun b=>[cells b1 (zr0 l1) 23,cells b2 [zI p1.layout_Width,zI p1.layout_Height,zI p1.layout_Turn,zI p1.layout_Every,hd4.v,zI p1.cost] 81,zgc zaP zaY 43 1 hd4.v p1.pages,zv6 hd1.v r2.2.1,zv1 hd2.v r3.1,zv0 hd3.v r4.1,zv1 hd5.v r7.1,zv1 hd6.v r8]) (fun cut => ?_) ?_
     ·
      refine cut (zyG (zyR 1 rfl (zyN (zaF ?_))))
      refine zbj (β:=Nat×Int) (fun b=>zaE (fun _=>none) (zco p1 k4 r7 r8 j3) b.1 b.2=some r) (fun b=>[]) (fun b=>[(3,zP b1),(5,zP b2),(6,hd1.v),(9,hd2.v),(11,hd3.v),(13,zI q2),(14,zI k4),(15,hd5.v),(17,hd6.v),(18,zI b.2),(92,zI k4),(93,hd3.v),(94,zI (r4.1.length:Int)),(95,.bool ((k4:Int)==(r4.1.length:Int))),(119,hd5.v),(120,zI (r7.1.length:Int)),(121,hd6.v),(122,zI (r8.length:Int)),(123,.bool (((r7.1.length:Int):Int) != (r8.length:Int))),(126,hd5.v),(127,zI (r7.1.length:Int)),(128,.pointer (some ⟨b1,1,none⟩)),(129,zI l1.Height),(130,.bool (decide ((l1.Height:Int)<(r7.1.length:Int))))]) (fun b=>[cells b1 (zr0 l1) 23,cells b2 [zI p1.layout_Width,zI p1.layout_Height,zI p1.layout_Turn,zI p1.layout_Every,hd4.v,zI p1.cost] 81,zgc zaP zaY 43 1 hd4.v p1.pages,zv6 hd1.v r2.2.1,zv1 hd2.v r3.1,zv0 hd3.v r4.1,zv1 hd5.v r7.1,zv1 hd6.v r8]) (fun b=>b.1) (zbN,0) h rfl (za0 rfl) (zad [0,1,2,3,4,5,6,7] kr rfl) ?_
      rintro ⟨n2,i3⟩ h
      cases n2 with
      | zero=>exact zdp h
      | succ n2 =>
       obtain ⟨ag2,hag2⟩:∃ ag,ag=zaE (fun _=>none) (zco p1 k4 r7 r8 j3) n2:=⟨_,rfl⟩
       have h:zco p1 k4 r7 r8 j3 ag2 i3=some r:=by rw [hag2]; exact h
       unfold zco at h
       refine zaI (zyG (zyR 2 rfl (zbg (k:=6) rfl dc rfl rfl Tryz.underlying43 (zaU rfl zbc (zyN ?_)))))
       refine zyB rfl h (fun h => ?_) (fun h => ?_)
       ·
        refine zar (zaH ?_)
        obtain ⟨j4,hj4,h⟩:=zbG h
        refine zaX (β:=Unit) 0 rfl (fun b=>j4=some r) (fun b=>[]) (fun b=>[(3,zP b1),(5,zP b2),(6,hd1.v),(9,hd2.v),(11,hd3.v),(13,zI q2),(14,zI k4),(15,hd5.v),(17,hd6.v),(18,zI i3),(92,zI k4),(93,hd3.v),(94,zI (r4.1.length:Int)),(95,.bool ((k4:Int)==(r4.1.length:Int))),(119,hd5.v),(120,zI (r7.1.length:Int)),(121,hd6.v),(122,zI (r8.length:Int)),(123,.bool (((r7.1.length:Int):Int) != (r8.length:Int))),(126,hd5.v),(127,zI (r7.1.length:Int)),(128,.pointer (some ⟨b1,1,none⟩)),(129,zI l1.Height),(130,.bool (decide ((l1.Height:Int)<(r7.1.length:Int))))]) (fun b=>[cells b1 (zr0 l1) 23,cells b2 [zI p1.layout_Width,zI p1.layout_Height,zI p1.layout_Turn,zI p1.layout_Every,hd4.v,zI p1.cost] 81,zgc zaP zaY 43 1 hd4.v p1.pages,zv6 hd1.v r2.2.1,zv1 hd2.v r3.1,zv0 hd3.v r4.1,zv1 hd5.v r7.1,zv1 hd6.v r8]) (fun cut => ?_) ?_
        ·
         refine cut (zaF (zaI (zaI ?_)))
         obtain ⟨q3,hq12,h⟩:=zbi h
         obtain ⟨q4,hq13,h⟩:=zbi h
         refine zbn 8 [(0,138,hd5.v),(1,139,zI i3),(2,140,.pointer (some ⟨zbY hd5.v,(i3:Int).toNat*6,none⟩)),(3,141,.agg (zr3 q3).toArray),(4,142,hd6.v),(5,143,zI i3),(6,144,.pointer (some ⟨zbY hd6.v,(i3:Int).toNat*6,none⟩)),(7,145,.agg (zr3 q4).toArray)] mixed kr kr dc (by rfl) kr kr (zyP 2 0 rfl (zac ?_ (zac ?_ (zyP 2 4 rfl (zac ?_ (zac ?_ DrawPre.nil)))))) ?_
         · exact fun D n d c u i=>zaj (k:=6) hq12 Tryz.underlying43 zeb rfl dc (zaa (m:=0) u rfl (d 0 dc)) (zaa (m:=1) u rfl (d 1 dc)) rfl rfl (zaf 2 u i rfl)
         · exact fun D n d c u i=>zcQ (i:=(i3:Int).toNat) (j:=0) (k:=6) (q:=q3) (cs:=(zr3 q3)) zia za8 rfl dc (zaa (m:=2) u rfl (d 2 dc)) rfl (zaz hq12) rfl rfl rfl (zaf 3 u i rfl)
         · exact fun D n d c u i=>zaj (k:=7) hq13 Tryz.underlying43 zeb rfl dc (zaa (m:=4) u rfl (d 4 dc)) (zaa (m:=5) u rfl (d 5 dc)) rfl rfl (zaf 6 u i rfl)
         · exact fun D n d c u i=>zcQ (i:=(i3:Int).toNat) (j:=0) (k:=7) (q:=q4) (cs:=(zr3 q4)) zia za8 rfl dc (zaa (m:=6) u rfl (d 6 dc)) rfl (zaz hq13) rfl rfl rfl (zaf 7 u i rfl)
         refine zaU rfl (zjv q3 q4) (zyN ?_)
         refine zyB rfl h (fun h => ?_) (fun h => ?_)
         ·
          refine zyG (zyR 1 rfl (zyN (zaG (zao (zat (zao (zao (zat (zao (zat (zao ?_)))))))))))
          refine zao (zat (zao ?_))
          cases h
          exact zaK (rs:=[.tmp 4]) () (.inl rfl) Tryz.results4 (.cons (.tmp rfl) .nil) rfl Splits.nil
         refine zar (zaH (zyG (zyR 2 rfl ?_)))
         obtain ⟨q5,hq14,h⟩:=zbi h
         refine zaj (k:=7) hq14 Tryz.underlying43 zeb rfl dc rfl rfl rfl rfl (zab zfn rfl dc rfl (show _=((i3:Int).toNat)*6 from rfl) (zaA (i:=(i3:Int).toNat) (j:=0) (k:=7) (q:=q5) zbp za8 rfl dc rfl rfl (zaz hq14) rfl dc rfl (zaU rfl zer (zyR 1 rfl ?_))))
         refine zyS (s:=153) rfl h (fun h => ?_) (fun h => ?_)
         ·
          refine zyR 2 rfl (zaj (k:=7) hq14 Tryz.underlying43 zeb rfl dc rfl rfl rfl rfl (zab zrl rfl dc rfl (show _=((i3:Int).toNat)*6+2 from rfl) (zaA (i:=(i3:Int).toNat) (j:=2) (k:=7) (q:=q5) zbp za8 rfl dc rfl rfl (zaz hq14) rfl dc rfl (zaU rfl zaT (zyR 1 rfl (zyN ?_))))))
          refine zyB rfl h (fun h => ?_) (fun h => ?_)
          ·
           refine zyG (zyR 3 rfl ?_)
           obtain ⟨q6,hq15,h⟩:=zbi h
           refine zaj (k:=7) hq15 Tryz.underlying43 zeb rfl dc rfl rfl rfl rfl (zab zfn rfl dc rfl (show _=((i3:Int).toNat)*6 from rfl) (zaA (i:=(i3:Int).toNat) (j:=0) (k:=7) (q:=q6) zbp za8 rfl dc rfl rfl (zaz hq15) rfl dc rfl ?_))
           obtain ⟨r9,hq16,h⟩:=zbi h
           refine zch (v:=.tuple #[zI r9.1,zI r9.2.1,zI r9.2.2]) (vs:=[zP b2,zI q6.Line]) (Rd.nil:Rd _ _ []) rfl dc rfl rfl rfl zuA (zfB (bb1:=b2) (b1:=p1) (b1_h0:=hd4) hq16) (.own (zad [1] (by kernel_rfl) rfl) (fun _ _ h=>sepL.one1.1 h) (.own (zad [2] (by kernel_rfl) rfl) (fun _ _ h=>sepL.one1.1 h) .nil)) ?_
           refine zyR 1 rfl (zaN rfl dc rfl rfl (zaN rfl dc rfl rfl (zaN rfl dc rfl rfl (zyR 3 rfl (zyH (zyR 2 rfl (zaU rfl zbS ?_)))))))
           refine zyR 1 rfl ?_
           refine zyS (s:=175) rfl h (fun h => ?_) (fun h => ?_)
           ·
            refine zyR 8 rfl (zyN (za5 rfl (zyG (zyR 1 rfl ?_))))
            refine zyN (zaG (zat (zao (zao (zat (zao (zat (zao (zao (zat (zao ?_)))))))))))
            cases h
            exact zaK (rs:=[.tmp 4]) () (.inl rfl) Tryz.results4 (.cons (.tmp rfl) .nil) rfl Splits.nil
           refine zyR 2 rfl (zaU rfl zbS (zyR 2 rfl ?_))
           refine zyS (s:=180) rfl h (fun h => ?_) (fun h => ?_)
           ·
            refine zyR 3 rfl (zyN (za5 rfl (zyG (zyR 1 rfl (zyN (zaG (zat (zao ?_))))))))
            refine zao (zat (zao (zat (zao (zao (zat (zao ?_)))))))
            cases h
            exact zaK (rs:=[.tmp 4]) () (.inl rfl) Tryz.results4 (.cons (.tmp rfl) .nil) rfl Splits.nil
           refine zyR 1 rfl (zaU rfl zbS (zyR 1 rfl (zyN ?_)))
           refine zyB rfl h (fun h => ?_) (fun h => ?_)
           ·
            refine zyG (zyR 1 rfl (zyN (zaG (zat (zao (zao (zat (zao (zat (zao (zao ?_)))))))))))
            refine zat (zao ?_)
            cases h
            exact zaK (rs:=[.tmp 4]) () (.inl rfl) Tryz.results4 (.cons (.tmp rfl) .nil) rfl Splits.nil
           refine zar (zag ?_)
           exact zal () h rfl (za0 rfl) (zad [0,1,2,3,4,5,6,7] kr rfl)
          refine zar (zag ?_)
          exact zal () h rfl (za0 rfl) (zad [0,1,2,3,4,5,6,7] kr rfl)
         refine zyR 7 rfl (zyN (zaS rfl (zar (zag ?_))))
         exact zal () h rfl (za0 rfl) (zad [0,1,2,3,4,5,6,7] kr rfl)
        rintro _ h
        rw [hj4] at h
        refine zav (zyR 1 rfl ?_)
        obtain ⟨hg3,h⟩:=zbr h
        refine zaU rfl (zaR (r:=i3+1) (IntWalk.i64_in _ hg3)) (zyR 1 rfl (zaO ?_))
        subst hag2
        exact za1 (n2,i3+1) h (Nat.lt_succ_self _) rfl (za0 rfl) (zad [0,1,2,3,4,5,6,7] kr rfl)
       refine za3 (zan (zan (zax ?_)))
       exact zal () h rfl (za0 rfl) (zad [0,1,2,3,4,5,6,7] kr rfl)
     rintro _ h
     rw [hj3] at h
     obtain ⟨j5,hj5,h⟩:=zbG h
     refine zaX (β:=Unit) 1 rfl (fun b=>j5=some r) (fun b=>[]) (fun b=>[(3,zP b1),(5,zP b2),(6,hd1.v),(9,hd2.v),(11,hd3.v),(13,zI q2),(14,zI k4),(17,hd6.v),(92,zI k4),(93,hd3.v),(94,zI (r4.1.length:Int)),(95,.bool ((k4:Int)==(r4.1.length:Int))),(120,zI (r7.1.length:Int)),(121,hd6.v),(122,zI (r8.length:Int)),(123,.bool (((r7.1.length:Int):Int) != (r8.length:Int))),(127,zI (r7.1.length:Int)),(128,.pointer (some ⟨b1,1,none⟩)),(129,zI l1.Height),(130,.bool (decide ((l1.Height:Int)<(r7.1.length:Int))))]) (fun b=>[cells b1 (zr0 l1) 23,cells b2 [zI p1.layout_Width,zI p1.layout_Height,zI p1.layout_Turn,zI p1.layout_Every,hd4.v,zI p1.cost] 81,zgc zaP zaY 43 1 hd4.v p1.pages,zv6 hd1.v r2.2.1,zv1 hd2.v r3.1,zv0 hd3.v r4.1,zv1 hd6.v r8]) (fun cut => ?_) ?_
     ·
      refine zyG (zyR 2 rfl ?_)
      obtain ⟨hg4,h⟩:=zbr h
      refine zrO (k:=6) Tryz.underlying43 Tryz.underlying43 zeb rfl (fun _=>rfl) dc dc rfl (fun _=>rfl) rfl hg4 (fun b3 n3 hn1 => ?_)
      have hn1:n3≤9223372036854775807:=hn1
      refine zyR 1 rfl (zyN (cut (zyG (zyR 1 rfl (zyN (zaF ?_))))))
      refine zbj (β:=Nat) (fun bq1=>bq1≤n3) (fun _=>[]) (fun bq1=>[(3,zP b1),(5,zP b2),(6,hd1.v),(9,hd2.v),(11,hd3.v),(13,zI q2),(14,zI k4),(15,.slice (some ⟨b3,0,none⟩) n3 n3),(17,hd6.v),(92,zI k4),(93,hd3.v),(94,zI (r4.1.length:Int)),(95,.bool ((k4:Int)==(r4.1.length:Int))),(119,hd5.v),(120,zI (r7.1.length:Int)),(121,hd6.v),(122,zI (r8.length:Int)),(123,.bool (((r7.1.length:Int):Int) != (r8.length:Int))),(126,hd5.v),(127,zI (r7.1.length:Int)),(128,.pointer (some ⟨b1,1,none⟩)),(129,zI l1.Height),(130,.bool (decide ((l1.Height:Int)<(r7.1.length:Int)))),(22,zI (bq1:Int))]) (fun _=>[cells b1 (zr0 l1) 23,cells b2 [zI p1.layout_Width,zI p1.layout_Height,zI p1.layout_Turn,zI p1.layout_Every,hd4.v,zI p1.cost] 81,zgc zaP zaY 43 1 hd4.v p1.pages,zv6 hd1.v r2.2.1,zv1 hd2.v r3.1,zv0 hd3.v r4.1,zwx b3 (n3*6) 33,zv1 hd6.v r8]) (fun bq1=>n3 - bq1) 0 (Nat.zero_le _) rfl (za0 rfl) (zad [0,1,2,3,4,5,6,7] kr rfl) ?_
      intro bq1 hbq1
      refine zaI (zyG (zyR 2 rfl (zrM rfl dc rfl Tryz.underlying43 (zaU rfl zbc (zyN ?_)))))
      refine zpB rfl (fun hb24 => ?_) (fun hb24 => ?_)
      ·
       have hq17:bq1<n3:=by have:=of_decide_eq_true hb24; omega
       refine zar (zaH (zaI (zaF (zav (zyR 2 rfl (zoP (b:=bq1) hq17 Tryz.underlying43 zeb rfl dc rfl rfl rfl (zab zur rfl dc rfl (show _=bq1*6+5 from rfl) (zoO (k:=6) (b:=bq1) (n:=n3) (size:=6) (j:=5) ztO rfl rfl rfl rfl hq17 rfl dc rfl (zaO (zag (zaH (zav ?_))))))))))))
       refine zyR 1 rfl (zaU rfl (zaR (r:=(bq1:Int)+1) (IntWalk.i64_in _ (show I64 ((bq1:Int)+1) from ⟨by omega,by omega⟩))) (zyR 1 rfl (zaO ?_)))
       exact za1 (bq1+1) (by omega) (by omega) rfl (za0 rfl) (zad [0,1,2,3,4,5,6,7] kr rfl)
      refine za3 (zan (zan (zax ?_)))
      exact zal () h rfl (za0 rfl) (zad [0,1,2,3,4,5,7] kr rfl)
     rintro _ h
     rw [hj5] at h
     refine zyG (zyR 2 rfl ?_)
     obtain ⟨r10,hq18,h⟩:=zbi h
     refine zft (vs:=[zP b2,zI k4]) (Rd.nil:Rd _ _ []) rfl dc rfl rfl rfl zvW (zgQ (bb1:=b2) (b1:=p1) (b1_h0:=hd4) hq18) Splits.nil (.own (zad [1] (by kernel_rfl) rfl) (fun _ _ h=>sepL.one1.1 h) (.own (zad [2] (by kernel_rfl) rfl) (fun _ _ h=>sepL.one1.1 h) .nil)) ?_
     rintro v8
     refine zby (k:=7) rfl (fun hd7 he6 => ?_)
     subst he6
     refine zyR 1 rfl (zaN rfl dc rfl rfl (zaN rfl dc rfl rfl (zyR 2 rfl (zyH (zyR 1 rfl (zyN (zaF ?_)))))))
     refine zbj (β:=Nat×Int) (fun b=>zaE (fun _=>none) (zcn j2 r8 q2 r10) b.1 b.2=some r) (fun b=>[]) (fun b=>[(3,zP b1),(5,zP b2),(6,hd1.v),(9,hd2.v),(11,hd3.v),(13,zI q2),(14,zI k4),(16,zI r10.2),(17,hd6.v),(23,hd7.v),(24,zI b.2),(92,zI k4),(93,hd3.v),(94,zI (r4.1.length:Int)),(95,.bool ((k4:Int)==(r4.1.length:Int))),(120,zI (r7.1.length:Int)),(121,hd6.v),(122,zI (r8.length:Int)),(123,.bool (((r7.1.length:Int):Int) != (r8.length:Int))),(127,zI (r7.1.length:Int)),(128,.pointer (some ⟨b1,1,none⟩)),(129,zI l1.Height),(130,.bool (decide ((l1.Height:Int)<(r7.1.length:Int))))]) (fun b=>[cells b1 (zr0 l1) 23,cells b2 [zI p1.layout_Width,zI p1.layout_Height,zI p1.layout_Turn,zI p1.layout_Every,hd4.v,zI p1.cost] 81,zgc zaP zaY 43 1 hd4.v p1.pages,zv6 hd1.v r2.2.1,zv1 hd2.v r3.1,zv0 hd3.v r4.1,zv1 hd6.v r8,zv1 hd7.v r10.1]) (fun b=>b.1) (zbN,0) h rfl (za0 rfl) (zad [0,1,2,3,4,5,6,7] kr rfl) ?_
     rintro ⟨n4,i6⟩ h
     cases n4 with
     | zero=>exact zdp h
     | succ n4 =>
      obtain ⟨ag3,hag3⟩:∃ ag,ag=zaE (fun _=>none) (zcn j2 r8 q2 r10) n4:=⟨_,rfl⟩
      have h:zcn j2 r8 q2 r10 ag3 i6=some r:=by rw [hag3]; exact h
      unfold zcn at h
      refine zaI (zyG (zyR 2 rfl (zbg (k:=7) rfl dc rfl rfl Tryz.underlying43 (zaU rfl zbc (zyN ?_)))))
      refine zyB rfl h (fun h => ?_) (fun h => ?_)
      ·
       refine zar (zaH (zaI (zaF (zaI ?_))))
       obtain ⟨q7,hq19,h⟩:=zbi h
       obtain ⟨q8,hq20,h⟩:=zbi h
       refine zcW (b:=!(zdl q7 q8)) (fun hb26 => ?_) (fun hb26 => ?_)
       ·
        have h:=zf0 hb26 h
        refine zbn 8 [(0,210,hd7.v),(1,211,zI i6),(2,212,.pointer (some ⟨zbY hd7.v,(i6:Int).toNat*6,none⟩)),(3,213,.agg (zr3 q7).toArray),(4,214,hd6.v),(5,215,zI i6),(6,216,.pointer (some ⟨zbY hd6.v,(i6:Int).toNat*6,none⟩)),(7,217,.agg (zr3 q8).toArray)] mixed kr kr dc (by rfl) kr kr (zyP 2 0 rfl (zac ?_ (zac ?_ (zyP 2 4 rfl (zac ?_ (zac ?_ DrawPre.nil)))))) ?_
        · exact fun D n d c u i=>zaj (k:=7) hq19 Tryz.underlying43 zeb rfl dc (zaa (m:=0) u rfl (d 0 dc)) (zaa (m:=1) u rfl (d 1 dc)) rfl rfl (zaf 2 u i rfl)
        · exact fun D n d c u i=>zcQ (i:=(i6:Int).toNat) (j:=0) (k:=7) (q:=q7) (cs:=(zr3 q7)) zia za8 rfl dc (zaa (m:=2) u rfl (d 2 dc)) rfl (zaz hq19) rfl rfl rfl (zaf 3 u i rfl)
        · exact fun D n d c u i=>zaj (k:=6) hq20 Tryz.underlying43 zeb rfl dc (zaa (m:=4) u rfl (d 4 dc)) (zaa (m:=5) u rfl (d 5 dc)) rfl rfl (zaf 6 u i rfl)
        · exact fun D n d c u i=>zcQ (i:=(i6:Int).toNat) (j:=0) (k:=6) (q:=q8) (cs:=(zr3 q8)) zia za8 rfl dc (zaa (m:=6) u rfl (d 6 dc)) rfl (zaz hq20) rfl rfl rfl (zaf 7 u i rfl)
        refine zaU rfl (zjv q7 q8) (zcq (show Value.bool (!(zdl q7 q8))=Value.bool true from congrArg Value.bool hb26) (zyR 4 rfl (zyN (za5 rfl (zyG (zyR 1 rfl (zyN ?_)))))))
        refine zaG (zat (zao (zao (zat (zat (zao (zao (zat (zao ?_)))))))))
        cases h
        exact zaK (rs:=[.tmp 4]) () (.inl rfl) Tryz.results4 (.cons (.tmp rfl) .nil) rfl Splits.nil
       have h:=zf1 hb26 h
       refine zbn 8 [(0,210,hd7.v),(1,211,zI i6),(2,212,.pointer (some ⟨zbY hd7.v,(i6:Int).toNat*6,none⟩)),(3,213,.agg (zr3 q7).toArray),(4,214,hd6.v),(5,215,zI i6),(6,216,.pointer (some ⟨zbY hd6.v,(i6:Int).toNat*6,none⟩)),(7,217,.agg (zr3 q8).toArray)] mixed kr kr dc (by rfl) kr kr (zyP 2 0 rfl (zac ?_ (zac ?_ (zyP 2 4 rfl (zac ?_ (zac ?_ DrawPre.nil)))))) ?_
       · exact fun D n d c u i=>zaj (k:=7) hq19 Tryz.underlying43 zeb rfl dc (zaa (m:=0) u rfl (d 0 dc)) (zaa (m:=1) u rfl (d 1 dc)) rfl rfl (zaf 2 u i rfl)
       · exact fun D n d c u i=>zcQ (i:=(i6:Int).toNat) (j:=0) (k:=7) (q:=q7) (cs:=(zr3 q7)) zia za8 rfl dc (zaa (m:=2) u rfl (d 2 dc)) rfl (zaz hq19) rfl rfl rfl (zaf 3 u i rfl)
       · exact fun D n d c u i=>zaj (k:=6) hq20 Tryz.underlying43 zeb rfl dc (zaa (m:=4) u rfl (d 4 dc)) (zaa (m:=5) u rfl (d 5 dc)) rfl rfl (zaf 6 u i rfl)
       · exact fun D n d c u i=>zcQ (i:=(i6:Int).toNat) (j:=0) (k:=6) (q:=q8) (cs:=(zr3 q8)) zia za8 rfl dc (zaa (m:=6) u rfl (d 6 dc)) rfl (zaz hq20) rfl rfl rfl (zaf 7 u i rfl)
       refine zaU rfl (zjv q7 q8) (zcq (show Value.bool (!(zdl q7 q8))=Value.bool false from congrArg Value.bool hb26) (zyR 2 rfl (zaU rfl zbS (zyR 1 rfl (zyN ?_)))))
       refine zyB rfl h (fun h => ?_) (fun h => ?_)
       ·
        refine zyG (zyR 1 rfl (zyN (zaG (zat (zao (zao (zat (zat (zao (zao (zat ?_)))))))))))
        refine zao ?_
        cases h
        exact zaK (rs:=[.tmp 4]) () (.inl rfl) Tryz.results4 (.cons (.tmp rfl) .nil) rfl Splits.nil
       refine zar (zag (zaH (zav (zyR 1 rfl ?_))))
       obtain ⟨hg5,h⟩:=zbr h
       refine zaU rfl (zaR (r:=i6+1) (IntWalk.i64_in _ hg5)) (zyR 1 rfl (zaO ?_))
       subst hag3
       exact za1 (n4,i6+1) h (Nat.lt_succ_self _) rfl (za0 rfl) (zad [0,1,2,3,4,5,6,7] kr rfl)
      refine za3 (zan (zan (zax (zag ?_))))
      exact zal q2 h rfl (za0 rfl) (zad [0,1,2,3,4,5] kr rfl)
    rintro from4 h
    rw [hj2] at h
    refine zav (zyR 1 rfl ?_)
    obtain ⟨hg6,h⟩:=zbr h
    refine zaU rfl (zaR (r:=k4+1) (IntWalk.i64_in _ hg6)) (zyR 1 rfl (zaO ?_))
    subst hag1
    exact za1 (n1,from4,k4+1) h (Nat.lt_succ_self _) rfl (za0 rfl) (zad [0,1,2,3,4,5] kr rfl)
   refine za3 (zan (zan (zax ?_)))
   exact zal () h rfl (za0 rfl) (zad [1,2,3] kr rfl)
 rintro _ h
 rw [hj1] at h
 refine zyG (zyR 2 rfl (zbg (k:=2) rfl dc rfl rfl Tryz.underlying26 ?_))
 obtain ⟨r11,hq21,h⟩:=zbi h
 refine zch (v:=.tuple #[zI r11.1,zI r11.2.1,zI r11.2.2]) (vs:=[zP b2,zI (r2.2.1.length:Int)]) (Rd.nil:Rd _ _ []) rfl dc rfl rfl rfl zuA (zfB (bb1:=b2) (b1:=p1) (b1_h0:=hd4) hq21) (.own (zad [0] (by kernel_rfl) rfl) (fun _ _ h=>sepL.one1.1 h) (.own (zad [1] (by kernel_rfl) rfl) (fun _ _ h=>sepL.one1.1 h) .nil)) ?_
 refine zyR 1 rfl (zaN rfl dc rfl rfl (zaN rfl dc rfl rfl (zaN rfl dc rfl rfl (zyR 3 rfl (zyH (zyR 1 rfl ?_))))))
 obtain ⟨r12,hq22,h⟩:=zbi h
 refine zch (v:=.tuple #[zI r12.1,zI r12.2.1,zI r12.2.2]) (vs:=[zP b2,zI (-1)]) (Rd.nil:Rd _ _ []) rfl dc rfl rfl rfl zuA (zfB (bb1:=b2) (b1:=p1) (b1_h0:=hd4) hq22) (.own (zad [0] (by kernel_rfl) rfl) (fun _ _ h=>sepL.one1.1 h) (.own (zad [1] (by kernel_rfl) rfl) (fun _ _ h=>sepL.one1.1 h) .nil)) ?_
 refine zyR 1 rfl (zaN rfl dc rfl rfl (zaN rfl dc rfl rfl (zaN rfl dc rfl rfl (zyR 3 rfl (zyH (zyR 1 rfl (zaU rfl zaT (zyR 1 rfl ?_))))))))
 refine zyS (s:=239) rfl h (fun h => ?_) (fun h => ?_)
 ·
  refine zyR 1 rfl (zaU rfl zaT (zyR 2 rfl ?_))
  refine zyS (s:=243) rfl h (fun h => ?_) (fun h => ?_)
  ·
   refine zyR 1 rfl (zaU rfl zaT (zyR 2 rfl ?_))
   refine zyS (s:=247) rfl h (fun h => ?_) (fun h => ?_)
   ·
    refine zyR 1 rfl (zaU rfl zaT (zyR 2 rfl ?_))
    refine zyS (s:=251) rfl h (fun h => ?_) (fun h => ?_)
    ·
     refine zyR 1 rfl (zaU rfl zaT (zyR 2 rfl ?_))
     refine zyS (s:=255) rfl h (fun h => ?_) (fun h => ?_)
     ·
      refine zyR 1 rfl (zaU rfl zaT (zyR 2 rfl (zyN (zaG ?_))))
      cases h
      exact zaK (rs:=[.tmp 4]) () (.inl rfl) Tryz.results4 (.cons (.tmp rfl) .nil) rfl Splits.nil
     refine zyR 4 rfl (zyN (zaG ?_))
     cases h
     exact zaK (rs:=[.tmp 4]) () (.inl rfl) Tryz.results4 (.cons (.tmp rfl) .nil) rfl Splits.nil
    refine zyR 8 rfl (zyN (zaG ?_))
    cases h
    exact zaK (rs:=[.tmp 4]) () (.inl rfl) Tryz.results4 (.cons (.tmp rfl) .nil) rfl Splits.nil
   refine zyR 12 rfl (zyN ?_)
   refine zaG ?_
   cases h
   exact zaK (rs:=[.tmp 4]) () (.inl rfl) Tryz.results4 (.cons (.tmp rfl) .nil) rfl Splits.nil
  refine zyR 14 rfl ?_
  refine zyR 2 rfl (zyN (zaG ?_))
  cases h
  exact zaK (rs:=[.tmp 4]) () (.inl rfl) Tryz.results4 (.cons (.tmp rfl) .nil) rfl Splits.nil
 refine zyR 14 rfl ?_
 refine zyR 6 rfl (zyN (zaG ?_))
 cases h
 exact zaK (rs:=[.tmp 4]) () (.inl rfl) Tryz.results4 (.cons (.tmp rfl) .nil) rfl Splits.nil
end Go.Proofs.YtbempdelckaccaaGreatDoor

namespace Go.Proofs.YtbempdelckaccaaGreatDoor
open Go.RowKit Go.Lib
set_option linter.unusedVariables false
set_option linter.unusedSimpArgs false
theorem zsn (seg:List Gapi_Row) (hn:seg.length≤1000000) (j1:List Gapi_Row→Option (List Gapi_Row)) :
  ∀ (d k m:Nat) (pg:List Gapi_Row),k+d=seg.length→d<m→pg.length≤2*k→zaE (fun _ _=>none) (zds seg j1) m pg (k:Int)=j1 (pg++pgL (if 0<k then some (stz seg (k - 1)) else none) (seg.drop k)):=by
 intro d
 induction d with
 | zero =>
  intro k m pg hk hm hp
  obtain ⟨m,rfl⟩:∃ q,m=q+1:=⟨m - 1,by omega⟩
  rw [zb5]
  unfold zds
  refine zaw (decide_eq_false (by omega)) ?_
  have e2:∀ o,pgL o []=[]:=fun o=>by cases o <;> rfl
  rw [List.drop_of_length_le (by omega),e2,List.append_nil]
 | succ d ih =>
  intro k m pg hk hm hp
  obtain ⟨m,rfl⟩:∃ q,m=q+1:=⟨m - 1,by omega⟩
  rw [zb5]
  have ih':=fun pg h=>ih (k+1) m pg (by omega) (by omega) h
  generalize zaE (fun _ _=>none) (zds seg j1) m=ag at ih' ⊢
  have hr:seg[k]?=some seg[k]:=List.getElem?_eq_getElem (by omega)
  have hst:=zgf hr
  rw [List.drop_eq_getElem_cons (show k<seg.length by omega)]
  rw [if_pos (show 0<k+1 by omega),show k+1 - 1=k by omega,hst,show ((k+1:Nat):Int)=(k:Int)+1 by omega] at ih'
  have fin:∀ pg':List Gapi_Row,pg'.length+1≤2*(k+1)→(zah (zbm seg (k:Int)) fun (q3:Gapi_Row)=>grd (pg'.length+1≤2147483648)<|grd (I64 ((k:Int)+1))<|ag (pg'++[q3]) ((k:Int)+1))=j1 (pg'++seg[k]::pgL (some seg[k].Stanza) (seg.drop (k+1))):=by
   intro pg' hp'
   refine zaJ (zcj hr) (zbl (by omega) (zbl ⟨by omega,by omega⟩ ?_))
   rw [ih' _ (by rw [List.length_append,List.length_singleton]; omega),List.append_assoc]; rfl
  unfold zds
  refine zaC (decide_eq_true (by omega)) (zbs ?_)
  by_cases h0:0<k
  ·have hr0:seg[k - 1]?=some seg[k - 1]:=List.getElem?_eq_getElem (by omega)
   have hst0:=zgf hr0
   rw [if_pos h0,hst0]
   refine zaC (decide_eq_true (by omega)) (zaJ (zcj hr) (zbl ⟨by omega,by omega⟩ (zaJ (zdk (n:=k - 1) (by omega) hr0) ?_)))
   by_cases he:seg[k].Stanza=seg[k - 1].Stanza
   ·refine zaw (zvI he) ((fin pg (by omega)).trans ?_)
    rw [zfX,if_pos he]
   ·refine zaC (zth he) (zbl (by omega) ((fin _ (by rw [List.length_append,List.length_singleton]; omega)).trans ?_))
    rw [zfX,if_neg he,List.append_assoc]; rfl
  ·rw [if_neg h0]
   refine zaw (decide_eq_false (by omega)) ((fin pg (by omega)).trans ?_)
   rfl
theorem zt0 (seg:List Gapi_Row) (hn:seg.length≤1000000):ze8 seg=some (pgL none seg):=by
 unfold ze8
 refine zbs ?_
 have:=zsn seg hn (fun out1=>some out1) seg.length 0 zbN [] (by omega) (zbM (by omega)) (Nat.zero_le _)
 rw [if_neg (Nat.lt_irrefl 0),List.drop_zero,List.nil_append] at this
 exact this
def zll (line:Int) (r:Gapi_Row):Bool:=decide (r.Line=line)&&decide (r.Part=0)
theorem zrn (line k:Int) (pg:List Gapi_Row) (hl:pg.length≤2000000) (j2:Option (Int×Int×Int)) (h:∀ r∈pg,zll line r=false) :
  ∀ (d i m:Nat),i+d=pg.length→d<m→zaE (fun _=>none) (zbO line k j2 pg) m (i:Int)=j2:=by
 intro d
 induction d with
 | zero =>
  intro i m hi hm
  obtain ⟨m,rfl⟩:∃ q,m=q+1:=⟨m - 1,by omega⟩
  rw [zb5]
  unfold zbO
  exact zaw (decide_eq_false (by omega)) rfl
 | succ d ih =>
  intro i m hi hm
  obtain ⟨m,rfl⟩:∃ q,m=q+1:=⟨m - 1,by omega⟩
  rw [zb5]
  have ih':=ih (i+1) m (by omega) (by omega)
  rw [show ((i+1:Nat):Int)=(i:Int)+1 by omega] at ih'
  generalize zaE (fun _=>none) (zbO line k j2 pg) m=ag at ih' ⊢
  have hg:pg[i]?=some pg[i]:=List.getElem?_eq_getElem (by omega)
  have hh:=h _ (List.mem_of_getElem? hg)
  have go:(grd (I64 ((i:Int)+1))<|ag ((i:Int)+1))=j2:=zbl ⟨by omega,by omega⟩ ih'
  unfold zbO
  refine zaC (decide_eq_true (by omega)) (zbs (zaJ (zcv hg) ?_))
  by_cases e1:pg[i].Line=line
  ·refine zaC (by rw [e1]; simp) ?_
   by_cases e2:pg[i].Part=0
   ·unfold zll at hh
    rw [decide_eq_true e1,decide_eq_true e2] at hh; cases hh
   ·exact zaw (beq_eq_false_iff_ne.2 e2) go
  ·exact zaw (beq_eq_false_iff_ne.2 e1) go
theorem zsL (line k:Int) (pg:List Gapi_Row) (hl:pg.length≤2000000) (j2:Option (Int×Int×Int)) (n:Nat) (r:Gapi_Row) (hr:pg[n]?=some r) (hhit:zll line r=true) (h:∀ x∈pg.take n,zll line x=false) :
  ∀ (d i m:Nat),i+d=n→d<m→zaE (fun _=>none) (zbO line k j2 pg) m (i:Int)=some (k,(n:Int),0):=by
 have hn:=(List.getElem?_eq_some_iff.1 hr).1
 intro d
 induction d with
 | zero =>
  intro i m hi hm
  obtain ⟨m,rfl⟩:∃ q,m=q+1:=⟨m - 1,by omega⟩
  obtain rfl:i=n:=by omega
  unfold zll at hhit
  simp only [Bool.and_eq_true,decide_eq_true_eq] at hhit
  rw [zb5]
  unfold zbO
  exact zaC (decide_eq_true (by omega)) (zbs (zaJ (zcv hr) (zaC (by rw [hhit.1]; simp) (zaC (by rw [hhit.2]; rfl) rfl))))
 | succ d ih =>
  intro i m hi hm
  obtain ⟨m,rfl⟩:∃ q,m=q+1:=⟨m - 1,by omega⟩
  rw [zb5]
  have ih':=ih (i+1) m (by omega) (by omega)
  rw [show ((i+1:Nat):Int)=(i:Int)+1 by omega] at ih'
  generalize zaE (fun _=>none) (zbO line k j2 pg) m=ag at ih' ⊢
  have hg:pg[i]?=some pg[i]:=List.getElem?_eq_getElem (by omega)
  have hh:=h pg[i] (by
   have:(pg.take n)[i]?=some pg[i]:=by rw [List.getElem?_take_of_lt (by omega)]; exact hg
   exact List.mem_of_getElem? this)
  have go:(grd (I64 ((i:Int)+1))<|ag ((i:Int)+1))=some (k,(n:Int),0):=zbl ⟨by omega,by omega⟩ ih'
  unfold zbO
  refine zaC (decide_eq_true (by omega)) (zbs (zaJ (zcv hg) ?_))
  by_cases e1:pg[i].Line=line
  ·refine zaC (by rw [e1]; simp) ?_
   by_cases e2:pg[i].Part=0
   ·unfold zll at hh
    rw [decide_eq_true e1,decide_eq_true e2] at hh; cases hh
   ·exact zaw (beq_eq_false_iff_ne.2 e2) go
  ·exact zaw (beq_eq_false_iff_ne.2 e1) go
theorem zrm (b:Gpage_Book) (line:Int) (hp:b.pages.length≤2000000) (hl:∀ pg∈b.pages,pg.length≤2000000) (h:∀ pg∈b.pages,∀ r∈pg,zll line r=false):zbu b line=some (0,0,5):=by
 unfold zbu
 refine zbs ?_
 by_cases h0:0≤line
 ·refine zaC (decide_eq_true h0) ?_
  have key:∀ (d i m:Nat),i+d=b.pages.length→d<m→zaE (fun _=>none) (zbA b line (some (0,0,5))) m (i:Int)=some (0,0,5):=by
   intro d
   induction d with
   | zero =>
    intro i m hi hm
    obtain ⟨m,rfl⟩:∃ q,m=q+1:=⟨m - 1,by omega⟩
    rw [zb5]
    unfold zbA
    exact zaw (decide_eq_false (by omega)) rfl
   | succ d ih =>
    intro i m hi hm
    obtain ⟨m,rfl⟩:∃ q,m=q+1:=⟨m - 1,by omega⟩
    rw [zb5]
    have ih':=ih (i+1) m (by omega) (by omega)
    rw [show ((i+1:Nat):Int)=(i:Int)+1 by omega] at ih'
    generalize zaE (fun _=>none) (zbA b line (some (0,0,5))) m=ag at ih' ⊢
    have hg:b.pages[i]?=some b.pages[i]:=List.getElem?_eq_getElem (by omega)
    have hm':=List.mem_of_getElem? hg
    unfold zbA
    refine zaC (decide_eq_true (by omega)) (zbs (zaJ (zcv hg) ?_))
    exact (zrn line (i:Int) b.pages[i] (hl _ hm') _ (h _ hm') b.pages[i].length 0 zbN (by omega) (zbM (by have:=hl _ hm'; omega))).trans (zbl ⟨by omega,by omega⟩ ih')
  exact key b.pages.length 0 zbN (by omega) (zbM (by omega))
 ·exact zaw (decide_eq_false h0) rfl
theorem zsM (b:Gpage_Book) (line:Int) (h0:0≤line) (hp:b.pages.length≤2000000) (hl:∀ pg∈b.pages,pg.length≤2000000) (k n:Nat) (pg:List Gapi_Row) (r:Gapi_Row) (hk:b.pages[k]?=some pg) (hn:pg[n]?=some r) (hhit:zll line r=true)
  (hA:∀ q∈b.pages.take k,∀ x∈q,zll line x=false) (hB:∀ x∈pg.take n,zll line x=false):zbu b line=some ((k:Int),(n:Int),0):=by
 have hkl:=(List.getElem?_eq_some_iff.1 hk).1
 have hnl:=(List.getElem?_eq_some_iff.1 hn).1
 unfold zbu
 refine zbs (zaC (decide_eq_true h0) ?_)
 have key:∀ (d i m:Nat),i+d=k→d<m→zaE (fun _=>none) (zbA b line (some (0,0,5))) m (i:Int)=some ((k:Int),(n:Int),0):=by
  intro d
  induction d with
  | zero =>
   intro i m hi hm
   obtain ⟨m,rfl⟩:∃ q,m=q+1:=⟨m - 1,by omega⟩
   obtain rfl:i=k:=by omega
   rw [zb5]
   generalize zaE (fun _=>none) (zbA b line (some (0,0,5))) m=ag
   unfold zbA
   refine zaC (decide_eq_true (by omega)) (zbs (zaJ (zcv hk) ?_))
   exact zsL line (i:Int) pg (hl _ (List.mem_of_getElem? hk)) _ n r hn hhit hB n 0 zbN (by omega) (zbM (by have:=hl _ (List.mem_of_getElem? hk); omega))
  | succ d ih =>
   intro i m hi hm
   obtain ⟨m,rfl⟩:∃ q,m=q+1:=⟨m - 1,by omega⟩
   rw [zb5]
   have ih':=ih (i+1) m (by omega) (by omega)
   rw [show ((i+1:Nat):Int)=(i:Int)+1 by omega] at ih'
   generalize zaE (fun _=>none) (zbA b line (some (0,0,5))) m=ag at ih' ⊢
   have hg:b.pages[i]?=some b.pages[i]:=List.getElem?_eq_getElem (by omega)
   have hm':=List.mem_of_getElem? hg
   have hh:=hA b.pages[i] (by
    have:(b.pages.take k)[i]?=some b.pages[i]:=by rw [List.getElem?_take_of_lt (by omega)]; exact hg
    exact List.mem_of_getElem? this)
   unfold zbA
   refine zaC (decide_eq_true (by omega)) (zbs (zaJ (zcv hg) ?_))
   exact (zrn line (i:Int) b.pages[i] (hl _ hm') _ hh b.pages[i].length 0 zbN (by omega) (zbM (by have:=hl _ hm'; omega))).trans (zbl ⟨by omega,by omega⟩ ih')
 exact key k 0 zbN (by omega) (zbM (by omega))
theorem zl0 {l:Gapi_Layout} {line k:Int} {v:Gapi_Verse}:∀ (ts:List ByteArray) (p:Nat),((zgv l k v (p:Int) ts).filter (zll line)).length≤if k=line∧p=0 then 1 else 0
 | [],p=>Nat.zero_le _
 | t::ts,p=>by
  have ih:=zl0 (l:=l) (line:=line) (k:=k) (v:=v) ts (p+1)
  rw [if_neg (by omega)] at ih
  show ((zte l k v (p:Int) t::zgv l k v ((p:Int)+1) ts).filter (zll line)).length≤_
  rw [show (p:Int)+1=((p+1:Nat):Int) by omega]
  by_cases h:k=line∧p=0
  ·rw [if_pos h]
   rw [List.filter_cons]
   split
   ·rw [List.length_cons]; omega
   ·omega
  ·rw [if_neg h]
   have hb:zll line (zte l k v (p:Int) t)=false:=by
    unfold zll
    show (decide (k=line)&&decide ((p:Int)=0))=false
    by_cases h1:k=line
    ·rw [decide_eq_false (show ¬ (p:Int)=0 by omega),Bool.and_false]
    ·rw [decide_eq_false h1,Bool.false_and]
   rw [List.filter_cons_of_neg (by rw [hb]; decide)]; exact ih
theorem zlZ {l:Gapi_Layout} {line:Int}:∀ (vs:List Gapi_Verse) (k:Int),((zcJ l k vs).filter (zll line)).length≤if k≤line then 1 else 0
 | [],k=>Nat.zero_le _
 | v::vs,k=>by
  have ih:=zlZ (l:=l) (line:=line) vs (k+1)
  have h1:=zl0 (l:=l) (line:=line) (k:=k) (v:=v) (zmo l v) 0
  show ((zgv l k v ((0:Nat):Int) (zmo l v)++zcJ l (k+1) vs).filter (zll line)).length≤_
  rw [List.filter_append,List.length_append]
  split at ih <;> split at h1 <;> split <;> omega
theorem zqV (f:Gapi_Row→Bool) (hf:f blankR=false):∀ (l:List Gapi_Row) (o:Option Int),(pgL o l).filter f=l.filter f
 | [],o=>by cases o <;> rfl
 | r::l,o=>by
  have ih:=fun o=>zqV f hf l o
  cases o with
  | none=>show (r::pgL (some r.Stanza) l).filter f=_; rw [List.filter_cons,List.filter_cons,ih]
  | some s =>
   rw [zfX]
   split
   ·rw [List.filter_cons,List.filter_cons,ih]
   ·rw [List.filter_cons_of_neg (by rw [hf]; decide),List.filter_cons,List.filter_cons,ih]
theorem zlX (f:Gapi_Row→Bool) (hf:f blankR=false) {R:Nat→Nat→Bool} {rows:List Gapi_Row}:∀ (ts:List Nat) (a:Nat),zoU R rows.length a ts→(zgl rows a ts).flatten.filter f=(rows.drop a).filter f
 | [],a,h=>by
  have:a=rows.length:=h
  rw [this,List.drop_length]; rfl
 | t::ts,a,h=>by
  obtain ⟨h1,h2,_,h3⟩:=h
  show ((pgL none ((rows.drop a).take (t - a))::zgl rows t ts).flatten).filter f=_
  rw [List.flatten_cons,List.filter_append,zlX f hf ts t h3,zqV f hf,← List.filter_append]
  have:=List.take_append_drop (t - a) (rows.drop a)
  rw [List.drop_drop,show a+(t - a)=t by omega] at this
  rw [this]
theorem zx2 {f:Gapi_Row→Bool} {ps:List (List Gapi_Row)} (h1:(ps.flatten.filter f).length≤1) {k n:Nat} {pg:List Gapi_Row} {r:Gapi_Row} (hk:ps[k]?=some pg) (hn:pg[n]?=some r) (hr:f r=true) :
  (∀ q∈ps.take k,∀ x∈q,f x=false)∧∀ x∈pg.take n,f x=false:=by
 have hkl:=(List.getElem?_eq_some_iff.1 hk).1
 have hnl:=(List.getElem?_eq_some_iff.1 hn).1
 have e1:ps=ps.take k++pg::ps.drop (k+1):=by
  have h2:ps[k]=pg:=by rw [List.getElem?_eq_getElem hkl] at hk; exact Option.some.inj hk
  conv=>lhs; rw [← List.take_append_drop k ps,List.drop_eq_getElem_cons hkl,h2]
 have e2:pg=pg.take n++r::pg.drop (n+1):=by
  have h2:pg[n]=r:=by rw [List.getElem?_eq_getElem hnl] at hn; exact Option.some.inj hn
  conv=>lhs; rw [← List.take_append_drop n pg,List.drop_eq_getElem_cons hnl,h2]
 have e3:ps.flatten.filter f=((ps.take k).flatten.filter f++((pg.take n).filter f++r::(pg.drop (n+1)).filter f))++(ps.drop (k+1)).flatten.filter f:=by
  conv=>lhs; rw [e1,List.flatten_append,List.flatten_cons,List.filter_append,List.filter_append]
  conv=>lhs; rw [e2,List.filter_append,List.filter_cons_of_pos hr]
  simp only [List.append_assoc]
 rw [e3] at h1
 simp only [List.length_append,List.length_cons] at h1
 have z1:(ps.take k).flatten.filter f=[]:=List.eq_nil_of_length_eq_zero (by omega)
 have z2:(pg.take n).filter f=[]:=List.eq_nil_of_length_eq_zero (by omega)
 refine ⟨fun q hq x hx => ?_,fun x hx => ?_⟩
 ·have:=List.filter_eq_nil_iff.1 z1 x (List.mem_flatten.2 ⟨q,hq,hx⟩)
  simpa using this
 ·have:=List.filter_eq_nil_iff.1 z2 x hx
  simpa using this
theorem zvP (r:Gapi_Row):zdl r r=true:=by unfold zdl; simp
theorem ztR (b:Gpage_Book) (k:Int) (pg:List Gapi_Row) (e:Int) (hl:pg.length≤2000000) (j3:Option Bool) (hF:∀ (n:Nat) (r:Gapi_Row),pg[n]?=some r→0≤r.Line→r.Part=0→zbu b r.Line=some (k,(n:Int),0)) :
  ∀ (d i m:Nat),i+d=pg.length→d<m→zaE (fun _=>none) (zco b k (pg,e) pg j3) m (i:Int)=j3:=by
 intro d
 induction d with
 | zero =>
  intro i m hi hm
  obtain ⟨m,rfl⟩:∃ q,m=q+1:=⟨m - 1,by omega⟩
  rw [zb5]
  unfold zco
  exact zaw (decide_eq_false (by show ¬ (i:Int)<(pg.length:Int); omega)) rfl
 | succ d ih =>
  intro i m hi hm
  obtain ⟨m,rfl⟩:∃ q,m=q+1:=⟨m - 1,by omega⟩
  rw [zb5]
  have ih':=ih (i+1) m (by omega) (by omega)
  rw [show ((i+1:Nat):Int)=(i:Int)+1 by omega] at ih'
  generalize zaE (fun _=>none) (zco b k (pg,e) pg j3) m=ag at ih' ⊢
  have hg:pg[i]?=some pg[i]:=List.getElem?_eq_getElem (by omega)
  have go:(grd (I64 ((i:Int)+1))<|ag ((i:Int)+1))=j3:=zbl ⟨by omega,by omega⟩ ih'
  unfold zco
  refine zaC (decide_eq_true (by show (i:Int)<(pg.length:Int); omega)) (zbs (zaJ (zcv hg) (zaJ (zcv hg) (zaw (by rw [zvP]; rfl) (zaJ (zcv hg) ?_)))))
  by_cases h0:0≤pg[i].Line
  ·refine zaC (decide_eq_true h0) ?_
   by_cases h1:pg[i].Part=0
   ·exact zaC (by rw [h1]; rfl) (zaJ (zcv hg) (zaJ (hF i _ hg h0 h1) (zaw (by simp) (zaw (by simp) (zaw rfl go)))))
   ·exact zaw (beq_eq_false_iff_ne.2 h1) go
  ·exact zaw (decide_eq_false h0) go
theorem ztQ (pg:List Gapi_Row) (hl:pg.length≤2000000) (q2:Int) (j2:Int→Option Bool):∀ (d i m:Nat),i+d=pg.length→d<m→zaE (fun _=>none) (zcn j2 pg q2 (pg,0)) m (i:Int)=j2 q2:=by
 intro d
 induction d with
 | zero =>
  intro i m hi hm
  obtain ⟨m,rfl⟩:∃ q,m=q+1:=⟨m - 1,by omega⟩
  rw [zb5]
  unfold zcn
  exact zaw (decide_eq_false (by show ¬ (i:Int)<(pg.length:Int); omega)) rfl
 | succ d ih =>
  intro i m hi hm
  obtain ⟨m,rfl⟩:∃ q,m=q+1:=⟨m - 1,by omega⟩
  rw [zb5]
  have ih':=ih (i+1) m (by omega) (by omega)
  rw [show ((i+1:Nat):Int)=(i:Int)+1 by omega] at ih'
  generalize zaE (fun _=>none) (zcn j2 pg q2 (pg,0)) m=ag at ih' ⊢
  have hg:pg[i]?=some pg[i]:=List.getElem?_eq_getElem (by omega)
  unfold zcn
  exact zaC (decide_eq_true (by show (i:Int)<(pg.length:Int); omega)) (zaJ (zcv hg) (zaJ (zcv hg) (zaw (by rw [zvP]; rfl) (zaw rfl (zbl ⟨by omega,by omega⟩ ih')))))
theorem zqW:∀ (l:List Gapi_Row) (s:Int),(∀ (i:Nat) (a b:Gapi_Row),l[i]?=some a→l[i+1]?=some b→b.Stanza=a.Stanza∨b.Stanza=a.Stanza+1)→(∀ a,l[0]?=some a→a.Stanza=s∨a.Stanza=s+1)→∀ z,l.getLast?=some z→((pgL (some s) l).length:Int)=l.length+(z.Stanza - s)
 | [],s,_,_,z,hz=>by cases hz
 | [x],s,_,h0,z,hz=>by
  have hx:=h0 x rfl
  have:x=z:=Option.some.inj hz
  subst this
  rw [zfX]
  split
  ·rename_i h
   show (1:Int)=1+(x.Stanza - s); omega
  ·show (2:Int)=1+(x.Stanza - s); omega
 | x::y::l,s,hc,h0,z,hz=>by
  have hx:=h0 x rfl
  have ih:=zqW (y::l) x.Stanza (fun i a b h1 h2=>hc (i+1) a b h1 h2) (fun a ha=>hc 0 x a rfl ha) z (by rw [← hz]; rfl)
  rw [zfX]
  rw [List.length_cons] at ih
  split
  ·rename_i h
   rw [List.length_cons,List.length_cons,List.length_cons]; omega
  ·rw [List.length_cons,List.length_cons,List.length_cons,List.length_cons]; omega
theorem zuh {rows:List Gapi_Row} {F L:List Int} {H:Int} (hR:RowsOk rows F L) {f t:Nat} (h1:f<t) (h2:t≤rows.length) (h3:zd1 rows f t≤H):0<(pgL none ((rows.drop f).take (t - f))).length∧((pgL none ((rows.drop f).take (t - f))).length:Int)≤H:=by
 have hsl:((rows.drop f).take (t - f)).length=t - f:=by rw [List.length_take,List.length_drop]; omega
 have hget:∀ i,i<t - f→((rows.drop f).take (t - f))[i]?=rows[f+i]?:=fun i hi=>by rw [List.getElem?_take_of_lt hi,List.getElem?_drop]
 cases hs:(rows.drop f).take (t - f) with
 | nil=>rw [hs] at hsl; simp at hsl; omega
 | cons x xs =>
  rw [hs] at hsl hget
  have hxf:rows[f]?=some x:=by have:=hget 0 (by omega); rw [Nat.add_zero] at this; rw [← this]; rfl
  obtain ⟨z,hz⟩:∃ z,(x::xs).getLast?=some z:=by
   cases h:(x::xs).getLast? with
   | none=>simp at h
   | some z=>exact ⟨z,rfl⟩
  have hzr:rows[t - 1]?=some z:=by
   have:=hget (t - f - 1) (by omega)
   rw [show f+(t - f - 1)=t - 1 by omega] at this
   rw [← this,← hz,List.getLast?_eq_getElem?,hsl]
  have hch:∀ (i:Nat) (a b:Gapi_Row),(x::xs)[i]?=some a→(x::xs)[i+1]?=some b→b.Stanza=a.Stanza∨b.Stanza=a.Stanza+1:=fun i a b ha hb=>by
   have hi:i+1<(x::xs).length:=(List.getElem?_eq_some_iff.1 hb).1
   rw [hget i (by omega)] at ha
   rw [hget (i+1) (by omega)] at hb
   exact hR.ch (f+i) a b ha hb
  have hk:((pgL none (x::xs)).length:Int)=(x::xs).length+(z.Stanza - x.Stanza):=by
   have:=zqW (x::xs) x.Stanza hch (fun a ha=>by have:x=a:=Option.some.inj ha; subst this; exact .inl rfl) z hz
   rw [zfX,if_pos rfl] at this
   exact this
  refine ⟨by show 0<(x::pgL (some x.Stanza) xs).length; simp,?_⟩
  rw [hk,hsl]
  have hh:zd1 rows f t=((t:Int) - f)+z.Stanza - x.Stanza:=by unfold zd1; rw [zgf hzr,zgf hxf]
  omega
theorem zo7 {rows:List Gapi_Row} {F L:List Int} (hR:RowsOk rows F L) (l:Gapi_Layout) (c c2:Int) (b:Gpage_Book) (E:List Nat) (hb:b.pages=zgl rows 0 E) (hlen:∀ pg∈b.pages,pg.length≤2000000) (hE:E.length≤1000000)
  (hF:∀ (k n:Nat) (pg:List Gapi_Row) (r:Gapi_Row),b.pages[k]?=some pg→pg[n]?=some r→0≤r.Line→r.Part=0→zbu b r.Line=some ((k:Int),(n:Int),0)) (J:Option Bool) :
  ∀ (ts pre:List Nat) (preP:List (List Gapi_Row)) (f m:Nat),E=pre++ts→b.pages=preP++zgl rows f ts→preP.length=pre.length→zoU (Rp rows l.Height) rows.length f ts→ts.length+1<m →
  zaE (fun _ _=>none) (zbh l (rows,c) (E.map (fun t=>((t:Nat):Int)),c2) b J) m (f:Int) (pre.length:Int)=J
 | [],pre,preP,f,m,hEe,hP,hpl,hr,hm=>by
  obtain ⟨m,rfl⟩:∃ q,m=q+2:=⟨m - 2,by omega⟩
  have hel:E.length=pre.length:=by rw [hEe]; simp
  have hbl:b.pages.length=pre.length:=by rw [hP,List.length_append]; show preP.length+0=_; omega
  have hpage:zcm b (pre.length:Int)=some (([]:List Gapi_Row),5):=by
   unfold zcm
   exact zaw (decide_eq_false (by omega)) (zaC (decide_eq_true (by omega)) rfl)
  have hnext:zbh l (rows,c) (E.map (fun t=>((t:Nat):Int)),c2) b J (zaE (fun _ _=>none) (zbh l (rows,c) (E.map (fun t=>((t:Nat):Int)),c2) b J) m) (f:Int) ((pre.length:Int)+1)=J:=by
   generalize zaE (fun _ _=>none) (zbh l (rows,c) (E.map (fun t=>((t:Nat):Int)),c2) b J) m=ag
   unfold zbh
   exact zaw (decide_eq_false (by show ¬ (pre.length:Int)+1≤((E.map (fun t=>((t:Nat):Int))).length:Int); rw [List.length_map]; omega)) rfl
  rw [zb5]
  have hnext:zaE (fun _ _=>none) (zbh l (rows,c) (E.map (fun t=>((t:Nat):Int)),c2) b J) (m+1) (f:Int) ((pre.length:Int)+1)=J:=by rw [zb5]; exact hnext
  generalize zaE (fun _ _=>none) (zbh l (rows,c) (E.map (fun t=>((t:Nat):Int)),c2) b J) (m+1)=ag at hnext ⊢
  unfold zbh
  refine zaC (decide_eq_true (by show (pre.length:Int)≤((E.map (fun t=>((t:Nat):Int))).length:Int); rw [List.length_map]; omega)) (zbs (zaJ hpage (zaw (decide_eq_false (by omega)) (zaC (by show ((pre.length:Int)==((E.map (fun t=>((t:Nat):Int))).length:Int))=true; rw [List.length_map,hel]; simp) (zaw rfl (zaw rfl (zbl ⟨by omega,by omega⟩ hnext)))))))
 | t::ts,pre,preP,f,m,hEe,hP,hpl,hr,hm=>by
  obtain ⟨m,rfl⟩:∃ q,m=q+1:=⟨m - 1,by omega⟩
  obtain ⟨r1,r2,r3,r4⟩:=hr
  have hle:=hR.n
  have r3:zd1 rows f t≤l.Height:=of_decide_eq_true r3
  obtain ⟨p1,p2⟩:=zuh hR r1 r2 r3
  have hP':b.pages=preP++pgL none ((rows.drop f).take (t - f))::zgl rows t ts:=hP
  have ih:=zo7 hR l c c2 b E hb hlen hE hF J ts (pre++[t]) (preP++[pgL none ((rows.drop f).take (t - f))]) t m (by rw [hEe]; simp) (by rw [hP']; simp) (by simp; omega) r4 (by simp at hm; omega)
  rw [show (((pre++[t]).length:Nat):Int)=(pre.length:Int)+1 by simp] at ih
  generalize hpg:pgL none ((rows.drop f).take (t - f))=pg at p1 p2 hP' ih
  have hk:b.pages[pre.length]?=some pg:=by rw [hP',← hpl]; simp
  have hkl:=(List.getElem?_eq_some_iff.1 hk).1
  have hpl2:=hlen pg (List.mem_of_getElem? hk)
  have hel:E.length=pre.length+1+ts.length:=by rw [hEe]; simp; omega
  have hpage:zcm b (pre.length:Int)=some (pg,0):=by
   unfold zcm
   refine zaw (decide_eq_false (by omega)) (zaw (decide_eq_false (by omega)) (zaJ (zcv hk) (zaJ ?_ rfl)))
   exact zbl (by omega) rfl
  have hg:zbm (E.map (fun t=>((t:Nat):Int))) (pre.length:Int)=some (t:Int):=zcv (by rw [List.getElem?_map,hEe]; simp)
  have hrp:ze8 (zjV rows (f:Int) (t:Int))=some pg:=by
   rw [zhG,zt0 _ (by rw [List.length_take,List.length_drop]; omega),hpg]
  rw [zb5]
  generalize zaE (fun _ _=>none) (zbh l (rows,c) (E.map (fun t=>((t:Nat):Int)),c2) b J) m=ag at ih ⊢
  unfold zbh
  refine zaC (decide_eq_true (by show (pre.length:Int)≤((E.map (fun t=>((t:Nat):Int))).length:Int); rw [List.length_map]; omega)) (zbs (zaJ hpage (zaw (decide_eq_false (by omega)) (zaw (by show ((pre.length:Int)==((E.map (fun t=>((t:Nat):Int))).length:Int))=false; rw [List.length_map,hel]; exact beq_eq_false_iff_ne.2 (by omega)) ?_))))
  refine zaJ hg (zbl ⟨by omega,by omega,by show (t:Int)≤(rows.length:Int); omega⟩ (zaJ hrp (zaJ hg (zaw rfl (zaw (by simp) (zaw (decide_eq_false (by show ¬ l.Height<(pg.length:Int); omega)) (zbs ?_)))))))
  refine (ztR b (pre.length:Int) pg 0 hpl2 _ (fun n r hn h0 h1=>hF pre.length n pg r hk hn h0 h1) pg.length 0 zbN (by omega) (zbM (by omega))).trans (zbs (zbl p1 (zaJ hpage ?_)))
  refine (ztQ pg hpl2 (t:Int) _ pg.length 0 zbN (by omega) (zbM (by omega))).trans ?_
  exact zbl ⟨by omega,by omega⟩ ih
theorem zkC {R:Nat→Nat→Bool} {rows:List Gapi_Row}:∀ (ts:List Nat) (f:Nat),zoU R rows.length f ts→f≤rows.length→ts.length+f≤rows.length
 | [],f,h,hf=>by
  have:f=rows.length:=h
  simp; omega
 | t::ts,f,h,hf=>by
  obtain ⟨h1,h2,_,h3⟩:=h
  have:=zkC ts t h3 h2
  rw [List.length_cons]; omega
theorem zkB {rows:List Gapi_Row}:∀ (ts:List Nat) (f:Nat),∀ pg∈zgl rows f ts,pg.length≤2*rows.length
 | [],f,pg,h=>by cases h
 | t::ts,f,pg,h=>by
  rcases List.mem_cons.1 (show pg∈pgL none ((rows.drop f).take (t - f))::zgl rows t ts from h) with rfl | h
  ·have hp:=zos ((rows.drop f).take (t - f)) none
   have hl:((rows.drop f).take (t - f)).length≤rows.length:=by rw [List.length_take,List.length_drop]; omega
   omega
  ·exact zkB ts t pg h
theorem zlV {rows:List Gapi_Row}:∀ (ts:List Nat) (f:Nat),∀ pg∈zgl rows f ts,∀ r∈pg,r∈rows∨r=blankR
 | [],f,pg,h,r,hr=>by cases h
 | t::ts,f,pg,h,r,hr=>by
  rcases List.mem_cons.1 (show pg∈pgL none ((rows.drop f).take (t - f))::zgl rows t ts from h) with rfl | h
  ·have key:∀ (l:List Gapi_Row) (o:Option Int),∀ r∈pgL o l,r∈l∨r=blankR:=by
    intro l
    induction l with
    | nil=>intro o r h; cases o <;> cases h
    | cons x l ih =>
     intro o r h
     cases o with
     | none =>
      rcases List.mem_cons.1 (show r∈x::pgL (some x.Stanza) l from h) with rfl | h
      ·exact .inl (List.mem_cons_self ..)
      ·exact (ih _ r h).imp (List.mem_cons_of_mem _) id
     | some s =>
      rw [zfX] at h
      split at h
      ·rcases List.mem_cons.1 h with rfl | h
       ·exact .inl (List.mem_cons_self ..)
       ·exact (ih _ r h).imp (List.mem_cons_of_mem _) id
      ·rcases List.mem_cons.1 h with rfl | h
       ·exact .inr rfl
       ·rcases List.mem_cons.1 h with rfl | h
        ·exact .inl (List.mem_cons_self ..)
        ·exact (ih _ r h).imp (List.mem_cons_of_mem _) id
   rcases key _ _ r hr with h | h
   ·exact .inl (List.mem_of_mem_drop (List.mem_of_mem_take h))
   ·exact .inr h
  ·exact zlV ts t pg h r hr
theorem zpU (T:List UInt8) (l:Gapi_Layout):zeX (mkB T) l=some true:=by
 unfold zeX
 refine zaJ zvL (zaw rfl ?_)
 by_cases hT:1200<(mkB T).size
 ·exact zaC (decide_eq_true (by omega)) rfl
 refine zaw (decide_eq_false (by omega)) ?_
 rcases zqD T l with hset | ⟨p,t,z,hok,hm,hg,hrd,hset⟩
 ·exact zaJ hset (zaw rfl (zaC rfl rfl))
 ·refine zaJ hset (zaw rfl (zaw rfl ?_))
  have hgl:=hg.len
  have hR:=zpb hm p.told_lines hg.ok (by omega) hg.stp
  have hH:=zti hm
  have hrise:=zjp (zjN hR hH) (zmf (rows:=zcJ l 0 p.told_lines) hH) (zcJ l 0 p.told_lines).length 0 (Nat.zero_le _) (by omega)
  have hrl:=zkt hm p.told_lines 0 hg.ok
  have c1:=zk1 hm p.told_lines hg.ok
  have c2:=ztv hR hH 0
  have hel:=zkC (zhE (zcJ l 0 p.told_lines) l.Height) 0 hrise (Nat.zero_le _)
  have hbp:(zgI l p.told_lines).pages=zgl (zcJ l 0 p.told_lines) 0 (zhE (zcJ l 0 p.told_lines) l.Height):=rfl
  have hpn:(zgI l p.told_lines).pages.length=(zhE (zcJ l 0 p.told_lines) l.Height).length:=by rw [hbp,zlW]
  have hlen:∀ pg∈(zgI l p.told_lines).pages,pg.length≤2000000:=fun pg h=>by
   have:=zkB _ _ pg (hbp ▸ h); omega
  have hline:∀ pg∈(zgI l p.told_lines).pages,∀ r∈pg,r.Line<(p.told_lines.length:Int):=fun pg h r hr=>by
   rcases zlV _ _ pg (hbp ▸ h) r hr with h | h
   ·obtain ⟨j,v,h1,h2,h3⟩:=zg0 h
    have:=(List.getElem?_eq_some_iff.1 h1).1
    omega
   ·rw [h]; show (-1:Int)<_; omega
  refine zaJ (zua l hm p.told_lines hg.ok (by omega)) (zaJ (zsm hR hH) (zaJ rfl (zaJ (show zeK (zgI l p.told_lines)=some ((zgI l p.told_lines).pages.length:Int) from rfl) ?_)))
  refine zaw (by show (!(((zgI l p.told_lines).pages.length:Int)==(((zhE (zcJ l 0 p.told_lines) l.Height).map (fun t=>((t:Nat):Int))).length:Int)))=false; rw [List.length_map,hpn]; simp) ?_
  refine zaJ (show zeW (zgI l p.told_lines)=some (zgp l p.told_lines+(Tt (zcJ l 0 p.told_lines) l.Height 0).cost) from rfl) (zbl ⟨?_,?_⟩ (zaw (by simp) (zbs ?_)))
  ·show -9223372036854775808≤zgp l p.told_lines+(Tt (zcJ l 0 p.told_lines) l.Height 0).cost; omega
  ·show zgp l p.told_lines+(Tt (zcJ l 0 p.told_lines) l.Height 0).cost≤9223372036854775807; omega
  have hF:∀ (k n:Nat) (pg:List Gapi_Row) (r:Gapi_Row),(zgI l p.told_lines).pages[k]?=some pg→pg[n]?=some r→0≤r.Line→r.Part=0→zbu (zgI l p.told_lines) r.Line=some ((k:Int),(n:Int),0):=by
   intro k n pg r hk hn h0 h1
   have hhit:zll r.Line r=true:=by unfold zll; rw [decide_eq_true rfl,decide_eq_true h1]; rfl
   have hbl:zll r.Line blankR=false:=by
    unfold zll
    rw [decide_eq_false (show ¬ blankR.Line=r.Line by show ¬ (-1:Int)=r.Line; omega),Bool.false_and]
   have hone:((zgI l p.told_lines).pages.flatten.filter (zll r.Line)).length≤1:=by
    rw [hbp,zlX _ hbl _ 0 hrise,List.drop_zero]
    have:=zlZ (l:=l) (line:=r.Line) p.told_lines 0
    split at this <;> omega
   obtain ⟨o1,o2⟩:=zx2 hone hk hn hhit
   exact zsM _ _ h0 (by omega) hlen k n pg r hk hn hhit o1 o2
  have hnone1:zbu (zgI l p.told_lines) (p.told_lines.length:Int)=some (0,0,5):=zrm _ _ (by omega) hlen (fun pg h r hr=>by
   have:=hline pg h r hr
   unfold zll
   rw [decide_eq_false (by omega),Bool.false_and])
  have hnone2:zbu (zgI l p.told_lines) (-1)=some (0,0,5):=by
   unfold zbu
   exact zbs (zaw rfl rfl)
  have hend:(zah (zbu (zgI l p.told_lines) (p.told_lines.length:Int)) fun (r11:(Int×Int×Int))=>zah (zbu (zgI l p.told_lines) (-1)) fun (r12:(Int×Int×Int))=>zay ((r11.1:Int)==0) (zay ((r11.2.1:Int)==0) (zay ((r11.2.2:Int)==5) (zay ((r12.1:Int)==0) (zay ((r12.2.1:Int)==0) (some ((r12.2.2:Int)==5)) (some false)) (some false)) (some false)) (some false)) (some false))=some true :=
   zaJ hnone1 (zaJ hnone2 rfl)
  obtain ⟨M,hM⟩:∃ M,zbN=M+1:=⟨zbN - 1,by unfold zbN; omega⟩
  have hM2:(zhE (zcJ l 0 p.told_lines) l.Height).length+1<M:=by have:=hM; unfold zbN at this; omega
  have hmain:=zo7 hR l (zgp l p.told_lines) (Tt (zcJ l 0 p.told_lines) l.Height 0).cost (zgI l p.told_lines) (zhE (zcJ l 0 p.told_lines) l.Height) hbp hlen (by omega) hF (some true) (zhE (zcJ l 0 p.told_lines) l.Height) [] [] 0 M rfl (by rw [hbp]; rfl) rfl hrise hM2
  rw [hend,hM,zb5]
  have hmain:zaE (fun _ _=>none) (zbh l (zcJ l 0 p.told_lines,zgp l p.told_lines) ((zhE (zcJ l 0 p.told_lines) l.Height).map (fun t=>((t:Nat):Int)),(Tt (zcJ l 0 p.told_lines) l.Height 0).cost) (zgI l p.told_lines) (some true)) M 0 ((-1:Int)+1)=some true:=hmain
  generalize zaE (fun _ _=>none) (zbh l (zcJ l 0 p.told_lines,zgp l p.told_lines) ((zhE (zcJ l 0 p.told_lines) l.Height).map (fun t=>((t:Nat):Int)),(Tt (zcJ l 0 p.told_lines) l.Height 0).cost) (zgI l p.told_lines) (some true)) M=ag at hmain ⊢
  have hpage:zcm (zgI l p.told_lines) (-1)=some (([]:List Gapi_Row),5):=by
   unfold zcm
   exact zaC rfl rfl
  unfold zbh
  exact zaC (decide_eq_true (by show (-1:Int)≤_; omega)) (zbs (zaJ hpage (zaC rfl (zaw rfl (zaw rfl (zbl ⟨by decide,by decide⟩ hmain))))))
theorem pageSets_any (s:ByteArray) (l:Gapi_Layout) (w:World) (hs:s.size≤140737488351232):Calls Tryz.prog 4 #[.string s,.agg #[.int .i64 l.Width,.int .i64 l.Height,.int .i64 l.Turn,.int .i64 l.Every]] w fun e w'=>e=.returned (.bool true)∧Below w.heap.size w w' :=
 zjf (by obtain ⟨T,rfl⟩:=zvK s; exact zpU T l) w
end Go.Proofs.YtbempdelckaccaaGreatDoor
