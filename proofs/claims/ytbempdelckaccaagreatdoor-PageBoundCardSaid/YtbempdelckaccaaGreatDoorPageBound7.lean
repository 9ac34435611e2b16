/-
  Texts laid together: PlPageBound. Nothing is assumed.
-/
import Derived.Test.YtbempdelckaccaaGreatDoorPageBound6
import Derived.Test.YtbempdelckaccaaGreatDoorPageBound2
set_option maxRecDepth 100000
set_option maxHeartbeats 4000000

namespace Go.Proofs.YtbempdelckaccaaGreatDoor
open Go.RowKit Go.Lib
set_option linter.unusedVariables false
set_option linter.unusedSimpArgs false
def zvm (s:ByteArray) (a b:Int):Nat→List Nat→Prop
 | _,[]=>True
 | f,t::ts=>f<t∧t≤(zah s).length∧zl6 (spB s) (zah s) a b f t=true∧zvm s a b t ts
theorem zmk {s:ByteArray} {a b:Int} (hs:s.size≤100000) (ha:0≤a∧a≤1000000) (hb:0≤b∧b≤1000000):∀ (m f:Nat),zoq s a b f→f≤(zah s).length→zvm s a b f (zkd s a b m f)
 | 0,f,_,_=>trivial
 | m+1,f,hfe,hf=>by
  unfold zkd
  split
  ·rename_i h
   obtain ⟨t,h1,h2,h3,h4,h5,_⟩:=zk6 hs ha hb hfe h
   rw [h1,Int.toNat_natCast]
   exact ⟨h2,h3,h4,zmk hs ha hb m t h5 h3⟩
  ·trivial
structure RowK (l:Gapi_Layout) (r:Gapi_Row):Prop where
 ln:0≤r.Line
 nm:r.Number=0
 row:∃ (s:ByteArray) (f t:Nat) (a b:Int),s.size≤1024∧f<t∧t≤(zah s).length∧zl6 (spB s) (zah s) a b f t=true∧r.Text=zky s f t∧0≤r.Indent∧r.Indent≤1024∧(r.Indent<l.Width→zeB a b f=l.Width - r.Indent)
theorem zrn {l:Gapi_Layout} (hm:zh8 l=true) (he:l.Every=0) {k:Int} (hk:0≤k) {v:Gapi_Verse} (h:OkV v):∀ (ts:List Nat) (f:Nat) (p:Int),zvm v.Text (zpV v.Indent l) (zpM l) f ts→(p=0↔f=0)→0≤p→∀ r∈zfy l k v p (zgl v.Text f ts),RowK l r
 | [],f,p,_,_,_,r,hr=>by cases hr
 | t::ts,f,p,hR,hp,hp0,r,hr=>by
  obtain ⟨h1,h2,h3,h4⟩:=hR
  rcases List.mem_cons.1 (show r∈zuD l k v p (zky v.Text f t)::zfy l k v (p+1) (zgl v.Text t ts) from hr) with rfl | hr
  ·have hnum:zw8 l k=0:=by unfold zw8; rw [he,if_neg (by decide)]
   obtain ⟨m1,m2,m3⟩:=zm9 hm
   have hi0:=h.i0
   refine ⟨hk,by show (if p=0 then zw8 l k else 0)=0; rw [hnum]; split <;> rfl,v.Text,f,t,zpV v.Indent l,zpM l,h.sz,h1,h2,h3,rfl,?_,?_,?_⟩
   ·show 0≤(if p=0 then v.Indent else l.Turn); split <;> omega
   ·show (if p=0 then v.Indent else l.Turn)≤1024; split <;> omega
   ·show (if p=0 then v.Indent else l.Turn)<l.Width→zeB (zpV v.Indent l) (zpM l) f=l.Width - (if p=0 then v.Indent else l.Turn)
    unfold zeB
    by_cases h0:p=0
    ·rw [if_pos h0,if_pos (hp.1 h0)]
     intro hw
     show max 1 (l.Width - v.Indent)=_
     omega
    ·rw [if_neg h0,if_neg (fun e=>h0 (hp.2 e))]
     intro hw; rfl
  ·exact zrn hm he hk h ts t (p+1) h4 (by omega) (by omega) r hr
theorem zrl {l:Gapi_Layout} (hm:zh8 l=true) (he:l.Every=0):∀ (vs:List Gapi_Verse) (k:Int),0≤k→(∀ v∈vs,OkV v)→∀ r∈zcO l k vs,RowK l r
 | [],k,_,_,r,hr=>by cases hr
 | v::vs,k,hk,hv,r,hr=>by
  rcases List.mem_append.1 (show r∈zfy l k v 0 (zmE l v)++zcO l (k+1) vs from hr) with hr | hr
  ·have h:=hv v (List.mem_cons_self ..)
   obtain ⟨w1,w2,w3⟩:=zqf hm h.i0
   have hsz:=h.sz
   exact zrn hm he hk h _ 0 0 (zmk (by omega) w2 w3 _ 0 (zph (by omega) w2 w3) (Nat.zero_le _)) (by omega) (Int.le_refl _) r hr
  ·exact zrl hm he vs (k+1) (by omega) (fun w hw=>hv w (List.mem_cons_of_mem _ hw)) r hr
theorem zkR (dn:Int→Int→Option Bool):∀ (its:List zd8) (m c:Int),(0≤c∧c+its.length≤1000000)→∃ (m' c':Int),zcD dn zbE its m c=dn m' c'∧m≤m'∧∀ x∈its,x.Columns≤m'
 | [],m,c,_=>⟨m,c,rfl,Int.le_refl _,fun x hx=>by cases hx⟩
 | x::its,m,c,hc=>by
  rw [List.length_cons] at hc
  by_cases h:m<x.Columns
  ·obtain ⟨m',c',h1,h2,h3⟩:=zkR dn its x.Columns (c+1) ⟨by omega,by omega⟩
   refine ⟨m',c',?_,by omega,fun y hy => ?_⟩
   ·show zbE x (zcD dn zbE its) m c=_
    unfold zbE
    exact zbs (zaz (decide_eq_true h) (zbo ⟨by omega,by omega⟩ h1))
   ·rcases List.mem_cons.1 hy with rfl | hy
    ·exact h2
    ·exact h3 y hy
  ·obtain ⟨m',c',h1,h2,h3⟩:=zkR dn its m (c+1) ⟨by omega,by omega⟩
   refine ⟨m',c',?_,by omega,fun y hy => ?_⟩
   ·show zbE x (zcD dn zbE its) m c=_
    unfold zbE
    exact zbs (zay (decide_eq_false h) (zbo ⟨by omega,by omega⟩ h1))
   ·rcases List.mem_cons.1 hy with rfl | hy
    ·omega
    ·exact h3 y hy
theorem zsn {l:Gapi_Layout} (hm:zh8 l=true) (ek:Option Bool) (k:Int) {r:Gapi_Row} (hr:RowK l r∨r.Line<0) (ag:Option Bool):zbX l ek (k,r) ag=ag:=by
 unfold zbX
 by_cases hl:r.Line<0
 ·exact zaz (decide_eq_true hl) rfl
 obtain ⟨hln,hnum,s,f,t,a,b,hs,hft,ht,hrow,htx,hi0,hi1,hroom⟩:=hr.resolve_right hl
 refine zay (decide_eq_false hl) ?_
 by_cases hw:l.Width≤r.Indent
 ·exact zaz (decide_eq_true hw) rfl
 refine zay (decide_eq_false hw) ?_
 obtain ⟨m1,m2,m3⟩:=zm9 hm
 have hroom:=hroom (by omega)
 have hle:=zlQ (spB s) ((zah s).take t)
 rw [List.length_take,Nat.min_eq_left ht] at hle
 obtain ⟨TA,T1,T2,TD,hT⟩:=zsS s f (max f (eN (spB s) ((zah s).take t))) t (by omega) (by omega) ht
 obtain ⟨e1,e2⟩:=zuB (by omega) ht hT
 obtain ⟨b1,b2,b3,b4⟩:=zn4 hT
 obtain ⟨c1,c2⟩:=zsT hT
 have hX:r.Text=mkB (zcG T1++List.replicate (zcG T2).length 32):=by rw [htx,← e1,← b1,zo9]
 have hlen:(zcG T1).length+(zcG T2).length≤1024:=by
  have h1:=hT.sf
  have h2:=hT.st
  have h3:=zmL s ht
  have h4:=zmL s (show f≤(zah s).length by omega)
  simp only [zbq,List.length_append] at h2
  omega
 have hsz:r.Text.size=(zcG T1).length+(zcG T2).length:=by rw [hX,zbb]; simp
 have hcl:=zge r.Text
 obtain ⟨m',c',hmost,_,hmx⟩:=zkR (fun (most4:Int) (cells3:Int)=>(fun (most1:Int) =>
  zak (ze8 r l.Width) fun (r5:ByteArray) =>
  grd (I64 ((r5.size:Int) - 1)) <|
  grd (0≤(0:Int)∧(0:Int)≤((r5.size:Int) - 1)∧((r5.size:Int) - 1:Int)≤(r5.size:Int)) <|
  zak (zdt (zbS r5 0 ((r5.size:Int) - 1))) fun (r6:Int) =>
  zax (decide ((l.Width:Int)<r6)) (
  grd (I64 (l.Width - r.Indent)) <|
  zax (decide ((most1:Int)≤(l.Width - r.Indent))) (
  ek
  ) (
  ag
  )
  ) (
  ag
  )) most4) (zah r.Text) 0 0 ⟨Int.le_refl _,by omega⟩
 refine zbs (zaJ rfl (zaJ (zsb r.Text (by omega)) (zbs ?_)))
 refine hmost.trans ?_
 obtain ⟨n,hn⟩:∃ n:Nat,r.Indent=(n:Int):=⟨r.Indent.toNat,by omega⟩
 have hline:=zuT r l.Width hln hnum n hn (by omega) (zcG T1) (zcG T2).length e2 hX (by omega)
 refine zaJ hline ?_
 have hs5:(mkB (List.replicate n 32++zcG T1++[10])).size=n+(zcG T1).length+1:=by rw [zbb]; simp; omega
 refine zbo ⟨by omega,by omega⟩ (zbo ⟨Int.le_refl _,by omega,by omega⟩ ?_)
 have hcut:=zjK (List.replicate n 32++zcG T1++[10]) 0 (n+(zcG T1).length)
 rw [List.drop_zero,Nat.sub_zero,List.take_left' (by simp),show ((n+(zcG T1).length:Nat):Int)=((mkB (List.replicate n 32++zcG T1++[10])).size:Int) - 1 by omega] at hcut
 rw [show (0:Int)=((0:Nat):Int) from rfl,hcut]
 have hcols:=zsu (mkB (List.replicate n 32++zcG T1)) (by rw [zbb]; simp; omega)
 rw [zqE,b3,c2] at hcols
 refine zaJ hcols ?_
 have hsum:((((zah s).take (max f (eN (spB s) ((zah s).take t)))).drop f).map (·.Columns)).sum=zid (spB s) (zah s) f t:=by
  unfold zid
  have h1:=zgd ((zah s).take f) (((zah s).take (max f (eN (spB s) ((zah s).take t)))).drop f)
  have h2:(zah s).take f++((zah s).take (max f (eN (spB s) ((zah s).take t)))).drop f=(zah s).take (max f (eN (spB s) ((zah s).take t))):=by
   have:=List.take_append_drop f ((zah s).take (max f (eN (spB s) ((zah s).take t))))
   rw [List.take_take,Nat.min_eq_left (by omega)] at this
   exact this
  rw [h2] at h1
  show zc8 _=_
  omega
 rw [hsum]
 by_cases hbig:l.Width<(n:Int)+zid (spB s) (zah s) f t
 ·refine zaz (decide_eq_true hbig) (zbo ⟨by omega,by omega⟩ ?_)
  have hrow2:eN (spB s) ((zah s).take t)≤f+1:=by
   unfold zl6 at hrow
   rw [Bool.and_eq_true,Bool.or_eq_true] at hrow
   rcases hrow.2 with h | h
   ·have:=of_decide_eq_true h
    omega
   ·exact of_decide_eq_true h
  have hx:(zah s)[f]?=some (zah s)[f]:=List.getElem?_eq_getElem (by omega)
  have hcf:=zhI s _ (List.mem_of_getElem? hx)
  have hone:zid (spB s) (zah s) f t≤(zah s)[f].Columns:=by
   unfold zid
   rcases Nat.lt_or_ge f (eN (spB s) ((zah s).take t)) with h | h
   ·rw [show max f (eN (spB s) ((zah s).take t))=f+1 by omega,zf9 hx,zgd,zjM]; omega
   ·rw [show max f (eN (spB s) ((zah s).take t))=f by omega]
    have:=hcf.2.2.2.1; omega
  have hcm:(zah s)[f].Columns≤m':=by
   have h1:(((zah r.Text).map (·.Columns)))[0]?=some (zah s)[f].Columns:=by
    rw [htx,c1,List.getElem?_map,List.getElem?_drop,Nat.add_zero,List.getElem?_take_of_lt hft,hx]; rfl
   have h2:=List.mem_of_getElem? h1
   obtain ⟨y,hy,hye⟩:=List.mem_map.1 h2
   rw [← hye]; exact hmx y hy
  exact zay (decide_eq_false (by omega)) rfl
 ·exact zay (decide_eq_false hbig) rfl
theorem zms {l:Gapi_Layout} (hm:zh8 l=true) (ek dn:Option Bool):∀ (its:List (Int×Gapi_Row)),(∀ x∈its,RowK l x.2∨x.2.Line<0)→zcD dn (zbX l ek) its=dn
 | [],_=>rfl
 | x::its,h=>by
  show zbX l ek (x.1,x.2) (zcD dn (zbX l ek) its)=dn
  rw [zsn hm ek x.1 (h x (List.mem_cons_self ..)),zms hm ek dn its (fun y hy=>h y (List.mem_cons_of_mem _ hy))]
theorem zm8:∀ (l:List Gapi_Row) (o:Option Int),∀ r∈pgL o l,r∈l∨r=zp9
 | [],o,r,h=>by cases o <;> cases h
 | x::l,none,r,h=>by
  rcases List.mem_cons.1 (show r∈x::pgL (some x.Stanza) l from h) with rfl | h
  ·exact .inl (List.mem_cons_self ..)
  ·rcases zm8 l _ r h with h | h
   ·exact .inl (List.mem_cons_of_mem _ h)
   ·exact .inr h
 | x::l,some s,r,h=>by
  rw [zm7] at h
  split at h
  ·rcases List.mem_cons.1 h with rfl | h
   ·exact .inl (List.mem_cons_self ..)
   ·rcases zm8 l _ r h with h | h
    ·exact .inl (List.mem_cons_of_mem _ h)
    ·exact .inr h
  ·rcases List.mem_cons.1 h with rfl | h
   ·exact .inr rfl
   ·rcases List.mem_cons.1 h with rfl | h
    ·exact .inl (List.mem_cons_self ..)
    ·rcases zm8 l _ r h with h | h
     ·exact .inl (List.mem_cons_of_mem _ h)
     ·exact .inr h
theorem zmc (rows:List Gapi_Row):∀ (ts:List Nat) (f:Nat),∀ r∈(zf3 rows f ts).flatten,r∈rows∨r=zp9
 | [],f,r,h=>by cases h
 | t::ts,f,r,h=>by
  rw [show (zf3 rows f (t::ts)).flatten=pgL none ((rows.drop f).take (t - f))++(zf3 rows t ts).flatten from List.flatten_cons] at h
  rcases List.mem_append.1 h with h | h
  ·rcases zm8 _ _ r h with h | h
   ·exact .inl (List.mem_of_mem_drop (List.mem_of_mem_take h))
   ·exact .inr h
  ·exact zmc rows ts t r h
theorem zmh {R:Nat→Nat→Bool} {K:Nat→Nat→Int} {n:Nat} {T:Nat→Bst} {f:Nat}:∀ (d t:Nat) (x:Bst),zep R K n T f (d+1) t x=znM (zep R K n T f d t x) (zfu R K n T f (t+d))
 | 0,t,x=>rfl
 | d+1,t,x=>by
  show zep R K n T f (d+1) (t+1) (znM x (zfu R K n T f t))=_
  rw [zmh d (t+1),show t+1+d=t+(d+1) by omega]; rfl
theorem zuP {rows:List Gapi_Row} {F L:List Int} {H:Int} (hR:RowsOk rows F L) (hH:4≤H∧H≤200) (h0:0<rows.length) (hh:zdB rows 0 rows.length≤H):(zjb rows H).length=1:=by
 have hK:=zmx hR hH
 obtain ⟨m,hm⟩:∃ m,rows.length=m+1:=⟨rows.length - 1,by omega⟩
 have hR1:Rp rows H 0 rows.length=true:=decide_eq_true hh
 have hT:(Tt rows H 0).to_=(rows.length:Int):=by
  show (BB (Rp rows H) (Kp rows H) rows.length 0).to_=_
  rw [zvr h0,Nat.sub_zero]
  generalize hT:BB (Rp rows H) (Kp rows H) rows.length=T
  have hc:∀ t y,zfu (Rp rows H) (Kp rows H) rows.length T 0 t=some y→0≤y.cost∧1≤y.rows:=by
   intro t y hy
   have h1:=zha (T:=T) (k:=rows.length) hK (by rw [← hT]; exact zlw hK _) hy
   refine ⟨h1.1.1,?_⟩
   unfold zfu at hy
   split at hy
   ·split at hy
    ·split at hy
     ·cases hy
     ·cases hy
      show (1:Int)≤(T t).rows+1
      omega
    ·cases hy; exact Int.le_refl _
   ·cases hy
  rw [hm,zmh,← hm]
  have hlast:zfu (Rp rows H) (Kp rows H) rows.length T 0 (0+1+m)=some ⟨0,1,(rows.length:Int)⟩:=by
   unfold zfu
   rw [show 0+1+m=rows.length by omega,if_pos hR1,if_neg (Nat.lt_irrefl _)]
  rw [hlast,zgj,if_pos]
  rcases ziU (R:=Rp rows H) (K:=Kp rows H) (n:=rows.length) (T:=T) (f:=0) m (0+1) bm with h | ⟨t',_,_,h⟩
  ·rw [h]; left; decide
  ·obtain ⟨g1,g2⟩:=hc _ _ h
   simp only
   omega
 show (zlP (Tt rows H) rows.length rows.length 0).length=1
 have e:∀ k,zlP (Tt rows H) rows.length (k+1) 0=(Tt rows H 0).to_.toNat::zlP (Tt rows H) rows.length k (Tt rows H 0).to_.toNat:=fun k=>by
  show (if 0<rows.length then _ else _)=_
  rw [if_pos h0]
 have e2:∀ k,zlP (Tt rows H) rows.length k rows.length=[]:=fun k=>by
  cases k with
  | zero=>rfl
  | succ k=>show (if rows.length<rows.length then _ else _)=_; rw [if_neg (Nat.lt_irrefl _)]
 have e3:=e m
 rw [← hm,hT,Int.toNat_natCast,e2] at e3
 rw [e3]; rfl
theorem zrm (W H H' T E:Int):∀ (vs:List Gapi_Verse) (k:Int),zcO ⟨W,H,T,E⟩ k vs=zcO ⟨W,H',T,E⟩ k vs
 | [],_=>rfl
 | v::vs,k=>by
  have hA:∀ (ts:List ByteArray) (p:Int),zfy ⟨W,H,T,E⟩ k v p ts=zfy ⟨W,H',T,E⟩ k v p ts:=by
   intro ts
   induction ts with
   | nil=>intro p; rfl
   | cons t ts ih=>intro p; show _::zfy _ k v (p+1) ts=_::zfy _ k v (p+1) ts; rw [ih]; rfl
  show zfy ⟨W,H,T,E⟩ k v 0 (zmE ⟨W,H,T,E⟩ v)++zcO ⟨W,H,T,E⟩ (k+1) vs=_
  rw [zrm W H H' T E vs (k+1),hA]; rfl
theorem zuq (T:List UInt8):(∀ l,zcQ (mkB T) l=some (none,([]:List Gapi_Verse),false,true)) ∨
  ∃ p t z,OkP p t z∧PgOk p.told_lines∧∀ l,zcQ (mkB T) l=if zh8 l=true then some (some (zlh l p.told_lines),p.told_lines,true,true) else some (none,([]:List Gapi_Verse),false,true):=by
 have hr:=zro T
 have hp:=zwk T
 cases hrd:rd T with
 | error e =>
  rw [hrd] at hr
  refine .inl fun l => ?_
  unfold zcQ zel
  have he:=zuF hrd
  exact zaJ (zaJ hr rfl) (zaz (by show (!((e.Err:Int)==0))=true; rw [he]; rfl) rfl)
 | ok st =>
  rw [hrd] at hr hp
  have hp:zfA (mkB T)=some (some (⟨mkB st.t,st.vs,zjp 0 st.stz,mkB T⟩:Gpoem_Poem),(⟨0,0⟩:Gapi_Spot)):=hp
  have hok:=(zxw hrd).1.ok (mkB T)
  generalize hP:(⟨mkB st.t,st.vs,zjp 0 st.stz,mkB T⟩:Gpoem_Poem)=p at hp hok
  have hvs:p.told_lines=st.vs:=by rw [← hP]
  have hV:zel (mkB T)=some (p.told_lines,true):=by unfold zel; rw [hvs]; exact zaJ hr rfl
  have hov:=hok.okV
  have hst:=hok.stp
  by_cases h60:p.told_lines.length≤60
  ·have hloop:=zsL p.told_lines true h60
   cases hall:p.told_lines.all (fun v=>decide (v.Text.size≤200)) with
   | false =>
    refine .inl fun l => ?_
    unfold zcQ
    refine zaJ hV (zay rfl (zay (decide_eq_false (by show ¬ (60:Int)<(p.told_lines.length:Int); omega)) (zbs ?_)))
    refine (hloop _ p.told_lines.length 0 zbV (by omega) (zb8 (by omega))).trans ?_
    rw [List.drop_zero,hall]; rfl
   | true =>
    refine .inr ⟨p,st.t,st.stz,hok,⟨hov,h60,hst,fun v hv => ?_⟩,fun l => ?_⟩
    ·have:=List.all_eq_true.1 hall v hv
     exact of_decide_eq_true this
    have run:∀ x,(zak (zgb p l) fun (r3:((Option Gpage_Book)×Int))=>zak (zfz l) fun (r4:Bool)=>zax (!r4) (zax (r3.1.isNone) (some (none,([]:List Gapi_Verse),false,(r3.2:Int)==2)) (some (none,([]:List Gapi_Verse),false,false))) (zax (!r3.1.isNone) (some (r3.1,p.told_lines,true,(r3.2:Int)==0)) (some (r3.1,p.told_lines,true,false))))=x→zcQ (mkB T) l=x:=by
     intro x hx
     unfold zcQ
     refine zaJ hV (zay rfl (zay (decide_eq_false (by show ¬ (60:Int)<(p.told_lines.length:Int); omega)) (zbs ?_)))
     refine (hloop _ p.told_lines.length 0 zbV (by omega) (zb8 (by omega))).trans ?_
     rw [List.drop_zero,hall,if_pos rfl]
     exact zaJ hp (zay rfl (zay rfl (zaJ rfl hx)))
    have hS:=zyA l p hov (by omega) hst
    cases hm:zh8 l with
    | false =>
     rw [hm,if_neg (by decide)] at hS
     exact run _ (zaJ hS (zaJ (ztT l) (by rw [hm]; exact zaz rfl (zaz rfl rfl))))
    | true =>
     rw [hm,if_pos rfl] at hS
     exact run _ (zaJ hS (zaJ (ztT l) (by rw [hm]; exact zay rfl (zaz rfl rfl))))
  ·refine .inl fun l => ?_
   unfold zcQ
   exact zaJ hV (zay rfl (zaz (decide_eq_true (by show (60:Int)<(p.told_lines.length:Int); omega)) rfl))
theorem zrE {W H T E:Int} (h:zh8 ⟨W,H,T,E⟩=true) (H':Int) (hH:4≤H'∧H'≤200):zh8 ⟨W,H',T,E⟩=true:=by
 unfold zh8 at h ⊢
 simp only [Bool.and_eq_true,decide_eq_true_eq] at h ⊢
 omega
theorem zo7 (T:List UInt8) (l:Gapi_Layout):zeH (mkB T) l=some true:=by
 unfold zeH
 refine zaJ zww (zay rfl ?_)
 by_cases hT:1200<(mkB T).size
 ·exact zaz (decide_eq_true (by omega)) rfl
 refine zay (decide_eq_false (by omega)) ?_
 have left:∀ x:Option (Option Gpage_Book×List Gapi_Verse×Bool×Bool),x=some (none,([]:List Gapi_Verse),false,true)→zcQ (mkB T) (⟨l.Width,l.Height,l.Turn,0⟩:Gapi_Layout)=x→zcQ (mkB T) (⟨l.Width,l.Height,l.Turn,0⟩:Gapi_Layout)=some (none,([]:List Gapi_Verse),false,true):=fun x h1 h2=>h2.trans h1
 rcases zuq T with hset | ⟨p,t,z,hok,hg,hset⟩
 ·exact zaJ (hset _) (zay rfl (zaz rfl rfl))
 cases hm:zh8 (⟨l.Width,l.Height,l.Turn,0⟩:Gapi_Layout) with
 | false =>
  have h1:=hset (⟨l.Width,l.Height,l.Turn,0⟩:Gapi_Layout)
  rw [hm,if_neg (by decide)] at h1
  exact zaJ h1 (zay rfl (zaz rfl rfl))
 | true =>
  have h1:=hset (⟨l.Width,l.Height,l.Turn,0⟩:Gapi_Layout)
  rw [hm,if_pos rfl] at h1
  refine zaJ h1 (zay rfl (zay rfl (zbs (zaJ rfl (zaJ rfl ?_)))))
  obtain ⟨l1,l2,l3⟩:=ztq hm hg
  have hbr:=zve (zlh (⟨l.Width,l.Height,l.Turn,0⟩:Gapi_Layout) p.told_lines) (by omega) (fun pg h=>by have:=l3 pg h; omega)
  have hR:=zmU hm p.told_lines hg.ok (by have:=hg.len; omega) hg.stp
  refine zaJ hbr (zbs (zbs ?_))
  refine (zms hm _ _ (zqz 0 (zlh (⟨l.Width,l.Height,l.Turn,0⟩:Gapi_Layout) p.told_lines).pages) (fun x hx => ?_)).trans ?_
  ·have hx2:x.2∈(zlh (⟨l.Width,l.Height,l.Turn,0⟩:Gapi_Layout) p.told_lines).pages.flatten:=by
    rw [← zop _ 0]; exact List.mem_map_of_mem hx
   rcases zmc _ _ _ _ hx2 with h | h
   ·exact .inl (zrl hm rfl p.told_lines 0 (Int.le_refl _) hg.ok _ h)
   ·right; rw [h]; decide
  ·refine zaJ (zuI _ hm p.told_lines hg.ok (by have:=hg.len; omega)) ?_
   generalize hrows:zcO (⟨l.Width,l.Height,l.Turn,0⟩:Gapi_Layout) 0 p.told_lines=rows at hR
   rcases Nat.eq_zero_or_pos rows.length with h0 | h0
   ·have:rows=[]:=List.length_eq_zero_iff.1 h0
    rw [this]
    exact zaJ (show ze9 ([]:List Gapi_Row)=some 0 by decide +kernel) (zaz rfl rfl)
   ·have hh:=zuE hR 0 rows.length h0 (Nat.le_refl _)
    rw [zhG,List.drop_zero,Nat.sub_zero,List.take_length] at hh
    refine zaJ hh ?_
    by_cases b1:zdB rows 0 rows.length<4
    ·exact zaz (decide_eq_true b1) rfl
    refine zay (decide_eq_false b1) ?_
    by_cases b2:200<zdB rows 0 rows.length
    ·exact zaz (decide_eq_true b2) rfl
    refine zay (decide_eq_false b2) ?_
    have hm2:=zrE hm (zdB rows 0 rows.length) ⟨by omega,by omega⟩
    have h2:=hset (⟨l.Width,zdB rows 0 rows.length,l.Turn,0⟩:Gapi_Layout)
    rw [hm2,if_pos rfl] at h2
    refine zaJ h2 (zaz rfl (zaz rfl (zaJ rfl (zaJ (show zeG _=some ((zlh (⟨l.Width,zdB rows 0 rows.length,l.Turn,0⟩:Gapi_Layout) p.told_lines).pages.length:Int) from rfl) ?_))))
    have hlen:(zlh (⟨l.Width,zdB rows 0 rows.length,l.Turn,0⟩:Gapi_Layout) p.told_lines).pages.length=1:=by
     have e:(zlh (⟨l.Width,zdB rows 0 rows.length,l.Turn,0⟩:Gapi_Layout) p.told_lines).pages=zf3 rows 0 (zjb rows (zdB rows 0 rows.length)):=by
      show zf3 (zcO (⟨l.Width,zdB rows 0 rows.length,l.Turn,0⟩:Gapi_Layout) 0 p.told_lines) 0 (zjb (zcO (⟨l.Width,zdB rows 0 rows.length,l.Turn,0⟩:Gapi_Layout) 0 p.told_lines) (zdB rows 0 rows.length))=_
      rw [zrm l.Width (zdB rows 0 rows.length) l.Height l.Turn 0 p.told_lines 0,hrows]
     rw [e,zjt]
     exact zuP hR ⟨by omega,by omega⟩ h0 (Int.le_refl _)
    rw [hlen]; rfl
theorem pageBound_any (s:ByteArray) (l:Gapi_Layout) (w:World) (hs:s.size≤140737488351232):Calls Tryz.prog 3 #[.string s,.agg #[.int .i64 l.Width,.int .i64 l.Height,.int .i64 l.Turn,.int .i64 l.Every]] w fun e w'=>e=.returned (.bool true)∧Below w.heap.size w w' :=
 ziP (by obtain ⟨T,rfl⟩:=zwv s; exact zo7 T l) w
end Go.Proofs.YtbempdelckaccaaGreatDoor
