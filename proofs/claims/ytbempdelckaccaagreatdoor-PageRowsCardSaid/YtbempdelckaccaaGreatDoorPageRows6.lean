/-
  Texts laid together: PgE, PgG, PgH, LgG, LgK, LgN, PgI, PgJ, LgI, LgS, PqJ, PqK, PgM, LgF, LgM, PlPageBack, PgK, LgT, PlPageRows. Nothing is assumed.
-/
import Derived.Test.YtbempdelckaccaaGreatDoorPageRows5
import Derived.Test.YtbempdelckaccaaGreatDoorPageRows4
import Derived.Test.YtbempdelckaccaaGreatDoorPageRows2
import Derived.Test.YtbempdelckaccaaGreatDoorPageRows3
set_option maxRecDepth 100000
set_option maxHeartbeats 4000000

namespace Go.Proofs.YtbempdelckaccaaGreatDoor
open Go.RowKit Go.Lib
set_option linter.unusedVariables false
set_option linter.unusedSimpArgs false
theorem ztD {z:List Row} {k:Nat} (ih:∀ vs:List Gapi_Verse,vs.map zpu=(zfK (k+1) z).map zqy→Stp ((k+1:Nat):Int) vs):∀ (r:Row) (j:Nat) (vs:List Gapi_Verse),vs.map zpu=((zgH j r).map (fun p=>(k,p))++zfK (k+1) z).map zqy→Stp ((k+1:Nat):Int) vs
 | [],j,vs,h=>ih vs h
 | x::r,j,[],h=>trivial
 | x::r,j,v::vs,h=>by
  obtain ⟨h1,h2⟩:=List.cons.inj (show zpu v::vs.map zpu=zqy (k,j,x)::((zgH (j+1) r).map (fun p=>(k,p))++zfK (k+1) z).map zqy from h)
  have hs:v.Stanza=(k:Int):=congrArg (fun q=>q.2.2.1) h1
  refine ⟨.inr ⟨by omega,by omega⟩,?_⟩
  rw [hs,show (k:Int)+1=((k+1:Nat):Int) by omega]
  exact ztD ih r (j+1) vs h2
theorem zpe:∀ (z:List Row) (k:Nat) (vs:List Gapi_Verse),(∀ r∈z,r≠[])→vs.map zpu=(zfK k z).map zqy→Stp (k:Int) vs
 | [],k,vs,_,h=>by
  have:vs=[]:=by simpa [zfK] using h
  rw [this]; trivial
 | []::z,k,vs,hne,h=>absurd rfl (hne [] (List.mem_cons_self ..))
 | (x::r)::z,k,[],hne,h=>trivial
 | (x::r)::z,k,v::vs,hne,h=>by
  obtain ⟨h1,h2⟩:=List.cons.inj (show zpu v::vs.map zpu=zqy (k,0,x)::((zgH 1 r).map (fun p=>(k,p))++zfK (k+1) z).map zqy from h)
  have hs:v.Stanza=(k:Int):=congrArg (fun q=>q.2.2.1) h1
  refine ⟨.inl hs,?_⟩
  rw [hs,show (k:Int)+1=((k+1:Nat):Int) by omega]
  exact ztD (fun vs h=>zpe z (k+1) vs (fun r hr=>hne r (List.mem_cons_of_mem _ hr)) h) r 1 vs h2
theorem zsh (n:Nat):zij (List.replicate n 32)=true:=by
 unfold zij
 rw [List.all_eq_true]
 intro b hb
 rw [(List.mem_replicate.1 hb).2]; rfl
theorem OkP.okV {p:Gpoem_Poem} {t:List UInt8} {z:List Row} (h:OkP p t z):∀ v∈p.told_lines,OkV v:=by
 intro v hv
 obtain ⟨i,hi⟩:=List.getElem?_of_mem hv
 have hk:(p.told_lines.map zpu)[i]?=some (zpu v):=by rw [List.getElem?_map,hi]; rfl
 rw [show p.told_lines.map zpu=(zfK 0 z).map zqy from h.vok,List.getElem?_map] at hk
 obtain ⟨q,hq,he⟩:=Option.map_eq_some_iff.1 hk
 obtain ⟨r,hr,hx⟩:=zkO z 0 q (List.mem_of_getElem? hq)
 have hg:=h.ln r hr _ hx
 have e1:v.Text=mkB (q.2.2.drop (ind q.2.2)):=(congrArg (fun q=>q.1) he).symm
 have e2:v.Indent=(ind q.2.2:Int):=(congrArg (fun q=>q.2.1) he).symm
 have hle:=zpv q.2.2
 have hl:=hg.le
 refine ⟨?_,?_,?_⟩
 ·rw [e1,zba,List.length_drop]; omega
 ·rw [e1,zba]
  cases hd:q.2.2.drop (ind q.2.2) with
  | nil =>
   have:=zkT q.2.2
   rw [hd,List.append_nil] at this
   have hb:=hg.bl
   rw [← this,zsh] at hb
   cases hb
  | cons b l=>simp
 ·rw [e2]; omega
theorem OkP.stp {p:Gpoem_Poem} {t:List UInt8} {z:List Row} (h:OkP p t z):Stp 0 p.told_lines:=zpe z 0 p.told_lines h.ne h.vok
def zsi:Gapi_Row:=⟨-1,0,0,0,0,ByteArray.empty⟩
def pgL:Option Int→List Gapi_Row→List Gapi_Row
 | _,[]=>[]
 | none,r::rs=>r::pgL (some r.Stanza) rs
 | some s,r::rs=>if r.Stanza=s then r::pgL (some r.Stanza) rs else zsi::r::pgL (some r.Stanza) rs
theorem zmW (s:Int) (r:Gapi_Row) (rs:List Gapi_Row):pgL (some s) (r::rs)=if r.Stanza=s then r::pgL (some r.Stanza) rs else zsi::r::pgL (some r.Stanza) rs:=rfl
def zgD (rows:List Gapi_Row):Nat→List Nat→List (List Gapi_Row)
 | _,[]=>[]
 | f,t::ts=>pgL none ((rows.drop f).take (t - f))::zgD rows t ts
def zhc (l:Gapi_Layout) (vs:List Gapi_Verse):Gpage_Book:=⟨l.Width,l.Height,l.Turn,l.Every,zgD (zdk l 0 vs) 0 (zk9 (zdk l 0 vs) l.Height),zjx l vs+(Tt (zdk l 0 vs) l.Height 0).cost⟩
theorem zma (rows:List Gapi_Row):∀ (ts:List Nat) (f:Nat),(zgD rows f ts).length=ts.length
 | [],_=>rfl
 | t::ts,f=>by show (zgD rows t ts).length+1=_; rw [zma rows ts]; rfl
theorem zoH:∀ (l:List Gapi_Row) (o:Option Int),(pgL o l).length≤2*l.length
 | [],o=>by cases o <;> exact Nat.le_refl _
 | r::rs,none=>by have:=zoH rs (some r.Stanza); show (pgL (some r.Stanza) rs).length+1≤_; rw [List.length_cons]; omega
 | r::rs,some s=>by
  have:=zoH rs (some r.Stanza)
  unfold pgL
  split <;> simp only [List.length_cons] <;> omega
theorem zvL {rows:List Gapi_Row} (hn:rows.length≤1000000) (c H:Int) (Bl F L:List Int) (f:Nat) (j3:Int→(List Gapi_Row)→Option ((Option Gpage_Book)×Int)) (t:Nat) (ht:t≤rows.length) :
  ∀ (d k m:Nat) (pg:List Gapi_Row),f≤k→k+d=t→d<m→pg.length≤2*(k - f)→zaF (fun _ _=>none) (zdK (c,(⟨rows,Bl,F,L,H⟩:Gpage_parter)) (f:Int) j3 (t:Int)) m pg (k:Int)=j3 (t:Int) (pg++pgL (if f<k then some (stz rows (k - 1)) else none) ((rows.drop k).take (t - k))):=by
 intro d
 induction d with
 | zero =>
  intro k m pg hf hk hm hp
  obtain ⟨m,rfl⟩:∃ q,m=q+1:=⟨m - 1,by omega⟩
  rw [zcJ]
  generalize zaF (fun _ _=>none) (zdK (c,(⟨rows,Bl,F,L,H⟩:Gpage_parter)) (f:Int) j3 (t:Int)) m=ag
  unfold zdK
  refine zaz (decide_eq_false (by omega)) ?_
  have e:(rows.drop k).take (t - k)=[]:=by rw [show t - k=0 by omega,List.take_zero]
  have e2:∀ o,pgL o []=[]:=fun o=>by cases o <;> rfl
  rw [e,e2,List.append_nil]
 | succ d ih =>
  intro k m pg hf hk hm hp
  obtain ⟨m,rfl⟩:∃ q,m=q+1:=⟨m - 1,by omega⟩
  rw [zcJ]
  have ih':=fun pg h=>ih (k+1) m pg (by omega) (by omega) (by omega) h
  generalize zaF (fun _ _=>none) (zdK (c,(⟨rows,Bl,F,L,H⟩:Gpage_parter)) (f:Int) j3 (t:Int)) m=ag at ih' ⊢
  have hr:rows[k]?=some rows[k]:=List.getElem?_eq_getElem (by omega)
  have hst:=zku hr
  have hd:(rows.drop k).take (t - k)=rows[k]::(rows.drop (k+1)).take (t - (k+1)):=by
   rw [List.drop_eq_getElem_cons (show k<rows.length by omega),show t - k=t - (k+1)+1 by omega,List.take_succ_cons]
  rw [hd]
  rw [if_pos (show f<k+1 by omega),show k+1 - 1=k by omega,hst,show ((k+1:Nat):Int)=(k:Int)+1 by omega] at ih'
  have fin:∀ pg':List Gapi_Row,pg'.length+1≤2*(k+1 - f)→(zal (zcb rows (k:Int)) fun (q4:Gapi_Row)=>grd (pg'.length+1≤2147483648)<|grd (I64 ((k:Int)+1))<|ag (pg'++[q4]) ((k:Int)+1))=j3 (t:Int) (pg'++rows[k]::pgL (some rows[k].Stanza) ((rows.drop (k+1)).take (t - (k+1)))):=by
   intro pg' hp'
   refine zaO (zdG hr) (zbm (by omega) (zbm ⟨by omega,by omega⟩ ?_))
   rw [ih' _ (by rw [List.length_append,List.length_singleton]; omega),List.append_assoc]; rfl
  unfold zdK
  refine zaB (decide_eq_true (by omega)) (zby ?_)
  by_cases h0:f<k
  ·have hr0:rows[k - 1]?=some rows[k - 1]:=List.getElem?_eq_getElem (by omega)
   have hst0:=zku hr0
   rw [if_pos h0,hst0]
   refine zaB (decide_eq_true (by omega)) (zaO (zdG hr) (zbm ⟨by omega,by omega⟩ (zaO (zew (n:=k - 1) (by omega) hr0) ?_)))
   by_cases he:rows[k].Stanza=rows[k - 1].Stanza
   ·refine zaz (zvf he) ((fin pg (by omega)).trans ?_)
    rw [zmW,if_pos he]
   ·refine zaB (zuy he) (zbm (by omega) ((fin _ (by rw [List.length_append,List.length_singleton]; omega)).trans ?_))
    rw [zmW,if_neg he,List.append_assoc]; rfl
  ·rw [if_neg h0]
   refine zaz (decide_eq_false (by omega)) ((fin pg (by omega)).trans ?_)
   rfl
theorem zqZ {rows:List Gapi_Row} (hn:rows.length≤1000000) (c c2 H:Int) (Bl F L:List Int) (R:Nat→Nat→Bool) (j1:(List (List Gapi_Row))→Int→Option ((Option Gpage_Book)×Int)) (E:List Nat) :
  ∀ (ts pre:List Nat) (f m:Nat) (out:List (List Gapi_Row)),E=pre++ts→zqv R rows.length f ts→ts.length<m→out.length≤f→out.length=pre.length →
  zaF (fun _ _ _=>none) (zdL j1 (c,(⟨rows,Bl,F,L,H⟩:Gpage_parter)) (E.map (fun t=>((t:Nat):Int)),c2)) m out (f:Int) (pre.length:Int)=j1 (out++zgD rows f ts) (c+c2)
 | [],pre,f,m,out,hE,hr,hm,ho,hp=>by
  obtain ⟨m,rfl⟩:∃ q,m=q+1:=⟨m - 1,by simp at hm; omega⟩
  rw [zcJ]
  generalize zaF (fun _ _ _=>none) (zdL j1 (c,(⟨rows,Bl,F,L,H⟩:Gpage_parter)) (E.map (fun t=>((t:Nat):Int)),c2)) m=ag
  unfold zdL
  refine zaz (decide_eq_false (by rw [List.length_map,hE]; simp)) ?_
  show j1 out (c+c2)=j1 (out++[]) (c+c2)
  rw [List.append_nil]
 | t::ts,pre,f,m,out,hE,hr,hm,ho,hp=>by
  obtain ⟨m,rfl⟩:∃ q,m=q+1:=⟨m - 1,by simp at hm; omega⟩
  obtain ⟨r1,r2,_,r3⟩:=hr
  have ih:=zqZ hn c c2 H Bl F L R j1 E ts (pre++[t]) t m (out++[pgL none ((rows.drop f).take (t - f))]) (by rw [hE]; simp) r3 (by simp at hm; omega) (by simp; omega) (by simp; omega)
  have hpl:pre.length<E.length:=by rw [hE]; simp
  rw [zcJ]
  generalize zaF (fun _ _ _=>none) (zdL j1 (c,(⟨rows,Bl,F,L,H⟩:Gpage_parter)) (E.map (fun t=>((t:Nat):Int)),c2)) m=ag at ih ⊢
  have hg:(E.map (fun t=>((t:Nat):Int)))[pre.length]?=some (t:Int):=by rw [List.getElem?_map,hE]; simp
  rw [show (((pre++[t]).length:Nat):Int)=(pre.length:Int)+1 by simp] at ih
  unfold zdL
  refine zaB (zqc hg) (zby (zby (zaO (zdG hg) ?_)))
  have hin:=zvL hn c H Bl F L f (fun (to1:Int) (page1:List Gapi_Row)=>grd (out.length+1≤2147483648)<|grd (I64 ((pre.length:Int)+1))<|ag (out++[page1]) to1 ((pre.length:Int)+1)) t r2 (t - f) f zbT [] (Nat.le_refl _) (by omega) (zcm (by omega)) (Nat.zero_le _)
  refine hin.trans ?_
  rw [if_neg (Nat.lt_irrefl f),List.nil_append]
  refine zbm (by omega) (zbm ⟨by omega,by omega⟩ ?_)
  rw [ih,List.append_assoc]; rfl
theorem zwK {rows:List Gapi_Row} {F L:List Int} {H:Int} (hR:RowsOk rows F L) (hH:4≤H∧H≤200) (f:Nat):0≤(Tt rows H f).cost∧(Tt rows H f).cost≤2000000000000*1000000:=by
 have hok:=zot (R:=Rp rows H) (K:=Kp rows H) (n:=rows.length) (zmq hR hH) rows.length f
 obtain ⟨a,b,_⟩:=hok
 have hn:=hR.n
 refine ⟨a,?_⟩
 show (Bf (Rp rows H) (Kp rows H) rows.length rows.length f).cost≤_
 omega
theorem znU {l:Gapi_Layout} (h:zj9 l=true):4≤l.Height∧l.Height≤200:=by
 unfold zj9 at h
 simp only [Bool.and_eq_true,decide_eq_true_eq] at h
 omega
theorem zyo (l:Gapi_Layout) (p:Gpoem_Poem) (hv:∀ v∈p.told_lines,OkV v) (hl:p.told_lines.length≤512) (hst:Stp 0 p.told_lines):zf0 p l=if zj9 l=true then some (some (zhc l p.told_lines),0) else some (none,2):=by
 unfold zf0
 refine zaO (zxs l) ?_
 cases hm:zj9 l with
 | false=>exact zaB rfl rfl
 | true =>
  rw [if_pos rfl]
  have hR:=zmN hm p.told_lines hv hl hst
  have hH:=znU hm
  have hn:=hR.n
  have c1:=zoc hm p.told_lines hv
  have c2:=zwK hR hH 0
  refine zaz rfl (zby (zaO (zuA l hm p l.Height hv hl hst) (zaO (zuw hR hH) (zbm ?_ ?_))))
  ·show I64 (zjx l p.told_lines+(Tt (zdk l 0 p.told_lines) l.Height 0).cost)
   exact ⟨by omega,by omega⟩
  ·have hr:=zhN (R:=Rp (zdk l 0 p.told_lines) l.Height) (K:=Kp (zdk l 0 p.told_lines) l.Height) (n:=(zdk l 0 p.told_lines).length) (zmq hR hH) (zor hH) (zdk l 0 p.told_lines).length 0 (Nat.zero_le _) (by omega)
   have hlen:(zk9 (zdk l 0 p.told_lines) l.Height).length≤(zdk l 0 p.told_lines).length:=by
    have key:∀ (ts:List Nat) (f:Nat),zqv (Rp (zdk l 0 p.told_lines) l.Height) (zdk l 0 p.told_lines).length f ts→f+ts.length≤(zdk l 0 p.told_lines).length:=by
     intro ts
     induction ts with
     | nil=>intro f h; have:f=_:=h; simp; omega
     | cons t ts ih=>intro f h; obtain ⟨a,b,_,d⟩:=h; have:=ih t d; rw [List.length_cons]; omega
    have h9:=key _ _ hr
    have h8:(zk9 (zdk l 0 p.told_lines) l.Height).length≤(zdk l 0 p.told_lines).length:=by rw [Nat.zero_add] at h9; exact h9
    exact h8
   exact zqZ hn (zjx l p.told_lines) (Tt (zdk l 0 p.told_lines) l.Height 0).cost l.Height _ _ _ _ (fun (b3:List (List Gapi_Row)) (b4:Int)=>some ((some (⟨l.Width,l.Height,l.Turn,l.Every,b3,b4⟩:Gpage_Book)),0)) (zk9 (zdk l 0 p.told_lines) l.Height) (zk9 (zdk l 0 p.told_lines) l.Height) [] 0 zbT [] rfl hr (zcm (n:=(zk9 (zdk l 0 p.told_lines) l.Height).length) (by omega)) (Nat.le_refl _) rfl
theorem zup {U:List UInt8} {e:Gapi_Spot} (h:rd U=.error e):e.Err=3:=by
 have key:∀ (xs:List (Nat×List UInt8)) (st:RS),zg5 st xs=.error e→e.Err=3:=by
  intro xs
  induction xs with
  | nil=>intro st h; cases h
  | cons x xs ih =>
   intro st h
   unfold zg5 at h
   cases hs:zf8 st x with
   | ok s1=>rw [hs] at h; exact ih s1 h
   | error e' =>
    rw [hs] at h
    have:e'=e:=by cases h; rfl
    subst this
    unfold zf8 at hs
    split at hs
    ·cases hs
    split at hs
    ·cases hs; rfl
    split at hs
    ·cases hs
    split at hs
    ·cases hs; rfl
    ·cases hs
 unfold rd at h
 split at h
 ·cases h; rfl
 ·exact key _ _ h
structure PgOk (vs:List Gapi_Verse):Prop where
 ok:∀ v∈vs,OkV v
 len:vs.length≤60
 stp:Stp 0 vs
 sz:∀ v∈vs,v.Text.size≤200
theorem zsJ (vs:List Gapi_Verse) (b:Bool) (hl:vs.length≤60) (j:Option ((Option Gpage_Book)×(List Gapi_Verse)×Bool×Bool)):∀ (d i m:Nat),i+d=vs.length→d<m→zaF (fun _=>none) (zdh (vs,b) j) m (i:Int)=if (vs.drop i).all (fun v=>decide (v.Text.size≤200))=true then j else some (none,([]:List Gapi_Verse),false,true):=by
 intro d
 induction d with
 | zero =>
  intro i m hi hm
  obtain ⟨m,rfl⟩:∃ q,m=q+1:=⟨m - 1,by omega⟩
  rw [zcJ]
  generalize zaF (fun _=>none) (zdh (vs,b) j) m=ag
  unfold zdh
  refine zaz (decide_eq_false (by show ¬ (i:Int)<(vs.length:Int); omega)) ?_
  rw [List.drop_of_length_le (by omega)]; rfl
 | succ d ih =>
  intro i m hi hm
  obtain ⟨m,rfl⟩:∃ q,m=q+1:=⟨m - 1,by omega⟩
  rw [zcJ]
  have ih':=ih (i+1) m (by omega) (by omega)
  rw [show ((i+1:Nat):Int)=(i:Int)+1 by omega] at ih'
  generalize zaF (fun _=>none) (zdh (vs,b) j) m=ag at ih' ⊢
  have hv:vs[i]?=some vs[i]:=List.getElem?_eq_getElem (by omega)
  unfold zdh
  refine zaB (decide_eq_true (by show (i:Int)<(vs.length:Int); omega)) (zaO (zdG hv) ?_)
  rw [List.drop_eq_getElem_cons (show i<vs.length by omega),List.all_cons]
  by_cases h:vs[i].Text.size≤200
  ·refine zaz (decide_eq_false (by omega)) (zbm ⟨by omega,by omega⟩ ?_)
   rw [decide_eq_true h,Bool.true_and]; exact ih'
  ·rw [decide_eq_false h,Bool.false_and,if_neg (by decide)]
   exact zaB (decide_eq_true (by omega)) rfl
theorem zq1 (T:List UInt8) (l:Gapi_Layout):zdN (mkB T) l=some (none,([]:List Gapi_Verse),false,true) ∨
  ∃ p t z,OkP p t z∧zj9 l=true∧PgOk p.told_lines∧zeY (mkB T)=some (some p,(⟨0,0⟩:Gapi_Spot))∧zdN (mkB T) l=some (some (zhc l p.told_lines),p.told_lines,true,true):=by
 have hr:=zra T
 have hp:=zvS T
 cases hrd:rd T with
 | error e =>
  rw [hrd] at hr
  refine .inl ?_
  unfold zdN zel
  have he:=zup hrd
  exact zaO (zaO hr rfl) (zaB (by show (!((e.Err:Int)==0))=true; rw [he]; rfl) rfl)
 | ok st =>
  rw [hrd] at hr hp
  have hp:zeY (mkB T)=some (some (⟨mkB st.t,st.vs,zjd 0 st.stz,mkB T⟩:Gpoem_Poem),(⟨0,0⟩:Gapi_Spot)):=hp
  have hok:=(zxm hrd).1.ok (mkB T)
  generalize hP:(⟨mkB st.t,st.vs,zjd 0 st.stz,mkB T⟩:Gpoem_Poem)=p at hp hok
  have hvs:p.told_lines=st.vs:=by rw [← hP]
  have hV:zel (mkB T)=some (p.told_lines,true):=by unfold zel; rw [hvs]; exact zaO hr rfl
  have hov:=hok.okV
  have hst:=hok.stp
  have hSet:=fun h=>zyo l p hov h hst
  by_cases h60:p.told_lines.length≤60
  ·have hloop:=zsJ p.told_lines true h60
   cases hall:p.told_lines.all (fun v=>decide (v.Text.size≤200)) with
   | false =>
    refine .inl ?_
    unfold zdN
    refine zaO hV (zaz rfl (zaz (decide_eq_false (by show ¬ (60:Int)<(p.told_lines.length:Int); omega)) (zby ?_)))
    refine (hloop _ p.told_lines.length 0 zbT (by omega) (zcm (by omega))).trans ?_
    rw [List.drop_zero,hall]; rfl
   | true =>
    have run:∀ x,(zal (zf0 p l) fun (r3:((Option Gpage_Book)×Int))=>zal (zfq l) fun (r4:Bool)=>zaw (!r4) (zaw (r3.1.isNone) (some (none,([]:List Gapi_Verse),false,(r3.2:Int)==2)) (some (none,([]:List Gapi_Verse),false,false))) (zaw (!r3.1.isNone) (some (r3.1,p.told_lines,true,(r3.2:Int)==0)) (some (r3.1,p.told_lines,true,false))))=x→zdN (mkB T) l=x:=by
     intro x hx
     unfold zdN
     refine zaO hV (zaz rfl (zaz (decide_eq_false (by show ¬ (60:Int)<(p.told_lines.length:Int); omega)) (zby ?_)))
     refine (hloop _ p.told_lines.length 0 zbT (by omega) (zcm (by omega))).trans ?_
     rw [List.drop_zero,hall,if_pos rfl]
     exact zaO hp (zaz rfl (zaz rfl (zaO rfl hx)))
    have hS:=hSet (by omega)
    cases hm:zj9 l with
    | false =>
     rw [hm,if_neg (by decide)] at hS
     exact .inl (run _ (zaO hS (zaO (ztH l) (by rw [hm]; exact zaB rfl (zaB rfl rfl)))))
    | true =>
     rw [hm,if_pos rfl] at hS
     refine .inr ⟨p,st.t,st.stz,hok,rfl,⟨hov,h60,hst,fun v hv => ?_⟩,hp,run _ (zaO hS (zaO (ztH l) (by rw [hm]; exact zaz rfl (zaB rfl rfl))))⟩
     have:=List.all_eq_true.1 hall v hv
     exact of_decide_eq_true this
  ·refine .inl ?_
   unfold zdN
   exact zaO hV (zaz rfl (zaB (decide_eq_true (by show (60:Int)<(p.told_lines.length:Int); omega)) rfl))
end Go.Proofs.YtbempdelckaccaaGreatDoor

namespace Go.Proofs.YtbempdelckaccaaGreatDoor
open Go.RowKit Go.Lib
set_option linter.unusedVariables false
set_option linter.unusedSimpArgs false
end Go.Proofs.YtbempdelckaccaaGreatDoor

namespace Go.Proofs.YtbempdelckaccaaGreatDoor
open Go.RowKit Go.Lib
set_option linter.unusedVariables false
set_option linter.unusedSimpArgs false
structure RowT (s:ByteArray) (f e t:Nat) (TA T1 T2 TD:List Tok):Prop where
 all:zkq s.data.toList=TA++T1++T2++TD
 sf:stN s f=((zgx TA).length:Int)
 se:stN s e=((zgx (TA++T1)).length:Int)
 st:stN s t=((zgx (TA++T1++T2)).length:Int)
 c1:zgq ((place (zgx TA).length T1).map pcG)=((zax s).take e).drop f
 c12:zgq ((place (zgx TA).length (T1++T2)).map pcG)=((zax s).take t).drop f
end Go.Proofs.YtbempdelckaccaaGreatDoor

namespace Go.Proofs.YtbempdelckaccaaGreatDoor
open Go.RowKit Go.Lib
set_option linter.unusedVariables false
set_option linter.unusedSimpArgs false
def zcC (n1:Int) (j1:(List Int)→Option ByteArray) (ag1:(List Int)→Int→Option ByteArray) (b4:List Int) (i3:Int):Option ByteArray :=
zaw (decide ((i3:Int)<n1)) (
zal (zcb b4 i3) fun (q1:Int) =>
grd (I64 (i3+1)) <|
ag1 (b4.set (i3:Int).toNat 32) (i3+1)
) (
j1 b4
)
def zcP (n1:Int):Option ByteArray :=
zbi (fun (j1:(List Int)→Option ByteArray) =>
grd (0≤n1∧n1≤2147483648) <|
zaF (fun _ _=>none) (zcC n1 j1) zbT (List.replicate (n1:Int).toNat 0:List Int) 0
) (fun (b1:List Int) =>
grd (∀ x∈b1,U8 x) <|
some (zc0 b1)
)
theorem zhs {n1:Int} {r:ByteArray} (h:zcP n1=some r):FnP Tryz.prog 38 [zI n1] (.string r):=by
 unfold zcP at h
 refine FnP.intro Tryz.func38 rfl Tryz.ntmps38 (by simp) ?_
 intro w0 K
 obtain ⟨j1,hj1,h⟩:=zbF h
 refine za1 (β:=(List Int)×Value) 2 rfl (fun b=>j1 b.1=some r) (fun b=>[]) (fun b=>[(3,b.2)]) (fun b=>[vec (zm9 (.u8)) 5 1 b.2 b.1]) (fun cut => ?_) ?_
 ·
  refine zyG (zyR 1 rfl (zyH (zyR 1 rfl ?_)))
  obtain ⟨hg1,h⟩:=zbn h
  refine zjC (z:=0) Tryz.underlying121 zyU zyF zbO rfl dc rfl hg1 (fun v2 => ?_)
  refine zyR 1 rfl (zyN (cut (zyG (zyR 1 rfl (zyN (zaC ?_))))))
  refine zbq (β:=Nat×(List Int)×Int) (fun b=>zaF (fun _ _=>none) (zcC n1 j1) b.1 b.2.1 b.2.2=some r) (fun b=>[]) (fun b=>[(0,zI n1),(3,v2),(4,zI b.2.2)]) (fun b=>[vec (zm9 (.u8)) 5 1 v2 b.2.1]) (fun b=>b.1) (zbT,(List.replicate (n1:Int).toNat 0:List Int),0) h rfl (za5 rfl) (zad [0] kr rfl) ?_
  rintro ⟨n2,b4,i3⟩ h
  cases n2 with
  | zero=>exact zdM h
  | succ n2 =>
   obtain ⟨ag1,hag1⟩:∃ ag,ag=zaF (fun _ _=>none) (zcC n1 j1) n2:=⟨_,rfl⟩
   have h:zcC n1 j1 ag1 b4 i3=some r:=by rw [hag1]; exact h
   unfold zcC at h
   refine zaJ (zyG (zyR 2 rfl (zaW rfl zbC (zyN ?_))))
   refine zyB rfl h (fun h => ?_) (fun h => ?_)
   ·
    refine zas (zaI (zaJ (zaC (zat (zyR 2 rfl ?_)))))
    obtain ⟨q1,hq1,h⟩:=zbw h
    refine zar (k:=0) hq1 Tryz.underlying121 zyt rfl dc rfl rfl rfl rfl ?_
    refine zez (i:=(i3:Int).toNat) (j:=0) (k:=0) (q:=q1) (q':=32) zyt zbO rfl rfl rfl rfl (zaG hq1) rfl dc rfl (fun _ _=>rfl) ?_
    refine zaQ (zag (zaI (zat (zyR 1 rfl ?_))))
    obtain ⟨hg2,h⟩:=zbn h
    refine zaW rfl (zaX (r:=i3+1) (IntWalk.i64_in _ hg2)) (zyR 1 rfl (zaQ ?_))
    subst hag1
    exact za8 (n2,b4.set (i3:Int).toNat 32,i3+1) h (Nat.lt_succ_self _) rfl (za5 rfl) (zad [0] kr rfl)
   refine za6 (zak (zak (zav ?_)))
   exact zai (b4,v2) h rfl (za5 rfl) (zad [0] kr rfl)
 rintro ⟨b1,v1⟩ h
 rw [hj1] at h
 refine zyG (zyR 1 rfl ?_)
 obtain ⟨hg3,h⟩:=zbn h
 refine zo1 (k:=0) rfl (zoy hg3) ?_
 refine zlt (k:=0) rfl dc rfl rfl Tryz.underlying121 Tryz.underlying5 Tryz.underlying9 (zyR 1 rfl (zyN (zaE ?_)))
 cases h
 exact zaS (rs:=[.tmp 2]) () (.inl rfl) Tryz.results38 (.cons (.tmp rfl) .nil) rfl Splits.nil
end Go.Proofs.YtbempdelckaccaaGreatDoor

namespace Go.Proofs.YtbempdelckaccaaGreatDoor
open Go.RowKit Go.Lib
set_option linter.unusedVariables false
set_option linter.unusedSimpArgs false
def zd9 (j1:ByteArray→Option ByteArray) (ag1:Int→ByteArray→Option ByteArray) (n4:Int) (s4:ByteArray):Option ByteArray :=
zaw (decide ((9:Int)<n4)) (
grd (I64 (Int.tdiv n4 10)) <|
grd (I64 (48+(Int.tmod (Int.tdiv n4 10) 10))) <|
grd (∀ x∈([IntKind.u8.wrap (48+(Int.tmod (Int.tdiv n4 10) 10))]:List Int),U8 x) <|
grd ((zc0 ([IntKind.u8.wrap (48+(Int.tmod (Int.tdiv n4 10) 10))]:List Int)).size+s4.size≤9223372036854775807) <|
ag1 (Int.tdiv n4 10) ((zc0 ([IntKind.u8.wrap (48+(Int.tmod (Int.tdiv n4 10) 10))]:List Int))++s4)
) (
j1 s4
)
def zdS (n1:Int):Option ByteArray :=
zbi (fun (j1:ByteArray→Option ByteArray) =>
grd (I64 (48+(Int.tmod n1 10))) <|
grd (∀ x∈([IntKind.u8.wrap (48+(Int.tmod n1 10))]:List Int),U8 x) <|
zaF (fun _ _=>none) (zd9 j1) zbT n1 (zc0 ([IntKind.u8.wrap (48+(Int.tmod n1 10))]:List Int))
) (fun (s1:ByteArray) =>
some s1
)
theorem zjV {n1:Int} {r:ByteArray} (h:zdS n1=some r):FnP Tryz.prog 41 [zI n1] (.string r):=by
 unfold zdS at h
 refine FnP.intro Tryz.func41 rfl Tryz.ntmps41 (by simp) ?_
 intro w0 K
 obtain ⟨j1,hj1,h⟩:=zbF h
 refine za1 (β:=ByteArray) 2 rfl (fun b=>j1 b=some r) (fun b=>[]) (fun b=>[(3,.string b)]) (fun b=>[]) (fun cut => ?_) ?_
 ·
  refine zyG (zyR 1 rfl (zyH (zyR 1 rfl (zaW rfl (zoW dc rfl) ?_))))
  obtain ⟨hg1,h⟩:=zbn h
  refine zaW rfl (zaX (r:=48+(Int.tmod n1 10)) (IntWalk.i64_in _ hg1)) (zlr rfl dc rfl (zlg Tryz.underlying3 Tryz.underlying5) ?_)
  refine zaR (cs:=[.int .u8 (IntKind.u8.wrap (48+(Int.tmod n1 10)))]) (te:=5) (ps:=[(0,.tmp 7)]) rfl dc rfl (fun _=>by kernel_rfl) (fun b1 => ?_)
  refine zg1 ([IntKind.u8.wrap (48+(Int.tmod n1 10))]:List Int) (k:=0) rfl zbO rfl (show 1≤maxLen by decide) ?_
  obtain ⟨hg2,h⟩:=zbn h
  refine zo1 (k:=0) rfl (zoy hg2) ?_
  refine zlt (k:=0) rfl dc rfl rfl Tryz.underlying121 Tryz.underlying5 Tryz.underlying9 (zyR 1 rfl (zyN (cut (zaC ?_))))
  refine zbq (β:=Nat×Int×ByteArray) (fun b=>zaF (fun _ _=>none) (zd9 j1) b.1 b.2.1 b.2.2=some r) (fun b=>[]) (fun b=>[(0,zI b.2.1),(3,.string b.2.2)]) (fun b=>[]) (fun b=>b.1) (zbT,n1,zc0 ([IntKind.u8.wrap (48+(Int.tmod n1 10))]:List Int)) h rfl (za5 rfl) Splits.nil ?_
  rintro ⟨n5,n4,s4⟩ h
  cases n5 with
  | zero=>exact zdM h
  | succ n5 =>
   obtain ⟨ag1,hag1⟩:∃ ag,ag=zaF (fun _ _=>none) (zd9 j1) n5:=⟨_,rfl⟩
   have h:zd9 j1 ag1 n4 s4=some r:=by rw [hag1]; exact h
   unfold zd9 at h
   refine zaJ (zyG (zyR 1 rfl (zaW rfl zcK (zyN ?_))))
   refine zyB rfl h (fun h => ?_) (fun h => ?_)
   ·
    refine zas (zaI (zaC (zyG (zyR 1 rfl ?_))))
    obtain ⟨hg3,h⟩:=zbn h
    refine zaW rfl (zu0 dc (IntWalk.i64_in _ hg3)) (zyR 1 rfl (zyN (zat (zyR 1 rfl (zaW rfl (zoW dc rfl) ?_)))))
    obtain ⟨hg4,h⟩:=zbn h
    refine zaW rfl (zaX (r:=48+(Int.tmod (Int.tdiv n4 10) 10)) (IntWalk.i64_in _ hg4)) (zlr rfl dc rfl (zlg Tryz.underlying3 Tryz.underlying5) ?_)
    refine zaR (cs:=[.int .u8 (IntKind.u8.wrap (48+(Int.tmod (Int.tdiv n4 10) 10)))]) (te:=5) (ps:=[(0,.tmp 17)]) rfl dc rfl (fun _=>by kernel_rfl) (fun b2 => ?_)
    refine zg1 ([IntKind.u8.wrap (48+(Int.tmod (Int.tdiv n4 10) 10))]:List Int) (k:=0) rfl zbO rfl (show 1≤maxLen by decide) ?_
    obtain ⟨hg5,h⟩:=zbn h
    refine zo1 (k:=0) rfl (zoy hg5) ?_
    refine zlt (k:=0) rfl dc rfl rfl Tryz.underlying121 Tryz.underlying5 Tryz.underlying9 (zyR 1 rfl ?_)
    obtain ⟨hg6,h⟩:=zbn h
    refine zaW rfl (zfW hg6) (zyR 1 rfl (zaQ (zag ?_)))
    subst hag1
    exact za8 (n5,Int.tdiv n4 10,(zc0 ([IntKind.u8.wrap (48+(Int.tmod (Int.tdiv n4 10) 10))]:List Int))++s4) h (Nat.lt_succ_self _) rfl (za5 rfl) Splits.nil
   refine za6 (zak (zak (zav ?_)))
   exact zai s4 h rfl (za5 rfl) Splits.nil
 rintro s1 h
 rw [hj1] at h
 refine zyG (zyR 2 rfl (zyN (zaE ?_)))
 cases h
 exact zaS (rs:=[.tmp 2]) () (.inl rfl) Tryz.results41 (.cons (.tmp rfl) .nil) rfl Splits.nil
def zcD (j1:ByteArray→Option ByteArray) (ag1:ByteArray→Option ByteArray) (t4:ByteArray):Option ByteArray :=
zaw (decide ((0:Int)<(t4.size:Int))) (
grd (I64 ((t4.size:Int) - 1)) <|
zal (zin t4 ((t4.size:Int) - 1)) fun (c1:Int) =>
zaw ((c1:Int)==32) (
grd (I64 ((t4.size:Int) - 1)) <|
grd (0≤(0:Int)∧(0:Int)≤((t4.size:Int) - 1)∧((t4.size:Int) - 1:Int)≤(t4.size:Int)) <|
ag1 (zbU t4 0 ((t4.size:Int) - 1))
) (
j1 t4
)
) (
j1 t4
)
def zfI (r1:Gapi_Row) (width1:Int):Option ByteArray :=
zaw (decide ((r1.Line:Int)<0)) (
some (⟨#[10]⟩:ByteArray)
) (
zbi (fun (j1:ByteArray→Option ByteArray) =>
zaF (fun _=>none) (zcD j1) zbT r1.Text
) (fun (t1:ByteArray) =>
zbi (fun (j2:ByteArray→Option ByteArray) =>
zal (zcP r1.Indent) fun (r2:ByteArray) =>
grd (r2.size+t1.size≤9223372036854775807) <|
zaw (decide ((0:Int)<r1.Number)) (
zbi (fun (j3:Int→Option ByteArray) =>
grd (I64 (width1 - r1.Indent)) <|
zal (zff r1.Text) fun (r3:(List Gapi_Cell)) =>
zal (zdT r1.Text r3) fun (r4:Int) =>
grd (I64 ((width1 - r1.Indent) - r4)) <|
zaw (decide ((((width1 - r1.Indent) - r4):Int)<0)) (
j3 0
) (
j3 ((width1 - r1.Indent) - r4)
)
) (fun (lacks1:Int) =>
grd (I64 (lacks1+2)) <|
zal (zcP (lacks1+2)) fun (r5:ByteArray) =>
grd ((r2++t1).size+r5.size≤9223372036854775807) <|
zal (zdS r1.Number) fun (r6:ByteArray) =>
grd (((r2++t1)++r5).size+r6.size≤9223372036854775807) <|
j2 (((r2++t1)++r5)++r6)
)
) (
j2 (r2++t1)
)
) (fun (s1:ByteArray) =>
grd (s1.size+(⟨#[10]⟩:ByteArray).size≤9223372036854775807) <|
some (s1++(⟨#[10]⟩:ByteArray))
)
)
)
theorem zmS {r1:Gapi_Row} {width1:Int} {r:ByteArray} (h:zfI r1 width1=some r):FnP Tryz.prog 12 [.agg (zr2 r1).toArray,zI width1] (.string r):=by
 unfold zfI at h
 refine FnP.intro Tryz.func12 rfl Tryz.ntmps12 (by simp) ?_
 intro w0 K
 refine zyG ?_
 refine zdQ rfl dc rfl (fun b1 => ?_)
 refine zyR 1 rfl (zyN (zaJ (zyG (zab zie rfl dc rfl (show _=0 from rfl) (zam (k:=0) zbr rfl dc rfl rfl rfl (zaW rfl zbC (zyN ?_)))))))
 refine zyB rfl h (fun h => ?_) (fun h => ?_)
 ·
  refine zyG (zyR 1 rfl (zyN (zaE (zaq ?_))))
  cases h
  exact zaS (rs:=[.tmp 4]) () (.inl rfl) Tryz.results12 (.cons (.tmp rfl) .nil) rfl Splits.nil
 refine zas (zaI ?_)
 obtain ⟨j1,hj1,h⟩:=zbF h
 refine za1 (β:=ByteArray) 1 rfl (fun b=>j1 b=some r) (fun b=>[]) (fun b=>[(1,zI width1),(2,zP b1),(5,.string b)]) (fun b=>[cells b1 (zr2 r1) 33]) (fun cut => ?_) ?_
 ·
  refine zyG (zab zk4 rfl dc rfl (show _=5 from rfl) (zam (k:=0) zou rfl dc rfl rfl rfl (zyR 1 rfl (zyN (cut (zaC ?_))))))
  refine zbq (β:=Nat×ByteArray) (fun b=>zaF (fun _=>none) (zcD j1) b.1 b.2=some r) (fun b=>[]) (fun b=>[(1,zI width1),(2,zP b1),(5,.string b.2)]) (fun b=>[cells b1 (zr2 r1) 33]) (fun b=>b.1) (zbT,r1.Text) h rfl (za5 rfl) (zad [0] kr rfl) ?_
  rintro ⟨n1,t4⟩ h
  cases n1 with
  | zero=>exact zdM h
  | succ n1 =>
   obtain ⟨ag1,hag1⟩:∃ ag,ag=zaF (fun _=>none) (zcD j1) n1:=⟨_,rfl⟩
   have h:zcD j1 ag1 t4=some r:=by rw [hag1]; exact h
   unfold zcD at h
   refine zaJ (zyG (zyR 1 rfl (zbS rfl dc rfl Tryz.underlying9 (zaW rfl zcK (zyR 1 rfl ?_)))))
   refine zyS (s:=16) rfl h (fun h => ?_) (fun h => ?_)
   ·
    refine zyR 2 rfl (zbS rfl dc rfl Tryz.underlying9 ?_)
    obtain ⟨hg1,h⟩:=zbn h
    refine zaW rfl (zbG (r:=(t4.size:Int) - 1) (IntWalk.i64_in _ hg1)) ?_
    obtain ⟨c1,hq1,h⟩:=zbw h
    refine zcG rfl dc rfl rfl (zbh Tryz.underlying9 hq1) (zaW rfl zaT (zyR 1 rfl (zyN ?_)))
    refine zyB rfl h (fun h => ?_) (fun h => ?_)
    ·
     refine zas (zaI (zaC (zat (zyR 2 rfl (zbS rfl dc rfl Tryz.underlying9 ?_)))))
     obtain ⟨hg2,h⟩:=zbn h
     refine zaW rfl (zbG (r:=(t4.size:Int) - 1) (IntWalk.i64_in _ hg2)) ?_
     obtain ⟨hg3,h⟩:=zbn h
     refine zeH rfl dc rfl rfl rfl (zci (i:=0) (j:=(t4.size:Int) - 1) Tryz.underlying9 (.inl ⟨rfl,rfl⟩) (.inr rfl) hg3) (zyR 1 rfl (zaQ (zag ?_)))
     subst hag1
     exact za8 (n1,zbU t4 0 ((t4.size:Int) - 1)) h (Nat.lt_succ_self _) rfl (za5 rfl) (zad [0] kr rfl)
    refine za6 (zak (zak (zav ?_)))
    exact zai t4 h rfl (za5 rfl) (zad [0] kr rfl)
   refine zyR 7 rfl (zyN (zaN rfl (za6 (zak (zak (zav ?_))))))
   exact zai t4 h rfl (za5 rfl) (zad [0] kr rfl)
 rintro t1 h
 rw [hj1] at h
 obtain ⟨j2,hj2,h⟩:=zbF h
 refine za1 (β:=ByteArray) 1 rfl (fun b=>j2 b=some r) (fun b=>[]) (fun b=>[(6,.string b)]) (fun b=>[]) (fun cut => ?_) ?_
 ·
  refine zyG (zab zk6 rfl dc rfl (show _=3 from rfl) (zam (k:=0) zbr rfl dc rfl rfl rfl ?_))
  obtain ⟨r2,hq2,h⟩:=zbw h
  refine zbe (v:=.string r2) (vs:=[zI r1.Indent]) rfl dc rfl rfl rfl zwq (zhs hq2) (zyR 1 rfl ?_)
  obtain ⟨hg4,h⟩:=zbn h
  refine zaW rfl (zfW hg4) (zyR 1 rfl (zyN (cut (zyG (zab zk5 rfl dc rfl (show _=4 from rfl) (zam (k:=0) zbr rfl dc rfl rfl rfl (zaW rfl zcK (zyN ?_))))))))
  refine zyB rfl h (fun h => ?_) (fun h => ?_)
  ·
   obtain ⟨j3,hj3,h⟩:=zbF h
   refine za1 (β:=Int) 1 rfl (fun b=>j3 b=some r) (fun b=>[]) (fun b=>[(2,zP b1),(6,.string (r2++t1)),(7,zI b)]) (fun b=>[cells b1 (zr2 r1) 33]) (fun cut => ?_) ?_
   ·
    refine zaJ ?_
    obtain ⟨hg5,h⟩:=zbn h
    obtain ⟨r3,hq3,h⟩:=zbw h
    obtain ⟨r4,hq4,h⟩:=zbw h
    obtain ⟨hg6,h⟩:=zbn h
    refine zgs 1 ?_
    refine let vals1:(Value)→List (Nat×Nat×Value):=fun b=>[(0,37,zI width1),(1,38,.pointer (some ⟨b1,3,none⟩)),(2,39,zI r1.Indent),(3,40,zI (width1 - r1.Indent)),(4,41,.pointer (some ⟨b1,5,none⟩)),(5,42,.string r1.Text),(6,43,.pointer (some ⟨b1,5,none⟩)),(7,44,.string r1.Text),(8,45,b),(9,46,zI r4)]; let LL1:(Nat→Prop)→(Value)→List Asn:=fun D b=>[cells b1 (zr2 r1) 33,eD D emp [(8,zv2 b r3)]]; ?_
    refine zd6 (β:=Value) 10 (.slice none 0 0:Value) vals1 LL1 mixed kr kr dc (fun _=>rfl) (zac rfl (zac zb4 rfl)) (zau ?_ (zau ?_ (zau ?_ (zau ?_ (zau ?_ (zau ?_ (zau ?_ (zau ?_ (zau ?_ (zau ?_ DrawG.nil)))))))))) ?_
    ·
     intro D b hn hd hcl
     revert b; intro v1
     refine zaK (zeo rfl) (zfA rfl dc (za4 (by rfl) rfl) ?_)
     exact zaU v1 0 (by rfl) (by rfl) rfl (zjT rfl) (zac rfl (zac (zan (by rfl)) rfl))
    ·
     intro D b hn hd hcl
     revert b; intro v1
     refine zaK (zeo rfl) (zab zk6 rfl dc (za4 (by rfl) rfl) (show _=3 from rfl) ?_)
     exact zaU v1 1 (by rfl) (by rfl) rfl (zjT rfl) (zac rfl (zac (zan (by rfl)) rfl))
    ·
     intro D b hn hd hcl
     revert b; intro v1
     refine zaK (zeo rfl) (zam (k:=0) zbr rfl dc (zaa (m:=1) rfl rfl (hd 1 dc)) rfl rfl ?_)
     exact zaU v1 2 (by rfl) (by rfl) rfl (zjT rfl) (zac rfl (zac (zan (by rfl)) rfl))
    ·
     intro D b hn hd hcl
     revert b; intro v1
     refine zaK (zeo rfl) (zb9 rfl dc (zaa (m:=0) rfl rfl (hd 0 dc)) (zaa (m:=2) rfl rfl (hd 2 dc)) (zbG (r:=width1 - r1.Indent) (IntWalk.i64_in _ hg5)) ?_)
     exact zaU v1 3 (by rfl) (by rfl) rfl (zjT rfl) (zac rfl (zac (zan (by rfl)) rfl))
    ·
     intro D b hn hd hcl
     revert b; intro v1
     refine zaK (zeo rfl) (zab zk4 rfl dc (za4 (by rfl) rfl) (show _=5 from rfl) ?_)
     exact zaU v1 4 (by rfl) (by rfl) rfl (zjT rfl) (zac rfl (zac (zan (by rfl)) rfl))
    ·
     intro D b hn hd hcl
     revert b; intro v1
     refine zaK (zeo rfl) (zam (k:=0) zou rfl dc (zaa (m:=4) rfl rfl (hd 4 dc)) rfl rfl ?_)
     exact zaU v1 5 (by rfl) (by rfl) rfl (zjT rfl) (zac rfl (zac (zan (by rfl)) rfl))
    ·
     intro D b hn hd hcl
     revert b; intro v1
     refine zaK (zac rfl (zac (zah (fun hD=>hn (hcl 7 _ rfl (hcl 8 _ rfl hD 7 dc) 6 dc)) zao) rfl)) ?_
     refine zab zk4 rfl dc (za4 (by rfl) rfl) (show _=5 from rfl) ?_
     exact zaU v1 6 (by rfl) (by rfl) rfl (zjT rfl) (zac rfl (zac ((zan (by rfl)).trans (zah (fun hD=>hn (hcl 7 _ rfl (hcl 8 _ rfl hD 7 dc) 6 dc)) zao)) rfl))
    ·
     intro D b hn hd hcl
     revert b; intro v1
     refine zaK (zac rfl (zac (zah (fun hD=>hn (hcl 8 _ rfl hD 7 dc)) zao) rfl)) ?_
     refine zam (k:=0) zou rfl dc (zaa (m:=6) rfl rfl (hd 6 dc)) rfl rfl ?_
     exact zaU v1 7 (by rfl) (by rfl) rfl (zjT rfl) (zac rfl (zac ((zan (by rfl)).trans (zah (fun hD=>hn (hcl 8 _ rfl hD 7 dc)) zao)) rfl))
    ·
     intro D b hn hd hcl
     revert b; intro _b
     refine zaK (zac rfl (zac (zah hn zao) rfl)) (zdu (vs:=[.string r1.Text]) rfl dc rfl (evL.cons (zaa (m:=7) rfl rfl (hd 7 dc)) evL.nil) rfl zxZ (zlK hq3) Splits.nil ?_)
     rintro v1
     refine zdA (L':=[cells b1 (zr2 r1) 33,emp,zv2 v1 r3]) (zad [0,1,2] kr rfl) (zc5 1 rfl rfl ?_)
     exact zaU v1 8 (by rfl) (by rfl) rfl (zi6 (zap (fun hD=>absurd hD hn) (zap (fun _=>rfl) rfl))) (zac rfl (zac (zaL (Or.inr rfl) rfl) rfl))
    ·
     intro D b hn hd hcl
     revert b; intro v1
     refine zaK (zac rfl (zac (zaL (hd 8 dc) rfl) rfl)) ?_
     refine zpP (k:=1) rfl (fun hw1 => ?_)
     refine ztp (v:=zI r4) (vs:=[.string r1.Text,v1]) rfl dc rfl (evL.cons (zaa (m:=5) rfl rfl (hd 5 dc)) (evL.cons (zaa (m:=8) rfl rfl (hd 8 dc)) evL.nil)) rfl zx0 (zjW hw1 hq4) [1] kr rfl ?_
     exact zaU v1 9 (by rfl) (by rfl) rfl (zjT rfl) (zac rfl (zac ((zan (by rfl)).trans (zaL (hd 8 dc) rfl)) rfl))
    intro D b hall
    revert b; intro v1
    refine zaK (zac rfl (zac (zaL (hall 8 dc) rfl) rfl)) (zaW rfl (zbG (r:=(width1 - r1.Indent) - r4) (IntWalk.i64_in _ hg6)) (zyR 1 rfl (zyN (cut (zyG (zyR 1 rfl (zaW rfl zbC (zyN ?_))))))))
    refine zyB rfl h (fun h => ?_) (fun h => ?_)
    ·
     refine zat (zyR 1 rfl (zaQ ?_))
     exact zai 0 h rfl (za5 rfl) (zad [0] kr rfl)
    refine zas ?_
    exact zai ((width1 - r1.Indent) - r4) h rfl (za5 rfl) (zad [0] kr rfl)
   rintro lacks1 h
   rw [hj3] at h
   obtain ⟨hg7,h⟩:=zbn h
   obtain ⟨r5,hq5,h⟩:=zbw h
   obtain ⟨hg8,h⟩:=zbn h
   obtain ⟨r6,hq6,h⟩:=zbw h
   obtain ⟨hg9,h⟩:=zbn h
   refine zbK 8 [(0,50,.string (r2++t1)),(1,51,zI lacks1),(2,52,zI (lacks1+2)),(3,53,.string r5),(4,54,.string ((r2++t1)++r5)),(5,55,.pointer (some ⟨b1,4,none⟩)),(6,56,zI r1.Number),(7,57,.string r6)] mixed kr kr dc (by rfl) kr kr (zyP 2 0 rfl (zae ?_ (zae ?_ (zae ?_ (zae ?_ (zae ?_ (zae ?_ DrawPre.nil))))))) ?_
   · exact fun D n d c u i=>zb9 rfl dc (zaa (m:=1) u rfl (d 1 dc)) rfl (zaX (r:=lacks1+2) (IntWalk.i64_in _ hg7)) (zaf 2 u i rfl)
   · exact fun D n d c u i=>zbe (v:=.string r5) (vs:=[zI (lacks1+2)]) rfl dc rfl (evL.cons (zaa (m:=2) u rfl (d 2 dc)) evL.nil) rfl zwq (zhs hq5) (zaf 3 u i rfl)
   · exact fun D n d c u i=>zb9 rfl dc (zaa (m:=0) u rfl (d 0 dc)) (zaa (m:=3) u rfl (d 3 dc)) (zfW hg8) (zaf 4 u i rfl)
   · exact fun D n d c u i=>zab zk5 rfl dc (za4 (by rfl) rfl) (show _=4 from rfl) (zaf 5 u i rfl)
   · exact fun D n d c u i=>zam (k:=0) zbr rfl dc (zaa (m:=5) u rfl (d 5 dc)) rfl rfl (zaf 6 u i rfl)
   · exact fun D n d c u i=>zbe (v:=.string r6) (vs:=[zI r1.Number]) rfl dc rfl (evL.cons (zaa (m:=6) u rfl (d 6 dc)) evL.nil) rfl zxY (zjV hq6) (zaf 7 u i rfl)
   refine zaW rfl (zfW hg9) (zyR 1 rfl (zaQ ?_))
   exact zai (((r2++t1)++r5)++r6) h rfl (za5 rfl) Splits.nil
  refine zas ?_
  exact zai (r2++t1) h rfl (za5 rfl) Splits.nil
 rintro s1 h
 rw [hj2] at h
 refine zyG (zyR 1 rfl ?_)
 obtain ⟨hg10,h⟩:=zbn h
 refine zaW rfl (zfW hg10) (zyR 1 rfl (zyN (zaE ?_)))
 cases h
 exact zaS (rs:=[.tmp 4]) () (.inl rfl) Tryz.results12 (.cons (.tmp rfl) .nil) rfl Splits.nil
end Go.Proofs.YtbempdelckaccaaGreatDoor

namespace Go.Proofs.YtbempdelckaccaaGreatDoor
open Go.RowKit Go.Lib
set_option linter.unusedVariables false
set_option linter.unusedSimpArgs false
end Go.Proofs.YtbempdelckaccaaGreatDoor

namespace Go.Proofs.YtbempdelckaccaaGreatDoor
open Go.RowKit Go.Lib
set_option linter.unusedVariables false
set_option linter.unusedSimpArgs false
theorem zm2 {T:List UInt8} {i:Nat} {b:UInt8} (h:T[i]?=some b):zin (mkB T) (i:Int)=some (b.toNat:Int):=by
 obtain ⟨hl,he⟩:=List.getElem?_eq_some_iff.1 h
 have hd:T.drop i=b::T.drop (i+1):=by rw [List.drop_eq_getElem_cons hl,he]
 exact (zfO (s:=mkB T) hd).1
end Go.Proofs.YtbempdelckaccaaGreatDoor

namespace Go.Proofs.YtbempdelckaccaaGreatDoor
open Go.RowKit Go.Lib
set_option linter.unusedVariables false
set_option linter.unusedSimpArgs false
theorem zns (X:List UInt8) (hX:∀ b,X.getLast?=some b→b≠32) (j:ByteArray→Option ByteArray):∀ (k m:Nat),X.length+k≤100000→k<m→zaF (fun _=>none) (zcD j) m (mkB (X++List.replicate k 32))=j (mkB X)
 | 0,m,hl,hm=>by
  obtain ⟨m,rfl⟩:∃ q,m=q+1:=⟨m - 1,by omega⟩
  rw [zcJ,List.replicate_zero,List.append_nil]
  generalize zaF (fun _=>none) (zcD j) m=ag
  unfold zcD
  rcases List.eq_nil_or_concat X with rfl | ⟨D,b,rfl⟩
  ·exact zaz rfl rfl
  ·rw [List.concat_eq_append] at hX hl ⊢
   have hb:=hX b (by simp)
   have hsz:(mkB (D++[b])).size=D.length+1:=by rw [zba]; simp
   have hg:=zm2 (T:=D++[b]) (i:=D.length) (b:=b) (by simp)
   rw [show (D.length:Int)=((mkB (D++[b])).size:Int) - 1 by omega] at hg
   rw [List.length_append] at hl
   refine zaB (decide_eq_true (by omega)) (zbm ⟨by omega,by simp at hl; omega⟩ (zaO hg (zaz (zgy ?_) rfl)))
   intro e
   exact hb (UInt8.toNat_inj.1 (by show b.toNat=32; omega))
 | k+1,m,hl,hm=>by
  obtain ⟨m,rfl⟩:∃ q,m=q+1:=⟨m - 1,by omega⟩
  rw [zcJ]
  have ih:=zns X hX j k m (by omega) (by omega)
  generalize zaF (fun _=>none) (zcD j) m=ag at ih ⊢
  have he:X++List.replicate (k+1) 32=(X++List.replicate k 32)++[32]:=by rw [List.replicate_succ',List.append_assoc]
  have hsz:(mkB (X++List.replicate (k+1) 32)).size=X.length+k+1:=by rw [zba]; simp; omega
  have hg:=zm2 (T:=X++List.replicate (k+1) 32) (i:=X.length+k) (b:=32) (by rw [he]; simp)
  rw [show ((X.length+k:Nat):Int)=((mkB (X++List.replicate (k+1) 32)).size:Int) - 1 by omega] at hg
  have hcut:=zlf (X++List.replicate (k+1) 32) 0 (X.length+k)
  rw [List.drop_zero,Nat.sub_zero,he,List.take_left' (by simp),← he,show ((X.length+k:Nat):Int)=((mkB (X++List.replicate (k+1) 32)).size:Int) - 1 by omega] at hcut
  unfold zcD
  refine zaB (decide_eq_true (by omega)) (zbm ⟨by omega,by omega⟩ (zaO hg (zaB rfl (zbm ⟨by omega,by omega⟩ (zbm ⟨Int.le_refl _,by omega,by omega⟩ ?_)))))
  rw [show (0:Int)=((0:Nat):Int) from rfl,hcut]; exact ih
theorem zoh (n:Nat) (hn:n≤100000) (j:List Int→Option ByteArray):∀ (d i m:Nat),i+d=n→d<m→zaF (fun _ _=>none) (zcC (n:Int) j) m (List.replicate i 32++List.replicate d 0) (i:Int)=j (List.replicate n 32)
 | 0,i,m,hi,hm=>by
  obtain ⟨m,rfl⟩:∃ q,m=q+1:=⟨m - 1,by omega⟩
  rw [zcJ]
  unfold zcC
  refine zaz (decide_eq_false (by omega)) ?_
  rw [List.replicate_zero,List.append_nil,show i=n by omega]
 | d+1,i,m,hi,hm=>by
  obtain ⟨m,rfl⟩:∃ q,m=q+1:=⟨m - 1,by omega⟩
  rw [zcJ]
  have ih:=zoh n hn j d (i+1) m (by omega) (by omega)
  rw [show ((i+1:Nat):Int)=(i:Int)+1 by omega] at ih
  generalize zaF (fun _ _=>none) (zcC (n:Int) j) m=ag at ih ⊢
  unfold zcC
  refine zaB (decide_eq_true (by omega)) (zaO (zc4 (q:=0) (by rw [List.getElem?_append_right (by simp)]; simp)) (zbm ⟨by omega,by omega⟩ ?_))
  rw [Int.toNat_natCast,List.set_append_right _ _ (by simp),List.length_replicate,Nat.sub_self,List.replicate_succ,List.set_cons_zero]
  rw [List.replicate_succ',List.append_assoc] at ih
  exact ih
theorem zpO (n:Nat) (hn:n≤100000):zcP (n:Int)=some (mkB (List.replicate n 32)):=by
 unfold zcP
 refine zby (zbm ⟨by omega,by omega⟩ ?_)
 have:=zoh n hn (fun b1=>grd (∀ x∈b1,U8 x)<|some (zc0 b1)) n 0 zbT (by omega) (zcm (by omega))
 rw [List.replicate_zero,List.nil_append] at this
 rw [Int.toNat_natCast]
 refine this.trans (zbm (fun x hx => ?_) (congrArg some (zqq ?_)))
 ·rw [(List.mem_replicate.1 hx).2]; exact ⟨by decide,by decide⟩
 ·rw [List.map_replicate,zhJ]; rfl
end Go.Proofs.YtbempdelckaccaaGreatDoor

namespace Go.Proofs.YtbempdelckaccaaGreatDoor
open Go.RowKit Go.Lib
set_option linter.unusedVariables false
set_option linter.unusedSimpArgs false
def zee (b1:Gpage_Book) (k1:Int):Option ((List Gapi_Row)×Int) :=
zaw (decide ((k1:Int)<0)) (
some (([]:List Gapi_Row),5)
) (
zaw (decide (((b1.pages.length:Int):Int)≤k1)) (
some (([]:List Gapi_Row),5)
) (
zal (zcb b1.pages k1) fun (x1:List Gapi_Row) =>
zal (zey x1) fun (r1:(List Gapi_Row)) =>
some (r1,0)
)
)
theorem zji {bb1:Nat} {b1:Gpage_Book} {b1_h0:Hd} {k1:Int} {r:((List Gapi_Row)×Int)} (h:zee b1 k1=some r):FnR Tryz.prog 19 [zP bb1,zI k1] [cells bb1 [zI b1.layout_Width,zI b1.layout_Height,zI b1.layout_Turn,zI b1.layout_Every,b1_h0.v,zI b1.cost] 81,zfM zaD zaP 43 1 b1_h0.v b1.pages] [] (fun v0:Value=>.tuple #[v0,zI r.2]) (fun v0=>[zv1 v0 r.1]):=by
 unfold zee at h
 refine FnR.intro Tryz.func19 rfl Tryz.ntmps19 (by simp) ?_
 intro w0 K hrd
 refine zyG (zyR 2 rfl (zyN (zaJ (zaC (zyG (zyR 1 rfl (zaW rfl (zdj Tryz.underlying25) (zyR 1 rfl (zaQ ?_)))))))))
 refine zaI (zaN rfl (zyG (zyR 1 rfl (zaW rfl zbC (zyR 1 rfl ?_)))))
 refine zyS (s:=12) rfl h (fun h => ?_) (fun h => ?_)
 ·
  refine zyR 9 rfl (zyN (za9 rfl (zyG ?_)))
  refine zyR 2 rfl (zyN (zaE (zaA (zaq (zda (enc:=zbo) (e:=33) (size:=6) ?_)))))
  cases h
  exact zaS (rs:=[.tmp 4,.tmp 5]) (.slice none 0 0) (.inl rfl) Tryz.results19 (.cons (.tmp rfl) (.cons (.tmp rfl) .nil)) rfl (zad [0] kr rfl)
 refine zyR 2 rfl (zay rfl dc rfl (zab zjm rfl dc rfl (show _=4 from rfl) (zbk (i:=0) hrd rfl zq3 rfl dc rfl rfl ?_)))
 obtain ⟨zs1,hz1,hV1,hrd⟩:=hrd.openN (i:=1) rfl zet zgc
 replace hrd:Rd _ _ [cells bb1 [zI b1.layout_Width,zI b1.layout_Height,zI b1.layout_Turn,zI b1.layout_Every,b1_h0.v,zI b1.cost] 81,zfM zaD zaP 43 1 b1_h0.v b1.pages,zgQ zaD 1 b1_h0.v 0 zs1,zlL zcF zs1]:=hrd
 refine zlp hz1 hV1 rfl dc rfl Tryz.underlying79 (zaW rfl zeq (zyR 2 rfl (zyN ?_)))
 refine zyB rfl h (fun h => ?_) (fun h => ?_)
 ·
  refine zyG (zyR 2 rfl (zyN (zaE (zaA (zaq (zda (enc:=zbo) (e:=33) (size:=6) ?_))))))
  cases h
  exact zaS (rs:=[.tmp 4,.tmp 5]) (.slice none 0 0) (.inl rfl) Tryz.results19 (.cons (.tmp rfl) (.cons (.tmp rfl) .nil)) rfl (zad [0] kr rfl)
 refine zas (zag (zaI (zyG (zyR 1 rfl (zay rfl dc rfl (zab zjm rfl dc rfl (show _=4 from rfl) (zbk (i:=0) hrd rfl zq3 rfl dc rfl rfl (zyR 1 rfl ?_))))))))
 obtain ⟨x1,hq1,h⟩:=zbw h
 obtain ⟨eh1,eq1⟩:=zpy hz1 hq1
 have hrd:Rd _ _ [cells bb1 [zI b1.layout_Width,zI b1.layout_Height,zI b1.layout_Turn,zI b1.layout_Every,b1_h0.v,zI b1.cost] 81,zfM zaD zaP 43 1 b1_h0.v b1.pages,zgQ zaD 1 b1_h0.v 0 zs1,zlL zcF zs1,zuq zbo 6 eh1 x1]:=hrd.openEl (i:=3) (z:=(x1,eh1)) rfl (Vw.get hV1 eq1)
 obtain ⟨vv1,k2,L1,hV2,hrd⟩:=hrd.openSl (i:=4) rfl
 replace hrd:Rd _ _ [cells bb1 [zI b1.layout_Width,zI b1.layout_Height,zI b1.layout_Turn,zI b1.layout_Every,b1_h0.v,zI b1.cost] 81,zfM zaD zaP 43 1 b1_h0.v b1.pages,zgQ zaD 1 b1_h0.v 0 zs1,zlL zcF zs1,zuq zbo 6 eh1 x1,zgQ zbo 6 vv1 k2 L1]:=hrd
 refine zbL hV1 eq1 Tryz.underlying79 zsG rfl dc rfl rfl rfl (zjQ (n:=0+(k1:Int).toNat) (j:=0) (i:=2) (q:=(x1,eh1)) hrd rfl (by omega) zhn rfl dc rfl (Vw.get hV1 eq1) rfl rfl ?_)
 obtain ⟨r1,hq2,h⟩:=zbw h
 refine zfY (vs:=[eh1.v]) hrd rfl dc rfl rfl rfl zxX (zfX hV2 hq2) Splits.nil (.ro 5 rfl .nil) ?_
 rintro v1
 refine zbu (k:=0) rfl (fun hd1 he1 => ?_)
 subst he1
 refine zyR 2 rfl (zyN (zaE ?_))
 cases h
 exact zaS (rs:=[.tmp 4,.tmp 5]) hd1.v (.inl rfl) Tryz.results19 (.cons (.tmp rfl) (.cons (.tmp rfl) .nil)) rfl (zad [0] kr rfl)
def zbY (x3:Int) (j1:Option (List (Int×Gapi_Row))) (x4:List Gapi_Row) (ag2:Int→Option (List (Int×Gapi_Row))) (x7:Int):Option (List (Int×Gapi_Row)) :=
zaw (decide ((x7:Int)<(x4.length:Int))) (
zal (zcb x4 x7) fun (q1:Gapi_Row) =>
zhb (x3,q1) <|
grd (I64 (x7+1)) <|
ag2 (x7+1)
) (
j1
)
def zbZ (c0:Gpage_Book) (ag1:Int→Option (List (Int×Gapi_Row))) (x3:Int):Option (List (Int×Gapi_Row)) :=
zaw (decide ((x3:Int)<(c0.pages.length:Int))) (
zbi (fun (j1:Option (List (Int×Gapi_Row))) =>
zal (zcb c0.pages x3) fun (x4:List Gapi_Row) =>
zaF (fun _=>none) (zbY x3 j1 x4) zbT 0
) (
grd (I64 (x3+1)) <|
ag1 (x3+1)
)
) (
some []
)
def zdF (c0:Gpage_Book):Option (List (Int×Gapi_Row)) :=
zaF (fun _=>none) (zbZ c0) zbT 0
theorem zfQ {b_c0 p_c0:Nat} {c0:Gpage_Book} {c0_h0:Hd} {xs:(List (Int×Gapi_Row))} (h:zdF c0=some xs):ItrR Tryz.prog 32 [zP b_c0] (fun q:Int×Gapi_Row=>[zI q.1,.agg (zr2 q.2).toArray]) xs [cells b_c0 [zP p_c0] 25,cells p_c0 [zI c0.layout_Width,zI c0.layout_Height,zI c0.layout_Turn,zI c0.layout_Every,c0_h0.v,zI c0.cost] 81,zfM zaD zaP 43 1 c0_h0.v c0.pages]:=by
 unfold zdF at h
 refine ItrR.intro Tryz.func32 rfl Tryz.ntmps32 (by simp) ?_
 intro l w0 K I X hrd hy
 obtain ⟨r0,hx0⟩:∃ r,xs=[]++r:=⟨xs,rfl⟩
 have hr0:xs=r0:=hx0
 rw [hr0] at h
 refine zaJ (zyG (zbk (i:=0) hrd rfl zsN rfl dc rfl rfl (zaW rfl (zdj Tryz.underlying25) (zyN (zaN rfl (zas (zaI (zyG (zbk (i:=0) hrd rfl zsN rfl dc rfl rfl (zay rfl dc rfl ?_))))))))))
 refine zab zjm rfl dc rfl (show _=4 from rfl) (zbk (i:=1) hrd rfl zq3 rfl dc rfl rfl ?_)
 obtain ⟨zs1,hz1,hV1,hrd⟩:=hrd.openN (i:=2) rfl zet zgc
 replace hrd:Rd _ _ [cells b_c0 [zP p_c0] 25,cells p_c0 [zI c0.layout_Width,zI c0.layout_Height,zI c0.layout_Turn,zI c0.layout_Every,c0_h0.v,zI c0.cost] 81,zfM zaD zaP 43 1 c0_h0.v c0.pages,zgQ zaD 1 c0_h0.v 0 zs1,zlL zcF zs1]:=hrd
 refine zlp hz1 hV1 rfl dc rfl Tryz.underlying79 (zyR 1 rfl (zyN (zaC ?_)))
 refine zbq (β:=Nat×Int×(List (Int×Gapi_Row))×(List (Int×Gapi_Row))) (fun b=>zaF (fun _=>none) (zbZ c0) b.1 b.2.1=some b.2.2.2∧xs=b.2.2.1++b.2.2.2) (fun b=>[]) (fun b=>[(0,.func (.yield l) #[] #[]),(12,c0_h0.v),(13,zI (c0.pages.length:Int)),(14,zI b.2.1)]) (fun b=>[I b.2.2.1]) (fun b=>b.1) (zbT,0,([]:List (Int×Gapi_Row)),r0) ⟨h,hx0⟩ rfl (za5 rfl) (zad [0] kr rfl) ?_
 rintro ⟨n1,x3,acc3,rr3⟩ ⟨h,hx3⟩
 cases n1 with
 | zero=>exact zdM h
 | succ n1 =>
  obtain ⟨ag1,hag1⟩:∃ ag,ag=zaF (fun _=>none) (zbZ c0) n1:=⟨_,rfl⟩
  have h:zbZ c0 ag1 x3=some rr3:=by rw [hag1]; exact h
  unfold zbZ at h
  refine zyG (zaW rfl zbC (zyN (zaJ ?_)))
  refine zyB rfl h (fun h => ?_) (fun h => ?_)
  ·
   refine zas (zaI ?_)
   obtain ⟨j1,hj1,h⟩:=zbF h
   refine za1 (β:=(List (Int×Gapi_Row))×(List (Int×Gapi_Row))) 0 rfl (fun b=>j1=some b.2∧xs=b.1++b.2) (fun b=>[]) (fun b=>[(0,.func (.yield l) #[] #[]),(12,c0_h0.v),(13,zI (c0.pages.length:Int)),(14,zI x3)]) (fun b=>[I b.1]) (fun cut => ?_) ?_
   ·
    refine cut (zaC (zyG (zyR 1 rfl ?_)))
    obtain ⟨x4,hq1,h⟩:=zbw h
    obtain ⟨eh1,eq1⟩:=zpy hz1 hq1
    have hrd:Rd _ _ [cells b_c0 [zP p_c0] 25,cells p_c0 [zI c0.layout_Width,zI c0.layout_Height,zI c0.layout_Turn,zI c0.layout_Every,c0_h0.v,zI c0.cost] 81,zfM zaD zaP 43 1 c0_h0.v c0.pages,zgQ zaD 1 c0_h0.v 0 zs1,zlL zcF zs1,zuq zbo 6 eh1 x4]:=hrd.openEl (i:=4) (z:=(x4,eh1)) rfl (Vw.get hV1 eq1)
    obtain ⟨vv1,k1,L1,hV2,hrd⟩:=hrd.openSl (i:=5) rfl
    replace hrd:Rd _ _ [cells b_c0 [zP p_c0] 25,cells p_c0 [zI c0.layout_Width,zI c0.layout_Height,zI c0.layout_Turn,zI c0.layout_Every,c0_h0.v,zI c0.cost] 81,zfM zaD zaP 43 1 c0_h0.v c0.pages,zgQ zaD 1 c0_h0.v 0 zs1,zlL zcF zs1,zuq zbo 6 eh1 x4,zgQ zbo 6 vv1 k1 L1]:=hrd
    refine zbL hV1 eq1 Tryz.underlying79 zsG rfl dc rfl rfl rfl (zjQ (n:=0+(x3:Int).toNat) (j:=0) (i:=3) (q:=(x4,eh1)) hrd rfl (by omega) zhn rfl dc rfl (Vw.get hV1 eq1) rfl rfl (zyR 2 rfl (zyH (zyR 1 rfl (zgr hV2 rfl dc rfl Tryz.underlying43 (zyR 1 rfl (zyN (zaC ?_))))))))
    refine zbq (β:=Nat×Int×(List (Int×Gapi_Row))×(List (Int×Gapi_Row))) (fun b=>zaF (fun _=>none) (zbY x3 j1 x4) b.1 b.2.1=some b.2.2.2∧xs=b.2.2.1++b.2.2.2) (fun b=>[]) (fun b=>[(0,.func (.yield l) #[] #[]),(3,zI x3),(12,c0_h0.v),(13,zI (c0.pages.length:Int)),(14,zI x3),(19,eh1.v),(20,zI (x4.length:Int)),(21,zI b.2.1)]) (fun b=>[I b.2.2.1]) (fun b=>b.1) (zbT,0,acc3,rr3) ⟨h,hx3⟩ rfl (za5 rfl) (zad [0] kr rfl) ?_
    rintro ⟨n2,x7,acc7,rr7⟩ ⟨h,hx7⟩
    cases n2 with
    | zero=>exact zdM h
    | succ n2 =>
     obtain ⟨ag2,hag2⟩:∃ ag,ag=zaF (fun _=>none) (zbY x3 j1 x4) n2:=⟨_,rfl⟩
     have h:zbY x3 j1 x4 ag2 x7=some rr7:=by rw [hag2]; exact h
     unfold zbY at h
     refine zyG (zaW rfl zbC (zyN (zaJ ?_)))
     refine zyB rfl h (fun h => ?_) (fun h => ?_)
     ·
      refine zas (zaI (zaJ (zaC (zyG ?_))))
      obtain ⟨q1,hq2,h⟩:=zbw h
      refine zbL hV2 hq2 Tryz.underlying43 zhj rfl dc rfl rfl rfl (znj (m:=k1+(x7:Int).toNat) (j:=0) (i:=6) (q:=q1) (cs:=(zr2 q1)) hrd rfl (by omega) zje rfl dc rfl (Vw.get hV2 hq2) rfl rfl rfl ?_)
      refine zbc zpS rfl dc (fun b1 => ?_)
      refine za0 (k:=1) (vs:=(zr2 q1)) (l':=(zr2 q1)) zhj rfl rfl rfl rfl rfl (show _≤_ by simp) rfl rfl ?_
      refine zyH (zyR 2 rfl (zbb (k:=1) (cs:=(zr2 q1)) zje rfl dc rfl rfl rfl rfl ?_))
      obtain ⟨rr8,hr1,h⟩:=zj0 h
      have hx8:xs=acc7++(x3,q1)::rr8:=by rw [hx7,hr1]
      refine zeW hy rfl dc rfl hx8 rfl (k:=0) rfl ?_ ?_
      ·
       have hx9:xs=(acc7++[(x3,q1)])++rr8:=by rw [hx8]; simp
       refine zd2 rfl dc rfl zcB (zyN (zaN rfl (zas (zag (zaI (zat ?_))))))
       obtain ⟨hg1,h⟩:=zbn h
       refine zaW rfl (zaX (r:=x7+1) (IntWalk.i64_in _ hg1)) (zyR 1 rfl (zaQ ?_))
       subst hag2
       exact za8 (n2,x7+1,acc7++[(x3,q1)],rr8) ⟨h,hx9⟩ (Nat.lt_succ_self _) rfl (za5 rfl) (zad [0] kr rfl)
      refine zd2 rfl dc rfl zcB (zyN (za9 rfl (zaE (zaA (zaq (zaq (zaA (zaA (zaq (zaq (zaA ?_)))))))))))
      exact zlm (ds:=[]) acc7 (x3,q1) rr8 hx8 (.inl rfl) Splits.nil Tryz.results32 (zad [0] kr rfl)
     refine za6 (zak (zak (zav (zag ?_))))
     exact zai (acc7,rr7) ⟨h,hx7⟩ rfl (za5 rfl) (zad [0] kr rfl)
   rintro ⟨acc4,rr4⟩ ⟨h,hx4⟩
   rw [hj1] at h
   refine zat ?_
   obtain ⟨hg2,h⟩:=zbn h
   refine zaW rfl (zaX (r:=x3+1) (IntWalk.i64_in _ hg2)) (zyR 1 rfl (zaQ ?_))
   subst hag1
   exact za8 (n1,x3+1,acc4,rr4) ⟨h,hx4⟩ (Nat.lt_succ_self _) rfl (za5 rfl) (zad [0] kr rfl)
  refine za6 (zak (zak (zav ?_)))
  cases h
  exact zll (ds:=[]) (.inr rfl) Splits.nil Tryz.results32 (congrArg I (hx3.trans (List.append_nil _))) (zad [0] kr rfl)
def zed (b1:Gpage_Book):Option Unit :=
some ()
theorem zgE {bb1:Nat} {b1:Gpage_Book} {b1_h0:Hd} {r:Unit} (h:zed b1=some r):FnR Tryz.prog 10 [zP bb1] [cells bb1 [zI b1.layout_Width,zI b1.layout_Height,zI b1.layout_Turn,zI b1.layout_Every,b1_h0.v,zI b1.cost] 81,zfM zaD zaP 43 1 b1_h0.v b1.pages] [] (fun v0:Nat=>.func (.func 32) #[] #[zP v0]) (fun v0=>[cells v0 [zP bb1] 25]):=by
 unfold zed at h
 refine FnR.intro Tryz.func10 rfl Tryz.ntmps10 (by simp) ?_
 intro w0 K hrd
 refine zyG ?_
 refine zdQ rfl dc rfl (fun b2 => ?_)
 refine zyR 1 rfl (zyH (zg3 (x1:=[]) (x2:=[.tmp 1]) rfl dc rfl rfl (zyR 1 rfl (zyN (zaE ?_)))))
 cases h
 exact zaS (rs:=[.tmp 2]) b2 (.inl rfl) Tryz.results10 (.cons (.tmp rfl) .nil) rfl (zad [0] kr rfl)
end Go.Proofs.YtbempdelckaccaaGreatDoor

namespace Go.Proofs.YtbempdelckaccaaGreatDoor
open Go.RowKit Go.Lib
set_option linter.unusedVariables false
set_option linter.unusedSimpArgs false
def zcz (i1:Int) (base1:Int):Option ByteArray :=
zaw ((base1:Int)==10) (
zbi (fun (j1:Option ByteArray) =>
zaw (decide ((0:Int)≤i1)) (
zaw (decide ((i1:Int)<100)) (
grd (0≤(i1:Int)∧(i1:Int)<100) <|
some (zqm i1)
) (
j1
)
) (
j1
)
) (
zbi (fun (j2:Int→Option ByteArray) =>
zaw (decide ((i1:Int)<0)) (
grd (U64 (-(IntKind.u64.wrap i1))) <|
j2 (-(IntKind.u64.wrap i1))
) (
j2 (IntKind.u64.wrap i1)
)
) (fun (u1:Int) =>
none
)
)
) (
none
)
theorem zfN {i1:Int} {base1:Int} {r:ByteArray} (h:zcz i1 base1=some r):FnP Tryz.prog 120 [zI i1,zI base1] (.string r):=by
 unfold zcz at h
 refine FnP.intro Tryz.func120 rfl Tryz.ntmps120 (by simp) ?_
 intro w0 K
 refine zyG (zyR 1 rfl (zyN (zaJ (zyG (zyR 1 rfl (zaW rfl zaT (zyN ?_)))))))
 refine zyB rfl h (fun h => ?_) (fun h => ?_)
 ·
  obtain ⟨j1,hj1,h⟩:=zbF h
  refine za1 (β:=Unit) 0 rfl (fun b=>j1=some r) (fun b=>[]) (fun b=>[(0,zI i1)]) (fun b=>[]) (fun cut => ?_) ?_
  ·
   refine cut (zyG (zyR 1 rfl (zaW rfl zdO (zyR 1 rfl ?_))))
   refine zyS (s:=14) rfl h (fun h => ?_) (fun h => ?_)
   ·
    refine zyR 1 rfl (zaW rfl zbC (zyR 1 rfl (zyN ?_)))
    refine zyB rfl h (fun h => ?_) (fun h => ?_)
    ·
     refine zyG (zyR 1 rfl ?_)
     obtain ⟨hg1,h⟩:=zbn h
     refine zbe (v:=.string (zqm i1)) (vs:=[zI i1]) rfl dc rfl rfl rfl zwu (zue i1 hg1) (zyR 1 rfl (zyN (zaE (zaq (zaq ?_)))))
     cases h
     exact zaS (rs:=[.tmp 4]) () (.inl rfl) Tryz.results120 (.cons (.tmp rfl) .nil) rfl Splits.nil
    refine zas ?_
    exact zai () h rfl (za5 rfl) Splits.nil
   refine zyR 3 rfl (zyN (zaN rfl (zas ?_)))
   exact zai () h rfl (za5 rfl) Splits.nil
  rintro _ h
  rw [hj1] at h
  obtain ⟨j2,hj2,h⟩:=zbF h
  refine za1 (β:=Int×Nat) 2 rfl (fun b=>j2 b.1=some r) (fun b=>[]) (fun b=>[(0,zI i1),(5,zP b.2),(6,.int .u64 b.1)]) (fun b=>[cells b.2 [.int .u8 0,.int .u8 0,.int .u8 0,.int .u8 0,.int .u8 0,.int .u8 0,.int .u8 0,.int .u8 0,.int .u8 0,.int .u8 0,.int .u8 0,.int .u8 0,.int .u8 0,.int .u8 0,.int .u8 0,.int .u8 0,.int .u8 0,.int .u8 0,.int .u8 0,.int .u8 0,.int .u8 0,.int .u8 0,.int .u8 0,.int .u8 0] 211]) (fun cut => ?_) ?_
  ·
   refine zyG ?_
   refine zbc zvo rfl dc (fun b2 => ?_)
   refine zyH (zyR 1 rfl (zlr rfl dc rfl (zlg Tryz.underlying2 Tryz.underlying191) (zyR 1 rfl (zyN (cut (zyG (zyR 1 rfl (zaW rfl zbC ?_))))))))
   refine zyN ?_
   refine zyB rfl h (fun h => ?_) (fun h => ?_)
   ·
    refine zat (zyR 1 rfl ?_)
    obtain ⟨hg2,h⟩:=zbn h
    refine zd2 rfl dc rfl (zvx (IntWalk.u64_in _ hg2)) (zyR 1 rfl (zaQ ?_))
    exact zai (-(IntKind.u64.wrap i1),b2) h rfl (za5 rfl) (zad [0] kr rfl)
   refine zas ?_
   exact zai (IntKind.u64.wrap i1,b2) h rfl (za5 rfl) (zad [0] kr rfl)
  rintro ⟨u1,b1⟩ h
  rw [hj2] at h
  refine zaJ ?_
  exact zdM h
 refine zas (zaI (zaJ ?_))
 exact zdM h
def zdb (i1:Int):Option ByteArray :=
zal (zcz i1 10) fun (r1:ByteArray) =>
some r1
theorem zgF {i1:Int} {r:ByteArray} (h:zdb i1=some r):FnP Tryz.prog 92 [zI i1] (.string r):=by
 unfold zdb at h
 refine FnP.intro Tryz.func92 rfl Tryz.ntmps92 (by simp) ?_
 intro w0 K
 refine zyG (zyR 1 rfl (zyH (zyR 1 rfl ?_)))
 obtain ⟨r1,hq1,h⟩:=zbw h
 refine zbe (v:=.string r1) (vs:=[zI i1,zI 10]) rfl dc rfl rfl rfl zwx (zfN hq1) (zyR 1 rfl (zyN (zaE ?_)))
 cases h
 exact zaS (rs:=[.tmp 2]) () (.inl rfl) Tryz.results92 (.cons (.tmp rfl) .nil) rfl Splits.nil
def zei (i1:Int):Option ByteArray :=
zal (zdb i1) fun (r1:ByteArray) =>
some r1
theorem zkv {i1:Int} {r:ByteArray} (h:zei i1=some r):FnP Tryz.prog 62 [zI i1] (.string r):=by
 unfold zei at h
 refine FnP.intro Tryz.func62 rfl Tryz.ntmps62 (by simp) ?_
 intro w0 K
 refine zyG (zyR 1 rfl (zyH (zyR 1 rfl ?_)))
 obtain ⟨r1,hq1,h⟩:=zbw h
 refine zbe (v:=.string r1) (vs:=[zI i1]) rfl dc rfl rfl rfl zxz (zgF hq1) (zyR 1 rfl (zyN (zaE ?_)))
 cases h
 exact zaS (rs:=[.tmp 2]) () (.inl rfl) Tryz.results62 (.cons (.tmp rfl) .nil) rfl Splits.nil
def zcE (s1:ByteArray) (x1:Gapi_Cell) (ag1:Int→Int→Option Int) (n4:Int) (all3:Int):Option Int :=
grd (I64 (all3+x1.Columns)) <|
grd (I64 (x1.Span_From+1)) <|
zaw ((x1.Span_To:Int)==(x1.Span_From+1)) (
zal (zin s1 x1.Span_From) fun (c1:Int) =>
zaw (!((c1:Int)==32)) (
ag1 (all3+x1.Columns) (all3+x1.Columns)
) (
ag1 n4 (all3+x1.Columns)
)
) (
ag1 (all3+x1.Columns) (all3+x1.Columns)
)
def zek (s1:ByteArray):Option Int :=
zbi (fun (j1:Int→Option Int) =>
zal (zfG s1) fun (r1:ByteArray) =>
zal (zdz r1) fun (its1:(List Gapi_Cell)) =>
zbi (fun (dn1:Int→Int→Option Int) =>
zcu dn1 (zcE s1) its1 0 0
) (fun (n4:Int) (all3:Int) =>
j1 n4
)
) (fun (n1:Int) =>
some n1
)
theorem zkL {s1:ByteArray} {r:Int} (h:zek s1=some r):FnP Tryz.prog 61 [.string s1] (zI r):=by
 unfold zek at h
 refine FnP.intro Tryz.func61 rfl Tryz.ntmps61 (by simp) ?_
 intro w0 K
 refine zhQ ?_
 obtain ⟨j1,hj1,h⟩:=zbF h
 refine za1 (β:=Int×Nat×(List Nat)) 2 rfl (fun b=>j1 b.1=some r) (fun b=>zd4 b.2.2) (fun b=>[(3,zP b.2.1)]) (fun b=>[cells b.2.1 [zI b.1] 3,zhe ((b.2.2:List Nat).map zi7)]) (fun cut => ?_) ?_
 ·
  refine zyG ?_
  refine zdQ rfl dc rfl (fun b2 => ?_)
  refine zyR 1 rfl (zyH ?_)
  refine zbc zt6 rfl dc (fun b3 => ?_)
  refine zbc zt6 rfl dc (fun b4 => ?_)
  refine zaM (k:=2) (l':=[zI 0]) zeA rfl rfl rfl rfl rfl (fun _ _=>rfl) rfl ?_
  refine zaM (k:=3) (l':=[zI 0]) zeA rfl rfl rfl rfl rfl (fun _ _=>rfl) rfl ?_
  refine zyN (cut (zyG (zam (k:=1) zou rfl dc rfl rfl rfl ?_)))
  obtain ⟨r1,hq1,h⟩:=zbw h
  refine zdu (vs:=[.string s1]) rfl dc rfl rfl rfl zwz (zhC hq1) Splits.nil ?_
  rintro b5
  refine zyN (zaC ?_)
  obtain ⟨its1,hq2,h⟩:=zbw h
  obtain ⟨dn1,hdn1,h⟩:=zbF h
  refine znk (α:=Gapi_Cell) (β:=Int×Int) (γ:=Unit) (δ:=Nat) (ps:=[8]) Ro.nil rfl zws (zgp hq2) (fun pre b=>∀ post,its1=pre++post→zcu dn1 (zcE s1) post b.1 b.2=some r) (fun pre b=>[cells b2 [.string s1] 9,cells b3 [zI b.1] 3,cells b4 [zI b.2] 3]) (fun c pre g=>False) (fun c pre g=>[]) (fun pre x b j=>[(1,zP b2),(2,zI 0),(3,zP b3),(4,zP b4),(7,.func (.func 33) #[] #[zP b5]),(5,zP j)]) (fun pre x b j=>[cells b2 [.string s1] 9,cells b3 [zI b.1] 3,cells b4 [zI b.2] 3,cells j (zr1 x) 40]) (0,0) (fun post e=>by rw [List.nil_append] at e; subst e; exact h) (zad [1,2,3] kr rfl) ⟨.inl ⟨4,rfl⟩,trivial⟩ (fun _=>rfl) dc ?_ ?_ ?_ ?_
  ·
   rintro lp rc pre x1 post ⟨n4,all3⟩ w1 K1 hxs1 hext hro hinv
   refine zat ?_
   refine zbc zsA rfl dc (fun b6 => ?_)
   refine za0 (k:=3) (vs:=(zr1 x1)) (l':=(zr1 x1)) zmB rfl rfl rfl rfl rfl (show _≤_ by simp) rfl rfl ?_
   refine zaQ ?_
   exact fun a w ha hw=>⟨b6,(za5 rfl) _ _ _ ha,hw.weaken (zad [0,1,2,3] kr rfl)⟩
  ·
   rintro lp rc pre x1 post1 ⟨n4,all3⟩ jb1 w1 K1 hxs1 hext hro hinv
   have h:=hinv (x1::post1) hxs1
   obtain ⟨ag1,hag1⟩:∃ ag,ag=zcu dn1 (zcE s1) post1:=⟨_,rfl⟩
   have h:zcE s1 x1 ag1 n4 all3=some r:=by rw [hag1]; exact h
   unfold zcE at h
   refine zaC (zyG (zam (k:=2) zbr rfl dc rfl rfl rfl (zab zgU rfl dc rfl (show _=2 from rfl) (zam (k:=3) zbr rfl dc rfl rfl rfl ?_))))
   obtain ⟨hg1,h⟩:=zbn h
   refine zaW rfl (zaX (r:=all3+x1.Columns) (IntWalk.i64_in _ hg1)) ?_
   refine zaM (k:=2) (l':=[zI (all3+x1.Columns)]) zeA rfl rfl rfl rfl rfl (fun _ _=>rfl) rfl ?_
   refine zyH (zab zfP rfl dc rfl (show _=0 from rfl) (zab zdY rfl dc rfl (show _=1 from rfl) (zam (k:=3) zbr rfl dc rfl rfl rfl (zab zfP rfl dc rfl (show _=0 from rfl) (zab zdc rfl dc rfl (show _=0 from rfl) (zam (k:=3) zbr rfl dc rfl rfl rfl ?_))))))
   obtain ⟨hg2,h⟩:=zbn h
   refine zaW rfl (zaX (r:=x1.Span_From+1) (IntWalk.i64_in _ hg2)) (zaW rfl zaT (zyR 1 rfl ?_))
   refine zyS (s:=21) rfl h (fun h => ?_) (fun h => ?_)
   ·
    refine zam (k:=0) zou rfl dc rfl rfl rfl (zab zfP rfl dc rfl (show _=0 from rfl) (zab zdc rfl dc rfl (show _=0 from rfl) (zam (k:=3) zbr rfl dc rfl rfl rfl ?_)))
    obtain ⟨c1,hq3,h⟩:=zbw h
    refine zcG rfl dc rfl rfl (zbh Tryz.underlying9 hq3) (zaW rfl zaT (zyR 1 rfl (zd2 rfl dc rfl zcB (zyN ?_))))
    refine zyB rfl h (fun h => ?_) (fun h => ?_)
    ·
     refine zat (zam (k:=2) zbr rfl dc rfl rfl rfl ?_)
     refine zaM (k:=1) (l':=[zI (all3+x1.Columns)]) zeA rfl rfl rfl rfl rfl (fun _ _=>rfl) rfl ?_
     refine zaQ (zag ?_)
     exact zeV (all3+x1.Columns,all3+x1.Columns) (fun post2 e2=>by have e9:=zd7 hxs1 e2; subst e9; subst hag1; exact h) (zad [0,1,2] kr rfl)
    refine zas (zag ?_)
    exact zeV (n4,all3+x1.Columns) (fun post2 e2=>by have e9:=zd7 hxs1 e2; subst e9; subst hag1; exact h) (zad [0,1,2] kr rfl)
   refine zyR 7 rfl (zd2 rfl dc rfl zcB (zyN (za9 rfl (zat (zam (k:=2) zbr rfl dc rfl rfl rfl ?_)))))
   refine zaM (k:=1) (l':=[zI (all3+x1.Columns)]) zeA rfl rfl rfl rfl rfl (fun _ _=>rfl) rfl ?_
   refine zaQ (zag ?_)
   exact zeV (all3+x1.Columns,all3+x1.Columns) (fun post2 e2=>by have e9:=zd7 hxs1 e2; subst e9; subst hag1; exact h) (zad [0,1,2] kr rfl)
  ·
   rintro dm1 ⟨n4,all3⟩ hinv
   have h:dn1 n4 all3=some r:=hinv [] (List.append_nil _).symm
   rw [hdn1] at h
   refine zfw (k:=8) (j:=0) rfl rfl dc ?_
   refine zag ?_
   exact zai (n4,b3,dm1::([]:List Nat)) h rfl (za5 rfl) (zad [6,0] kr rfl)
  rintro dm1 c pre x1 post g hxs hX
  exact (show False from hX).elim
 rintro ⟨n1,b1,ds1⟩ h
 rw [hj1] at h
 refine zyG (zam (k:=0) zbr rfl dc rfl rfl rfl (zyR 1 rfl (zyN (zaE ?_))))
 cases h
 exact zfx (rs:=[.tmp 2]) ds1 () (.inl rfl) (zbW (k:=1) rfl) Tryz.results61 (.cons (.tmp rfl) .nil) rfl Splits.nil
def zbg (b1:Gpage_Book) (x1:Int×Gapi_Row) (ag1:ByteArray→Int→Option ByteArray) (out4:ByteArray) (last3:Int):Option ByteArray :=
zbi (fun (j2:ByteArray→Int→Option ByteArray) =>
zaw ((x1.1:Int) != last3) (
grd (out4.size+1≤140737488355328∧U8 12) <|
j2 (out4++zc0 [12]) x1.1
) (
j2 out4 last3
)
) (fun (out5:ByteArray) (last4:Int) =>
zbi (fun (j3:ByteArray→Option ByteArray) =>
zaw (decide ((0:Int)≤x1.2.Line)) (
grd (x1.2.Text.size≤9223372036854775807) <|
grd (0≤x1.2.Indent∧x1.2.Indent≤140737488355328) <|
grd ((zbd x1.2.Indent).size+(zdm x1.2.Text).size≤9223372036854775807) <|
grd (out5.size+((zbd x1.2.Indent)++(zdm x1.2.Text)).size≤140737488355328) <|
zaw (decide ((0:Int)<x1.2.Number)) (
grd (I64 (b1.layout_Width - x1.2.Indent)) <|
zal (zek x1.2.Text) fun (r2:Int) =>
grd (I64 ((b1.layout_Width - x1.2.Indent) - r2)) <|
grd (I64 ((max 0 ((b1.layout_Width - x1.2.Indent) - r2))+2)) <|
grd (0≤((max 0 ((b1.layout_Width - x1.2.Indent) - r2))+2)∧((max 0 ((b1.layout_Width - x1.2.Indent) - r2))+2)≤140737488355328) <|
zal (zei x1.2.Number) fun (r3:ByteArray) =>
grd ((zbd ((max 0 ((b1.layout_Width - x1.2.Indent) - r2))+2)).size+r3.size≤9223372036854775807) <|
grd ((out5++((zbd x1.2.Indent)++(zdm x1.2.Text))).size+((zbd ((max 0 ((b1.layout_Width - x1.2.Indent) - r2))+2))++r3).size≤140737488355328) <|
j3 ((out5++((zbd x1.2.Indent)++(zdm x1.2.Text)))++((zbd ((max 0 ((b1.layout_Width - x1.2.Indent) - r2))+2))++r3))
) (
j3 (out5++((zbd x1.2.Indent)++(zdm x1.2.Text)))
)
) (
j3 out5
)
) (fun (out6:ByteArray) =>
grd (out6.size+1≤140737488355328∧U8 10) <|
ag1 (out6++zc0 [10]) last4
)
)
def zdl (b1:Gpage_Book):Option ByteArray :=
zbi (fun (j1:ByteArray→Option ByteArray) =>
zal (zed b1) fun (r1:Unit) =>
zal (zdF b1) fun (its1:(List (Int×Gapi_Row))) =>
zbi (fun (dn1:ByteArray→Int→Option ByteArray) =>
zcu dn1 (zbg b1) its1 (⟨#[]⟩:ByteArray) 0
) (fun (out4:ByteArray) (last3:Int) =>
j1 out4
)
) (fun (out1:ByteArray) =>
some out1
)
theorem ziE {bb1:Nat} {b1:Gpage_Book} {b1_h0:Hd} {r:ByteArray} (h:zdl b1=some r):FnR Tryz.prog 27 [zP bb1] [cells bb1 [zI b1.layout_Width,zI b1.layout_Height,zI b1.layout_Turn,zI b1.layout_Every,b1_h0.v,zI b1.cost] 81,zfM zaD zaP 43 1 b1_h0.v b1.pages] [] (fun _:Unit=>(.string r)) (fun _=>[]):=by
 unfold zdl at h
 refine FnR.intro Tryz.func27 rfl Tryz.ntmps27 (by simp) ?_
 intro w0 K hrd
 refine zhQ ?_
 obtain ⟨j1,hj1,h⟩:=zbF h
 refine za1 (β:=ByteArray×Nat×(List Nat)) 3 rfl (fun b=>j1 b.1=some r) (fun b=>zd4 b.2.2) (fun b=>[(3,zP b.2.1)]) (fun b=>[zqA b.2.1 b.1,zhe ((b.2.2:List Nat).map zi7)]) (fun cut => ?_) ?_
 ·
  refine zyG ?_
  refine zdQ rfl dc rfl (fun b3 => ?_)
  refine zyR 1 rfl (zyH ?_)
  refine zbc zvt rfl dc (fun b4 => ?_)
  refine zso (k:=2) rfl zqw ?_
  refine zyH ?_
  refine zbc zt6 rfl dc (fun b5 => ?_)
  refine zaM (k:=3) (l':=[zI 0]) zeA rfl rfl rfl rfl rfl (fun _ _=>rfl) rfl ?_
  refine zyN (cut (zyG (zam (k:=1) zsN rfl dc rfl rfl rfl ?_)))
  obtain ⟨r1,hq1,h⟩:=zbw h
  refine zfY (vs:=[zP bb1]) hrd rfl dc rfl rfl rfl zwD (zgE (bb1:=bb1) (b1:=b1) (b1_h0:=b1_h0) hq1) Splits.nil (.ro 0 rfl (.ro 1 rfl .nil)) ?_
  rintro b6
  refine zdA (L':=[zhe ((([]:List Nat):List Nat).map zi7),cells b3 [zP bb1] 25,zqA b4 (⟨#[]⟩:ByteArray),cells b5 [zI 0] 3,cells b6 [zP bb1] 25]) (zad [0,1,2,3,4] kr rfl) (zyN (zaC ?_))
  obtain ⟨its1,hq2,h⟩:=zbw h
  obtain ⟨dn1,hdn1,h⟩:=zbF h
  refine zlu (α:=Int×Gapi_Row) (β:=ByteArray×Int) (γ:=Unit) (δ:=Nat) (ps:=[11,12]) hrd Ro.nil rfl zwt (zfQ hq2) (fun pre b=>∀ post,its1=pre++post→zcu dn1 (zbg b1) post b.1 b.2=some r) (fun pre b=>[cells b3 [zP bb1] 25,zqA b4 b.1,cells b5 [zI b.2] 3]) (fun c pre g=>False) (fun c pre g=>[]) (fun pre x b j=>[(1,zP b3),(2,.string (⟨#[]⟩:ByteArray)),(3,zP b4),(4,zP b5),(10,.func (.func 32) #[] #[zP b6]),(5,zI x.1),(6,zP j)]) (fun pre x b j=>[cells b3 [zP bb1] 25,zqA b4 b.1,cells b5 [zI b.2] 3,cells j (zr2 x.2) 33]) ((⟨#[]⟩:ByteArray),0) (fun post e=>by rw [List.nil_append] at e; subst e; exact h) (zad [1,2,3] kr rfl) (.own (As:=[cells b6 [zP bb1] 25]) (zad [4] (by kernel_rfl) rfl) (fun _ _ h=>sepL.one1.1 h) (.ro 0 rfl (.ro 1 rfl .nil))) (fun _=>rfl) dc ?_ ?_ ?_ ?_
  ·
   rintro lp rc pre x1 post ⟨out4,last3⟩ w1 K1 hxs1 hext hro hinv
   have hrd:=hrd.ext hext
   refine zyG (zyR 1 rfl (zyN (zat ?_)))
   refine zbc zpS rfl dc (fun b7 => ?_)
   refine za0 (k:=3) (vs:=(zr2 x1.2)) (l':=(zr2 x1.2)) zhj rfl rfl rfl rfl rfl (show _≤_ by simp) rfl rfl ?_
   refine zaQ ?_
   exact fun a w ha hw=>⟨b7,(za5 rfl) _ _ _ ha,hw.weaken (zad [0,1,2,3] kr rfl)⟩
  ·
   rintro lp rc pre x1 post1 ⟨out4,last3⟩ jb1 w1 K1 hxs1 hext hro hinv
   have hrd:=hrd.ext hext
   have h:=hinv (x1::post1) hxs1
   obtain ⟨ag1,hag1⟩:∃ ag,ag=zcu dn1 (zbg b1) post1:=⟨_,rfl⟩
   have h:zbg b1 x1 ag1 out4 last3=some r:=by rw [hag1]; exact h
   unfold zbg at h
   refine zaC ?_
   obtain ⟨j2,hj2,h⟩:=zbF h
   refine za1 (β:=ByteArray×Int) 0 rfl (fun b=>j2 b.1 b.2=some r) (fun b=>[]) (fun b=>[(1,zP b3),(2,.string (⟨#[]⟩:ByteArray)),(3,zP b4),(4,zP b5),(6,zP jb1),(10,.func (.func 32) #[] #[zP b6])]) (fun b=>[cells b3 [zP bb1] 25,zqA b4 b.1,cells b5 [zI b.2] 3,cells jb1 (zr2 x1.2) 33]) (fun cut => ?_) ?_
   ·
    refine cut (zyG (zyR 1 rfl (zam (k:=2) zbr rfl dc rfl rfl rfl (zaW rfl zcc (zyN ?_)))))
    refine zyB rfl h (fun h => ?_) (fun h => ?_)
    ·
     refine zyG ?_
     obtain ⟨hg1,h⟩:=zbn h
     refine zdu (vs:=[zP b4,.int .u8 12]) rfl dc rfl rfl rfl zwo (zo7 b4 out4 12 hg1) (zad [1] kr rfl) ?_
     rintro u1
     refine zyN (zat (zyR 1 rfl ?_))
     refine zaM (k:=2) (l':=[zI x1.1]) zeA rfl rfl rfl rfl rfl (fun _ _=>rfl) rfl ?_
     refine zaQ ?_
     exact zai (out4++zc0 [12],x1.1) h rfl (za5 rfl) (zad [0,4,2,3] kr rfl)
    refine zas ?_
    exact zai (out4,last3) h rfl (za5 rfl) (zad [0,1,2,3] kr rfl)
   rintro ⟨out5,last4⟩ h
   rw [hj2] at h
   obtain ⟨j3,hj3,h⟩:=zbF h
   refine za1 (β:=ByteArray) 0 rfl (fun b=>j3 b=some r) (fun b=>[]) (fun b=>[(1,zP b3),(2,.string (⟨#[]⟩:ByteArray)),(3,zP b4),(4,zP b5),(10,.func (.func 32) #[] #[zP b6])]) (fun b=>[cells b3 [zP bb1] 25,zqA b4 b,cells b5 [zI last4] 3]) (fun cut => ?_) ?_
   ·
    refine cut (zyG (zab zie rfl dc rfl (show _=0 from rfl) (zam (k:=3) zbr rfl dc rfl rfl rfl (zaW rfl zeq (zyN ?_)))))
    refine zyB rfl h (fun h => ?_) (fun h => ?_)
    ·
     refine zyG (zab zk4 rfl dc rfl (show _=5 from rfl) (zam (k:=3) zou rfl dc rfl rfl rfl ?_))
     obtain ⟨hg2,h⟩:=zbn h
     refine zbe (v:=.string (zdm x1.2.Text)) (vs:=[.string x1.2.Text,.string (⟨#[32]⟩:ByteArray)]) rfl dc rfl rfl rfl zxO (zua x1.2.Text hg2) (zyR 1 rfl (zyH (zab zk6 rfl dc rfl (show _=3 from rfl) (zam (k:=3) zbr rfl dc rfl rfl rfl ?_))))
     obtain ⟨hg3,h⟩:=zbn h
     refine zbe (v:=.string (zbd x1.2.Indent)) (vs:=[.string (⟨#[32]⟩:ByteArray),zI x1.2.Indent]) rfl dc rfl rfl rfl zwp (zpf x1.2.Indent hg3) (zyR 1 rfl ?_)
     obtain ⟨hg4,h⟩:=zbn h
     refine zaW rfl (zfW hg4) ?_
     obtain ⟨hg5,h⟩:=zbn h
     refine zdu (vs:=[zP b4,.string ((zbd x1.2.Indent)++(zdm x1.2.Text))]) rfl dc rfl rfl rfl zwn (zqG b4 out5 ((zbd x1.2.Indent)++(zdm x1.2.Text)) hg5) (zad [1] kr rfl) ?_
     rintro u2
     refine zyH (zab zk5 rfl dc rfl (show _=4 from rfl) (zam (k:=3) zbr rfl dc rfl rfl rfl (zaW rfl zcK (zyN ?_))))
     refine zyB rfl h (fun h => ?_) (fun h => ?_)
     ·
      refine zaJ ?_
      obtain ⟨hg6,h⟩:=zbn h
      obtain ⟨r2,hq3,h⟩:=zbw h
      obtain ⟨hg7,h⟩:=zbn h
      refine zbK 11 [(0,33,zP bb1),(1,34,zP bb1),(2,35,zP bb1),(3,36,zP bb1),(4,37,zI b1.layout_Width),(5,38,.pointer (some ⟨jb1,3,none⟩)),(6,39,zI x1.2.Indent),(7,40,zI (b1.layout_Width - x1.2.Indent)),(8,41,.pointer (some ⟨jb1,5,none⟩)),(9,42,.string x1.2.Text),(10,43,zI r2)] mixed kr kr dc (by rfl) kr kr (zae ?_ (zae ?_ (zae ?_ (zae ?_ (zae ?_ (zae ?_ (zae ?_ (zae ?_ (zae ?_ (zae ?_ (zae ?_ DrawPre.nil))))))))))) ?_
      · exact fun D n d c u i=>zam (k:=0) zsN rfl dc (za4 (by rfl) rfl) rfl rfl (zaf 0 u i rfl)
      · exact fun D n d c u i=>zay rfl dc (zaa (m:=0) u rfl (d 0 dc)) (zaf 1 u i rfl)
      · exact fun D n d c u i=>zab zuH rfl dc (zaa (m:=1) u rfl (d 1 dc)) (show _=0 from rfl) (zaf 2 u i rfl)
      · exact fun D n d c u i=>zab zhw rfl dc (zaa (m:=2) u rfl (d 2 dc)) (show _=0 from rfl) (zaf 3 u i rfl)
      · exact fun D n d c u i=>zbk (i:=0) hrd rfl zbr rfl dc (zaa (m:=3) u rfl (d 3 dc)) rfl (zaf 4 u i rfl)
      · exact fun D n d c u i=>zab zk6 rfl dc (za4 (by rfl) rfl) (show _=3 from rfl) (zaf 5 u i rfl)
      · exact fun D n d c u i=>zam (k:=3) zbr rfl dc (zaa (m:=5) u rfl (d 5 dc)) rfl rfl (zaf 6 u i rfl)
      · exact fun D n d c u i=>zb9 rfl dc (zaa (m:=4) u rfl (d 4 dc)) (zaa (m:=6) u rfl (d 6 dc)) (zbG (r:=b1.layout_Width - x1.2.Indent) (IntWalk.i64_in _ hg6)) (zaf 7 u i rfl)
      · exact fun D n d c u i=>zab zk4 rfl dc (za4 (by rfl) rfl) (show _=5 from rfl) (zaf 8 u i rfl)
      · exact fun D n d c u i=>zam (k:=3) zou rfl dc (zaa (m:=8) u rfl (d 8 dc)) rfl rfl (zaf 9 u i rfl)
      · exact fun D n d c u i=>zbe (v:=zI r2) (vs:=[.string x1.2.Text]) rfl dc rfl (evL.cons (zaa (m:=9) u rfl (d 9 dc)) evL.nil) rfl zxN (zkL hq3) (zaf 10 u i rfl)
      refine zaW rfl (zbG (r:=(b1.layout_Width - x1.2.Indent) - r2) (IntWalk.i64_in _ hg7)) (zjB rfl dc rfl rfl (zyR 1 rfl (zyN ?_)))
      obtain ⟨hg8,h⟩:=zbn h
      obtain ⟨hg9,h⟩:=zbn h
      obtain ⟨r3,hq4,h⟩:=zbw h
      obtain ⟨hg10,h⟩:=zbn h
      obtain ⟨hg11,h⟩:=zbn h
      refine zbK 5 [(0,46,zI (max 0 ((b1.layout_Width - x1.2.Indent) - r2))),(1,47,zI ((max 0 ((b1.layout_Width - x1.2.Indent) - r2))+2)),(2,48,.string (zbd ((max 0 ((b1.layout_Width - x1.2.Indent) - r2))+2))),(3,49,.pointer (some ⟨jb1,4,none⟩)),(4,50,zI x1.2.Number)] mixed kr kr dc (by rfl) kr kr (zyP 1 0 rfl (zae ?_ (zae ?_ (zae ?_ (zae ?_ DrawPre.nil))))) ?_
      · exact fun D n d c u i=>zb9 rfl dc (zaa (m:=0) u rfl (d 0 dc)) rfl (zaX (r:=(max 0 ((b1.layout_Width - x1.2.Indent) - r2))+2) (IntWalk.i64_in _ hg8)) (zaf 1 u i rfl)
      · exact fun D n d c u i=>zbe (v:=.string (zbd ((max 0 ((b1.layout_Width - x1.2.Indent) - r2))+2))) (vs:=[.string (⟨#[32]⟩:ByteArray),zI ((max 0 ((b1.layout_Width - x1.2.Indent) - r2))+2)]) rfl dc rfl (evL.cons rfl (evL.cons (zaa (m:=1) u rfl (d 1 dc)) evL.nil)) rfl zwp (zpf ((max 0 ((b1.layout_Width - x1.2.Indent) - r2))+2) hg9) (zaf 2 u i rfl)
      · exact fun D n d c u i=>zab zk5 rfl dc (za4 (by rfl) rfl) (show _=4 from rfl) (zaf 3 u i rfl)
      · exact fun D n d c u i=>zam (k:=3) zbr rfl dc (zaa (m:=3) u rfl (d 3 dc)) rfl rfl (zaf 4 u i rfl)
      refine zbe (v:=.string r3) (vs:=[zI x1.2.Number]) rfl dc rfl rfl rfl zxM (zkv hq4) (zaW rfl (zfW hg10) (zdu (vs:=[zP b4,.string ((zbd ((max 0 ((b1.layout_Width - x1.2.Indent) - r2))+2))++r3)]) rfl dc rfl rfl rfl zwn (zqG b4 (out5++((zbd x1.2.Indent)++(zdm x1.2.Text))) ((zbd ((max 0 ((b1.layout_Width - x1.2.Indent) - r2))+2))++r3) hg11) (zad [4] kr rfl) ?_))
      rintro u3
      refine zaQ ?_
      exact zai ((out5++((zbd x1.2.Indent)++(zdm x1.2.Text)))++((zbd ((max 0 ((b1.layout_Width - x1.2.Indent) - r2))+2))++r3)) h rfl (za5 rfl) (zad [0,5,2] kr rfl)
     refine zas ?_
     exact zai (out5++((zbd x1.2.Indent)++(zdm x1.2.Text))) h rfl (za5 rfl) (zad [0,4,2] kr rfl)
    refine zas ?_
    exact zai out5 h rfl (za5 rfl) (zad [0,1,2] kr rfl)
   rintro out6 h
   rw [hj3] at h
   refine zat ?_
   obtain ⟨hg12,h⟩:=zbn h
   refine zdu (vs:=[zP b4,.int .u8 10]) rfl dc rfl rfl rfl zwo (zo7 b4 out6 10 hg12) (zad [1] kr rfl) ?_
   rintro u4
   refine zaQ (zag ?_)
   exact zeV (out6++zc0 [10],last4) (fun post2 e2=>by have e9:=zd7 hxs1 e2; subst e9; subst hag1; exact h) (zad [0,3,2] kr rfl)
  ·
   rintro dm1 ⟨out4,last3⟩ hinv
   have h:dn1 out4 last3=some r:=hinv [] (List.append_nil _).symm
   rw [hdn1] at h
   refine zfw (k:=8) (j:=0) rfl rfl dc ?_
   refine zag ?_
   exact zai (out4,b4,dm1::([]:List Nat)) h rfl (za5 rfl) (zad [6,0] kr rfl)
  rintro dm1 c pre x1 post g hxs hX
  exact (show False from hX).elim
 rintro ⟨out1,b2,ds1⟩ h
 rw [hj1] at h
 refine zyG (zdu (vs:=[zP b2]) rfl dc rfl rfl rfl zxL (zuY b2 out1) (zad [0] kr rfl) ?_)
 rintro _
 refine zyR 1 rfl (zyN (zaE ?_))
 cases h
 exact zfx (rs:=[.tmp 2]) ds1 () (.inl rfl) (zbW (k:=1) rfl) Tryz.results27 (.cons (.tmp rfl) .nil) rfl Splits.nil
end Go.Proofs.YtbempdelckaccaaGreatDoor

namespace Go.Proofs.YtbempdelckaccaaGreatDoor
open Go.RowKit Go.Lib
set_option linter.unusedVariables false
set_option linter.unusedSimpArgs false
def k3 (v:Gapi_Verse):ByteArray×Int×Int:=(v.Text,v.Indent,v.Stanza)
instance {a b:List (ByteArray×Int×Int)}:Decidable (a=b):=inferInstance
end Go.Proofs.YtbempdelckaccaaGreatDoor

namespace Go.Proofs.YtbempdelckaccaaGreatDoor
open Go.RowKit Go.Lib
set_option linter.unusedVariables false
set_option linter.unusedSimpArgs false
end Go.Proofs.YtbempdelckaccaaGreatDoor

namespace Go.Proofs.YtbempdelckaccaaGreatDoor
open Go.RowKit Go.Lib
set_option linter.unusedVariables false
set_option linter.unusedSimpArgs false
end Go.Proofs.YtbempdelckaccaaGreatDoor

namespace Go.Proofs.YtbempdelckaccaaGreatDoor
open Go.RowKit Go.Lib
set_option linter.unusedVariables false
set_option linter.unusedSimpArgs false
end Go.Proofs.YtbempdelckaccaaGreatDoor

namespace Go.Proofs.YtbempdelckaccaaGreatDoor
open Go.RowKit Go.Lib
set_option linter.unusedVariables false
set_option linter.unusedSimpArgs false
end Go.Proofs.YtbempdelckaccaaGreatDoor

namespace Go.Proofs.YtbempdelckaccaaGreatDoor
open Go.RowKit Go.Lib
set_option linter.unusedVariables false
set_option linter.unusedSimpArgs false
def zfm:Nat→List (List Gapi_Row)→List (Int×Gapi_Row)
 | _,[]=>[]
 | k,pg::ps=>pg.map (fun r=>((k:Int),r))++zfm (k+1) ps
theorem zn1:∀ (ps:List (List Gapi_Row)) (k:Nat),(zfm k ps).map Prod.snd=ps.flatten
 | [],k=>rfl
 | pg::ps,k=>by
  show (pg.map _++zfm (k+1) ps).map Prod.snd=_
  rw [List.map_append,zn1 ps (k+1),List.map_map,List.flatten_cons]
  congr 1
  exact List.map_id _
theorem zti (k:Int) (pg:List Gapi_Row) (hpg:pg.length≤1000000) (X:List (Int×Gapi_Row)) (j:Option (List (Int×Gapi_Row))) (hj:j=some X):∀ (d i m:Nat),i+d=pg.length→d<m→zaF (fun _=>none) (zbY k j pg) m (i:Int)=some ((pg.drop i).map (fun r=>(k,r))++X):=by
 intro d
 induction d with
 | zero =>
  intro i m hi hm
  obtain ⟨m,rfl⟩:∃ q,m=q+1:=⟨m - 1,by omega⟩
  rw [zcJ]
  unfold zbY
  refine zaz (decide_eq_false (by omega)) ?_
  rw [List.drop_of_length_le (by omega),hj]; rfl
 | succ d ih =>
  intro i m hi hm
  obtain ⟨m,rfl⟩:∃ q,m=q+1:=⟨m - 1,by omega⟩
  rw [zcJ]
  have ih':=ih (i+1) m (by omega) (by omega)
  rw [show ((i+1:Nat):Int)=(i:Int)+1 by omega] at ih'
  generalize zaF (fun _=>none) (zbY k j pg) m=ag at ih' ⊢
  have hv:pg[i]?=some pg[i]:=List.getElem?_eq_getElem (by omega)
  unfold zbY
  refine zaB (decide_eq_true (by omega)) (zaO (zc4 hv) ?_)
  rw [zoO (show I64 ((i:Int)+1) from ⟨by omega,by omega⟩),ih',List.drop_eq_getElem_cons (show i<pg.length by omega)]
  rfl
theorem zsg (b:Gpage_Book) (hp:b.pages.length≤1000000) (hpg:∀ pg∈b.pages,pg.length≤1000000):∀ (d i m:Nat),i+d=b.pages.length→d<m→zaF (fun _=>none) (zbZ b) m (i:Int)=some (zfm i (b.pages.drop i)):=by
 intro d
 induction d with
 | zero =>
  intro i m hi hm
  obtain ⟨m,rfl⟩:∃ q,m=q+1:=⟨m - 1,by omega⟩
  rw [zcJ]
  unfold zbZ
  refine zaz (decide_eq_false (by omega)) ?_
  rw [List.drop_of_length_le (by omega)]; rfl
 | succ d ih =>
  intro i m hi hm
  obtain ⟨m,rfl⟩:∃ q,m=q+1:=⟨m - 1,by omega⟩
  rw [zcJ]
  have ih':=ih (i+1) m (by omega) (by omega)
  rw [show ((i+1:Nat):Int)=(i:Int)+1 by omega] at ih'
  generalize zaF (fun _=>none) (zbZ b) m=ag at ih' ⊢
  have hv:b.pages[i]?=some b.pages[i]:=List.getElem?_eq_getElem (by omega)
  have hl:=hpg _ (List.mem_of_getElem? hv)
  unfold zbZ
  refine zaB (decide_eq_true (by omega)) (zby (zaO (zc4 hv) ?_))
  have hin:=zti (i:Int) b.pages[i] hl _ (grd (I64 ((i:Int)+1))<|ag ((i:Int)+1)) (by rw [zoO (show I64 ((i:Int)+1) from ⟨by omega,by omega⟩),ih']) b.pages[i].length 0 zbT (by omega) (zcm (by omega))
  refine hin.trans ?_
  rw [List.drop_zero,List.drop_eq_getElem_cons (show i<b.pages.length by omega)]
  rfl
theorem zsf (b:Gpage_Book) (hp:b.pages.length≤1000000) (hpg:∀ pg∈b.pages,pg.length≤1000000):zdF b=some (zfm 0 b.pages):=by
 have:=zsg b hp hpg b.pages.length 0 zbT (by omega) (zcm (by omega))
 rwa [List.drop_zero] at this
def nb (r:Gapi_Row):Bool:=r.Line != -1
def zyL (a r:Gapi_Row) (first:Bool):Bool :=
 if first then decide (r.Line=0)&&(decide (r.Stanza=0)&&decide (r.Part=0))
 else if r.Line=a.Line then decide (r.Stanza=a.Stanza)&&decide (r.Part=a.Part+1)
 else decide (r.Line=a.Line+1)&&(decide (r.Part=0)&&(decide (r.Stanza=a.Stanza)||decide (r.Stanza=a.Stanza+1)))
structure Sml (a:Gapi_Row):Prop where
 l:0≤a.Line∧a.Line≤1000000
 s:0≤a.Stanza∧a.Stanza≤1000000
 p:0≤a.Part∧a.Part≤1000000
abbrev StB:Type:=List (List ByteArray)×Gapi_Row
structure NewR (S:List (List ByteArray)) (a r:Gapi_Row):Prop where
 sm:Sml a
 fo:zyL a r (((S.length:Int):Int)==0)=true
 ln:r.Line≠-1
 pt:r.Part=0
 i:0≤r.Indent∧r.Indent≤1024
 sp:zdn r.Text (⟨#[32]⟩:ByteArray)=some false
 sz:r.Text.size≤1024
inductive Bk:List (List ByteArray)→Gapi_Row→List Gapi_Row→List (List ByteArray)→Gapi_Row→Prop
 | nil {S a}:Bk S a [] S a
 | skip {S a r rs S' a'} (h:r.Line=-1) (hr:Bk S a rs S' a'):Bk S a (r::rs) S' a'
 | new1 {S a r rs S' a'} (h:NewR S a r) (hs:r.Stanza=(S.length:Int)) (hl:S.length≤1000000) (hr:Bk (S++[[zbd r.Indent++r.Text]]) r rs S' a'):Bk S a (r::rs) S' a'
 | new2 {P y a r rs S' a'} (h:NewR (P++[y]) a r) (hs:r.Stanza=(P.length:Int)) (hl:P.length≤1000000) (hy:y.length≤1000000) (hr:Bk (P++[y++[zbd r.Indent++r.Text]]) r rs S' a'):Bk (P++[y]) a (r::rs) S' a'
 | cont {P y c a r rs S' a'} (hs:r.Stanza=(P.length:Int)) (hl:P.length≤1000000) (hy:y.length≤1000000) (sm:Sml a) (e1:r.Line=a.Line) (e2:r.Stanza=a.Stanza) (e3:r.Part=a.Part+1) (hc:c.size≤1000000) (ht:r.Text.size≤1000000)
   (hr:Bk (P++[y++[c++r.Text]]) r rs S' a'):Bk (P++[y++[c]]) a (r::rs) S' a'
theorem Bk.app {S a rs S' a'} (h:Bk S a rs S' a') {rs2 S2 a2} (h2:Bk S' a' rs2 S2 a2):Bk S a (rs++rs2) S2 a2:=by
 induction h with
 | nil=>exact h2
 | skip h hr ih=>exact .skip h (ih h2)
 | new1 h hs hl hr ih=>exact .new1 h hs hl (ih h2)
 | new2 h hs hl hy hr ih=>exact .new2 h hs hl hy (ih h2)
 | cont hs hl hy sm e1 e2 e3 hc ht hr ih=>exact .cont hs hl hy sm e1 e2 e3 hc ht (ih h2)
theorem Bk.blanks {B:List Gapi_Row}:∀ {S a S' a'},Bk S a (B.filter nb) S' a'→Bk S a B S' a':=by
 induction B with
 | nil=>intro S a S' a' h; exact h
 | cons r B ih =>
  intro S a S' a' h
  cases hb:nb r with
  | false =>
   rw [List.filter_cons_of_neg (by rw [hb]; decide)] at h
   have:r.Line=-1:=by unfold nb at hb; simpa using hb
   exact .skip this (ih h)
  | true =>
   rw [List.filter_cons_of_pos hb] at h
   cases h with
   | skip h hr=>exact .skip h (ih hr)
   | new1 h hs hl hr=>exact .new1 h hs hl (ih hr)
   | new2 h hs hl hy hr=>exact .new2 h hs hl hy (ih hr)
   | cont hs hl hy sm e1 e2 e3 hc ht hr=>exact .cont hs hl hy sm e1 e2 e3 hc ht (ih hr)
theorem zhl (n:Int) (h:0≤n∧n≤1024):(zbd n).size≤1024:=by
 unfold zbd
 have:(Lib.repeatL [32] n.toNat:List UInt8).length=n.toNat:=by rw [zh5,List.length_replicate]
 show ((Lib.repeatL [32] n.toNat:List UInt8).toArray).size≤1024
 rw [List.size_toArray,this]; omega
theorem zph:∀ ts:List ByteArray,(ztW ts).size=zvK ts
 | []=>rfl
 | t::ts=>by
  show (t++ztW ts).size=t.size+zvK ts
  rw [ByteArray.size_append,zph ts]
structure BInv (k:Int) (S:List (List ByteArray)) (a:Gapi_Row):Prop where
 sm:Sml a
 hd:(S.length=0∧k=0)∨(a.Line=k - 1∧a.Stanza=(S.length:Int) - 1∧0<S.length)
section
variable {l:Gapi_Layout} (hm:zj9 l=true)
include hm
end
theorem zpp {R:Nat→Nat→Bool} {rows:List Gapi_Row}:∀ (ts:List Nat) (f:Nat),zqv R rows.length f ts→f≤rows.length→ts.length+f≤rows.length∧(zgD rows f ts).flatten.length+2*f≤2*rows.length∧∀ pg∈zgD rows f ts,pg.length≤2*rows.length
 | [],f,h,hf=>by
  have:f=rows.length:=h
  refine ⟨by simp; omega,by show 0+2*f≤_; omega,fun pg hpg => ?_⟩
  cases hpg
 | t::ts,f,h,hf=>by
  obtain ⟨h1,h2,_,h3⟩:=h
  obtain ⟨i1,i2,i3⟩:=zpp ts t h3 h2
  have hp:=zoH ((rows.drop f).take (t - f)) none
  have hl:((rows.drop f).take (t - f)).length=t - f:=by rw [List.length_take,List.length_drop]; omega
  rw [hl] at hp
  refine ⟨by rw [List.length_cons]; omega,?_,fun pg hpg => ?_⟩
  ·show ((pgL none ((rows.drop f).take (t - f))::zgD rows t ts).flatten).length+_≤_
   rw [List.flatten_cons,List.length_append]; omega
  ·rcases List.mem_cons.1 (show pg∈pgL none ((rows.drop f).take (t - f))::zgD rows t ts from hpg) with rfl | hpg
   ·omega
   ·exact i3 pg hpg
theorem ztj {l:Gapi_Layout} (hm:zj9 l=true) {vs:List Gapi_Verse} (hg:PgOk vs):(zhc l vs).pages.length≤61440∧(zhc l vs).pages.flatten.length≤122880∧∀ pg∈(zhc l vs).pages,pg.length≤122880:=by
 have hR:=zmN hm vs hg.ok (by have:=hg.len; omega) hg.stp
 have hrise:=zhN (zmq hR (znU hm)) (zor (rows:=zdk l 0 vs) (znU hm)) (zdk l 0 vs).length 0 (Nat.zero_le _) (by omega)
 obtain ⟨h1,h2,h3⟩:=zpp (zk9 (zdk l 0 vs) l.Height) 0 hrise (Nat.zero_le _)
 have h4:=zkB hm vs 0 hg.ok
 have h5:=hg.len
 have h6:=zma (zdk l 0 vs) (zk9 (zdk l 0 vs) l.Height) 0
 refine ⟨?_,?_,fun pg hpg => ?_⟩
 ·show (zgD (zdk l 0 vs) 0 (zk9 (zdk l 0 vs) l.Height)).length≤_
  rw [h6]; omega
 ·show (zgD (zdk l 0 vs) 0 (zk9 (zdk l 0 vs) l.Height)).flatten.length≤_
  omega
 ·have:=h3 pg hpg; omega
end Go.Proofs.YtbempdelckaccaaGreatDoor

namespace Go.Proofs.YtbempdelckaccaaGreatDoor
open Go.RowKit Go.Lib
set_option linter.unusedVariables false
set_option linter.unusedSimpArgs false
def zge (s:ByteArray):Int:=zcY ((zax s).take (eN (spB s) (zax s)))
theorem zrj (s:ByteArray) (hs:s.size≤2000) (dn:Int→Int→Option Int):∀ (its pre:List zeX),zax s=pre++its→zcu dn (zcE s) its (zcY (pre.take (eN (spB s) pre))) (zcY pre)=dn (zge s) (zcY (zax s))
 | [],pre,h=>by
  rw [List.append_nil] at h
  unfold zge
  rw [h]; rfl
 | c::its,pre,h=>by
  have ih:=zrj s hs dn its (pre++[c]) (by rw [h]; simp)
  have hlen:=zfu s
  have hcm:∀ x∈pre,0≤x.Columns∧x.Columns≤2:=fun x hx=>(ziZ s x (by rw [h]; simp [hx])).2.2.2
  have hr:=zft hcm
  have hc:=ziZ s c (by rw [h]; simp)
  obtain ⟨h1,h2,h3,h4,h5⟩:=hc
  rw [h,List.length_append,List.length_cons] at hlen
  rw [zld,zgK,zhP] at ih
  show zcE s c (zcu dn (zcE s) its) (zcY (pre.take (eN (spB s) pre))) (zcY pre)=_
  unfold zcE
  refine zbm ⟨by omega,by omega⟩ (zbm ⟨by omega,by omega⟩ ?_)
  have hfull:zcY ((pre++[c]).take (pre.length+1))=zcY pre+c.Columns:=by
   rw [List.take_of_length_le (by simp),zgK,zhP]
  by_cases e:c.Span_To=c.Span_From+1
  ·refine zaB (zgg e) ?_
   have hl:c.Span_From.toNat<s.data.toList.length:=by rw [zej]; omega
   have hg:=zm2 (T:=s.data.toList) (List.getElem?_eq_getElem hl)
   rw [show ((c.Span_From.toNat:Nat):Int)=c.Span_From by omega,zrs] at hg
   refine zaO hg ?_
   have hsp:spB s c=((s.data.toList[c.Span_From.toNat].toNat:Int)==32):=by
    unfold spB
    rw [if_pos e,hg]; rfl
   by_cases h32:(s.data.toList[c.Span_From.toNat].toNat:Int)=32
   ·refine zaz (by rw [zgg h32]; rfl) ?_
    have hsp2:spB s c=true:=by rw [hsp]; exact zgg h32
    rw [if_pos hsp2,List.take_append_of_le_length (zql (spB s) pre)] at ih
    exact ih
   ·refine zaB (by rw [zgy h32]; rfl) ?_
    have hsp2:spB s c=false:=by rw [hsp]; exact zgy h32
    rw [if_neg (by rw [hsp2]; decide),hfull] at ih
    exact ih
  ·refine zaz (zgy e) ?_
   have hsp2:spB s c=false:=by unfold spB; rw [if_neg e]
   rw [if_neg (by rw [hsp2]; decide),hfull] at ih
   exact ih
theorem zqa (s:ByteArray) (hs:s.size≤2000):zek s=some (zge s):=by
 unfold zek
 exact zby (zaO rfl (zaO (ztV s (by omega)) (zby (zrj s hs _ (zax s) [] rfl))))
theorem zli (s:ByteArray) (hs:s.size≤2000):0≤zge s∧zge s≤4000:=by
 have h1:=zft (l:=(zax s).take (eN (spB s) (zax s))) (fun c hc=>(ziZ s c (List.mem_of_mem_take hc)).2.2.2)
 have h2:=zfu s
 rw [List.length_take] at h1
 unfold zge
 omega
theorem zsT (s:ByteArray) (hs:s.size≤2000):zdT s (zax s)=some (zge s):=zp3 s (by omega) (zax s) (ziZ s) (by have:=zfu s; omega)
theorem zrJ:∀ n:Fin 100,zdS (n.val:Int)=some (zqm (n.val:Int)):=by decide +kernel
theorem zwh (n:Int) (h:0≤n∧n<100):zei n=some (zqm n):=by
 unfold zei zdb zcz
 exact zaO (zaO (zaB rfl (zby (zaB (decide_eq_true h.1) (zaB (decide_eq_true h.2) (zbm h rfl))))) rfl) rfl
theorem zkj (n:Int) (h:0≤n∧n<100):(zqm n).size≤2:=by
 have:∀ k:Fin 100,(zqm (k.val:Int)).size≤2:=by decide +kernel
 have:=this ⟨n.toNat,by omega⟩
 rw [show ((n.toNat:Nat):Int)=n by omega] at this
 exact this
def zkP (w:Int) (r:Gapi_Row):ByteArray :=
 if r.Line<0 then ⟨#[10]⟩ else (if 0<r.Number then (zbd r.Indent++zdm r.Text)++(zbd (max 0 (w - r.Indent - zge r.Text)+2)++zqm r.Number) else zbd r.Indent++zdm r.Text)++⟨#[10]⟩
structure RowP (r:Gapi_Row):Prop where
 i:0≤r.Indent∧r.Indent≤1024
 n:0≤r.Number∧r.Number<100
 t:r.Text.size≤1024
theorem zja (l:List UInt8):∃ k,l=(Lib.trimRightB l 32)++List.replicate k 32∧∀ b,(Lib.trimRightB l 32).getLast?=some b→b≠32:=by
 unfold Lib.trimRightB
 have h1:=List.takeWhile_append_dropWhile (p:=fun b:UInt8=>b==32) (l:=l.reverse)
 refine ⟨(l.reverse.takeWhile (fun b:UInt8=>b==32)).length,?_,fun b hb => ?_⟩
 ·have h2:l.reverse.takeWhile (fun b:UInt8=>b==32)=List.replicate (l.reverse.takeWhile (fun b:UInt8=>b==32)).length 32:=by
   refine List.eq_replicate_iff.2 ⟨rfl,fun b hb => ?_⟩
   have:=List.all_eq_true.1 (List.all_takeWhile (p:=fun b:UInt8=>b==32) (l:=l.reverse)) b hb
   simpa using this
  have h3:=congrArg List.reverse h1
  rw [List.reverse_append,List.reverse_reverse] at h3
  rw [← List.reverse_replicate,← h2]
  exact h3.symm
 ·rw [List.getLast?_reverse] at hb
  have:=List.head?_dropWhile_not (fun b:UInt8=>b==32) l.reverse
  rw [hb] at this
  intro e
  rw [e] at this
  simp at this
theorem zgz (n:Nat):zbd (n:Int)=mkB (List.replicate n 32):=by
 unfold zbd
 rw [Int.toNat_natCast,zh5]; rfl
theorem zuo (r:Gapi_Row) (w:Int) (hw:0≤w∧w≤1000) (h:RowP r):zfI r w=some (zkP w r):=by
 unfold zfI zkP
 by_cases hl:r.Line<0
 ·rw [if_pos hl]; exact zaB (decide_eq_true hl) rfl
 rw [if_neg hl]
 obtain ⟨h1,h2,h3⟩:=h
 refine zaz (decide_eq_false hl) (zby ?_)
 obtain ⟨k,hk,hX⟩:=zja r.Text.data.toList
 have htx:r.Text=mkB (Lib.trimRightB r.Text.data.toList 32++List.replicate k 32):=by rw [← hk,zrs]
 have htr:zdm r.Text=mkB (Lib.trimRightB r.Text.data.toList 32):=rfl
 have hlen:(Lib.trimRightB r.Text.data.toList 32).length+k=r.Text.size:=by
  have:=congrArg List.length hk
  rw [List.length_append,List.length_replicate,zej] at this
  omega
 have key:∀ J:ByteArray→Option ByteArray,zaF (fun _=>none) (zcD J) zbT r.Text=J (zdm r.Text):=fun J=>by
  have:=zns (Lib.trimRightB r.Text.data.toList 32) hX J k zbT (by omega) (zcm (by omega))
  rw [← htx] at this
  exact this
 refine (key _).trans (zby ?_)
 have hts:(zdm r.Text).size≤1024:=by rw [htr,zba]; omega
 obtain ⟨n,hn⟩:∃ n:Nat,r.Indent=(n:Int):=⟨r.Indent.toNat,by omega⟩
 have hbl:zcP r.Indent=some (zbd r.Indent):=by rw [hn,zgz]; exact zpO n (by omega)
 have hbs:(zbd r.Indent).size≤1024:=zhl r.Indent h1
 have h10:(⟨#[10]⟩:ByteArray).size=1:=rfl
 refine zaO hbl (zbm (by omega) ?_)
 by_cases h0:0<r.Number
 ·rw [if_pos h0]
  have hc:=zli r.Text (by omega)
  have fin:∀ lacks:Int,lacks=max 0 (w - r.Indent - zge r.Text)→∀ j2:ByteArray→Option ByteArray,j2 ((zbd r.Indent++zdm r.Text)++(zbd (max 0 (w - r.Indent - zge r.Text)+2)++zqm r.Number))=some ((zbd r.Indent++zdm r.Text)++(zbd (max 0 (w - r.Indent - zge r.Text)+2)++zqm r.Number)++⟨#[10]⟩) →
    (grd (I64 (lacks+2))<|zal (zcP (lacks+2)) fun (r5:ByteArray)=>grd ((zbd r.Indent++zdm r.Text).size+r5.size≤9223372036854775807)<|zal (zdS r.Number) fun (r6:ByteArray)=>grd (((zbd r.Indent++zdm r.Text)++r5).size+r6.size≤9223372036854775807)<|j2 (((zbd r.Indent++zdm r.Text)++r5)++r6))=some ((zbd r.Indent++zdm r.Text)++(zbd (max 0 (w - r.Indent - zge r.Text)+2)++zqm r.Number)++⟨#[10]⟩):=by
   intro lacks hla j2 hj
   obtain ⟨q,hq⟩:∃ q:Nat,lacks+2=(q:Int):=⟨(lacks+2).toNat,by omega⟩
   have hqs:(zbd (lacks+2)).size≤2000:=by rw [hq,zgz,zba,List.length_replicate]; omega
   have hb2:zcP (lacks+2)=some (zbd (lacks+2)):=by rw [hq,zgz]; exact zpO q (by omega)
   have hfg:=zrJ ⟨r.Number.toNat,by omega⟩
   have hfg:zdS r.Number=some (zqm r.Number):=by
    rw [show ((r.Number.toNat:Nat):Int)=r.Number by omega] at hfg; exact hfg
   have hds:=zkj r.Number h2
   refine zbm ⟨by omega,by omega⟩ (zaO hb2 (zbm (by rw [ByteArray.size_append]; omega) (zaO hfg (zbm (by rw [ByteArray.size_append,ByteArray.size_append]; omega) ?_))))
   rw [ByteArray.append_assoc,hla]
   exact hj
  have hfin:∀ j,j=((zbd r.Indent++zdm r.Text)++(zbd (max 0 (w - r.Indent - zge r.Text)+2)++zqm r.Number))→j.size≤100000:=by
   intro j hj
   have hds:=zkj r.Number h2
   obtain ⟨q,hq⟩:∃ q:Nat,max 0 (w - r.Indent - zge r.Text)+2=(q:Int):=⟨(max 0 (w - r.Indent - zge r.Text)+2).toNat,by omega⟩
   have hqs:(zbd (max 0 (w - r.Indent - zge r.Text)+2)).size≤2000:=by rw [hq,zgz,zba,List.length_replicate]; omega
   rw [hj,ByteArray.size_append,ByteArray.size_append,ByteArray.size_append]; omega
  refine zaB (decide_eq_true h0) (zby (zbm ⟨by omega,by omega⟩ (zaO (zsU r.Text (by omega)) (zaO (zsT r.Text (by omega)) (zbm ⟨by omega,by omega⟩ ?_)))))
  by_cases hneg:w - r.Indent - zge r.Text<0
  ·refine zaB (decide_eq_true hneg) (fin 0 (by omega) (fun (s1:ByteArray)=>grd (s1.size+(⟨#[10]⟩:ByteArray).size≤9223372036854775807)<|some (s1++(⟨#[10]⟩:ByteArray))) (zbm ?_ rfl))
   have:=hfin _ rfl; omega
  ·refine zaz (decide_eq_false hneg) (fin _ (by omega) (fun (s1:ByteArray)=>grd (s1.size+(⟨#[10]⟩:ByteArray).size≤9223372036854775807)<|some (s1++(⟨#[10]⟩:ByteArray))) (zbm ?_ rfl))
   have:=hfin _ rfl; omega
 ·rw [if_neg h0]
  exact zaz (decide_eq_false h0) (zbm (by rw [ByteArray.size_append]; omega) rfl)
end Go.Proofs.YtbempdelckaccaaGreatDoor

namespace Go.Proofs.YtbempdelckaccaaGreatDoor
open Go.RowKit Go.Lib
set_option linter.unusedVariables false
set_option linter.unusedSimpArgs false
def zb7 (l1:Gapi_Layout) (k3:Int) (j2:(List Gapi_Row)→(List Int)→ByteArray→Option Bool) (r4:((List Gapi_Row)×Int)) (ag2:(List Gapi_Row)→(List Int)→ByteArray→Int→Option Bool) (want9:List Gapi_Row) (on8:List Int) (out9:ByteArray) (i3:Int):Option Bool :=
zaw (decide ((i3:Int)<(r4.1.length:Int))) (
zal (zcb r4.1 i3) fun (q1:Gapi_Row) =>
grd (want9.length+1≤2147483648) <|
grd (on8.length+1≤2147483648) <|
zal (zcb r4.1 i3) fun (q2:Gapi_Row) =>
zal (zfI q2 l1.Width) fun (r5:ByteArray) =>
grd (out9.size+r5.size≤9223372036854775807) <|
grd (I64 (i3+1)) <|
ag2 (want9++[q1]) (on8++[k3]) (out9++r5) (i3+1)
) (
j2 want9 on8 out9
)
def zck (l1:Gapi_Layout) (j1:Int→Int→Int→Int→(List (List Gapi_Row))→Int→(List Gapi_Row)→(List Int)→ByteArray→Option Bool) (p1:Gpage_Book) (ag1:(List Gapi_Row)→(List Int)→ByteArray→Int→Option Bool) (want5:List Gapi_Row) (on4:List Int) (out4:ByteArray) (k3:Int):Option Bool :=
zal (zdX p1) fun (r3:Int) =>
zaw (decide ((k3:Int)<r3)) (
zbi (fun (j2:(List Gapi_Row)→(List Int)→ByteArray→Option Bool) =>
zal (zee p1 k3) fun (r4:((List Gapi_Row)×Int)) =>
zaw ((r4.2:Int) != 0) (
some false
) (
zbi (fun (j3:ByteArray→Option Bool) =>
zaw (decide ((0:Int)<k3)) (
grd (out4.size+(⟨#[12]⟩:ByteArray).size≤9223372036854775807) <|
j3 (out4++(⟨#[12]⟩:ByteArray))
) (
j3 out4
)
) (fun (out6:ByteArray) =>
zaF (fun _ _ _ _=>none) (zb7 l1 k3 j2 r4) zbT want5 on4 out6 0
)
)
) (fun (want6:List Gapi_Row) (on5:List Int) (out5:ByteArray) =>
grd (I64 (k3+1)) <|
ag1 want6 on5 out5 (k3+1)
)
) (
j1 p1.layout_Width p1.layout_Height p1.layout_Turn p1.layout_Every p1.pages p1.cost want5 on4 out4
)
def zcj (stop1:Int) (want1:List Gapi_Row) (on1:List Int) (round3:Int) (ek1:Int→Option Bool) (ek2:Int→Option Bool) (x1:Int×Gapi_Row) (ag4:Int→Option Bool) (i7:Int):Option Bool :=
zaw (decide (((want1.length:Int):Int)≤i7)) (
ek1 i7
) (
zal (zcb want1 i7) fun (q3:Gapi_Row) =>
zaw (!(zd5 x1.2 q3)) (
ek1 i7
) (
zal (zcb on1 i7) fun (q4:Int) =>
zaw ((x1.1:Int) != q4) (
ek1 i7
) (
grd (I64 (i7+1)) <|
zaw ((round3:Int)==0) (
zaw (((i7+1):Int)==stop1) (
ek2 (i7+1)
) (
ag4 (i7+1)
)
) (
ag4 (i7+1)
)
)
)
)
def zb6 (stop1:Int) (b5:Int) (b6:Int) (b7:Int) (b8:Int) (b9:List (List Gapi_Row)) (b10:Int) (want1:List Gapi_Row) (on1:List Int) (j4:Option Bool) (ag3:Int→Option Bool) (round3:Int):Option Bool :=
zaw (decide ((round3:Int)<2)) (
zbi (fun (j5:Option Bool) =>
zbi (fun (j6:Int→Option Bool) =>
zal (zdF (⟨b5,b6,b7,b8,b9,b10⟩:Gpage_Book)) fun (its1:(List (Int×Gapi_Row))) =>
zbi (fun (ek1:Int→Option Bool) =>
zbi (fun (ek2:Int→Option Bool) =>
zbi (fun (dn1:Int→Option Bool) =>
zcu dn1 (zcj stop1 want1 on1 round3 ek1 ek2) its1 0
) (fun (i7:Int) =>
j6 i7
)
) (fun (i9:Int) =>
j6 i9
)
) (fun (i8:Int) =>
some false
)
) (fun (i4:Int) =>
zaw ((i4:Int) != (want1.length:Int)) (
zaw ((round3:Int)==0) (
zaw (!((i4:Int)==stop1)) (
some false
) (
j5
)
) (
some false
)
) (
j5
)
)
) (
grd (I64 (round3+1)) <|
ag3 (round3+1)
)
) (
j4
)
def zeS (text1:ByteArray) (l1:Gapi_Layout) (stop1:Int):Option Bool :=
zal (zgi) fun (r1:Bool) =>
zaw (!r1) (
some false
) (
zaw (decide ((1200:Int)<(text1.size:Int))) (
some true
) (
zal (zdN text1 l1) fun (r2:((Option Gpage_Book)×(List Gapi_Verse)×Bool×Bool)) =>
zaw (!r2.2.2.2) (
some r2.2.2.2
) (
zaw (!r2.2.2.1) (
some r2.2.2.2
) (
zbi (fun (j1:Int→Int→Int→Int→(List (List Gapi_Row))→Int→(List Gapi_Row)→(List Int)→ByteArray→Option Bool) =>
zal (r2.1) fun (p1:Gpage_Book) =>
zaF (fun _ _ _ _=>none) (zck l1 j1 p1) zbT ([]:List Gapi_Row) ([]:List Int) (⟨#[]⟩:ByteArray) 0
) (fun (b5:Int) (b6:Int) (b7:Int) (b8:Int) (b9:List (List Gapi_Row)) (b10:Int) (want1:List Gapi_Row) (on1:List Int) (out1:ByteArray) =>
zal (zed (⟨b5,b6,b7,b8,b9,b10⟩:Gpage_Book)) fun (r6:Unit) =>
zbi (fun (j4:Option Bool) =>
zaF (fun _=>none) (zb6 stop1 b5 b6 b7 b8 b9 b10 want1 on1 j4) zbT 0
) (
zal (zdl (⟨b5,b6,b7,b8,b9,b10⟩:Gpage_Book)) fun (r7:ByteArray) =>
some (decide (r7=out1))
)
)
)
)
)
)
theorem zjk {text1:ByteArray} {l1:Gapi_Layout} {stop1:Int} {r:Bool} (h:zeS text1 l1 stop1=some r):FnP Tryz.prog 6 [.string text1,.agg (zr0 l1).toArray,zI stop1] (.bool r):=by
 unfold zeS at h
 refine FnP.intro Tryz.func6 rfl Tryz.ntmps6 (by simp) ?_
 intro w0 K
 refine zhQ ?_
 refine zyG ?_
 refine zdQ rfl dc rfl (fun b1 => ?_)
 refine zdQ rfl dc rfl (fun b2 => ?_)
 refine zbc zyr rfl dc (fun b3 => ?_)
 refine zyN (zaJ (zyG ?_))
 obtain ⟨r1,hq1,h⟩:=zbw h
 refine zbe (v:=.bool r1) (vs:=[]) rfl dc rfl rfl rfl zyT (zmY hq1) (zd2 rfl dc rfl zcB (zyN ?_))
 refine zyB rfl h (fun h => ?_) (fun h => ?_)
 ·
  refine zyG ?_
  refine zaM (k:=3) (l':=[.bool false]) zoA rfl rfl rfl rfl rfl (fun _ _=>rfl) rfl ?_
  refine zyN (zaE (zaq ?_))
  cases h
  exact zfx (rs:=[.cell 6 4]) ([]:List Nat) () (.inl rfl) (zbW (k:=0) rfl) Tryz.results6 (.cons (.cell zl4 (k:=3) rfl rfl) .nil) rfl Splits.nil
 refine zas (zaI (zaJ (zyG (zyR 1 rfl (zbS rfl dc rfl Tryz.underlying9 (zaW rfl zcK (zyN ?_)))))))
 refine zyB rfl h (fun h => ?_) (fun h => ?_)
 ·
  refine zyG ?_
  refine zaM (k:=3) (l':=[.bool true]) zoA rfl rfl rfl rfl rfl (fun _ _=>rfl) rfl ?_
  refine zyN (zaE (zaq ?_))
  cases h
  exact zfx (rs:=[.cell 6 4]) ([]:List Nat) () (.inl rfl) (zbW (k:=0) rfl) Tryz.results6 (.cons (.cell zl4 (k:=3) rfl rfl) .nil) rfl Splits.nil
 refine zas (zaI (zyG (zyR 1 rfl (zbb (k:=1) (cs:=(zr0 l1)) zlD rfl dc rfl rfl rfl rfl ?_))))
 obtain ⟨r2,hq2,h⟩:=zbw h
 refine zdu (vs:=[.string text1,.agg (zr0 l1).toArray]) rfl dc rfl rfl rfl zyM (znW (l1:=l1) hq2) Splits.nil ?_
 rintro ⟨v1,v2⟩
 refine zbu (k:=5) rfl (fun hd1 he1 => ?_)
 subst he1
 refine zyR 1 rfl (zaY rfl dc rfl rfl (zaY rfl dc rfl rfl (zaY rfl dc rfl rfl (zaY rfl dc rfl rfl (zyR 4 rfl (zyN (zaJ (zyG ?_))))))))
 refine zyR 1 rfl (zd2 rfl dc rfl zcB (zyR 1 rfl ?_))
 refine zyS (s:=38) rfl h (fun h => ?_) (fun h => ?_)
 ·
  refine zyR 3 rfl (zyN (za9 rfl (zyG (zyR 1 rfl ?_))))
  refine zaM (k:=3) (l':=[.bool r2.2.2.2]) zoA rfl rfl rfl rfl rfl (fun _ _=>rfl) rfl ?_
  refine zyN (zaE (zaq ?_))
  cases h
  exact zfx (rs:=[.cell 6 4]) ([]:List Nat) () (.inl rfl) (zbW (k:=0) rfl) Tryz.results6 (.cons (.cell zl4 (k:=3) rfl rfl) .nil) rfl Splits.nil
 refine zyR 1 rfl (zd2 rfl dc rfl zcB (zyR 1 rfl (zyN ?_)))
 refine zyB rfl h (fun h => ?_) (fun h => ?_)
 ·
  refine zyG (zyR 1 rfl ?_)
  refine zaM (k:=3) (l':=[.bool r2.2.2.2]) zoA rfl rfl rfl rfl rfl (fun _ _=>rfl) rfl ?_
  refine zyN (zaE (zaq ?_))
  cases h
  exact zfx (rs:=[.cell 6 4]) ([]:List Nat) () (.inl rfl) (zbW (k:=0) rfl) Tryz.results6 (.cons (.cell zl4 (k:=3) rfl rfl) .nil) rfl Splits.nil
 refine zas (zaI ?_)
 obtain ⟨j1,hj1,h⟩:=zbF h
 refine za1 (β:=Int×Int×Int×Int×(List (List Gapi_Row))×Int×(List Gapi_Row)×(List Int)×ByteArray×Nat×Hd×Nat×Hd×Nat×Hd) 3 rfl (fun b=>j1 b.1 b.2.1 b.2.2.1 b.2.2.2.1 b.2.2.2.2.1 b.2.2.2.2.2.1 b.2.2.2.2.2.2.1 b.2.2.2.2.2.2.2.1 b.2.2.2.2.2.2.2.2.1=some r) (fun b=>zd4 ([]:List Nat)) (fun b=>[(5,zP b2),(6,zP b3),(7,zP b.2.2.2.2.2.2.2.2.2.1),(11,zP b.2.2.2.2.2.2.2.2.2.2.2.1),(12,zP b.2.2.2.2.2.2.2.2.2.2.2.2.2.1),(13,.string b.2.2.2.2.2.2.2.2.1)]) (fun b=>[cells b2 [zI stop1] 3,cells b3 [.bool false] 4,cells b.2.2.2.2.2.2.2.2.2.1 [zI b.1,zI b.2.1,zI b.2.2.1,zI b.2.2.2.1,b.2.2.2.2.2.2.2.2.2.2.1.v,zI b.2.2.2.2.2.1] 81,zfM zaD zaP 43 1 b.2.2.2.2.2.2.2.2.2.2.1.v b.2.2.2.2.1,cells b.2.2.2.2.2.2.2.2.2.2.2.1 [b.2.2.2.2.2.2.2.2.2.2.2.2.1.v] 43,zv1 b.2.2.2.2.2.2.2.2.2.2.2.2.1.v b.2.2.2.2.2.2.1,cells b.2.2.2.2.2.2.2.2.2.2.2.2.2.1 [b.2.2.2.2.2.2.2.2.2.2.2.2.2.2.v] 49,zv0 b.2.2.2.2.2.2.2.2.2.2.2.2.2.2.v b.2.2.2.2.2.2.2.1,zhe ((([]:List Nat):List Nat).map zi7)]) (fun cut => ?_) ?_
 ·
  refine zyG ?_
  refine zbc zxe rfl dc (fun b13 => ?_)
  refine zyH ?_
  refine zbc zxd rfl dc (fun b14 => ?_)
  refine zyH (zyR 1 rfl (zyN (cut (zyG (zyR 1 rfl (zyN (zaC ?_)))))))
  obtain ⟨p1,hq3,h⟩:=zbw h
  refine zu5 (As:=[zmV zbR zbQ 81 v1 r2.1]) (zad [4] kr rfl) (zhG hq3) ?_
  rintro ⟨b15,hd5⟩ hv1
  have hkp:=h
  subst hv1
  have h:=hkp
  refine zc1 (enc:=zbo) (e:=33) (size:=6) ?_
  refine zc1 (enc:=(zm9 (.i64))) (e:=3) (size:=1) ?_
  refine zbq (β:=Nat×(List Gapi_Row)×(List Int)×ByteArray×Int×Hd×Hd) (fun b=>zaF (fun _ _ _ _=>none) (zck l1 j1 p1) b.1 b.2.1 b.2.2.1 b.2.2.2.1 b.2.2.2.2.1=some r) (fun b=>zd4 ([]:List Nat)) (fun b=>[(4,zP b1),(5,zP b2),(6,zP b3),(7,zP b15),(11,zP b13),(12,zP b14),(13,.string b.2.2.2.1),(14,zI b.2.2.2.2.1)]) (fun b=>[cells b1 (zr0 l1) 23,cells b2 [zI stop1] 3,cells b3 [.bool false] 4,cells b15 [zI p1.layout_Width,zI p1.layout_Height,zI p1.layout_Turn,zI p1.layout_Every,hd5.v,zI p1.cost] 81,zfM zaD zaP 43 1 hd5.v p1.pages,cells b13 [b.2.2.2.2.2.1.v] 43,zv1 b.2.2.2.2.2.1.v b.2.1,cells b14 [b.2.2.2.2.2.2.v] 49,zv0 b.2.2.2.2.2.2.v b.2.2.1,zhe ((([]:List Nat):List Nat).map zi7)]) (fun b=>b.1) (zbT,([]:List Gapi_Row),([]:List Int),(⟨#[]⟩:ByteArray),0,Hd.nil,Hd.nil) h rfl (za5 rfl) (zad [1,2,3,8,9,6,10,7,11,0] kr rfl) ?_
  rintro ⟨n1,want5,on4,out4,k3,hd11,hd12⟩ h
  cases n1 with
  | zero=>exact zdM h
  | succ n1 =>
   obtain ⟨ag1,hag1⟩:∃ ag,ag=zaF (fun _ _ _ _=>none) (zck l1 j1 p1) n1:=⟨_,rfl⟩
   have h:zck l1 j1 p1 ag1 want5 on4 out4 k3=some r:=by rw [hag1]; exact h
   unfold zck at h
   refine zaJ (zyG (zyR 2 rfl ?_))
   obtain ⟨r3,hq4,h⟩:=zbw h
   refine zcH (v:=zI r3) (vs:=[zP b15]) (Rd.nil:Rd _ _ []) rfl dc rfl rfl rfl zx9 (ziF (bb1:=b15) (b1:=p1) (b1_h0:=hd5) hq4) (.own (zad [3] (by kernel_rfl) rfl) (fun _ _ h=>sepL.one1.1 h) (.own (zad [4] (by kernel_rfl) rfl) (fun _ _ h=>sepL.one1.1 h) .nil)) ?_
   refine zaW rfl zbC (zyN ?_)
   refine zyB rfl h (fun h => ?_) (fun h => ?_)
   ·
    refine zas (zaI ?_)
    obtain ⟨j2,hj2,h⟩:=zbF h
    refine za1 (β:=(List Gapi_Row)×(List Int)×ByteArray×Hd×Hd) 0 rfl (fun b=>j2 b.1 b.2.1 b.2.2.1=some r) (fun b=>zd4 ([]:List Nat)) (fun b=>[(4,zP b1),(5,zP b2),(6,zP b3),(7,zP b15),(11,zP b13),(12,zP b14),(13,.string b.2.2.1),(14,zI k3)]) (fun b=>[cells b1 (zr0 l1) 23,cells b2 [zI stop1] 3,cells b3 [.bool false] 4,cells b15 [zI p1.layout_Width,zI p1.layout_Height,zI p1.layout_Turn,zI p1.layout_Every,hd5.v,zI p1.cost] 81,zfM zaD zaP 43 1 hd5.v p1.pages,cells b13 [b.2.2.2.1.v] 43,zv1 b.2.2.2.1.v b.1,cells b14 [b.2.2.2.2.v] 49,zv0 b.2.2.2.2.v b.2.1,zhe ((([]:List Nat):List Nat).map zi7)]) (fun cut => ?_) ?_
    ·
     refine cut (zaC (zyG (zyR 2 rfl ?_)))
     obtain ⟨r4,hq5,h⟩:=zbw h
     refine zfY (vs:=[zP b15,zI k3]) (Rd.nil:Rd _ _ []) rfl dc rfl rfl rfl zx8 (zji (bb1:=b15) (b1:=p1) (b1_h0:=hd5) hq5) Splits.nil (.own (zad [3] (by kernel_rfl) rfl) (fun _ _ h=>sepL.one1.1 h) (.own (zad [4] (by kernel_rfl) rfl) (fun _ _ h=>sepL.one1.1 h) .nil)) ?_
     rintro v3
     refine zbu (k:=10) rfl (fun hd15 he2 => ?_)
     subst he2
     refine zyR 1 rfl (zaY rfl dc rfl rfl (zaY rfl dc rfl rfl (zyR 2 rfl (zyN (zaJ (zyG (zyR 1 rfl (zaW rfl zcc (zyN ?_)))))))))
     refine zyB rfl h (fun h => ?_) (fun h => ?_)
     ·
      refine zyG ?_
      refine zaM (k:=2) (l':=[.bool false]) zoA rfl rfl rfl rfl rfl (fun _ _=>rfl) rfl ?_
      refine zyN (zaE (zaq (zaA (zaq (zaq (zaA (zaq ?_)))))))
      cases h
      exact zfx (rs:=[.cell 6 4]) ([]:List Nat) () (.inl rfl) (zbW (k:=9) rfl) Tryz.results6 (.cons (.cell zl4 (k:=2) rfl rfl) .nil) rfl Splits.nil
     refine zas (zaI ?_)
     obtain ⟨j3,hj3,h⟩:=zbF h
     refine za1 (β:=ByteArray) 0 rfl (fun b=>j3 b=some r) (fun b=>zd4 ([]:List Nat)) (fun b=>[(4,zP b1),(5,zP b2),(6,zP b3),(7,zP b15),(11,zP b13),(12,zP b14),(13,.string b),(14,zI k3),(15,hd15.v)]) (fun b=>[cells b1 (zr0 l1) 23,cells b2 [zI stop1] 3,cells b3 [.bool false] 4,cells b15 [zI p1.layout_Width,zI p1.layout_Height,zI p1.layout_Turn,zI p1.layout_Every,hd5.v,zI p1.cost] 81,zfM zaD zaP 43 1 hd5.v p1.pages,cells b13 [hd11.v] 43,zv1 hd11.v want5,cells b14 [hd12.v] 49,zv0 hd12.v on4,zv1 hd15.v r4.1,zhe ((([]:List Nat):List Nat).map zi7)]) (fun cut => ?_) ?_
     ·
      refine cut (zyG (zyR 1 rfl (zaW rfl zcK (zyN ?_))))
      refine zyB rfl h (fun h => ?_) (fun h => ?_)
      ·
       refine zat (zyR 1 rfl ?_)
       obtain ⟨hg1,h⟩:=zbn h
       refine zaW rfl (zfW hg1) (zyR 1 rfl (zaQ ?_))
       exact zai (out4++(⟨#[12]⟩:ByteArray)) h rfl (za5 rfl) (zad [0,1,2,3,4,5,6,7,8,10,9] kr rfl)
      refine zas ?_
      exact zai out4 h rfl (za5 rfl) (zad [0,1,2,3,4,5,6,7,8,10,9] kr rfl)
     rintro out6 h
     rw [hj3] at h
     refine zyG (zyR 1 rfl (zyN (zaC ?_)))
     refine zbq (β:=Nat×(List Gapi_Row)×(List Int)×ByteArray×Int×Hd×Hd) (fun b=>zaF (fun _ _ _ _=>none) (zb7 l1 k3 j2 r4) b.1 b.2.1 b.2.2.1 b.2.2.2.1 b.2.2.2.2.1=some r) (fun b=>zd4 ([]:List Nat)) (fun b=>[(4,zP b1),(5,zP b2),(6,zP b3),(7,zP b15),(11,zP b13),(12,zP b14),(13,.string b.2.2.2.1),(14,zI k3),(15,hd15.v),(17,zI b.2.2.2.2.1)]) (fun b=>[cells b1 (zr0 l1) 23,cells b2 [zI stop1] 3,cells b3 [.bool false] 4,cells b15 [zI p1.layout_Width,zI p1.layout_Height,zI p1.layout_Turn,zI p1.layout_Every,hd5.v,zI p1.cost] 81,zfM zaD zaP 43 1 hd5.v p1.pages,cells b13 [b.2.2.2.2.2.1.v] 43,zv1 b.2.2.2.2.2.1.v b.2.1,cells b14 [b.2.2.2.2.2.2.v] 49,zv0 b.2.2.2.2.2.2.v b.2.2.1,zv1 hd15.v r4.1,zhe ((([]:List Nat):List Nat).map zi7)]) (fun b=>b.1) (zbT,want5,on4,out6,0,hd11,hd12) h rfl (za5 rfl) (zad [0,1,2,3,4,5,6,7,8,9,10] kr rfl) ?_
     rintro ⟨n2,want9,on8,out9,i3,hd20,hd21⟩ h
     cases n2 with
     | zero=>exact zdM h
     | succ n2 =>
      obtain ⟨ag2,hag2⟩:∃ ag,ag=zaF (fun _ _ _ _=>none) (zb7 l1 k3 j2 r4) n2:=⟨_,rfl⟩
      have h:zb7 l1 k3 j2 r4 ag2 want9 on8 out9 i3=some r:=by rw [hag2]; exact h
      unfold zb7 at h
      refine zaJ (zyG (zyR 2 rfl (zbl (k:=9) rfl dc rfl rfl Tryz.underlying43 (zaW rfl zbC (zyN ?_)))))
      refine zyB rfl h (fun h => ?_) (fun h => ?_)
      ·
       refine zas (zaI (zaJ (zaC (zaJ ?_))))
       obtain ⟨q1,hq6,h⟩:=zbw h
       obtain ⟨hg2,h⟩:=zbn h
       refine zi4 (β:=Nat) 6 5 _ [(0,67,hd20.v),(1,68,hd15.v),(2,69,zI i3),(3,70,.pointer (some ⟨zcN hd15.v,(i3:Int).toNat*6,none⟩)),(4,71,.agg (zr2 q1).toArray)] (fun b16=>[(72,.slice (some ⟨b16,0,none⟩) 1 1)]) (fun b16=>[cells b1 (zr0 l1) 23,cells b2 [zI stop1] 3,cells b3 [.bool false] 4,cells b15 [zI p1.layout_Width,zI p1.layout_Height,zI p1.layout_Turn,zI p1.layout_Every,hd5.v,zI p1.cost] 81,zfM zaD zaP 43 1 hd5.v p1.pages,cells b13 [hd20.v] 43,zv1 hd20.v want9,cells b14 [hd21.v] 49,zv0 hd21.v on8,zv1 hd15.v r4.1,zhe ((([]:List Nat):List Nat).map zi7),cells b16 (zr2 q1) 33]) mixed kr kr rfl dc dc (by rfl) kr kr (zaj ?_ (zyE 2 1 rfl (zaj ?_ (zaj ?_ (zcT DrawPreX.nil))))) (fun b16=>(zaj ?_ (zyE 2 1 rfl (zaj ?_ (zaj ?_ (zcT DrawPreX.nil)))))) ?_ ?_
       · exact fun D n d c u i=>zam (k:=5) zhn rfl dc (za4 (by rfl) rfl) rfl rfl (zaf 0 u i rfl)
       · exact fun D n d c u i=>zar (k:=9) hq6 Tryz.underlying43 zhj rfl dc (zaa (m:=1) u rfl (d 1 dc)) (zaa (m:=2) u rfl (d 2 dc)) rfl rfl (zaf 3 u i rfl)
       · exact fun D n d c u i=>zdP (i:=(i3:Int).toNat) (j:=0) (k:=9) (q:=q1) (cs:=(zr2 q1)) zje zbj rfl dc (zaa (m:=3) u rfl (d 3 dc)) rfl (zaG hq6) rfl rfl rfl (zaf 4 u i rfl)
       · exact fun D n d c u i=>zam (k:=5) zhn rfl dc (za4 (by rfl) rfl) rfl rfl (zaf 0 u i rfl)
       · exact fun D n d c u i=>zar (k:=9) hq6 Tryz.underlying43 zhj rfl dc (zaa (m:=1) u rfl (d 1 dc)) (zaa (m:=2) u rfl (d 2 dc)) rfl rfl (zaf 3 u i rfl)
       · exact fun D n d c u i=>zdP (i:=(i3:Int).toNat) (j:=0) (k:=9) (q:=q1) (cs:=(zr2 q1)) zje zbj rfl dc (zaa (m:=3) u rfl (d 3 dc)) rfl (zaG hq6) rfl rfl rfl (zaf 4 u i rfl)
       ·
        intro D hn hd hcl
        refine zaR (cs:=(zr2 q1)) (te:=33) (ps:=[(0,.tmp 71)]) rfl dc (evP.cons (zaa (m:=4) kr rfl (hd 4 dc)) evP.nil) (fun _=>by kernel_rfl) (fun b16 => ?_)
        exact fun a w ha hw=>⟨b16,znm (by rfl) _ _ _ ha,hw⟩
       intro b16
       refine za3 (k:=6) (k2:=11) (ys:=[q1]) Tryz.underlying43 zrT zbj zeh rfl dc rfl rfl rfl rfl rfl rfl hg2 (fun v4 => ?_)
       refine zbu (k:=6) rfl (fun hd22 he3 => ?_)
       subst he3
       refine zaM (k:=5) (l':=[hd22.v]) zsG rfl rfl rfl rfl rfl (fun _ _=>rfl) rfl ?_
       refine zyH (zam (k:=7) zgA rfl dc rfl rfl rfl (zyR 1 rfl ?_))
       refine zaR (cs:=[zI k3]) (te:=3) (ps:=[(0,.tmp 75)]) rfl dc rfl (fun _=>by kernel_rfl) (fun b17 => ?_)
       obtain ⟨hg3,h⟩:=zbn h
       refine za3 (k:=8) (k2:=12) (ys:=[k3]) Tryz.underlying49 ztR zbO zgo rfl dc rfl rfl rfl rfl rfl rfl hg3 (fun v5 => ?_)
       refine zbu (k:=8) rfl (fun hd23 he4 => ?_)
       subst he4
       refine zaM (k:=7) (l':=[hd23.v]) zpW rfl rfl rfl rfl rfl (fun _ _=>rfl) rfl ?_
       refine zyN ?_
       obtain ⟨q2,hq7,h⟩:=zbw h
       obtain ⟨r5,hq8,h⟩:=zbw h
       obtain ⟨hg4,h⟩:=zbn h
       refine zbK 8 [(0,78,.string out9),(1,79,hd15.v),(2,80,zI i3),(3,81,.pointer (some ⟨zcN hd15.v,(i3:Int).toNat*6,none⟩)),(4,82,.agg (zr2 q2).toArray),(5,83,zP b1),(6,84,zI l1.Width),(7,85,.string r5)] mixed kr kr dc (by rfl) kr kr (zyP 3 0 rfl (zae ?_ (zae ?_ (zae ?_ (zae ?_ (zae ?_ DrawPre.nil)))))) ?_
       · exact fun D n d c u i=>zar (k:=9) hq7 Tryz.underlying43 zhj rfl dc (zaa (m:=1) u rfl (d 1 dc)) (zaa (m:=2) u rfl (d 2 dc)) rfl rfl (zaf 3 u i rfl)
       · exact fun D n d c u i=>zdP (i:=(i3:Int).toNat) (j:=0) (k:=9) (q:=q2) (cs:=(zr2 q2)) zje zbj rfl dc (zaa (m:=3) u rfl (d 3 dc)) rfl (zaG hq7) rfl rfl rfl (zaf 4 u i rfl)
       · exact fun D n d c u i=>zab zhw rfl dc (za4 (by rfl) rfl) (show _=0 from rfl) (zaf 5 u i rfl)
       · exact fun D n d c u i=>zam (k:=0) zbr rfl dc (zaa (m:=5) u rfl (d 5 dc)) rfl rfl (zaf 6 u i rfl)
       · exact fun D n d c u i=>zbe (v:=.string r5) (vs:=[.agg (zr2 q2).toArray,zI l1.Width]) rfl dc rfl (evL.cons (zaa (m:=4) u rfl (d 4 dc)) (evL.cons (zaa (m:=6) u rfl (d 6 dc)) evL.nil)) rfl zya (zmS (r1:=q2) hq8) (zaf 7 u i rfl)
       refine zaW rfl (zfW hg4) (zyR 1 rfl (zaQ (zag (zaI (zat (zyR 1 rfl ?_))))))
       obtain ⟨hg5,h⟩:=zbn h
       refine zaW rfl (zaX (r:=i3+1) (IntWalk.i64_in _ hg5)) (zyR 1 rfl (zaQ ?_))
       subst hag2
       exact za8 (n2,want9++[q1],on8++[k3],out9++r5,i3+1,hd22,hd23) h (Nat.lt_succ_self _) rfl (za5 rfl) (zad [0,1,2,3,4,5,6,7,8,9,10] kr rfl)
      refine za6 (zak (zak (zav (zag ?_))))
      exact zai (want9,on8,out9,hd20,hd21) h rfl (za5 rfl) (zad [0,1,2,3,4,5,6,7,8,10] kr rfl)
    rintro ⟨want6,on5,out5,hd13,hd14⟩ h
    rw [hj2] at h
    refine zat (zyR 1 rfl ?_)
    obtain ⟨hg6,h⟩:=zbn h
    refine zaW rfl (zaX (r:=k3+1) (IntWalk.i64_in _ hg6)) (zyR 1 rfl (zaQ ?_))
    subst hag1
    exact za8 (n1,want6,on5,out5,k3+1,hd13,hd14) h (Nat.lt_succ_self _) rfl (za5 rfl) (zad [0,1,2,3,4,5,6,7,8,9] kr rfl)
   refine za6 (zak (zak (zav ?_)))
   exact zai (p1.layout_Width,p1.layout_Height,p1.layout_Turn,p1.layout_Every,p1.pages,p1.cost,want5,on4,out4,b15,hd5,b13,hd11,b14,hd12) h rfl (za5 rfl) (zad [1,2,3,4,5,6,7,8,9] kr rfl)
 rintro ⟨b5,b6,b7,b8,b9,b10,want1,on1,out1,b4,hd2,b11,hd3,b12,hd4⟩ h
 rw [hj1] at h
 refine zyG (zyR 1 rfl ?_)
 obtain ⟨r6,hq9,h⟩:=zbw h
 refine zfY (vs:=[zP b4]) (Rd.nil:Rd _ _ []) rfl dc rfl rfl rfl zwD (zgE (bb1:=b4) (b1:=(⟨b5,b6,b7,b8,b9,b10⟩:Gpage_Book)) (b1_h0:=hd2) hq9) Splits.nil (.own (zad [2] (by kernel_rfl) rfl) (fun _ _ h=>sepL.one1.1 h) (.own (zad [3] (by kernel_rfl) rfl) (fun _ _ h=>sepL.one1.1 h) .nil)) ?_
 rintro b18
 refine zdA (L':=[cells b2 [zI stop1] 3,cells b3 [.bool false] 4,cells b4 [zI b5,zI b6,zI b7,zI b8,hd2.v,zI b10] 81,zfM zaD zaP 43 1 hd2.v b9,cells b11 [hd3.v] 43,zv1 hd3.v want1,cells b12 [hd4.v] 49,zv0 hd4.v on1,zhe ((([]:List Nat):List Nat).map zi7),cells b18 [zP b4] 25]) (zad [0,1,2,3,4,5,6,7,8,9] kr rfl) (zyR 1 rfl (zyN (zaJ (zyG (zyR 1 rfl (zaW rfl (zoX Tryz.underlying30 rfl) (zyN (zaN rfl (zas (zaI ?_))))))))))
 obtain ⟨j4,hj4,h⟩:=zbF h
 refine za1 (β:=(List Nat)) 0 rfl (fun b=>j4=some r) (fun b=>zd4 b) (fun b=>[(6,zP b3),(7,zP b4),(13,.string out1)]) (fun b=>[cells b3 [.bool false] 4,cells b4 [zI b5,zI b6,zI b7,zI b8,hd2.v,zI b10] 81,zfM zaD zaP 43 1 hd2.v b9,zhe ((b:List Nat).map zi7)]) (fun cut => ?_) ?_
 ·
  refine cut (zyG ?_)
  refine zbc zt6 rfl dc (fun b19 => ?_)
  refine zaM (k:=10) (l':=[zI 0]) zeA rfl rfl rfl rfl rfl (fun _ _=>rfl) rfl ?_
  refine zyN (zaC ?_)
  refine zbq (β:=Nat×Int×Nat×(List Nat)) (fun b=>zaF (fun _=>none) (zb6 stop1 b5 b6 b7 b8 b9 b10 want1 on1 j4) b.1 b.2.1=some r) (fun b=>zd4 b.2.2.2) (fun b=>[(5,zP b2),(6,zP b3),(7,zP b4),(11,zP b11),(12,zP b12),(13,.string out1),(18,.func (.func 32) #[] #[zP b18]),(19,zP b.2.2.1)]) (fun b=>[cells b2 [zI stop1] 3,cells b3 [.bool false] 4,cells b4 [zI b5,zI b6,zI b7,zI b8,hd2.v,zI b10] 81,zfM zaD zaP 43 1 hd2.v b9,cells b11 [hd3.v] 43,zv1 hd3.v want1,cells b12 [hd4.v] 49,zv0 hd4.v on1,cells b18 [zP b4] 25,cells b.2.2.1 [zI b.2.1] 3,zhe ((b.2.2.2:List Nat).map zi7)]) (fun b=>b.1) (zbT,0,b19,([]:List Nat)) h rfl (za5 rfl) (zad [0,1,2,3,4,5,6,7,9,10,8] kr rfl) ?_
  rintro ⟨n3,round3,b22,ds4⟩ h
  cases n3 with
  | zero=>exact zdM h
  | succ n3 =>
   obtain ⟨ag3,hag3⟩:∃ ag,ag=zaF (fun _=>none) (zb6 stop1 b5 b6 b7 b8 b9 b10 want1 on1 j4) n3:=⟨_,rfl⟩
   have h:zb6 stop1 b5 b6 b7 b8 b9 b10 want1 on1 j4 ag3 round3=some r:=by rw [hag3]; exact h
   unfold zb6 at h
   refine zaJ (zyG (zam (k:=9) zbr rfl dc rfl rfl rfl (zaW rfl zbC (zyN ?_))))
   refine zyB rfl h (fun h => ?_) (fun h => ?_)
   ·
    refine zas (zaI ?_)
    obtain ⟨j5,hj5,h⟩:=zbF h
    refine za1 (β:=(List Nat)) 0 rfl (fun b=>j5=some r) (fun b=>zd4 b) (fun b=>[(5,zP b2),(6,zP b3),(7,zP b4),(11,zP b11),(12,zP b12),(13,.string out1),(18,.func (.func 32) #[] #[zP b18]),(19,zP b22)]) (fun b=>[cells b2 [zI stop1] 3,cells b3 [.bool false] 4,cells b4 [zI b5,zI b6,zI b7,zI b8,hd2.v,zI b10] 81,zfM zaD zaP 43 1 hd2.v b9,cells b11 [hd3.v] 43,zv1 hd3.v want1,cells b12 [hd4.v] 49,zv0 hd4.v on1,cells b18 [zP b4] 25,cells b22 [zI round3] 3,zhe ((b:List Nat).map zi7)]) (fun cut => ?_) ?_
    ·
     refine cut (zaC ?_)
     obtain ⟨j6,hj6,h⟩:=zbF h
     refine za1 (β:=Int×Nat×(List Nat)) 1 rfl (fun b=>j6 b.1=some r) (fun b=>zd4 b.2.2) (fun b=>[(5,zP b2),(6,zP b3),(7,zP b4),(11,zP b11),(12,zP b12),(13,.string out1),(18,.func (.func 32) #[] #[zP b18]),(19,zP b22),(20,zP b.2.1)]) (fun b=>[cells b2 [zI stop1] 3,cells b3 [.bool false] 4,cells b4 [zI b5,zI b6,zI b7,zI b8,hd2.v,zI b10] 81,zfM zaD zaP 43 1 hd2.v b9,cells b11 [hd3.v] 43,zv1 hd3.v want1,cells b12 [hd4.v] 49,zv0 hd4.v on1,cells b18 [zP b4] 25,cells b22 [zI round3] 3,cells b.2.1 [zI b.1] 3,zhe ((b.2.2:List Nat).map zi7)]) (fun cut => ?_) ?_
     ·
      refine zyG ?_
      refine zbc zt6 rfl dc (fun b24 => ?_)
      refine zaM (k:=11) (l':=[zI 0]) zeA rfl rfl rfl rfl rfl (fun _ _=>rfl) rfl ?_
      refine zyN (cut (zyG (zyR 1 rfl (zyN (zaC ?_)))))
      obtain ⟨its1,hq10,h⟩:=zbw h
      obtain ⟨ek1,hek1,h⟩:=zbF h
      obtain ⟨ek2,hek2,h⟩:=zbF h
      obtain ⟨dn1,hdn1,h⟩:=zbF h
      refine zlu (α:=Int×Gapi_Row) (β:=Int) (γ:=Int ⊕ Int) (δ:=Nat) (ps:=[96,97]) (Rd.nil:Rd _ _ []) Ro.nil rfl zwt (zfQ hq10) (fun pre b=>∀ post,its1=pre++post→zcu dn1 (zcj stop1 want1 on1 round3 ek1 ek2) post b=some r) (fun pre b=>[cells b2 [zI stop1] 3,cells b3 [.bool false] 4,cells b11 [hd3.v] 43,zv1 hd3.v want1,cells b12 [hd4.v] 49,zv0 hd4.v on1,cells b22 [zI round3] 3,cells b24 [zI b] 3]) (fun c pre g=>(Sum.elim (fun g=>c=.ret∧ek1 g=some r) (fun g=>c=.exit 6∧ek2 g=some r)) g) (fun c pre g=>(Sum.elim (fun g=>[cells b2 [zI stop1] 3,cells b3 [.bool false] 4,cells b11 [hd3.v] 43,zv1 hd3.v want1,cells b12 [hd4.v] 49,zv0 hd4.v on1,cells b22 [zI round3] 3,cells b24 [zI g] 3]) (fun g=>[cells b2 [zI stop1] 3,cells b3 [.bool false] 4,cells b11 [hd3.v] 43,zv1 hd3.v want1,cells b12 [hd4.v] 49,zv0 hd4.v on1,cells b22 [zI round3] 3,cells b24 [zI g] 3])) g) (fun pre x b j=>[(5,zP b2),(6,zP b3),(7,zP b4),(11,zP b11),(12,zP b12),(13,.string out1),(18,.func (.func 32) #[] #[zP b18]),(19,zP b22),(20,zP b24),(95,.func (.func 32) #[] #[zP b18]),(21,zI x.1),(22,zP j)]) (fun pre x b j=>[cells b2 [zI stop1] 3,cells b3 [.bool false] 4,cells b11 [hd3.v] 43,zv1 hd3.v want1,cells b12 [hd4.v] 49,zv0 hd4.v on1,cells b22 [zI round3] 3,cells b24 [zI b] 3,cells j (zr2 x.2) 33]) 0 (fun post e=>by rw [List.nil_append] at e; subst e; exact h) (zad [0,1,4,5,6,7,9,11] kr rfl) (.own (As:=[cells b18 [zP b4] 25]) (zad [8] (by kernel_rfl) rfl) (fun _ _ h=>sepL.one1.1 h) (.own (As:=[cells b4 [zI b5,zI b6,zI b7,zI b8,hd2.v,zI b10] 81]) (zad [2] (by kernel_rfl) rfl) (fun _ _ h=>sepL.one1.1 h) (.own (As:=[zfM zaD zaP 43 1 hd2.v b9]) (zad [3] (by kernel_rfl) rfl) (fun _ _ h=>sepL.one1.1 h) .nil))) (fun _=>rfl) dc ?_ ?_ ?_ ?_
      ·
       rintro lp rc pre x1 post i7 w1 K1 hxs4 hext hro hinv
       refine zyG (zyR 1 rfl (zyN (zat ?_)))
       refine zbc zpS rfl dc (fun b25 => ?_)
       refine za0 (k:=8) (vs:=(zr2 x1.2)) (l':=(zr2 x1.2)) zhj rfl rfl rfl rfl rfl (show _≤_ by simp) rfl rfl ?_
       refine zaQ ?_
       exact fun a w ha hw=>⟨b25,(za5 rfl) _ _ _ ha,hw.weaken (zad [0,1,2,3,4,5,6,7,8] kr rfl)⟩
      ·
       rintro lp rc pre x1 post4 i7 jb1 w1 K1 hxs4 hext hro hinv
       have h:=hinv (x1::post4) hxs4
       obtain ⟨ag4,hag4⟩:∃ ag,ag=zcu dn1 (zcj stop1 want1 on1 round3 ek1 ek2) post4:=⟨_,rfl⟩
       have h:zcj stop1 want1 on1 round3 ek1 ek2 x1 ag4 i7=some r:=by rw [hag4]; exact h
       unfold zcj at h
       refine zaC (zaJ (zaJ ?_))
       refine zfC (b:=decide (((want1.length:Int):Int)≤i7)) (fun hb10 => ?_) (fun hb10 => ?_)
       ·
        have h:=zhY hb10 h
        refine zbK 18 [(0,98,zI i7),(1,99,hd3.v),(2,100,zI (want1.length:Int)),(3,101,.bool true),(4,102,.bool true),(5,103,undef),(6,104,undef),(7,105,undef),(8,106,undef),(9,107,undef),(10,108,undef),(11,109,.bool true),(12,110,.bool true),(13,111,undef),(14,112,undef),(15,113,undef),(16,114,undef),(17,115,undef)] mixed kr kr dc (by rfl) kr kr (zae ?_ (zae ?_ (zae ?_ (zae ?_ (zyP 14 4 rfl DrawPre.nil))))) ?_
        · exact fun D n d c u i=>zam (k:=7) zbr rfl dc (za4 (by rfl) rfl) rfl rfl (zaf 0 u i rfl)
        · exact fun D n d c u i=>zam (k:=2) zhn rfl dc (za4 (by rfl) rfl) rfl rfl (zaf 1 u i rfl)
        · exact fun D n d c u i=>zbl (k:=3) rfl dc (zaa (m:=1) u rfl (d 1 dc)) rfl Tryz.underlying43 (zaf 2 u i rfl)
        · exact fun D n d c u i=>zb9 rfl dc (zaa (m:=0) u rfl (d 0 dc)) (zaa (m:=2) u rfl (d 2 dc)) zeq (zfy (show Value.bool (decide (((want1.length:Int):Int)≤i7))=Value.bool true from congrArg Value.bool hb10) (zaf 3 u i rfl))
        refine zyR 2 rfl (zyN (za9 rfl (zyG ?_)))
        refine zaM (k:=1) (l':=[.bool false]) zoA rfl rfl rfl rfl rfl (fun _ _=>rfl) rfl ?_
        refine zyN (zaE (zaq (zaA ?_)))
        exact zds (.inl i7) (show _∧_ from ⟨rfl,h⟩) (zad [0,1,2,3,4,5,6,7] kr rfl)
       have h:=zhZ hb10 h
       obtain ⟨q3,hq11,h⟩:=zbw h
       refine zfC (b:=!(zd5 x1.2 q3)) (fun hb11 => ?_) (fun hb11 => ?_)
       ·
        have h:=zhY hb11 h
        refine zbK 18 [(0,98,zI i7),(1,99,hd3.v),(2,100,zI (want1.length:Int)),(3,101,.bool false),(4,102,.bool false),(5,103,.agg (zr2 x1.2).toArray),(6,104,hd3.v),(7,105,zI i7),(8,106,.pointer (some ⟨zcN hd3.v,(i7:Int).toNat*6,none⟩)),(9,107,.agg (zr2 q3).toArray),(10,108,.bool true),(11,109,.bool true),(12,110,.bool true),(13,111,undef),(14,112,undef),(15,113,undef),(16,114,undef),(17,115,undef)] mixed kr kr dc (by rfl) kr kr (zae ?_ (zae ?_ (zae ?_ (zae ?_ (zyP 1 4 rfl (zae ?_ (zae ?_ (zae ?_ (zae ?_ (zae ?_ (zae ?_ (zyP 7 11 rfl DrawPre.nil)))))))))))) ?_
        · exact fun D n d c u i=>zam (k:=7) zbr rfl dc (za4 (by rfl) rfl) rfl rfl (zaf 0 u i rfl)
        · exact fun D n d c u i=>zam (k:=2) zhn rfl dc (za4 (by rfl) rfl) rfl rfl (zaf 1 u i rfl)
        · exact fun D n d c u i=>zbl (k:=3) rfl dc (zaa (m:=1) u rfl (d 1 dc)) rfl Tryz.underlying43 (zaf 2 u i rfl)
        · exact fun D n d c u i=>zb9 rfl dc (zaa (m:=0) u rfl (d 0 dc)) (zaa (m:=2) u rfl (d 2 dc)) zeq (zfy (show Value.bool (decide (((want1.length:Int):Int)≤i7))=Value.bool false from congrArg Value.bool hb10) (zaf 3 u i rfl))
        · exact fun D n d c u i=>zbb (k:=8) (cs:=(zr2 x1.2)) zje (zgd rfl (zaa (m:=4) u rfl (d 4 dc))) dc (za4 (by rfl) rfl) rfl rfl rfl (zaf 5 u i rfl)
        · exact fun D n d c u i=>zam (k:=2) zhn (zgd rfl (zaa (m:=4) u rfl (d 4 dc))) dc (za4 (by rfl) rfl) rfl rfl (zaf 6 u i rfl)
        · exact fun D n d c u i=>zam (k:=7) zbr (zgd rfl (zaa (m:=4) u rfl (d 4 dc))) dc (za4 (by rfl) rfl) rfl rfl (zaf 7 u i rfl)
        · exact fun D n d c u i=>zar (k:=3) hq11 Tryz.underlying43 zhj (zgd rfl (zaa (m:=4) u rfl (d 4 dc))) dc (zaa (m:=6) u rfl (d 6 dc)) (zaa (m:=7) u rfl (d 7 dc)) rfl rfl (zaf 8 u i rfl)
        · exact fun D n d c u i=>zdP (i:=(i7:Int).toNat) (j:=0) (k:=3) (q:=q3) (cs:=(zr2 q3)) zje zbj (zgd rfl (zaa (m:=4) u rfl (d 4 dc))) dc (zaa (m:=8) u rfl (d 8 dc)) rfl (zaG hq11) rfl rfl rfl (zaf 9 u i rfl)
        · exact fun D n d c u i=>zb9 (zgd rfl (zaa (m:=4) u rfl (d 4 dc))) dc (zaa (m:=5) u rfl (d 5 dc)) (zaa (m:=9) u rfl (d 9 dc)) (zmn x1.2 q3) (zfy (show Value.bool (!(zd5 x1.2 q3))=Value.bool true from congrArg Value.bool hb11) (zaf 10 u i rfl))
        refine zyR 2 rfl (zyN (za9 rfl (zyG ?_)))
        refine zaM (k:=1) (l':=[.bool false]) zoA rfl rfl rfl rfl rfl (fun _ _=>rfl) rfl ?_
        refine zyN (zaE (zaq (zaA ?_)))
        exact zds (.inl i7) (show _∧_ from ⟨rfl,h⟩) (zad [0,1,2,3,4,5,6,7] kr rfl)
       have h:=zhZ hb11 h
       obtain ⟨q4,hq12,h⟩:=zbw h
       refine zbK 18 [(0,98,zI i7),(1,99,hd3.v),(2,100,zI (want1.length:Int)),(3,101,.bool false),(4,102,.bool false),(5,103,.agg (zr2 x1.2).toArray),(6,104,hd3.v),(7,105,zI i7),(8,106,.pointer (some ⟨zcN hd3.v,(i7:Int).toNat*6,none⟩)),(9,107,.agg (zr2 q3).toArray),(10,108,.bool false),(11,109,.bool false),(12,110,.bool false),(13,111,zI x1.1),(14,112,hd4.v),(15,113,zI i7),(16,114,.pointer (some ⟨zcN hd4.v,(i7:Int).toNat*1,none⟩)),(17,115,zI q4)] mixed kr kr dc (by rfl) kr kr (zae ?_ (zae ?_ (zae ?_ (zae ?_ (zyP 1 4 rfl (zae ?_ (zae ?_ (zae ?_ (zae ?_ (zae ?_ (zae ?_ (zyP 3 11 rfl (zae ?_ (zae ?_ (zae ?_ (zae ?_ DrawPre.nil)))))))))))))))) ?_
       · exact fun D n d c u i=>zam (k:=7) zbr rfl dc (za4 (by rfl) rfl) rfl rfl (zaf 0 u i rfl)
       · exact fun D n d c u i=>zam (k:=2) zhn rfl dc (za4 (by rfl) rfl) rfl rfl (zaf 1 u i rfl)
       · exact fun D n d c u i=>zbl (k:=3) rfl dc (zaa (m:=1) u rfl (d 1 dc)) rfl Tryz.underlying43 (zaf 2 u i rfl)
       · exact fun D n d c u i=>zb9 rfl dc (zaa (m:=0) u rfl (d 0 dc)) (zaa (m:=2) u rfl (d 2 dc)) zeq (zfy (show Value.bool (decide (((want1.length:Int):Int)≤i7))=Value.bool false from congrArg Value.bool hb10) (zaf 3 u i rfl))
       · exact fun D n d c u i=>zbb (k:=8) (cs:=(zr2 x1.2)) zje (zgd rfl (zaa (m:=4) u rfl (d 4 dc))) dc (za4 (by rfl) rfl) rfl rfl rfl (zaf 5 u i rfl)
       · exact fun D n d c u i=>zam (k:=2) zhn (zgd rfl (zaa (m:=4) u rfl (d 4 dc))) dc (za4 (by rfl) rfl) rfl rfl (zaf 6 u i rfl)
       · exact fun D n d c u i=>zam (k:=7) zbr (zgd rfl (zaa (m:=4) u rfl (d 4 dc))) dc (za4 (by rfl) rfl) rfl rfl (zaf 7 u i rfl)
       · exact fun D n d c u i=>zar (k:=3) hq11 Tryz.underlying43 zhj (zgd rfl (zaa (m:=4) u rfl (d 4 dc))) dc (zaa (m:=6) u rfl (d 6 dc)) (zaa (m:=7) u rfl (d 7 dc)) rfl rfl (zaf 8 u i rfl)
       · exact fun D n d c u i=>zdP (i:=(i7:Int).toNat) (j:=0) (k:=3) (q:=q3) (cs:=(zr2 q3)) zje zbj (zgd rfl (zaa (m:=4) u rfl (d 4 dc))) dc (zaa (m:=8) u rfl (d 8 dc)) rfl (zaG hq11) rfl rfl rfl (zaf 9 u i rfl)
       · exact fun D n d c u i=>zb9 (zgd rfl (zaa (m:=4) u rfl (d 4 dc))) dc (zaa (m:=5) u rfl (d 5 dc)) (zaa (m:=9) u rfl (d 9 dc)) (zmn x1.2 q3) (zfy (show Value.bool (!(zd5 x1.2 q3))=Value.bool false from congrArg Value.bool hb11) (zaf 10 u i rfl))
       · exact fun D n d c u i=>zam (k:=4) zgA (zgd rfl (zaa (m:=12) u rfl (d 12 dc))) dc (za4 (by rfl) rfl) rfl rfl (zaf 14 u i rfl)
       · exact fun D n d c u i=>zam (k:=7) zbr (zgd rfl (zaa (m:=12) u rfl (d 12 dc))) dc (za4 (by rfl) rfl) rfl rfl (zaf 15 u i rfl)
       · exact fun D n d c u i=>zar (k:=5) hq12 Tryz.underlying49 zeA (zgd rfl (zaa (m:=12) u rfl (d 12 dc))) dc (zaa (m:=14) u rfl (d 14 dc)) (zaa (m:=15) u rfl (d 15 dc)) rfl rfl (zaf 16 u i rfl)
       · exact fun D n d c u i=>zaH (i:=(i7:Int).toNat) (j:=0) (k:=5) (q:=q4) zbr zbO (zgd rfl (zaa (m:=12) u rfl (d 12 dc))) dc (zaa (m:=16) u rfl (d 16 dc)) rfl (zaG hq12) rfl dc rfl (zaf 17 u i rfl)
       refine zaW rfl zcc (zyR 1 rfl (zyN ?_))
       refine zyB rfl h (fun h => ?_) (fun h => ?_)
       ·
        refine zyG ?_
        refine zaM (k:=1) (l':=[.bool false]) zoA rfl rfl rfl rfl rfl (fun _ _=>rfl) rfl ?_
        refine zyN (zaE (zaq (zaA ?_)))
        exact zds (.inl i7) (show _∧_ from ⟨rfl,h⟩) (zad [0,1,2,3,4,5,6,7] kr rfl)
       refine zas (zaI (zyG (zam (k:=7) zbr rfl dc rfl rfl rfl ?_)))
       obtain ⟨hg7,h⟩:=zbn h
       refine zaW rfl (zaX (r:=i7+1) (IntWalk.i64_in _ hg7)) ?_
       refine zaM (k:=7) (l':=[zI (i7+1)]) zeA rfl rfl rfl rfl rfl (fun _ _=>rfl) rfl ?_
       refine zyH (zam (k:=6) zbr rfl dc rfl rfl rfl (zaW rfl zaT (zyR 1 rfl ?_)))
       refine zyS (s:=122) rfl h (fun h => ?_) (fun h => ?_)
       ·
        refine zam (k:=7) zbr rfl dc rfl rfl rfl (zam (k:=0) zbr rfl dc rfl rfl rfl (zaW rfl zaT (zyR 1 rfl (zyN ?_))))
        refine zyB rfl h (fun h => ?_) (fun h => ?_)
        ·
         refine za6 (zcp dc ?_)
         exact zoo (.inr (i7+1)) (show _∧_ from ⟨rfl,h⟩) (zad [0,1,2,3,4,5,6,7] kr rfl)
        refine zas (zag ?_)
        exact zeV (i7+1) (fun post2 e2=>by have e9:=zd7 hxs4 e2; subst e9; subst hag4; exact h) (zad [0,1,2,3,4,5,6,7] kr rfl)
       refine zyR 4 rfl (zyN (zaN rfl (zas (zag ?_))))
       exact zeV (i7+1) (fun post2 e2=>by have e9:=zd7 hxs4 e2; subst e9; subst hag4; exact h) (zad [0,1,2,3,4,5,6,7] kr rfl)
      ·
       rintro dm1 i7 hinv
       have h:dn1 i7=some r:=hinv [] (List.append_nil _).symm
       rw [hdn1] at h
       refine zfw (k:=20) (j:=10) rfl rfl dc ?_
       refine zag ?_
       exact zai (i7,b24,dm1::ds4) h rfl (za5 rfl) (zad [12,13,2,3,14,15,16,17,8,18,19,10] kr rfl)
      rintro dm1 c pre x1 post g hxs hX
      rcases g with g | g
      ·
       obtain ⟨rfl,h⟩:=(show _∧_ from hX)
       generalize g=i8 at *
       rw [hek1] at h
       refine zil (k:=20) (j:=10) rfl rfl dc ?_
       refine zaE (zaA (zaq (zaA (zaq (zaq (zaA (zaq ?_)))))))
       cases h
       exact zfx (rs:=[.cell 6 4]) (dm1::ds4) () (.inl rfl) (zbW (k:=10) rfl) Tryz.results6 (.cons (.cell zl4 (k:=13) rfl rfl) .nil) rfl Splits.nil
      obtain ⟨rfl,h⟩:=(show _∧_ from hX)
      generalize g=i9 at *
      rw [hek2] at h
      refine zil (k:=20) (j:=10) rfl rfl dc ?_
      refine za6 (zav ?_)
      exact zai (i9,b24,dm1::ds4) h rfl (za5 rfl) (zad [12,13,2,3,14,15,16,17,8,18,19,10] kr rfl)
     rintro ⟨i4,b23,ds6⟩ h
     rw [hj6] at h
     refine zyG (zam (k:=10) zbr rfl dc rfl rfl rfl (zam (k:=4) zhn rfl dc rfl rfl rfl (zbl (k:=5) rfl dc rfl rfl Tryz.underlying43 (zaW rfl zcc (zyR 1 rfl ?_)))))
     refine zyS (s:=131) rfl h (fun h => ?_) (fun h => ?_)
     ·
      refine zam (k:=9) zbr rfl dc rfl rfl rfl (zaW rfl zaT (zyR 1 rfl ?_))
      refine zyS (s:=134) rfl h (fun h => ?_) (fun h => ?_)
      ·
       refine zam (k:=10) zbr rfl dc rfl rfl rfl (zam (k:=0) zbr rfl dc rfl rfl rfl (zaW rfl zaT (zyR 1 rfl (zd2 rfl dc rfl zcB (zyR 1 rfl (zyN ?_))))))
       refine zyB rfl h (fun h => ?_) (fun h => ?_)
       ·
        refine zyG ?_
        refine zaM (k:=1) (l':=[.bool false]) zoA rfl rfl rfl rfl rfl (fun _ _=>rfl) rfl ?_
        refine zyN (zaE (zaA (zaq (zaq (zaA (zaq ?_))))))
        cases h
        exact zfx (rs:=[.cell 6 4]) ds6 () (.inl rfl) (zbW (k:=11) rfl) Tryz.results6 (.cons (.cell zl4 (k:=1) rfl rfl) .nil) rfl Splits.nil
       refine zas (zag ?_)
       exact zai ds6 h rfl (za5 rfl) (zad [0,1,2,3,4,5,6,7,8,9,11] kr rfl)
      refine zyR 4 rfl (zd2 rfl dc rfl zcB (zyR 1 rfl (zyN (za9 rfl (zyG ?_)))))
      refine zaM (k:=1) (l':=[.bool false]) zoA rfl rfl rfl rfl rfl (fun _ _=>rfl) rfl ?_
      refine zyN (zaE (zaA (zaq (zaq (zaA (zaq ?_))))))
      cases h
      exact zfx (rs:=[.cell 6 4]) ds6 () (.inl rfl) (zbW (k:=11) rfl) Tryz.results6 (.cons (.cell zl4 (k:=1) rfl rfl) .nil) rfl Splits.nil
     refine zyR 9 rfl (zyN (zaN rfl (zas (zag ?_))))
     exact zai ds6 h rfl (za5 rfl) (zad [0,1,2,3,4,5,6,7,8,9,11] kr rfl)
    rintro ds5 h
    rw [hj5] at h
    refine zaJ (zyG (zam (k:=9) zbr rfl dc rfl rfl rfl (zyN (zat ?_))))
    refine zbc zt6 rfl dc (fun b26 => ?_)
    refine zaM (k:=11) (l':=[zI round3]) zeA rfl rfl rfl rfl rfl (fun _ _=>rfl) rfl ?_
    refine zyN (zat (zam (k:=11) zbr rfl dc rfl rfl rfl ?_))
    obtain ⟨hg8,h⟩:=zbn h
    refine zaW rfl (zaX (r:=round3+1) (IntWalk.i64_in _ hg8)) ?_
    refine zaM (k:=11) (l':=[zI (round3+1)]) zeA rfl rfl rfl rfl rfl (fun _ _=>rfl) rfl ?_
    refine zaQ ?_
    subst hag3
    exact za8 (n3,round3+1,b26,ds5) h (Nat.lt_succ_self _) rfl (za5 rfl) (zad [0,1,2,3,4,5,6,7,8,11,10] kr rfl)
   refine za6 (zak (zak (zav ?_)))
   exact zai ds4 h rfl (za5 rfl) (zad [1,2,3,10] kr rfl)
 rintro ds1 h
 rw [hj4] at h
 refine zyG (zyR 1 rfl ?_)
 obtain ⟨r7,hq13,h⟩:=zbw h
 refine zcH (v:=.string r7) (vs:=[zP b4]) (Rd.nil:Rd _ _ []) rfl dc rfl rfl rfl zx6 (ziE (bb1:=b4) (b1:=(⟨b5,b6,b7,b8,b9,b10⟩:Gpage_Book)) (b1_h0:=hd2) hq13) (.own (zad [1] (by kernel_rfl) rfl) (fun _ _ h=>sepL.one1.1 h) (.own (zad [2] (by kernel_rfl) rfl) (fun _ _ h=>sepL.one1.1 h) .nil)) ?_
 refine zyR 1 rfl (zaW rfl zgZ ?_)
 refine zaM (k:=0) (l':=[.bool (decide (r7=out1))]) zoA rfl rfl rfl rfl rfl (fun _ _=>rfl) rfl ?_
 refine zyN (zaE ?_)
 cases h
 exact zfx (rs:=[.cell 6 4]) ds1 () (.inl rfl) (zbW (k:=3) rfl) Tryz.results6 (.cons (.cell zl4 (k:=0) rfl rfl) .nil) rfl Splits.nil
end Go.Proofs.YtbempdelckaccaaGreatDoor

namespace Go.Proofs.YtbempdelckaccaaGreatDoor
open Go.RowKit Go.Lib
set_option linter.unusedVariables false
set_option linter.unusedSimpArgs false
theorem zrt:∀ (ts:List ByteArray) (t:ByteArray),t∈ts→t.size≤zvK ts
 | [],t,h=>by cases h
 | x::ts,t,h=>by
  show t.size≤x.size+zvK ts
  rcases List.mem_cons.1 h with rfl | h
  ·omega
  ·have:=zrt ts t h; omega
theorem zq9 {l:Gapi_Layout} (hm:zj9 l=true) {k:Int} (hk:0≤k∧k<90) {v:Gapi_Verse} (h:OkV v):∀ (ts:List ByteArray) (p:Int),(∀ t∈ts,t.size≤1024)→∀ r∈zhr l k v p ts,RowP r
 | [],p,_,r,hr=>by cases hr
 | t::ts,p,ht,r,hr=>by
  rcases List.mem_cons.1 (show r∈zvR l k v p t::zhr l k v (p+1) ts from hr) with rfl | hr
  ·obtain ⟨m1,m2,m3⟩:=zmX hm
   have hi0:=h.i0
   refine ⟨⟨?_,?_⟩,⟨?_,?_⟩,ht t (List.mem_cons_self ..)⟩
   ·show 0≤(if p=0 then v.Indent else l.Turn); split <;> omega
   ·show (if p=0 then v.Indent else l.Turn)≤1024; split <;> omega
   ·show 0≤(if p=0 then zwb l k else 0)
    unfold zwb
    repeat' split
    all_goals omega
   ·show (if p=0 then zwb l k else 0)<100
    unfold zwb
    repeat' split
    all_goals omega
  ·exact zq9 hm hk h ts (p+1) (fun x hx=>ht x (List.mem_cons_of_mem _ hx)) r hr
theorem zq8 {l:Gapi_Layout} (hm:zj9 l=true):∀ (vs:List Gapi_Verse) (k:Int),0≤k→k+vs.length≤60→(∀ v∈vs,OkV v)→∀ r∈zdk l k vs,RowP r
 | [],k,_,_,_,r,hr=>by cases hr
 | v::vs,k,hk,hkl,hv,r,hr=>by
  rw [List.length_cons] at hkl
  rcases List.mem_append.1 (show r∈zhr l k v 0 (zo8 l v)++zdk l (k+1) vs from hr) with hr | hr
  ·have h:=hv v (List.mem_cons_self ..)
   obtain ⟨w1,w2,w3⟩:=zqK hm h.i0
   have hsz:=h.sz
   have hcat:ztW (zo8 l v)=v.Text:=zpM (s:=v.Text) (by omega) w2 w3
   refine zq9 hm ⟨hk,by omega⟩ h _ 0 (fun t ht => ?_) r hr
   have:=zrt _ t ht
   rw [← zph,hcat] at this
   omega
  ·exact zq8 hm vs (k+1) (by omega) (by omega) (fun w hw=>hv w (List.mem_cons_of_mem _ hw)) r hr
theorem zj8:∀ (l:List Gapi_Row) (o:Option Int),∀ r∈pgL o l,r∈l∨r=zsi
 | [],o,r,h=>by cases o <;> cases h
 | x::l,none,r,h=>by
  rcases List.mem_cons.1 (show r∈x::pgL (some x.Stanza) l from h) with rfl | h
  ·exact .inl (List.mem_cons_self ..)
  ·exact (zj8 l _ r h).imp (List.mem_cons_of_mem _) id
 | x::l,some s,r,h=>by
  rw [zmW] at h
  split at h
  ·rcases List.mem_cons.1 h with rfl | h
   ·exact .inl (List.mem_cons_self ..)
   ·exact (zj8 l _ r h).imp (List.mem_cons_of_mem _) id
  ·rcases List.mem_cons.1 h with rfl | h
   ·exact .inr rfl
   ·rcases List.mem_cons.1 h with rfl | h
    ·exact .inl (List.mem_cons_self ..)
    ·exact (zj8 l _ r h).imp (List.mem_cons_of_mem _) id
theorem zrm {R:Nat→Nat→Bool} {rows:List Gapi_Row} (hP:∀ r∈rows,RowP r):∀ (ts:List Nat) (f:Nat),zqv R rows.length f ts→∀ pg∈zgD rows f ts,pg≠[]∧∀ r∈pg,RowP r
 | [],f,_,pg,h=>by cases h
 | t::ts,f,hR,pg,h=>by
  obtain ⟨h1,h2,_,h3⟩:=hR
  rcases List.mem_cons.1 (show pg∈pgL none ((rows.drop f).take (t - f))::zgD rows t ts from h) with rfl | h
  ·refine ⟨fun e => ?_,fun r hr => ?_⟩
   ·have hl:((rows.drop f).take (t - f)).length=t - f:=by rw [List.length_take,List.length_drop]; omega
    cases hx:(rows.drop f).take (t - f) with
    | nil=>rw [hx] at hl; simp at hl; omega
    | cons x xs=>rw [hx] at e; cases e
   ·rcases zj8 _ _ r hr with h | h
    ·exact hP r (List.mem_of_mem_drop (List.mem_of_mem_take h))
    ·rw [h]; exact ⟨⟨by decide,by decide⟩,⟨by decide,by decide⟩,by decide⟩
  ·exact zrm hP ts t h3 pg h
theorem ziI (w:Int) (hw:0≤w∧w≤1000) {r:Gapi_Row} (h:RowP r):(zkP w r).size≤5000:=by
 obtain ⟨h1,h2,h3⟩:=h
 unfold zkP
 split
 ·show 1≤5000; decide
 ·have hc:=zli r.Text (by omega)
  have hb:=zhl r.Indent h1
  obtain ⟨k,hk,_⟩:=zja r.Text.data.toList
  have ht:(zdm r.Text).size≤1024:=by
   have:=congrArg List.length hk
   rw [List.length_append,List.length_replicate,zej] at this
   show (mkB (Lib.trimRightB r.Text.data.toList 32)).size≤1024
   rw [zba]; omega
  have h10:(⟨#[10]⟩:ByteArray).size=1:=rfl
  have hds:=zkj r.Number h2
  obtain ⟨q,hq⟩:∃ q:Nat,max 0 (w - r.Indent - zge r.Text)+2=(q:Int):=⟨(max 0 (w - r.Indent - zge r.Text)+2).toNat,by omega⟩
  have hqs:(zbd (max 0 (w - r.Indent - zge r.Text)+2)).size≤2000:=by rw [hq,zgz,zba,List.length_replicate]; omega
  split
  ·simp only [ByteArray.size_append]; omega
  ·simp only [ByteArray.size_append]; omega
def ziH (w:Int) (rs:List Gapi_Row):ByteArray:=ztW (rs.map (zkP w))
def zux (w:Int):Nat→List (List Gapi_Row)→ByteArray
 | _,[]=>⟨#[]⟩
 | k,pg::ps=>(if k=0 then ⟨#[]⟩ else ⟨#[12]⟩)++(ziH w pg++zux w (k+1) ps)
theorem zlk (s:ByteArray):s++(⟨#[]⟩:ByteArray)=s:=ByteArray.append_empty
theorem zsk (s:ByteArray):(⟨#[]⟩:ByteArray)++s=s:=ByteArray.empty_append
theorem znK (b:Gpage_Book) (hw:0≤b.layout_Width∧b.layout_Width≤1000) (k:Int) {r:Gapi_Row} (h:RowP r) (ag:ByteArray→Int→Option ByteArray) (out:ByteArray) (last:Int) (ho:out.size≤100000000000000) :
  zbg b (k,r) ag out last=ag ((if k=last then out else out++(⟨#[12]⟩:ByteArray))++zkP b.layout_Width r) k:=by
 have u12:U8 12:=by decide
 have u10:U8 10:=by decide
 have e12:zc0 [12]=(⟨#[12]⟩:ByteArray):=rfl
 have e10:zc0 [10]=(⟨#[10]⟩:ByteArray):=rfl
 have s12:(⟨#[12]⟩:ByteArray).size=1:=rfl
 have s10:(⟨#[10]⟩:ByteArray).size=1:=rfl
 have key:∀ (out5:ByteArray),out5.size≤100000000000001→(zbi (fun (j3:ByteArray→Option ByteArray) =>
   zaw (decide ((0:Int)≤r.Line)) (
   grd (r.Text.size≤9223372036854775807) <|
   grd (0≤r.Indent∧r.Indent≤140737488355328) <|
   grd ((zbd r.Indent).size+(zdm r.Text).size≤9223372036854775807) <|
   grd (out5.size+((zbd r.Indent)++(zdm r.Text)).size≤140737488355328) <|
   zaw (decide ((0:Int)<r.Number)) (
   grd (I64 (b.layout_Width - r.Indent)) <|
   zal (zek r.Text) fun (r2:Int) =>
   grd (I64 ((b.layout_Width - r.Indent) - r2)) <|
   grd (I64 ((max 0 ((b.layout_Width - r.Indent) - r2))+2)) <|
   grd (0≤((max 0 ((b.layout_Width - r.Indent) - r2))+2)∧((max 0 ((b.layout_Width - r.Indent) - r2))+2)≤140737488355328) <|
   zal (zei r.Number) fun (r3:ByteArray) =>
   grd ((zbd ((max 0 ((b.layout_Width - r.Indent) - r2))+2)).size+r3.size≤9223372036854775807) <|
   grd ((out5++((zbd r.Indent)++(zdm r.Text))).size+((zbd ((max 0 ((b.layout_Width - r.Indent) - r2))+2))++r3).size≤140737488355328) <|
   j3 ((out5++((zbd r.Indent)++(zdm r.Text)))++((zbd ((max 0 ((b.layout_Width - r.Indent) - r2))+2))++r3))
   ) (
   j3 (out5++((zbd r.Indent)++(zdm r.Text)))
   )
   ) (
   j3 out5
   )
   ) (fun (out6:ByteArray) =>
   grd (out6.size+1≤140737488355328∧U8 10) <|
   ag (out6++zc0 [10]) k
   ))=ag (out5++zkP b.layout_Width r) k:=by
  intro out5 h5
  obtain ⟨h1,h2,h3⟩:=h
  refine zby ?_
  unfold zkP
  by_cases hl:r.Line<0
  ·rw [if_pos hl]
   refine zaz (decide_eq_false (by omega)) (zbm ⟨by omega,u10⟩ ?_)
   rw [e10]
  ·rw [if_neg hl]
   have hc:=zli r.Text (by omega)
   have hb:=zhl r.Indent h1
   obtain ⟨k,hk,_⟩:=zja r.Text.data.toList
   have ht:(zdm r.Text).size≤1024:=by
    have:=congrArg List.length hk
    rw [List.length_append,List.length_replicate,zej] at this
    show (mkB (Lib.trimRightB r.Text.data.toList 32)).size≤1024
    rw [zba]; omega
   refine zaB (decide_eq_true (by omega)) (zbm (by omega) (zbm ⟨by omega,by omega⟩ (zbm (by omega) (zbm (by rw [ByteArray.size_append]; omega) ?_))))
   by_cases h0:0<r.Number
   ·rw [if_pos h0]
    have hds:=zkj r.Number h2
    obtain ⟨q,hq⟩:∃ q:Nat,max 0 (b.layout_Width - r.Indent - zge r.Text)+2=(q:Int):=⟨(max 0 (b.layout_Width - r.Indent - zge r.Text)+2).toNat,by omega⟩
    have hqs:(zbd (max 0 (b.layout_Width - r.Indent - zge r.Text)+2)).size≤2000:=by rw [hq,zgz,zba,List.length_replicate]; omega
    refine zaB (decide_eq_true h0) (zbm ⟨by omega,by omega⟩ (zaO (zqa r.Text (by omega)) (zbm ⟨by omega,by omega⟩ (zbm ⟨by omega,by omega⟩ (zbm ⟨by omega,by omega⟩ (zaO (zwh r.Number h2) (zbm (by omega) (zbm (by simp only [ByteArray.size_append]; omega) (zbm ⟨by simp only [ByteArray.size_append]; omega,u10⟩ ?_)))))))))
    rw [e10]
    simp only [ByteArray.append_assoc]
   ·rw [if_neg h0]
    refine zaz (decide_eq_false h0) (zbm ⟨by simp only [ByteArray.size_append]; omega,u10⟩ ?_)
    rw [e10]
    simp only [ByteArray.append_assoc]
 unfold zbg
 refine zby ?_
 by_cases hkl:k=last
 ·rw [if_pos hkl]
  refine zaz (by rw [hkl]; exact zvf rfl) ?_
  rw [← hkl]
  exact key out (by omega)
 ·rw [if_neg hkl]
  refine zaB (zuy hkl) (zbm ⟨by omega,u12⟩ ?_)
  rw [e12]
  exact key (out++⟨#[12]⟩) (by rw [ByteArray.size_append]; omega)
theorem zjj (w:Int) (hw:0≤w∧w≤1000):∀ (rs:List Gapi_Row),(∀ r∈rs,RowP r)→(ziH w rs).size≤5000*rs.length
 | [],_=>Nat.zero_le _
 | r::rs,h=>by
  have h1:=ziI w hw (h r (List.mem_cons_self ..))
  have h2:=zjj w hw rs (fun x hx=>h x (List.mem_cons_of_mem _ hx))
  show (zkP w r++ziH w rs).size≤_
  rw [ByteArray.size_append,List.length_cons]; omega
theorem zpn (b:Gpage_Book) (hw:0≤b.layout_Width∧b.layout_Width≤1000) (dn:ByteArray→Int→Option ByteArray) (k:Int) (rest:List (Int×Gapi_Row)):∀ (pg:List Gapi_Row) (out:ByteArray),(∀ r∈pg,RowP r)→out.size+5001*pg.length≤10000000000000 →
  zcu dn (zbg b) (pg.map (fun r=>(k,r))++rest) out k=zcu dn (zbg b) rest (out++ziH b.layout_Width pg) k
 | [],out,_,_=>by
  show _=zcu dn (zbg b) rest (out++(⟨#[]⟩:ByteArray)) k
  rw [zlk]; rfl
 | r::pg,out,hP,ho=>by
  rw [List.length_cons] at ho
  have h1:=ziI b.layout_Width hw (hP r (List.mem_cons_self ..))
  show zbg b (k,r) (zcu dn (zbg b) (pg.map (fun r=>(k,r))++rest)) out k=_
  rw [znK b hw k (hP r (List.mem_cons_self ..)) _ out k (by omega),if_pos rfl,zpn b hw dn k rest pg _ (fun x hx=>hP x (List.mem_cons_of_mem _ hx)) (by rw [ByteArray.size_append]; omega),ByteArray.append_assoc]; rfl
theorem znL (b:Gpage_Book) (hw:0≤b.layout_Width∧b.layout_Width≤1000) (dn:ByteArray→Int→Option ByteArray) (out0:ByteArray→Option ByteArray) (hdn:∀ o l,dn o l=out0 o):∀ (ps:List (List Gapi_Row)) (k:Nat) (out:ByteArray) (last:Int),((0<k∧last=(k:Int) - 1)∨(k=0∧last=0))→(∀ pg∈ps,pg≠[]∧∀ r∈pg,RowP r)→out.size+5002*(ps.flatten.length+ps.length)≤10000000000000 →
  zcu dn (zbg b) (zfm k ps) out last=out0 (out++zux b.layout_Width k ps)
 | [],k,out,last,_,_,_=>by
  show dn out last=out0 (out++(⟨#[]⟩:ByteArray))
  rw [zlk,hdn]
 | []::ps,k,out,last,_,hP,_=>absurd rfl (hP [] (List.mem_cons_self ..)).1
 | (r::pg)::ps,k,out,last,hl,hP,ho=>by
  obtain ⟨_,hPr⟩:=hP _ (List.mem_cons_self ..)
  rw [List.flatten_cons,List.length_append,List.length_cons,List.length_cons] at ho
  have h1:=ziI b.layout_Width hw (hPr r (List.mem_cons_self ..))
  have h12:(⟨#[12]⟩:ByteArray).size=1:=rfl
  have hpre:(if (k:Int)=last then out else out++(⟨#[12]⟩:ByteArray))=out++(if k=0 then (⟨#[]⟩:ByteArray) else ⟨#[12]⟩):=by
   by_cases hk:k=0
   ·subst hk
    rcases hl with ⟨hl,_⟩ | ⟨_,hl⟩
    ·omega
    ·rw [if_pos (by omega),if_pos rfl,zlk]
   ·rw [if_neg (by omega),if_neg hk]
  have hps:(if (k:Int)=last then out else out++(⟨#[12]⟩:ByteArray)).size≤out.size+1:=by
   split
   ·omega
   ·rw [ByteArray.size_append]; omega
  show zbg b ((k:Int),r) (zcu dn (zbg b) (pg.map (fun r=>((k:Int),r))++zfm (k+1) ps)) out last=_
  have h2:=zjj b.layout_Width hw pg (fun x hx=>hPr x (List.mem_cons_of_mem _ hx))
  rw [znK b hw k (hPr r (List.mem_cons_self ..)) _ out last (by omega),zpn b hw dn k _ pg _ (fun x hx=>hPr x (List.mem_cons_of_mem _ hx)) (by rw [ByteArray.size_append]; omega),
   znL b hw dn out0 hdn ps (k+1) _ k (.inl ⟨by omega,by omega⟩) (fun x hx=>hP x (List.mem_cons_of_mem _ hx)) (by rw [ByteArray.size_append,ByteArray.size_append]; omega),hpre]
  congr 1
  show _=out++((if k=0 then (⟨#[]⟩:ByteArray) else ⟨#[12]⟩)++((zkP b.layout_Width r++ziH b.layout_Width pg)++zux b.layout_Width (k+1) ps))
  simp only [ByteArray.append_assoc]
theorem zsV (l:Gapi_Layout) (hw:0≤l.Width∧l.Width≤1000) (k3:Int) (j2:List Gapi_Row→List Int→ByteArray→Option Bool) (pg:List Gapi_Row) (hP:∀ r∈pg,RowP r) (hl:pg.length≤1000000) :
  ∀ (d i m:Nat) (want:List Gapi_Row) (on:List Int) (out:ByteArray),i+d=pg.length→d<m→want.length+d≤10000000→on.length+d≤10000000→out.size+5000*d≤10000000000000 →
  zaF (fun _ _ _ _=>none) (zb7 l k3 j2 (pg,0)) m want on out (i:Int)=j2 (want++pg.drop i) (on++(pg.drop i).map (fun _=>k3)) (out++ziH l.Width (pg.drop i)):=by
 intro d
 induction d with
 | zero =>
  intro i m want on out hi hm h1 h2 h3
  obtain ⟨m,rfl⟩:∃ q,m=q+1:=⟨m - 1,by omega⟩
  rw [zcJ]
  unfold zb7
  refine zaz (decide_eq_false (by show ¬ (i:Int)<(pg.length:Int); omega)) ?_
  rw [List.drop_of_length_le (by omega),List.append_nil,List.map_nil,List.append_nil]
  show _=j2 want on (out++(⟨#[]⟩:ByteArray))
  rw [zlk]
 | succ d ih =>
  intro i m want on out hi hm h1 h2 h3
  obtain ⟨m,rfl⟩:∃ q,m=q+1:=⟨m - 1,by omega⟩
  rw [zcJ]
  have hv:pg[i]?=some pg[i]:=List.getElem?_eq_getElem (by omega)
  have hr:=hP _ (List.mem_of_getElem? hv)
  have hls:=ziI l.Width hw hr
  have ih':=ih (i+1) m (want++[pg[i]]) (on++[k3]) (out++zkP l.Width pg[i]) (by omega) (by omega) (by simp; omega) (by simp; omega) (by rw [ByteArray.size_append]; omega)
  rw [show ((i+1:Nat):Int)=(i:Int)+1 by omega] at ih'
  generalize zaF (fun _ _ _ _=>none) (zb7 l k3 j2 (pg,0)) m=ag at ih' ⊢
  unfold zb7
  refine zaB (decide_eq_true (by show (i:Int)<(pg.length:Int); omega)) (zaO (zc4 hv) (zbm (by omega) (zbm (by omega) (zaO (zc4 hv) (zaO (zuo _ _ hw hr) (zbm (by omega) (zbm ⟨by omega,by omega⟩ ?_)))))))
  rw [ih',List.drop_eq_getElem_cons (show i<pg.length by omega),List.append_assoc,List.append_assoc,ByteArray.append_assoc]
  rfl
theorem zrf (l:Gapi_Layout) (hw:0≤l.Width∧l.Width≤1000) (j1:Int→Int→Int→Int→List (List Gapi_Row)→Int→List Gapi_Row→List Int→ByteArray→Option Bool) (b:Gpage_Book) (hP:∀ pg∈b.pages,pg≠[]∧∀ r∈pg,RowP r) (hl:b.pages.length≤1000000) (hf:b.pages.flatten.length≤1000000) :
  ∀ (d i m:Nat) (want:List Gapi_Row) (on:List Int) (out:ByteArray),i+d=b.pages.length→d<m→want.length+(b.pages.drop i).flatten.length≤1000000→on.length+(b.pages.drop i).flatten.length≤1000000→out.size+5001*((b.pages.drop i).flatten.length+d)≤10000000000000 →
  zaF (fun _ _ _ _=>none) (zck l j1 b) m want on out (i:Int)=j1 b.layout_Width b.layout_Height b.layout_Turn b.layout_Every b.pages b.cost (want++(zfm i (b.pages.drop i)).map Prod.snd) (on++(zfm i (b.pages.drop i)).map Prod.fst) (out++zux l.Width i (b.pages.drop i)):=by
 intro d
 induction d with
 | zero =>
  intro i m want on out hi hm h1 h2 h3
  obtain ⟨m,rfl⟩:∃ q,m=q+1:=⟨m - 1,by omega⟩
  rw [zcJ]
  unfold zck
  refine zaO (show zdX b=some (b.pages.length:Int) from rfl) (zaz (decide_eq_false (by omega)) ?_)
  rw [List.drop_of_length_le (by omega)]
  show _=j1 _ _ _ _ _ _ (want++[]) (on++[]) (out++(⟨#[]⟩:ByteArray))
  rw [List.append_nil,List.append_nil,zlk]
 | succ d ih =>
  intro i m want on out hi hm h1 h2 h3
  obtain ⟨m,rfl⟩:∃ q,m=q+1:=⟨m - 1,by omega⟩
  rw [zcJ]
  have hv:b.pages[i]?=some b.pages[i]:=List.getElem?_eq_getElem (by omega)
  obtain ⟨_,hpr⟩:=hP _ (List.mem_of_getElem? hv)
  have hdr:=List.drop_eq_getElem_cons (show i<b.pages.length by omega)
  rw [hdr,List.flatten_cons,List.length_append] at h1 h2 h3
  have hls:=zjj l.Width hw _ hpr
  have h12:(⟨#[12]⟩:ByteArray).size=1:=rfl
  have ih':=fun want on out=>ih (i+1) m want on out (by omega) (by omega)
  rw [show ((i+1:Nat):Int)=(i:Int)+1 by omega] at ih'
  generalize zaF (fun _ _ _ _=>none) (zck l j1 b) m=ag at ih' ⊢
  unfold zck
  have hpage:zee b (i:Int)=some (b.pages[i],0):=by
   unfold zee
   refine zaz (decide_eq_false (by omega)) (zaz (decide_eq_false (by omega)) (zaO (zc4 hv) (zaO ?_ rfl)))
   exact zbm (by omega) rfl
  refine zaO (show zdX b=some (b.pages.length:Int) from rfl) (zaB (decide_eq_true (by omega)) (zby (zaO hpage (zaz rfl (zby ?_)))))
  have go:∀ out6:ByteArray,out6.size+5000*b.pages[i].length≤10000000000000→zaF (fun _ _ _ _=>none) (zb7 l (i:Int) (fun (want6:List Gapi_Row) (on5:List Int) (out5:ByteArray)=>grd (I64 ((i:Int)+1))<|ag want6 on5 out5 ((i:Int)+1)) (b.pages[i],0)) zbT want on out6 0=ag (want++b.pages[i]) (on++b.pages[i].map (fun _=>(i:Int))) (out6++ziH l.Width b.pages[i]) ((i:Int)+1):=by
   intro out6 h6
   have:=zsV l hw (i:Int) (fun (want6:List Gapi_Row) (on5:List Int) (out5:ByteArray)=>grd (I64 ((i:Int)+1))<|ag want6 on5 out5 ((i:Int)+1)) b.pages[i] hpr (by omega) b.pages[i].length 0 zbT want on out6 (by omega) (zcm (by omega)) (by omega) (by omega) h6
   rw [List.drop_zero] at this
   refine this.trans (zbm ⟨by omega,by omega⟩ rfl)
  have fin:∀ out6:ByteArray,out6=out++(if i=0 then (⟨#[]⟩:ByteArray) else ⟨#[12]⟩)→ag (want++b.pages[i]) (on++b.pages[i].map (fun _=>(i:Int))) (out6++ziH l.Width b.pages[i]) ((i:Int)+1)=j1 b.layout_Width b.layout_Height b.layout_Turn b.layout_Every b.pages b.cost (want++(zfm i (b.pages.drop i)).map Prod.snd) (on++(zfm i (b.pages.drop i)).map Prod.fst) (out++zux l.Width i (b.pages.drop i)):=by
   intro out6 h6
   have hs6:out6.size≤out.size+1:=by
    rw [h6]
    split
    ·rw [zlk]; omega
    ·rw [ByteArray.size_append]; omega
   rw [ih' _ _ _ (by rw [List.length_append]; omega) (by rw [List.length_append,List.length_map]; omega) (by rw [ByteArray.size_append]; omega),hdr,h6]
   have e1:(zfm i (b.pages[i]::b.pages.drop (i+1))).map Prod.snd=b.pages[i]++(zfm (i+1) (b.pages.drop (i+1))).map Prod.snd:=by
    show (b.pages[i].map _++zfm (i+1) _).map Prod.snd=_
    rw [List.map_append,List.map_map]
    congr 1
    exact List.map_id _
   have e2:(zfm i (b.pages[i]::b.pages.drop (i+1))).map Prod.fst=b.pages[i].map (fun _=>(i:Int))++(zfm (i+1) (b.pages.drop (i+1))).map Prod.fst:=by
    show (b.pages[i].map _++zfm (i+1) _).map Prod.fst=_
    rw [List.map_append,List.map_map]; rfl
   rw [e1,e2,List.append_assoc,List.append_assoc]
   congr 1
   show _=out++((if i=0 then (⟨#[]⟩:ByteArray) else ⟨#[12]⟩)++(ziH l.Width b.pages[i]++zux l.Width (i+1) (b.pages.drop (i+1))))
   simp only [ByteArray.append_assoc]
  by_cases h0:i=0
  ·refine zaz (decide_eq_false (by omega)) ((go out (by omega)).trans (fin out ?_))
   rw [if_pos h0,zlk]
  ·refine zaB (decide_eq_true (by omega)) (zbm (by omega) ((go _ (by rw [ByteArray.size_append]; omega)).trans (fin _ ?_)))
   rw [if_neg h0]
theorem zp5 (stop round:Int) (L:List (Int×Gapi_Row)) (hL:L.length≤1000000) (ek1 ek2 dn:Int→Option Bool) (J:Option Bool) (hdn:dn (L.length:Int)=J) (hek:round=0→ek2 stop=J):∀ (n i:Nat),i+n=L.length→zcu dn (zcj stop (L.map Prod.snd) (L.map Prod.fst) round ek1 ek2) (L.drop i) (i:Int)=J:=by
 intro n
 induction n with
 | zero =>
  intro i hi
  rw [List.drop_of_length_le (by omega)]
  show dn (i:Int)=J
  rw [← hdn,show i=L.length by omega]
 | succ n ih =>
  intro i hi
  have ih':=ih (i+1) (by omega)
  rw [show ((i+1:Nat):Int)=(i:Int)+1 by omega] at ih'
  have hv:L[i]?=some L[i]:=List.getElem?_eq_getElem (by omega)
  rw [List.drop_eq_getElem_cons (show i<L.length by omega)]
  show zcj stop (L.map Prod.snd) (L.map Prod.fst) round ek1 ek2 L[i] (zcu dn (zcj stop (L.map Prod.snd) (L.map Prod.fst) round ek1 ek2) (L.drop (i+1))) (i:Int)=J
  unfold zcj
  have g1:zcb (L.map Prod.snd) (i:Int)=some L[i].2:=zc4 (by rw [List.getElem?_map,hv]; rfl)
  have g2:zcb (L.map Prod.fst) (i:Int)=some L[i].1:=zc4 (by rw [List.getElem?_map,hv]; rfl)
  refine zaz (decide_eq_false (by rw [List.length_map]; omega)) (zaO g1 (zaz (by rw [(zhA _ _).2 rfl]; rfl) (zaO g2 (zaz (zvf rfl) (zbm ⟨by omega,by omega⟩ ?_)))))
  by_cases h0:round=0
  ·refine zaB (zgg h0) ?_
   by_cases hs:(i:Int)+1=stop
   ·refine zaB (zgg hs) ?_
    rw [hs]; exact hek h0
   ·exact zaz (zgy hs) ih'
  ·exact zaz (zgy h0) ih'
theorem zoF (stop:Int) (b:Gpage_Book) (hp:b.pages.length≤1000000) (hpg:∀ pg∈b.pages,pg.length≤1000000) (hL:(zfm 0 b.pages).length≤1000000) (j4:Option Bool) (m:Nat) (hm:2<m) :
  zaF (fun _=>none) (zb6 stop b.layout_Width b.layout_Height b.layout_Turn b.layout_Every b.pages b.cost ((zfm 0 b.pages).map Prod.snd) ((zfm 0 b.pages).map Prod.fst) j4) m 0=j4:=by
 have hbr:=zsf b hp hpg
 have step:∀ (ag:Int→Option Bool) (round:Int),0≤round∧round<2→zb6 stop b.layout_Width b.layout_Height b.layout_Turn b.layout_Every b.pages b.cost ((zfm 0 b.pages).map Prod.snd) ((zfm 0 b.pages).map Prod.fst) j4 ag round=ag (round+1):=by
  intro ag round hr
  have hj5:(grd (I64 (round+1))<|ag (round+1))=ag (round+1):=zbm ⟨by omega,by omega⟩ rfl
  unfold zb6
  refine zaB (decide_eq_true (by omega)) (zby (zby (zaO hbr (zby (zby (zby ?_))))))
  have key:=zp5 stop round (zfm 0 b.pages) hL (fun (i8:Int)=>some false) (fun (i9:Int)=>(fun (i4:Int) =>
   zaw ((i4:Int) != (((zfm 0 b.pages).map Prod.snd).length:Int)) (
   zaw ((round:Int)==0) (
   zaw (!((i4:Int)==stop)) (
   some false
   ) (
   grd (I64 (round+1))<|ag (round+1)
   )
   ) (
   some false
   )
   ) (
   grd (I64 (round+1))<|ag (round+1)
   )) i9) (fun (i7:Int)=>(fun (i4:Int) =>
   zaw ((i4:Int) != (((zfm 0 b.pages).map Prod.snd).length:Int)) (
   zaw ((round:Int)==0) (
   zaw (!((i4:Int)==stop)) (
   some false
   ) (
   grd (I64 (round+1))<|ag (round+1)
   )
   ) (
   some false
   )
   ) (
   grd (I64 (round+1))<|ag (round+1)
   )) i7) (ag (round+1)) (zaz (zvf (by rw [List.length_map])) hj5) (fun h0=>by
    by_cases hs:stop=(((zfm 0 b.pages).map Prod.snd).length:Int)
    ·exact zaz (zvf hs) hj5
    ·exact zaB (zuy hs) (zaB (zgg h0) (zaz (by rw [zgg rfl]; rfl) hj5))) (zfm 0 b.pages).length 0 (by omega)
  rw [List.drop_zero] at key
  exact key
 obtain ⟨q,rfl⟩:∃ q,m=q+1+1+1:=⟨m - 3,by omega⟩
 rw [zcJ,step _ 0 (by omega),zcJ,step _ (0+1) (by omega),zcJ]
 unfold zb6
 exact zaz rfl rfl
theorem zqb (T:List UInt8) (l:Gapi_Layout) (stop:Int):zeS (mkB T) l stop=some true:=by
 unfold zeS
 refine zaO zwe (zaz rfl ?_)
 by_cases hT:1200<(mkB T).size
 ·exact zaB (decide_eq_true (by omega)) rfl
 refine zaz (decide_eq_false (by omega)) ?_
 rcases zq1 T l with hset | ⟨p,t,z,hok,hm,hg,hrd,hset⟩
 ·exact zaO hset (zaz rfl (zaB rfl rfl))
 refine zaO hset (zaz rfl (zaz rfl (zby (zaO rfl ?_))))
 obtain ⟨l1,l2,l3⟩:=ztj hm hg
 obtain ⟨m1,m2,m3⟩:=zmX hm
 have hR:=zmN hm p.told_lines hg.ok (by have:=hg.len; omega) hg.stp
 have hrise:=zhN (zmq hR (znU hm)) (zor (rows:=zdk l 0 p.told_lines) (znU hm)) (zdk l 0 p.told_lines).length 0 (Nat.zero_le _) (by omega)
 have hPP:∀ pg∈(zhc l p.told_lines).pages,pg≠[]∧∀ r∈pg,RowP r:=zrm (zq8 hm p.told_lines 0 (Int.le_refl _) (by have:=hg.len; omega) hg.ok) _ 0 hrise
 have hlen:(zfm 0 (zhc l p.told_lines).pages).length=(zhc l p.told_lines).pages.flatten.length:=by
  have:=congrArg List.length (zn1 (zhc l p.told_lines).pages 0)
  rwa [List.length_map] at this
 have hlay:(zhc l p.told_lines).layout_Width=l.Width:=rfl
 have hout:=zrf l (by omega) (fun (b5:Int) (b6:Int) (b7:Int) (b8:Int) (b9:List (List Gapi_Row)) (b10:Int) (want1:List Gapi_Row) (on1:List Int) (out1:ByteArray) =>
  zal (zed (⟨b5,b6,b7,b8,b9,b10⟩:Gpage_Book)) fun (r6:Unit) =>
  zbi (fun (j4:Option Bool) =>
  zaF (fun _=>none) (zb6 stop b5 b6 b7 b8 b9 b10 want1 on1 j4) zbT 0
  ) (
  zal (zdl (⟨b5,b6,b7,b8,b9,b10⟩:Gpage_Book)) fun (r7:ByteArray) =>
  some (decide (r7=out1))
  )) (zhc l p.told_lines) hPP (by omega) (by omega) (zhc l p.told_lines).pages.length 0 zbT [] [] (⟨#[]⟩:ByteArray) (by omega) (zcm (by omega)) (by rw [List.drop_zero,List.length_nil]; omega) (by rw [List.drop_zero,List.length_nil]; omega) (by rw [List.drop_zero]; have:(⟨#[]⟩:ByteArray).size=0:=rfl; omega)
 refine hout.trans ?_
 rw [List.drop_zero,List.nil_append,List.nil_append,zsk]
 refine zaO rfl (zby ?_)
 refine (zoF stop (zhc l p.told_lines) (by omega) (fun pg h=>by have:=l3 pg h; omega) (by omega) _ zbT (zcm (by omega))).trans ?_
 have hprint:zdl (zhc l p.told_lines)=some (zux l.Width 0 (zhc l p.told_lines).pages):=by
  unfold zdl
  refine zby (zaO rfl (zaO (zsf (zhc l p.told_lines) (by omega) (fun pg h=>by have:=l3 pg h; omega)) (zby ?_)))
  refine (znL (zhc l p.told_lines) (by omega) _ (fun o=>some o) (fun o l=>rfl) (zhc l p.told_lines).pages 0 (⟨#[]⟩:ByteArray) 0 (.inr ⟨rfl,rfl⟩) hPP (by have:(⟨#[]⟩:ByteArray).size=0:=rfl; omega)).trans ?_
  rw [zsk,hlay]
 refine zaO hprint ?_
 rw [decide_eq_true rfl]
theorem pageRows_any (s:ByteArray) (l:Gapi_Layout) (stop:Int) (w:World) (hs:s.size≤140737488351232) (hs1 : -9223372036854775808≤stop) (hs2:stop≤9223372036854775807):Calls Tryz.prog 6 #[.string s,.agg #[.int .i64 l.Width,.int .i64 l.Height,.int .i64 l.Turn,.int .i64 l.Every],.int .i64 stop] w fun e w'=>e=.returned (.bool true)∧Below w.heap.size w w' :=
 zjk (by obtain ⟨T,rfl⟩:=zwd s; exact zqb T l stop) w
end Go.Proofs.YtbempdelckaccaaGreatDoor
