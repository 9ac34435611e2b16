/-
  Texts laid together: Kh, Ki, Kj, Kk, Kl, Km, LcD, Kn, Ko, Kp, Kq, LcH, Kr, Ks, LcI, PlCollateOrder. Nothing is assumed.
-/
import Derived.Test.YtifpjbgnikjglaaDoorCollateOrder4
import Derived.Test.YtifpjbgnikjglaaDoorCollateOrder2
set_option maxRecDepth 100000
set_option maxHeartbeats 4000000
namespace Go.Proofs.YtifpjbgnikjglaaDoor
open Go.RowKit Go.Lib
open Tryd
set_option linter.unusedVariables false
set_option linter.unusedSimpArgs false
def sg (n:Int):Int:=if n<0 then -1 else if 0<n then 1 else 0
theorem zvL (x y:List UInt8):sg (cb x y)=cb x y:=by rcases zrU x y with h | h | h <;> rw [h] <;> rfl
theorem sg_zero {n:Int}:sg n=0↔n=0:=by
 unfold sg
 by_cases h:n<0
 ·rw [if_pos h]; omega
 ·rw [if_neg h]
  by_cases h2:0<n
  ·rw [if_pos h2]; omega
  ·rw [if_neg h2]; omega
def zvQ (a b:Int):Int:=if a=0 then b else a
def zfZ (a b:El):Int:=zvQ (a.sort - b.sort) (zvQ (a.place - b.place) (zvQ ((a.digits.size:Int) - (b.digits.size:Int)) (cb a.digits.data.toList b.digits.data.toList)))
def zhb (a b:El):Int:=cb a.marks.data.toList b.marks.data.toList
def zh0 (a b:El):Int:=a.great - b.great
def zhl (c:El→El→Int):List El→List El→Int
 | [],[]=>0
 | [],_::_=>-1
 | _::_,[]=>1
 | x::xs,y::ys=>if c x y=0 then zhl c xs ys else c x y
theorem ziE {c:El→El→Int}:∀ {x y:List El},zhl c x y=0→x.length=y.length
 | [],[],_=>rfl
 | [],_::_,h=>by cases h
 | _::_,[],h=>by cases h
 | x::xs,y::ys,h=>by
  rw [zhl] at h
  split at h
  ·rw [List.length_cons,List.length_cons,ziE h]
  ·rename_i h1; exact absurd h h1
structure zeA (e:El):Prop where
 so:e.sort=1∨e.sort=2∨e.sort=3∨e.sort=4
 pl:0≤e.place∧e.place<65536
 di:e.digits.size≤300000
 nd:e.sort≠2→e.digits=ByteArray.empty
 ma:∀ c∈e.marks.data.toList,c≠0
 ml:e.marks.size≤300000
 gr:e.great=0∨e.great=1
def c1 (e:El):List UInt8:=be 1 e.sort.toNat++be 2 e.place.toNat++(if e.sort=2 then be 4 e.digits.size++e.digits.data.toList else [])
def k1 (x:List El):List UInt8:=x.flatMap c1++[0]
def k2 (x:List El):List UInt8:=x.flatMap fun e=>e.marks.data.toList++[0]
def k3 (x:List El):List UInt8:=x.map fun e=>UInt8.ofNat e.great.toNat
theorem zpp:∀ {x y r s:List UInt8},x.length=y.length→cb (x++r) (y++s)=if cb x y=0 then cb r s else cb x y
 | [],[],r,s,_=>by rw [zk3,if_pos rfl]; rfl
 | a::x,b::y,r,s,h=>by
  rw [List.cons_append,List.cons_append,zd7,zd7,zpp (by simpa using h)]
  by_cases h1:a.toNat<b.toNat
  ·simp only [if_pos h1]; rfl
  ·simp only [if_neg h1]
   by_cases h2:b.toNat<a.toNat
   ·simp only [if_pos h2]; rfl
   ·simp only [if_neg h2]
theorem zwt {a b:El} (ha:zeA a) (hb:zeA b) (r s:List UInt8):cb (c1 a++r) (c1 b++s)=if zfZ a b=0 then cb r s else sg (zfZ a b):=by
 have s1:=ha.so; have s2:=hb.so; have p1:=ha.pl; have p2:=hb.pl; have d1:=ha.di; have d2:=hb.di
 unfold c1 zfZ zvQ
 rw [List.append_assoc,List.append_assoc,List.append_assoc,List.append_assoc,zpt 1 _ _ _ _ (by omega) (by omega),zpt 2 _ _ _ _ (by omega) (by omega)]
 by_cases h1:a.sort - b.sort=0
 ·have e1:a.sort=b.sort:=by omega
  rw [if_pos h1,e1,if_neg (Nat.lt_irrefl _),if_neg (Nat.lt_irrefl _)]
  by_cases h2:a.place - b.place=0
  ·have e2:a.place=b.place:=by omega
   rw [if_pos h2,e2,if_neg (Nat.lt_irrefl _),if_neg (Nat.lt_irrefl _)]
   by_cases h3:b.sort=2
   ·rw [if_pos h3,if_pos h3,List.append_assoc,List.append_assoc,zpt 4 _ _ _ _ (by omega) (by omega)]
    by_cases h4:(a.digits.size:Int) - (b.digits.size:Int)=0
    ·rw [if_pos h4,if_neg (by omega),if_neg (by omega),zpp (by rw [← zb4,← zb4]; omega),zvL]
    ·rw [if_neg h4,if_neg h4]
     unfold sg
     by_cases h5:a.digits.size<b.digits.size
     ·rw [if_pos h5,if_pos (by omega)]
     ·rw [if_neg h5,if_pos (by omega),if_neg (by omega),if_pos (by omega)]
   ·rw [if_neg h3,if_neg h3,ha.nd (by omega),hb.nd h3]
    rfl
  ·rw [if_neg h2,if_neg h2]
   unfold sg
   by_cases h5:a.place.toNat<b.place.toNat
   ·rw [if_pos h5,if_pos (by omega)]
   ·rw [if_neg h5,if_pos (by omega),if_neg (by omega),if_pos (by omega)]
 ·rw [if_neg h1,if_neg h1]
  unfold sg
  by_cases h5:a.sort.toNat<b.sort.toNat
  ·rw [if_pos h5,if_pos (by omega)]
  ·rw [if_neg h5,if_pos (by omega),if_neg (by omega),if_pos (by omega)]
theorem zrX {e:El} (h:zeA e):∃ c l,c1 e=c::l∧0<c.toNat:=by
 have:=h.so
 refine ⟨UInt8.ofNat (e.sort.toNat / 256 ^ 0),_,rfl,?_⟩
 rw [Nat.pow_zero,Nat.div_one,UInt8.toNat_ofNat']
 omega
theorem zrl:∀ {x y:List El} (r s:List UInt8),(∀ e∈x,zeA e)→(∀ e∈y,zeA e)→cb (k1 x++r) (k1 y++s)=if zhl zfZ x y=0 then cb r s else sg (zhl zfZ x y)
 | [],[],r,s,_,_=>zmN [0] r s
 | [],b::y,r,s,_,hb=>by
  obtain ⟨c,l,e,hc⟩:=zrX (hb b (List.mem_cons_self ..))
  unfold k1
  rw [List.flatMap_cons,e,List.flatMap_nil]
  show cb (0::([]++r)) (c::_)=_
  rw [zd7,if_pos (by show (0:UInt8).toNat<_; exact hc)]; rfl
 | a::x,[],r,s,ha,_=>by
  obtain ⟨c,l,e,hc⟩:=zrX (ha a (List.mem_cons_self ..))
  unfold k1
  rw [List.flatMap_cons,e,List.flatMap_nil]
  show cb (c::_) (0::([]++s))=_
  rw [zd7,if_neg (by show ¬ _<(0:UInt8).toNat; exact Nat.not_lt_zero _),if_pos (by show (0:UInt8).toNat<_; exact hc)]; rfl
 | a::x,b::y,r,s,ha,hb=>by
  have e1:∀ (e:El) (l:List El) (r:List UInt8),k1 (e::l)++r=c1 e++(k1 l++r):=fun e l r=>by unfold k1; rw [List.flatMap_cons]; simp
  rw [e1,e1,zwt (ha a (List.mem_cons_self ..)) (hb b (List.mem_cons_self ..)),zrl r s (fun e h=>ha e (List.mem_cons_of_mem _ h)) (fun e h=>hb e (List.mem_cons_of_mem _ h)),zhl]
  by_cases h:zfZ a b=0
  ·simp only [if_pos h]
  ·simp only [if_neg h]
theorem zo6:∀ {x y r s:List UInt8},(∀ c∈x,c≠0)→(∀ c∈y,c≠0)→cb (x++0::r) (y++0::s)=if cb x y=0 then cb r s else cb x y
 | [],[],r,s,_,_=>by rw [zk3,if_pos rfl]; exact zmN [0] r s
 | [],b::y,r,s,_,hb=>by
  have:b.toNat≠0:=fun h=>hb b (List.mem_cons_self ..) (UInt8.toNat_inj.1 h)
  show cb (0::r) (b::(y++0::s))=_
  rw [zd7,if_pos (by show (0:UInt8).toNat<_; show 0<_; omega),zws]; rfl
 | a::x,[],r,s,ha,_=>by
  have:a.toNat≠0:=fun h=>ha a (List.mem_cons_self ..) (UInt8.toNat_inj.1 h)
  show cb (a::(x++0::r)) (0::s)=_
  rw [zd7,if_neg (by show ¬ _<(0:UInt8).toNat; exact Nat.not_lt_zero _),if_pos (by show (0:UInt8).toNat<_; show 0<_; omega),ztb]; rfl
 | a::x,b::y,r,s,ha,hb=>by
  rw [List.cons_append,List.cons_append,zd7,zd7,zo6 (fun c h=>ha c (List.mem_cons_of_mem _ h)) (fun c h=>hb c (List.mem_cons_of_mem _ h))]
  by_cases h1:a.toNat<b.toNat
  ·simp only [if_pos h1]; rfl
  ·simp only [if_neg h1]
   by_cases h2:b.toNat<a.toNat
   ·simp only [if_pos h2]; rfl
   ·simp only [if_neg h2]
theorem zrk:∀ {x y:List El} (r s:List UInt8),(∀ e∈x,zeA e)→(∀ e∈y,zeA e)→x.length=y.length→cb (k2 x++r) (k2 y++s)=if zhl zhb x y=0 then cb r s else sg (zhl zhb x y)
 | [],[],r,s,_,_,_=>rfl
 | a::x,b::y,r,s,ha,hb,h=>by
  have e1:∀ (e:El) (l:List El) (r:List UInt8),k2 (e::l)++r=e.marks.data.toList++0::(k2 l++r):=fun e l r=>by unfold k2; rw [List.flatMap_cons]; simp
  rw [e1,e1,zo6 (ha a (List.mem_cons_self ..)).ma (hb b (List.mem_cons_self ..)).ma,zrk r s (fun e h=>ha e (List.mem_cons_of_mem _ h)) (fun e h=>hb e (List.mem_cons_of_mem _ h)) (by simpa using h),zhl]
  show (if zhb a b=0 then _ else zhb a b)=_
  by_cases h:zhb a b=0
  ·simp only [if_pos h]
  ·simp only [if_neg h]; exact (zvL _ _).symm
theorem zrj:∀ {x y:List El} (r s:List UInt8),(∀ e∈x,zeA e)→(∀ e∈y,zeA e)→x.length=y.length→cb (k3 x++r) (k3 y++s)=if zhl zh0 x y=0 then cb r s else sg (zhl zh0 x y)
 | [],[],r,s,_,_,_=>rfl
 | a::x,b::y,r,s,ha,hb,h=>by
  have g1:=(ha a (List.mem_cons_self ..)).gr
  have g2:=(hb b (List.mem_cons_self ..)).gr
  have ih:=zrj r s (fun e h=>ha e (List.mem_cons_of_mem _ h)) (fun e h=>hb e (List.mem_cons_of_mem _ h)) (x:=x) (y:=y) (by simpa using h)
  show cb (UInt8.ofNat a.great.toNat::(k3 x++r)) (UInt8.ofNat b.great.toNat::(k3 y++s))=_
  rw [zd7,ih,zhl]
  unfold zh0
  rcases g1 with g1 | g1 <;> rcases g2 with g2 | g2 <;> rw [g1,g2] <;> rfl
theorem zyr (l:List Int) (hl:l.length≤1000):zfl l=some ((l.find? fun x=>!decide (x=0)).getD 0):=by
 unfold zfl
 refine zce ?_
 have:=zyp (xs:=l) (F:=zdg l (some 0)) (bot:=fun _=>none) (g:=fun x=>if x=0 then none else some (some x)) (J:=some 0) (fun ag k x hx=>by
  have hk:=zjG hx
  unfold zdg
  refine zaI (zjU hx) (zaV (zgH hx) ?_)
  by_cases h:x=0
  ·rw [if_pos h]; exact zaE (by rw [h]; rfl) (zcf (zfq (by omega)) rfl)
  ·rw [if_neg h]; exact zaI (bne_iff_ne.2 h) rfl) (fun ag=>by unfold zdg; exact zaE zjV rfl) (n:=zcy) (zeI (by omega))
 refine this.trans ?_
 clear this hl
 induction l with
 | nil=>rfl
 | cons a l ih =>
  rw [List.findSome?_cons,List.find?_cons]
  by_cases h:a=0
  ·rw [if_pos h,h]; exact ih
  ·rw [if_neg h,decide_eq_false h]; rfl
theorem zut (a b:El) (ha:zeA a) (hb:zeA b):zdN a b=some (zfZ a b):=by
 have s1:=ha.so; have s2:=hb.so; have p1:=ha.pl; have p2:=hb.pl; have d1:=ha.di; have d2:=hb.di
 unfold zdN
 refine zcf ⟨by omega,by omega⟩ (zcf ⟨by omega,by omega⟩ (zcf ⟨by omega,by omega⟩ (zaV (zyr _ (show 4≤1000 by omega)) ?_)))
 congr 1
 unfold zfZ zvQ
 simp only [List.find?_cons,List.find?_nil]
 by_cases h1:a.sort - b.sort=0
 ·simp only [h1,decide_true,Bool.not_true,if_true]
  by_cases h2:a.place - b.place=0
  ·simp only [h2,decide_true,Bool.not_true,if_true]
   by_cases h3:(a.digits.size:Int) - (b.digits.size:Int)=0
   ·simp only [h3,decide_true,Bool.not_true,if_true]
    by_cases h4:Lib.compareBytes a.digits.data.toList b.digits.data.toList=0
    ·simp only [h4,decide_true,Bool.not_true]; rfl
    ·simp only [h4,decide_false,Bool.not_false]; rfl
   ·simp only [h3,decide_false,Bool.not_false,if_false]; rfl
  ·simp only [h2,decide_false,Bool.not_false,if_false]; rfl
 ·simp only [h1,decide_false,Bool.not_false,if_false]; rfl
theorem zoG {F:(Int→Option Int)→Int→Option Int} {cv:El→El→Option Int} {c:El→El→Int} (x y:List El) (hl:x.length≤1000000000)
  (hF:∀ ag k,F ag k=zar (decide ((k:Int)<(x.length:Int))) (zak (zea x k) fun (q1:El)=>zar (decide (((y.length:Int):Int)≤k)) (some 1) (zak (zea y k) fun (q2:El)=>zak (cv q1 q2) fun (r1:Int)=>zar ((r1:Int) != 0) (some r1) (grd (I64 (k+1))<|ag (k+1)))) (zar (decide (((x.length:Int):Int)<(y.length:Int))) (some (-1)) (some 0)))
  (hc:∀ a∈x,∀ b∈y,cv a b=some (c a b)):zaW (fun _=>none) F zcy 0=some (zhl c x y):=by
 have key:∀ (n k:Nat),k≤x.length→k≤y.length→x.length - k<n→zaW (fun _=>none) F n (k:Int)=some (zhl c (x.drop k) (y.drop k)):=by
  intro n
  induction n with
  | zero=>intro k _ _ h; omega
  | succ n ih =>
   intro k hk1 hk2 hn
   rw [zgt,hF]
   by_cases h:k<x.length
   ·have hx:x[k]?=some x[k]:=List.getElem?_eq_getElem h
    refine zaI (decide_eq_true (by omega)) (zaV (zgH hx) ?_)
    rw [List.drop_eq_getElem_cons h]
    by_cases h2:k<y.length
    ·have hy:y[k]?=some y[k]:=List.getElem?_eq_getElem h2
     refine zaE (decide_eq_false (by omega)) (zaV (zgH hy) (zaV (hc _ (List.getElem_mem _) _ (List.getElem_mem _)) ?_))
     rw [List.drop_eq_getElem_cons h2,zhl]
     by_cases h0:c x[k] y[k]=0
     ·rw [if_pos h0]
      refine zaE (by rw [h0]; rfl) (zcf ⟨by omega,by omega⟩ ?_)
      have:=ih (k+1) (by omega) (by omega) (by omega)
      push_cast at this
      exact this
     ·rw [if_neg h0]; exact zaI (bne_iff_ne.2 h0) rfl
    ·refine zaI (decide_eq_true (by omega)) ?_
     rw [List.drop_eq_nil_of_le (show y.length≤k by omega)]; rfl
   ·refine zaE (decide_eq_false (by omega)) ?_
    rw [List.drop_eq_nil_of_le (show x.length≤k by omega)]
    by_cases h2:k<y.length
    ·rw [List.drop_eq_getElem_cons h2]
     exact zaI (decide_eq_true (by omega)) rfl
    ·rw [List.drop_eq_nil_of_le (show y.length≤k by omega)]
     exact zaE (decide_eq_false (by omega)) rfl
 have:=key zcy 0 (Nat.zero_le _) (Nat.zero_le _) (by unfold zcy; omega)
 simpa using this
theorem zqU (n:Int):zdA n=some (sg n):=by
 unfold zdA
 refine zaV (a:=sg n) ?_ rfl
 unfold zei
 refine zaV (a:=false) (by unfold zed; simp) (zaV (a:=false) (by decide) (zaE rfl (zaE rfl ?_)))
 unfold sg
 by_cases h:n<0
 ·rw [if_pos h]; exact zaI (decide_eq_true h) rfl
 ·rw [if_neg h]
  refine zaE (decide_eq_false h) ?_
  by_cases h2:0<n
  ·rw [if_pos h2]; exact zaI (decide_eq_true h2) rfl
  ·rw [if_neg h2]; exact zaE (decide_eq_false h2) rfl
def zts (o:zmX):Prop:=∀ u i,o.p u=some i→0≤i∧i<65536
theorem zoX (m:zBA):∀ {l:List El} {e:El},e∈zqW m l→e∈l∨∃ e'∈l,e=⟨e'.sort,e'.place,e'.digits,m,e'.great⟩
 | [],e,h=>.inl h
 | [a],e,h=>.inr ⟨a,List.mem_cons_self ..,List.mem_singleton.1 h⟩
 | a::b::l,e,h=>by
  rw [zqW] at h
  rcases List.mem_cons.1 h with rfl | h
  ·exact .inl (List.mem_cons_self ..)
  ·rcases zoX m h with h | ⟨e',h1,h2⟩
   ·exact .inl (List.mem_cons_of_mem _ h)
   ·exact .inr ⟨e',List.mem_cons_of_mem _ h1,h2⟩
theorem zp1 {r:Int} (h:mrk r=true):∀ c∈(Utf8.encode r).data.toList,c≠0:=by
 have h:=of_decide_eq_true h
 have key:((List.range 880).all fun n=>decide (n<768)||((Utf8.encode (n:Int)).data.toList.all fun c=>c != 0))=true:=by decide +kernel
 have:=List.all_eq_true.1 key r.toNat (List.mem_range.2 (by omega))
 rw [show ((r.toNat:Nat):Int)=r by omega,decide_eq_false (by omega),Bool.false_or] at this
 intro c hc
 exact bne_iff_ne.1 (List.all_eq_true.1 this c hc)
theorem znm:∀ {l:List Tk},(∀ x∈l,zje x=true)→(∀ c∈(zgg l).data.toList,c≠0)∧(zgg l).size≤4*l.length
 | [],_=>⟨(fun c h=>nomatch (show c∈([]:List UInt8) from h)),Nat.le_refl _⟩
 | x::l,h=>by
  obtain ⟨h1,h2⟩:=znm (l:=l) fun y hy=>h y (List.mem_cons_of_mem _ hy)
  unfold zgg at h1 h2 ⊢
  rw [zdU,zex,ByteArray.size_append,List.length_cons]
  have:=zdk x.1
  refine ⟨fun c hc => ?_,by omega⟩
  rcases List.mem_append.1 hc with hc | hc
  ·exact zp1 (h x (List.mem_cons_self ..)) c hc
  ·exact h1 c hc
theorem ziZ:∀ {l:List Tk},(∀ x∈l,x.2.size≤4)→(zj5 l).size≤4*l.length
 | [],_=>Nat.le_refl _
 | x::l,h=>by
  have h2:=ziZ (l:=l) fun y hy=>h y (List.mem_cons_of_mem _ hy)
  have h1:=h x (List.mem_cons_self ..)
  unfold zj5 at h2 ⊢
  rw [zdU,ByteArray.size_append,List.length_cons]; omega
theorem ztw {α:Type} {p:α→Bool} {l:List α} {x:α} (h:x∈l.takeWhile p):p x=true∧x∈l :=
 ⟨List.all_eq_true.1 (List.all_takeWhile (p:=p) (l:=l)) x h,(List.takeWhile_sublist p).subset h⟩
theorem zsW:zeA zwC:=⟨.inl rfl,(by show (0:Int)≤0∧(0:Int)<65536; omega),by decide,fun _=>rfl,(fun c h=>nomatch (show c∈([]:List UInt8) from h)),by decide,.inl rfl⟩
theorem zp8 (l:List Tk):zjM l=0∨zjM l=1:=by unfold zjM; split <;> simp
theorem zqn (o:zmX) (hf:zjS o) (hp:zts o) (x:Tk) (l:List Tk) (hl:∀ y∈x::l,y.2.size≤4) (hn:(x::l).length≤65536) (es:List El) (h:(zih o x l).2=some es):(∀ e∈es,zeA e)∧es.length≤4:=by
 unfold zih at h
 split at h
 ·rename_i hk
  have hL:zaY x.1=true:=(zke x).1.1 hk
  have hm:=zo4 o hf x l hL
  injection h with h
  subst h
  have hms:∀ y∈((x::l).drop (zfd o x l).1).takeWhile zje,zje y=true:=fun y hy=>(ztw hy).1
  have hml:(((x::l).drop (zfd o x l).1).takeWhile zje).length≤65536:=by
   have:=(List.takeWhile_sublist zje (l:=(x::l).drop (zfd o x l).1)).length_le
   rw [List.length_drop] at this; omega
  obtain ⟨m1,m2⟩:=znm hms
  refine ⟨fun e he => ?_,by rw [zoY,List.length_map]; exact hm.2.2.2⟩
  have base:∀ u,zeA (elU o (zjM ((x::l).take (zfd o x l).1)) u):=fun u=>by
   have hpl:0≤(o.p u).getD 0∧(o.p u).getD 0<65536:=by
    cases hq:o.p u with
    | none=>rw [Option.getD_none]; omega
    | some i=>rw [Option.getD_some]; exact hp u i hq
   exact ⟨.inr (.inr (.inl rfl)),hpl,by show (0:Nat)≤_; omega,fun _=>rfl,(fun c h=>nomatch (show c∈([]:List UInt8) from h)),by show (0:Nat)≤_; omega,zp8 _⟩
  rcases zoX _ he with he | ⟨e',he',rfl⟩
  ·obtain ⟨u,_,rfl⟩:=List.mem_map.1 he
   exact base u
  ·obtain ⟨u,_,rfl⟩:=List.mem_map.1 he'
   have b:=base u
   exact ⟨b.so,b.pl,b.di,b.nd,m1,by show (zgg _).size≤_; omega,b.gr⟩
 ·split at h
  ·injection h with h
   subst h
   refine ⟨fun e he => ?_,by simp⟩
   rw [List.mem_singleton] at he
   subst he
   have h1:(zj5 (x::l.takeWhile zi5)).size≤4*(x::l.takeWhile zi5).length:=ziZ fun y hy=>hl y (by
    rcases List.mem_cons.1 hy with rfl | hy
    ·exact List.mem_cons_self ..
    ·exact List.mem_cons_of_mem _ (ztw hy).2)
   have h2:=(List.takeWhile_sublist zi5 (l:=l)).length_le
   have h3:(zvj (x::l.takeWhile zi5)).size≤(zj5 (x::l.takeWhile zi5)).size:=by
    rw [zb4,zb4]
    exact (List.dropWhile_sublist _).length_le
   rw [List.length_cons] at hn h1
   exact ⟨.inr (.inl rfl),by show (0:Int)≤0∧(0:Int)<65536; omega,by show (zvj _).size≤_; omega,fun h=>absurd rfl h,(fun c h=>nomatch (show c∈([]:List UInt8) from h)),by show (0:Nat)≤_; omega,.inl rfl⟩
  ·split at h
   ·cases h
   ·split at h
    ·injection h with h
     subst h
     refine ⟨fun e he => ?_,by simp⟩
     rw [List.mem_singleton] at he
     subst he
     have hby:0≤zge x.2∧zge x.2≤255:=by unfold zge; have:=(x.2.data.toList.headD 0).toNat_lt; omega
     exact ⟨.inr (.inr (.inr rfl)),by show 0≤zge x.2∧zge x.2<65536; omega,by show (0:Nat)≤_; omega,fun _=>rfl,(fun c h=>nomatch (show c∈([]:List UInt8) from h)),by show (0:Nat)≤_; omega,.inl rfl⟩
    ·injection h with h
     subst h
     exact ⟨(fun e he=>by cases he),by simp⟩
theorem zk1 (o:zmX) (hf:zjS o) (hp:zts o):∀ (n:Nat) (l:List Tk),(∀ y∈l,y.2.size≤4)→l.length≤65536→(∀ es,some es∈ziY o n l→(∀ e∈es,zeA e)∧es.length≤4)∧(ziY o n l).length≤n
 | 0,l,_,_=>⟨(fun es h=>by cases h),Nat.le_refl _⟩
 | n+1,[],_,_=>⟨(fun es h=>by cases h),Nat.zero_le _⟩
 | n+1,x::l,hl,hn=>by
  obtain ⟨h1,h2⟩:=zk1 o hf hp n ((x::l).drop (zih o x l).1) (fun y hy=>hl y (List.mem_of_mem_drop hy)) (by rw [List.length_drop]; omega)
  rw [ziY]
  refine ⟨fun es h => ?_,by rw [List.length_cons]; omega⟩
  rcases List.mem_cons.1 h with h | h
  ·exact zqn o hf hp x l hl hn es h.symm
  ·exact h1 es h
theorem zkl:∀ (cs:List (Option (List El))) (out:List El) (sp:Bool),(∀ es,some es∈cs→(∀ e∈es,zeA e)∧es.length≤4)→(∀ e∈out,zeA e)→(∀ e∈asm cs out sp,zeA e)∧(asm cs out sp).length≤out.length+5*cs.length
 | [],out,sp,_,h=>⟨h,Nat.le_refl _⟩
 | none::cs,out,sp,hc,h=>by
  obtain ⟨h1,h2⟩:=zkl cs out true (fun es he=>hc es (List.mem_cons_of_mem _ he)) h
  exact ⟨h1,by rw [List.length_cons]; show (asm cs out true).length≤_; omega⟩
 | some []::cs,out,sp,hc,h=>by
  obtain ⟨h1,h2⟩:=zkl cs out sp (fun es he=>hc es (List.mem_cons_of_mem _ he)) h
  exact ⟨h1,by rw [List.length_cons]; show (asm cs out sp).length≤_; omega⟩
 | some (e::es)::cs,out,sp,hc,h=>by
  have he:=hc _ (List.mem_cons_self ..)
  have hg:=ziK sp out
  obtain ⟨h1,h2⟩:=zkl cs (out++znX sp out++e::es) false (fun es he=>hc es (List.mem_cons_of_mem _ he)) (fun a ha=>by
   rcases List.mem_append.1 ha with ha | ha
   ·rcases List.mem_append.1 ha with ha | ha
    ·exact h a ha
    ·unfold znX at ha
     split at ha
     ·rw [List.mem_singleton.1 ha]; exact zsW
     ·cases ha
   ·exact he.1 a ha)
  refine ⟨h1,?_⟩
  show (asm cs (out++znX sp out++e::es) false).length≤_
  have:=he.2
  simp only [List.length_append,List.length_cons] at h2 this ⊢
  omega
theorem zqj (o:zmX) (hf:zjS o) (hp:zts o) (l:List Tk) (hl:∀ y∈l,y.2.size≤4) (hn:l.length≤65536):(∀ e∈zlW o l,zeA e)∧(zlW o l).length≤327680:=by
 unfold zlW
 obtain ⟨h1,h2⟩:=zk1 o hf hp l.length (l.drop (znh o l)) (fun y hy=>hl y (List.mem_of_mem_drop hy)) (by rw [List.length_drop]; omega)
 obtain ⟨h3,h4⟩:=zkl (ziY o l.length (l.drop (znh o l))) [] false h1 (fun e h=>by cases h)
 exact ⟨h3,by rw [List.length_nil] at h4; omega⟩
theorem zka {t:Tok} (h:zfo t):t.bs.length≤4:=by
 rcases h with h | h
 ·rw [h.2]; exact (zfz t.r).2
 ·unfold Tok.broken at h; simp at h; omega
theorem zqN (t:zBA) (ht:Few t):(∀ y∈zlf t,y.2.size≤4)∧(zlf t).length≤65536:=by
 have h1:=ht.2
 have h2:=zj9 (zdh t)
 refine ⟨fun y hy => ?_,by unfold zlf zks; rw [List.length_map]; omega⟩
 obtain ⟨x,hx,rfl⟩:=List.mem_map.1 hy
 have:=zka (zgp _ x hx)
 show (⟨x.bs.toArray⟩:zBA).size≤4
 rw [zb4]
 simpa using this
def elA (o:zac) (t:zBA):List El:=zlW (zeO o) (zlf t)
def zdI (o:zac) (t:zBA):List (List UInt8):=[k1 (elA o t),k2 (elA o t),k3 (elA o t),t.data.toList]
structure zsk (o:zac):Prop where
 fo:zjS (zeO o)
 pl:zts (zeO o)
theorem ziS {o:zac} (h:zsk o) (t:zBA) (ht:Few t):(∀ e∈elA o t,zeA e)∧(elA o t).length≤327680 :=
 zqj _ h.fo h.pl _ (zqN t ht).1 (zqN t ht).2
theorem zxh {x y:List El} (hx:∀ e∈x,zeA e) (hy:∀ e∈y,zeA e):cb (k1 x) (k1 y)=sg (zhl zfZ x y):=by
 have:=zrl [] [] hx hy
 rw [List.append_nil,List.append_nil] at this
 rw [this]
 split
 ·rename_i h; rw [h]; rfl
 ·rfl
theorem zxg {x y:List El} (hx:∀ e∈x,zeA e) (hy:∀ e∈y,zeA e) (hl:x.length=y.length):cb (k2 x) (k2 y)=sg (zhl zhb x y):=by
 have:=zrk [] [] hx hy hl
 rw [List.append_nil,List.append_nil] at this
 rw [this]
 split
 ·rename_i h; rw [h]; rfl
 ·rfl
theorem zxf {x y:List El} (hx:∀ e∈x,zeA e) (hy:∀ e∈y,zeA e) (hl:x.length=y.length):cb (k3 x) (k3 y)=sg (zhl zh0 x y):=by
 have:=zrj [] [] hx hy hl
 rw [List.append_nil,List.append_nil] at this
 rw [this]
 split
 ·rename_i h; rw [h]; rfl
 ·rfl
def lvl (x y:List El) (a b:List UInt8):Int×Int :=
 if zhl zfZ x y=0 then (if zhl zhb x y=0 then (if zhl zh0 x y=0 then (if cb a b=0 then (0,0) else (cb a b,4)) else (sg (zhl zh0 x y),3)) else (sg (zhl zhb x y),2)) else (sg (zhl zfZ x y),1)
theorem zo7 {x y:List El} (hx:∀ e∈x,zeA e) (hy:∀ e∈y,zeA e) (a b:List UInt8):zg5 1 [k1 x,k2 x,k3 x,a] [k1 y,k2 y,k3 y,b]=lvl x y a b:=by
 unfold lvl
 rw [zg5,zxh hx hy]
 by_cases h1:zhl zfZ x y=0
 ·rw [if_pos (sg_zero.2 h1),if_pos h1,zg5,zxg hx hy (ziE h1)]
  by_cases h2:zhl zhb x y=0
  ·rw [if_pos (sg_zero.2 h2),if_pos h2,zg5,zxf hx hy (ziE h1)]
   by_cases h3:zhl zh0 x y=0
   ·rw [if_pos (sg_zero.2 h3),if_pos h3,zg5]
    by_cases h4:cb a b=0
    ·rw [if_pos h4,if_pos h4]; rfl
    ·rw [if_neg h4,if_neg h4]; rfl
   ·rw [if_neg (fun h=>h3 (sg_zero.1 h)),if_neg h3]; rfl
  ·rw [if_neg (fun h=>h2 (sg_zero.1 h)),if_neg h2]; rfl
 ·rw [if_neg (fun h=>h1 (sg_zero.1 h)),if_neg h1]
theorem zuk {x y:List El} (hx:∀ e∈x,zeA e) (hy:∀ e∈y,zeA e) (a b:List UInt8):cb (k1 x++(k2 x++(k3 x++a))) (k1 y++(k2 y++(k3 y++b)))=(lvl x y a b).1:=by
 unfold lvl
 rw [zrl _ _ hx hy]
 by_cases h1:zhl zfZ x y=0
 ·rw [if_pos h1,if_pos h1,zrk _ _ hx hy (ziE h1)]
  by_cases h2:zhl zhb x y=0
  ·rw [if_pos h2,if_pos h2,zrj _ _ hx hy (ziE h1)]
   by_cases h3:zhl zh0 x y=0
   ·rw [if_pos h3,if_pos h3]
    by_cases h4:cb a b=0
    ·rw [if_pos h4,h4]
    ·rw [if_neg h4]
   ·rw [if_neg h3,if_neg h3]
  ·rw [if_neg h2,if_neg h2]
 ·rw [if_neg h1,if_neg h1]
theorem zx4 {n:Int} (h:n≠0):((n:Int) != 0)=true:=bne_iff_ne.2 h
theorem zx3 {n:Int} (h:n=0):((n:Int) != 0)=false:=by rw [h]; rfl
theorem zkX {o:zac} (h:zsk o) (a b:zBA) (ha:Few a) (hb:Few b):zbI o a b=some (zg5 1 (zdI o a) (zdI o b)):=by
 obtain ⟨ga,la⟩:=ziS h a ha
 obtain ⟨gb,lb⟩:=ziS h b hb
 unfold zbI
 by_cases hab:a=b
 ·subst hab
  refine zaI (decide_eq_true rfl) ?_
  rw [znG]
 ·refine zaE (decide_eq_false hab) (zce (zaV (zjq o h.fo a ha) (zaV (zjq o h.fo b hb) ?_)))
  show zak (zaw (elA o a) (elA o b)) _=_
  have e1:zaw (elA o a) (elA o b)=some (zhl zfZ (elA o a) (elA o b)) :=
   zce (zoG (cv:=zdN) _ _ (by omega) (fun _ _=>rfl) (fun p hp q hq=>zut p q (ga p hp) (gb q hq)))
  have e2:zaC (elA o a) (elA o b)=some (zhl zhb (elA o a) (elA o b)) :=
   zce (zoG (cv:=zc3) _ _ (by omega) (fun _ _=>rfl) (fun p hp q hq=>rfl))
  have e3:zaB (elA o a) (elA o b)=some (zhl zh0 (elA o a) (elA o b)) :=
   zce (zoG (cv:=zc2) _ _ (by omega) (fun _ _=>rfl) (fun p hp q hq=>by
    have g1:=(ga p hp).gr; have g2:=(gb q hq).gr
    exact zcf ⟨by omega,by omega⟩ rfl))
  unfold zdI
  rw [zo7 ga gb]
  unfold lvl
  refine zaV e1 ?_
  by_cases h1:zhl zfZ (elA o a) (elA o b)=0
  ·rw [if_pos h1]
   refine zaE (zx3 h1) (zaV e2 ?_)
   by_cases h2:zhl zhb (elA o a) (elA o b)=0
   ·rw [if_pos h2]
    refine zaE (zx3 h2) (zaV e3 ?_)
    by_cases h3:zhl zh0 (elA o a) (elA o b)=0
    ·rw [if_pos h3]
     refine zaE (zx3 h3) ?_
     rw [if_neg (fun h=>hab (zgR (zk2 h)))]
    ·rw [if_neg h3]; exact zaI (zx4 h3) (zaV (zqU _) rfl)
   ·rw [if_neg h2]; exact zaI (zx4 h2) (zaV (zqU _) rfl)
  ·rw [if_neg h1]; exact zaI (zx4 h1) (zaV (zqU _) rfl)
theorem zkk (l:List Int):(zbl l).data.toList=l.map fun x=>UInt8.ofNat x.toNat:=by unfold zbl; simp
theorem zmh (n k:Nat) (h:k≤63):zeh .i64 (n:Int) (k:Int)=((n / 2 ^ k:Nat):Int):=by
 unfold zeh
 have:min ((k:Int)).toNat (IntKind.bits .i64)=k:=by
  rw [Int.toNat_natCast]
  exact Nat.min_eq_left (by show k≤64; omega)
 rw [this,Int.fdiv_eq_ediv_of_nonneg _ (by exact Int.pow_nonneg (by omega))]
 push_cast
 rfl
theorem zft (n:Nat):UInt8.ofNat (IntKind.u8.wrap (n:Int)).toNat=UInt8.ofNat n:=by
 rw [zlx,Int.toNat_natCast]
 apply UInt8.toNat_inj.1
 rw [UInt8.toNat_ofNat',UInt8.toNat_ofNat']
 omega
theorem be2 (n:Nat):be 2 n=[UInt8.ofNat (n / 256),UInt8.ofNat (n % 256)]:=by
 show [UInt8.ofNat (n / 256 ^ 1),UInt8.ofNat (n % 256 ^ 1 / 256 ^ 0)]=_
 rw [Nat.pow_one,Nat.pow_zero,Nat.div_one]
theorem ziB (n m:Nat) (h:n % 256=m % 256):UInt8.ofNat n=UInt8.ofNat m:=by
 apply UInt8.toNat_inj.1
 rw [UInt8.toNat_ofNat',UInt8.toNat_ofNat']
 exact h
theorem zlR {e:El} (h:zeA e):(zbl [IntKind.u8.wrap e.sort,IntKind.u8.wrap (zeh .i64 e.place 8),IntKind.u8.wrap e.place]).data.toList=be 1 e.sort.toNat++be 2 e.place.toNat:=by
 have h1:=h.so; have h2:=h.pl
 obtain ⟨s,hs⟩:∃ s:Nat,e.sort=s:=⟨e.sort.toNat,by omega⟩
 obtain ⟨p,hp⟩:∃ p:Nat,e.place=p:=⟨e.place.toNat,by omega⟩
 rw [zkk,hs,hp,Int.toNat_natCast,Int.toNat_natCast,be2]
 have e8:=zmh p 8 (by omega)
 rw [show ((8:Nat):Int)=8 from rfl] at e8
 rw [e8]
 simp only [List.map_cons,List.map_nil]
 rw [zft,zft,zft]
 show [UInt8.ofNat s,UInt8.ofNat (p / 2 ^ 8),UInt8.ofNat p]=[UInt8.ofNat (s / 256 ^ 0),UInt8.ofNat (p / 256),UInt8.ofNat (p % 256)]
 rw [Nat.pow_zero,Nat.div_one,ziB p (p % 256) (by omega)]
theorem zrc (n:Nat) (h:n<4294967296):(zbl [IntKind.u8.wrap (zeh .i64 (n:Int) 24),IntKind.u8.wrap (zeh .i64 (n:Int) 16),IntKind.u8.wrap (zeh .i64 (n:Int) 8),IntKind.u8.wrap (n:Int)]).data.toList=be 4 n:=by
 have e1:=zmh n 24 (by omega)
 have e2:=zmh n 16 (by omega)
 have e3:=zmh n 8 (by omega)
 rw [show ((24:Nat):Int)=24 from rfl] at e1
 rw [show ((16:Nat):Int)=16 from rfl] at e2
 rw [show ((8:Nat):Int)=8 from rfl] at e3
 rw [zkk,e1,e2,e3]
 simp only [List.map_cons,List.map_nil]
 rw [zft,zft,zft,zft]
 show _=[UInt8.ofNat (n / 256 ^ 3),UInt8.ofNat (n % 256 ^ 3 / 256 ^ 2),UInt8.ofNat (n % 256 ^ 3 % 256 ^ 2 / 256 ^ 1),UInt8.ofNat (n % 256 ^ 3 % 256 ^ 2 % 256 ^ 1 / 256 ^ 0)]
 simp only [Nat.reducePow,Nat.div_one]
 rw [ziB (n / 65536) (n % 16777216 / 65536) (by omega),ziB (n / 256) (n % 16777216 % 65536 / 256) (by omega),ziB n (n % 16777216 % 65536 % 256) (by omega)]
theorem zmc (l:List Int):∀ x∈l.map IntKind.u8.wrap,U8 x:=by
 intro x hx
 obtain ⟨y,_,rfl⟩:=List.mem_map.1 hx
 have:=IntKind.wrap_u8 y
 rw [this]
 exact ⟨by omega,by omega⟩
theorem zps:∀ k n,(be k n).length=k
 | 0,_=>rfl
 | k+1,n=>by rw [be,List.length_cons,zps]
theorem zrW {e:El} (h:zeA e):(c1 e).length≤300007:=by
 have:=h.di
 unfold c1
 rw [List.length_append,List.length_append,zps,zps]
 split
 ·rw [List.length_append,zps,← zb4]; omega
 ·rw [List.length_nil]; omega
def ba (l:List UInt8):zBA:=⟨l.toArray⟩
theorem zjx (l:List UInt8):(ba l).data.toList=l:=by unfold ba; simp
theorem zhF (l:List UInt8):(ba l).size=l.length:=by rw [zb4,zjx]
theorem zgY {α:Type} (g:α→List UInt8):∀ (l:List α) (b:zBA),(l.foldl (fun b e=>b++ba (g e)) b).data.toList=b.data.toList++l.flatMap g
 | [],b=>by simp
 | x::l,b=>by rw [List.foldl_cons,zgY g l,zex,zjx,List.flatMap_cons,List.append_assoc]
theorem zun {o:zac} (h:zsk o) (s:zBA) (hs:Few s):∃ k,zbL o s=some k∧k.data.toList=k1 (elA o s)++(k2 (elA o s)++(k3 (elA o s)++s.data.toList)):=by
 obtain ⟨gd_,ln⟩:=ziS h s hs
 have hF:=hs
 have hs:=hs.1
 unfold zbL
 have hm:∀ {k:Nat} {x:El},(elA o s)[k]?=some x→zeA x∧k<327680:=fun {k x} hx=>⟨gd_ x (List.mem_of_getElem? hx),by have:=(List.getElem?_eq_some_iff.1 hx).1; omega⟩
 have l1:=fun (J:List El→zBA→Option zBA)=>zok (xs:=elA o s) (F:=zbS J (elA o s)) (bot:=fun _ _=>none) (f:=fun b e=>b++ba (c1 e)) (J:=J (elA o s)) (fun k b=>b.size≤300007*k) (fun ag k x a hx hi=>by
   obtain ⟨g,hk⟩:=hm hx
   have hc:=zrW g
   have hd:=g.di
   have hb3:∀ l:List Int,(zbl l).size=l.length:=fun l=>by rw [zb4,zkk,List.length_map]
   unfold zbS
   refine zaI (zjU hx) (zce (zaV (zgH hx) (zcf (by omega) (zcf (zmc [x.sort,zeh .i64 x.place 8,x.place]) ?_))))
   by_cases h2:x.sort=2
   ·have e:((a++zbl [IntKind.u8.wrap x.sort,IntKind.u8.wrap (zeh .i64 x.place 8),IntKind.u8.wrap x.place])++zbl [IntKind.u8.wrap (zeh .i64 (x.digits.size:Int) 24),IntKind.u8.wrap (zeh .i64 (x.digits.size:Int) 16),IntKind.u8.wrap (zeh .i64 (x.digits.size:Int) 8),IntKind.u8.wrap (x.digits.size:Int)])++x.digits=a++ba (c1 x):=by
     apply zgR
     rw [zex,zex,zex,zlR g,zrc _ (by omega),zex,zjx]
     unfold c1
     rw [if_pos h2]
     simp only [List.append_assoc]
    refine zaI (by rw [h2]; rfl) (zcf (by rw [ByteArray.size_append,hb3]; simp only [List.length_cons,List.length_nil]; omega) (zcf (zmc [zeh .i64 (x.digits.size:Int) 24,zeh .i64 (x.digits.size:Int) 16,zeh .i64 (x.digits.size:Int) 8,(x.digits.size:Int)]) (zcf (by rw [ByteArray.size_append,ByteArray.size_append,hb3,hb3]; simp only [List.length_cons,List.length_nil]; omega) ?_)))
    rw [e]
    exact zcf (zfq (by omega)) rfl
   ·have e:a++zbl [IntKind.u8.wrap x.sort,IntKind.u8.wrap (zeh .i64 x.place 8),IntKind.u8.wrap x.place]=a++ba (c1 x):=by
     apply zgR
     rw [zex,zlR g,zex,zjx]
     unfold c1
     rw [if_neg h2,List.append_nil]
    refine zaE (beq_eq_false_iff_ne.2 h2) ?_
    rw [e]
    exact zcf (zfq (by omega)) rfl) (fun k x a hx hi=>by
     have hc:=zrW (hm hx).1
     rw [ByteArray.size_append,zhF]; omega) (fun ag a _=>by unfold zbS; exact zaE zjV rfl) (n:=zcy) (zeI (by omega)) (a:=ByteArray.empty) (Nat.zero_le _)
 have f1:=zgY c1 (elA o s) ByteArray.empty
 have b1:((elA o s).foldl (fun b e=>b++ba (c1 e)) ByteArray.empty).size≤100000000000:=by
  rw [zb4,f1]
  have key:∀ l:List El,(∀ e∈l,zeA e)→(l.flatMap c1).length≤300007*l.length:=by
   intro l
   induction l with
   | nil=>intro _; simp
   | cons e l ih =>
    intro hg
    have:=zrW (hg e (List.mem_cons_self ..))
    have:=ih (fun x hx=>hg x (List.mem_cons_of_mem _ hx))
    rw [List.flatMap_cons,List.length_append,List.length_cons]; omega
  have:=key _ gd_
  rw [List.length_append]
  show (0:Nat)+_≤_
  omega
 generalize hB1:(elA o s).foldl (fun b e=>b++ba (c1 e)) ByteArray.empty=B1 at *
 have l2:=fun (J:zBA→Option zBA)=>zok (xs:=elA o s) (F:=zcc (elA o s) J) (bot:=fun _ _=>none) (f:=fun b e=>b++ba (e.marks.data.toList++[0])) (J:=J) (fun k b=>b.size≤100000000001+300001*k) (fun ag k x a hx hi=>by
   obtain ⟨g,hk⟩:=hm hx
   have hd:=g.ml
   unfold zcc
   have e:(a++x.marks)++(⟨#[0]⟩:zBA)=a++ba (x.marks.data.toList++[0]):=by
    apply zgR
    rw [zex,zex,zex,zjx,List.append_assoc]
   refine zaI (zjU hx) (zaV (zgH hx) (zcf (by omega) (zcf (by rw [ByteArray.size_append]; omega) (zcf (zfq (by omega)) ?_))))
   rw [e]) (fun k x a hx hi=>by
     have hc:=(hm hx).1.ml
     rw [ByteArray.size_append,zhF,List.length_append,← zb4]
     show _+(_+1)≤_
     omega) (fun ag a _=>by unfold zcc; exact zaE zjV rfl) (n:=zcy) (zeI (by omega)) (a:=B1++(⟨#[0]⟩:zBA)) (by rw [ByteArray.size_append]; show _+1≤_; omega)
 have f2:=zgY (fun e:El=>e.marks.data.toList++[0]) (elA o s) (B1++(⟨#[0]⟩:zBA))
 have b2:((elA o s).foldl (fun b e=>b++ba (e.marks.data.toList++[0])) (B1++(⟨#[0]⟩:zBA))).size≤300000000000:=by
  rw [zb4,f2]
  have key:∀ l:List El,(∀ e∈l,zeA e)→(l.flatMap fun e:El=>e.marks.data.toList++[0]).length≤300001*l.length:=by
   intro l
   induction l with
   | nil=>intro _; simp
   | cons e l ih =>
    intro hg
    have:=(hg e (List.mem_cons_self ..)).ml
    have:=ih (fun x hx=>hg x (List.mem_cons_of_mem _ hx))
    rw [List.flatMap_cons,List.length_append,List.length_cons,List.length_append,← zb4]
    show _+1+_≤_
    omega
  have:=key _ gd_
  rw [List.length_append,← zb4,ByteArray.size_append]
  show _+1+_≤_
  omega
 generalize hB2:(elA o s).foldl (fun b e=>b++ba (e.marks.data.toList++[0])) (B1++(⟨#[0]⟩:zBA))=B2 at *
 have l3:=fun (J:zBA→Option zBA)=>zok (xs:=elA o s) (F:=zcb (elA o s) J) (bot:=fun _ _=>none) (f:=fun b e=>b++ba [UInt8.ofNat e.great.toNat]) (J:=J) (fun k b=>b.size≤300000000000+k) (fun ag k x a hx hi=>by
   obtain ⟨g,hk⟩:=hm hx
   unfold zcb
   have e:a++zbl [IntKind.u8.wrap x.great]=a++ba [UInt8.ofNat x.great.toNat]:=by
    apply zgR
    rw [zex,zex,zjx,zkk]
    rcases g.gr with hg | hg <;> rw [hg] <;> rfl
   refine zaI (zjU hx) (zaV (zgH hx) (zcf (by omega) (zcf (zmc [x.great]) (zcf (zfq (by omega)) ?_))))
   rw [e]) (fun k x a hx hi=>by
     rw [ByteArray.size_append,zhF]
     show _+1≤_
     omega) (fun ag a _=>by unfold zcb; exact zaE zjV rfl) (n:=zcy) (zeI (by omega)) (a:=B2) (by omega)
 have f3:=zgY (fun e:El=>[UInt8.ofNat e.great.toNat]) (elA o s) B2
 have b3:((elA o s).foldl (fun b e=>b++ba [UInt8.ofNat e.great.toNat]) B2).size≤400000000000:=by
  rw [zb4,f3]
  have key:∀ l:List El,(l.flatMap fun e:El=>[UInt8.ofNat e.great.toNat]).length=l.length:=by
   intro l
   induction l with
   | nil=>rfl
   | cons e l ih=>rw [List.flatMap_cons,List.length_append,ih,List.length_cons,List.length_cons]; simp; omega
  rw [List.length_append,← zb4,key]; omega
 generalize hB3:(elA o s).foldl (fun b e=>b++ba [UInt8.ofNat e.great.toNat]) B2=B3 at *
 refine ⟨B3++s,zce (zaV (zjq o h.fo s hF) ?_),?_⟩
 ·show zaW (fun _ _=>none) (zbS _ (elA o s)) zcy ByteArray.empty 0=_
  refine (l1 _).trans (zce (zcf (by omega) ?_))
  refine (l2 _).trans (zce ((l3 _).trans (zcf (by omega) rfl)))
 ·rw [zex,f3,f2,zex,f1]
  unfold k1 k2 k3
  have:∀ l:List El,(l.flatMap fun e:El=>[UInt8.ofNat e.great.toNat])=l.map fun e=>UInt8.ofNat e.great.toNat:=by
   intro l
   induction l with
   | nil=>rfl
   | cons e l ih=>rw [List.flatMap_cons,ih]; rfl
  rw [this]
  show ([]++_++[0])++_++_++_=_
  simp only [List.nil_append,List.append_assoc]
theorem zw9:((List.range 1120).all fun n=>!zaY (n:Int)||(zaY (zbe (n:Int))&&decide (zbe (zbe (n:Int))=zbe (n:Int))&&!great (zbe (n:Int))&&(decide (zbJ (n:Int) tabS≠none)||decide (zbJ (zbe (n:Int)) tabS=none))))=true:=by decide +kernel
theorem zjH {r:Int} (h:zaY r=true):zaY (zbe r)=true∧zbe (zbe r)=zbe r∧great (zbe r)=false∧(zbJ r tabS=none→zbJ (zbe r) tabS=none):=by
 have h1:=zcN r h
 have:=List.all_eq_true.1 zw9 r.toNat (List.mem_range.2 (by omega))
 rw [show ((r.toNat:Nat):Int)=r by omega,h] at this
 simp only [Bool.not_true,Bool.false_or,Bool.and_eq_true,decide_eq_true_eq,Bool.or_eq_true,Bool.not_eq_true'] at this
 exact ⟨this.1.1.1,this.1.1.2,this.1.2,fun hn=>this.2.resolve_left (fun h=>h hn)⟩
def zes (x:Tk):Tk:=if zgv x then (zbe x.1,Utf8.encode (zbe x.1)) else x
def zfc (s:zBA):zBA:=zj5 ((zlf s).map zes)
def gS (c:Itm×List Itm):List Int:=zbe c.1.Rune::(kLo c++kHi c)
theorem zv8:zoO (mkO gS):=ztE (fun c _=>by unfold gS; simp) (fun c hc hn hm r hr=>by
 obtain ⟨h1,h2⟩:=zmr hm
 unfold gS at hr
 rcases List.mem_cons.1 hr with rfl | hr
 ·exact .inl (zjH hc).1
 ·rcases List.mem_append.1 hr with hr | hr
  ·exact .inr (h1 r hr)
  ·exact .inr (h2 r hr))
theorem zyu:∀ c:Itm×List Itm,isL c.1=true→zbJ c.1.Rune tabS=none→(∀ m∈c.2,isM m=true)→∀ t,(mkO gS c).head?=some t→mrk (zeB t).Rune=false:=by
 intro c hL hn hm t ht
 have e:mkO gS c=(zbe c.1.Rune::(kLo c++kHi c)).map zin:=by unfold mkO; rw [hL]; rfl
 rw [e] at ht
 exact zv6 (zjH hL).1 t ht
theorem zqL (s:zBA) (hs:s.size≤65536):zks s=(clT (zek s.data.toList)).flatMap (mkO gA):=zmo zxj (znK s hs)
theorem zt0 {r:Int} (h:vr r):tkT (zin r)=(r,Utf8.encode r):=by
 have hv:=zd8 (zgD h)
 have e:(zin r).bs=(Utf8.encode r).data.toList:=(zcV r).symm
 unfold tkT
 rw [hv,if_neg (by simp),e]
 have:(((zin r).r:Nat):Int)=r:=by show ((r.toNat:Nat):Int)=r; unfold vr at h; omega
 rw [this]
def zgI (t:Tok):Tok:=if zgv (tkT t) then zin (zbe (tkT t).1) else t
theorem zn2 (t:Tok):tkT (zgI t)=zes (tkT t):=by
 unfold zgI zes
 cases h:zgv (tkT t) with
 | true =>
  rw [if_pos rfl,if_pos rfl]
  exact zt0 (zfW (zjH (show zaY (tkT t).1=true from h)).1)
 | false=>rw [if_neg (by simp),if_neg (by simp)]
theorem zui {s:zBA} (hs:s.size≤65536):∀ c∈clT (zek s.data.toList),(mkO gA c).map zgI=mkO gS c:=by
 intro c hc
 rcases zpn (zgp _) c hc with ⟨g1,g2,g3⟩ | ⟨g1,g2,t,g3,g4⟩
 ·obtain ⟨h1,h2⟩:=zmr g2
  have e1:mkO gA c=(c.1.Rune::(kLo c++kHi c)).map zin:=by unfold mkO; rw [g1,ztH]; rfl
  have e2:mkO gS c=(zbe c.1.Rune::(kLo c++kHi c)).map zin:=by unfold mkO; rw [g1]; rfl
  rw [e1,e2,List.map_cons,List.map_cons,List.map_cons]
  have hx:tkT (zin c.1.Rune)=(c.1.Rune,Utf8.encode c.1.Rune):=zt0 (zfW g1)
  congr 1
  ·unfold zgI
   rw [hx]
   exact if_pos (show zaY c.1.Rune=true from g1)
  ·rw [List.map_map]
   refine List.map_congr_left fun m hm => ?_
   have hmk:mrk m=true:=by
    rcases List.mem_append.1 hm with hm | hm
    ·exact h1 m hm
    ·exact h2 m hm
   show zgI (zin m)=zin m
   unfold zgI
   rw [zt0 (zo3 hmk)]
   exact if_neg (by show ¬ zaY m=true; rw [zcK hmk]; simp)
 ·have e1:∀ g,mkO g c=[t]:=fun g=>by unfold mkO; rw [g1,g4,zkK g3]; rfl
  rw [e1,e1]
  have hL:zgv (tkT t)=false:=by
   have:isL (zeB t)=false:=by rw [← g4]; exact g1
   exact this
  show [zgI t]=[t]
  unfold zgI
  rw [hL,if_neg (by simp)]
theorem zlU {α β:Type} {f g:α→List β}:∀ {l:List α},(∀ x∈l,f x=g x)→l.flatMap f=l.flatMap g
 | [],_=>rfl
 | x::l,h=>by rw [List.flatMap_cons,List.flatMap_cons,h x (List.mem_cons_self ..),zlU fun y hy=>h y (List.mem_cons_of_mem _ hy)]
theorem zlJ {s:zBA} (hs:s.size≤65536):(zks s).map zgI=(clT (zek s.data.toList)).flatMap (mkO gS):=by
 rw [zqL s hs,List.map_flatMap]
 exact zlU (zui hs)
theorem zuS (ts:List Tok):(zj5 ((ts.map tkT).map zes)).data.toList=zb8 (ts.map zgI):=by
 rw [← zkj,List.map_map,List.map_map]
 congr 1; congr 1; congr 1
 exact List.map_congr_left fun t _=>(zn2 t).symm
theorem zh7 (s:zBA) (hs:s.size≤65536):(zfc s).data.toList=zb8 ((clT (zek s.data.toList)).flatMap (mkO gS)):=by
 rw [← zlJ hs]; exact zuS _
theorem zlB (s:zBA) (hs:s.size≤65536):zek (zfc s).data.toList=(zks s).map zgI:=by
 rw [zlJ hs]; exact zmo zv8 (zh7 s hs)
def smC (c:Itm×List Itm):zBA:=if isL c.1 then ze6 (gS c) else c.1.Text
theorem znr (c:Itm×List Itm):kLo (ze0 c)=kLo c∧kHi (ze0 c)=kHi c:=by
 unfold kLo kHi
 have:=zms c.2
 constructor
 ·show (loI (c.2.map zeM)).map _=_; rw [this.1,List.map_map]; rfl
 ·show (hiI (c.2.map zeM)).map _=_; rw [this.2,List.map_map]; rfl
theorem zm8 (c:Itm×List Itm):smC (ze0 c)=smC c:=by
 unfold smC gS
 rw [(znr c).1,(znr c).2]; rfl
theorem zqT (s:zBA) (hs:s.size≤65536):J smC (zjP s)=zfc s:=by
 apply zgR
 rw [zh7 s hs]
 exact zlS zm8 (fun c hL _ _=>by unfold smC; rw [hL]; rfl) (fun c hL _=>by unfold smC; rw [hL]; rfl) s hs
theorem zw7 {c:Itm×List Itm} (hL:isL c.1=true) (hm:∀ m∈c.2,isM m=true) (hn:zbJ c.1.Rune tabS=none):∃ d:Itm×List Itm,clT (mkO gS c)=[d]∧isL d.1=true∧okT d.1∧(∀ m∈d.2,isM m=true∧okT m)∧d.1.Rune=zbe c.1.Rune∧kLo d=kLo c∧kHi d=kHi c:=by
 obtain ⟨h1,h2⟩:=zmr hm
 have e:mkO gS c=(zbe c.1.Rune::(kLo c++kHi c)).map zin:=by unfold mkO; rw [hL]; rfl
 have hp:zdb (zbe c.1.Rune)=[zbe c.1.Rune]:=by unfold zdb; rw [(zjH hL).2.2.2 hn]
 have:=zvR (c:=(mkI (zbe c.1.Rune),[])) (zjH hL).1 (st:=kLo c++kHi c) (fun m hm=>by
  rcases List.mem_append.1 hm with hm | hm
  ·exact h1 m hm
  ·exact h2 m hm) hp rfl
 obtain ⟨o1,o2,o3,o4,o5⟩:=this
 rw [← e] at o1
 refine ⟨_,o1,o2,o3,o4,rfl,?_⟩
 obtain ⟨k1,k2⟩:=zvZ (zbe c.1.Rune) ([]++(kLo c++kHi c))
 obtain ⟨l1,l2⟩:=zuo c
 rw [k1,k2,List.nil_append,List.filter_append,List.filter_append,(zrh l1).1,(zrh l1).2,(zrp l2).1,(zrp l2).2]
 simp
theorem zoJ (s:zBA) (hs:s.size≤65536):zdh (zfc s)=zfc s:=by
 rw [← zqT s hs]
 refine zrw zv8 zyu zjR zm8 hs (x:=J smC (zjP s)) (by rw [zqT s hs]; exact zh7 s hs) (fun c hL hm hn hok => ?_) (fun y hy=>by unfold smC; rw [hy]; rfl)
 obtain ⟨d,d1,d2,d3,d4,d5,d6,d7⟩:=zw7 hL (fun m h=>(hm m h).1) hn
 rw [d1,zdU,znT,ByteArray.append_empty,zqs d2 d3 d4,ztH,d5,d6,d7]
 unfold smC
 rw [hL]; rfl
theorem zn1 (s:zBA) (hs:s.size≤65536):zks (zfc s)=(zks s).map zgI:=by
 unfold zks
 rw [zoJ s hs]; exact zlB s hs
theorem zlE (s:zBA) (hs:s.size≤65536):zlf (zfc s)=(zlf s).map zes:=by
 unfold zlf
 rw [zn1 s hs,List.map_map,List.map_map]
 exact List.map_congr_left fun t _=>zn2 t
theorem znI (i:Nat) (t:Tok) (h:zfo t):zdp (pT i t)=some (zgv (tkT t)):=by
 unfold zdp
 refine zcf (ze9 h) ?_
 show some ((zbD t.broken (t.r:Int):Int)==1)=_
 rw [zjK,zgJ]
theorem zuQ (i:Nat) (t:Tok) (h:zfo t):zdB (pT i t)=some (zje (tkT t)):=by
 unfold zdB
 refine zcf (ze9 h) ?_
 show some ((zbD t.broken (t.r:Int):Int)==2)=_
 rw [zjK,zkI]
theorem zlQ {x:Tk} (h:x.2.size≤4):(zes x).2.size≤4:=by
 unfold zes
 split
 ·exact zdk _
 ·exact h
theorem zlK (S:zBA) (hS:S.size≤1000000000):∀ (ts A:List Tok) (b:zBA),S.data.toList=zb8 (A++ts)→(∀ t∈ts,zfo t)→b.size+4*ts.length≤100000000000 →
  zcF (fun b8=>(some b8:Option zBA)) (zcz S) (pL (zb8 A).length ts) b=some (b++zj5 ((ts.map tkT).map zes))
 | [],A,b,_,_,_=>by
  rw [pL,zjb]
  show some b=some (b++ByteArray.empty)
  rw [ByteArray.append_empty]
 | t::ts,A,b,hd,hok,hb=>by
  have ht:=hok t (List.mem_cons_self ..)
  have hlen:(zb8 A).length+(t.bs.length+(zb8 ts).length)=S.size:=by rw [zb4,hd,zby,zcG,List.length_append,List.length_append]
  have e:(zb8 A).length+t.bs.length=(zb8 (A++[t])).length:=by rw [zby,List.length_append]; simp [zb8]
  rw [List.length_cons] at hb
  have next:∀ x:zBA,x.size≤4→zcF (fun b8=>(some b8:Option zBA)) (zcz S) (pL ((zb8 A).length+t.bs.length) ts) (b++x)=some ((b++x)++zj5 ((ts.map tkT).map zes)):=fun x hx=>by
   rw [e]
   exact zlK S hS ts (A++[t]) (b++x) (by rw [hd,List.append_assoc]; rfl) (fun y hy=>hok y (List.mem_cons_of_mem _ hy)) (by rw [ByteArray.size_append]; omega)
  rw [pL,zco]
  generalize hag:zcF (fun b8=>(some b8:Option zBA)) (zcz S) (pL ((zb8 A).length+t.bs.length) ts)=ag at next ⊢
  unfold zcz
  refine zaV (znI _ t ht) ?_
  have hJ:zj5 (((t::ts).map tkT).map zes)=(zes (tkT t)).2++zj5 ((ts.map tkT).map zes):=by unfold zj5; rw [List.map_cons,List.map_cons,zdU]
  rw [hJ,← ByteArray.append_assoc]
  cases hl:zgv (tkT t) with
  | true =>
   obtain ⟨h1,h2,h3⟩:=zrg hl
   have e2:(zes (tkT t)).2=Utf8.encode (zbe (t.r:Int)):=by unfold zes; rw [hl,h1]; rfl
   have e4:=zdk (zbe (t.r:Int))
   rw [e2]
   exact zaI rfl (zcf (ze9 ht) (zcf (by show b.size+(Utf8.encode (zbe (t.r:Int))).size≤_; omega) (next _ e4)))
  | false =>
   have e2:(zes (tkT t)).2=(tkT t).2:=by unfold zes; rw [hl]; rfl
   have hsz:=zka ht
   have hq:(pT (zb8 A).length t).At+(pT (zb8 A).length t).Width=(((zb8 A).length+t.bs.length:Nat):Int):=by
    show ((zb8 A).length:Int)+(t.bs.length:Int)=_; push_cast; rfl
   have hcut:zcn S (pT (zb8 A).length t).At (((zb8 A).length+t.bs.length:Nat):Int)=(tkT t).2:=by
    have:=zoC (s:=S) (A:=A) (W:=[t]) (Z:=ts) (by rw [hd]; rfl) rfl (b:=(zb8 A).length+t.bs.length) (by simp [zb8])
    rw [show (pT (zb8 A).length t).At=((zb8 A).length:Int) from rfl,this]
    show J (·.2) [tkT t]=_
    rw [zdU,znT,ByteArray.append_empty]
   have hs4:(tkT t).2.size≤4:=by rw [zb4]; show t.bs.toArray.toList.length≤4; simpa using hsz
   rw [e2]
   refine zaE rfl ?_
   rw [hq,hcut]
   exact zcf ⟨by omega,by omega⟩ (zcf ⟨by show (0:Int)≤((zb8 A).length:Int); omega,by show ((zb8 A).length:Int)≤_; omega,by omega⟩ (zcf (by omega) (next _ hs4)))
theorem zt3 (s:zBA) (hs:s.size≤65536):zev s=some (zfc s):=by
 have h1:=(zhv s hs).2.1
 have h2:=zj9 (zdh s)
 unfold zev
 refine zce (zaV (zpu s hs) (zaV (a:=zdh s) rfl (zaV (zkC _ (by omega)) (zce ?_))))
 rw [zlN]
 have:=zlK (zdh s) (by omega) (zek (zdh s).data.toList) [] ByteArray.empty (by rw [List.nil_append,zgM]) (zgp _) (by show 0+_≤_; omega)
 rw [ByteArray.empty_append] at this
 exact this
def okR:Nat→List Tk→Bool
 | _,[]=>true
 | k,x::l=>decide (k+1≤8)&&(zgv x||(decide (k≠0)&&zje x))&&okR (k+1) l
def zeP (s:zBA):zBA:=if okR 0 (zlf s) then zfc s else ⟨#[]⟩
theorem zpc (x:Tk):zgv (zes x)=zgv x:=by
 unfold zes
 cases h:zgv x with
 | true=>rw [if_pos rfl]; exact (zjH (show zaY x.1=true from h)).1
 | false=>rw [if_neg (by simp)]; exact h
theorem zsS (x:Tk):zje (zes x)=zje x:=by
 unfold zes
 cases h:zgv x with
 | true =>
  rw [if_pos rfl]
  have h1:=zjc (zjH (show zaY x.1=true from h)).1
  have h2:=zjc (show zaY x.1=true from h)
  show mrk _=mrk _
  rw [h1,h2]
 | false=>rw [if_neg (by simp)]
theorem zog:∀ (l:List Tk) (k:Nat),okR k (l.map zes)=okR k l
 | [],k=>rfl
 | x::l,k=>by rw [List.map_cons,okR,okR,zog l,zpc,zsS]
theorem zlI (r:zBA):∀ (ts:List Tok) (i k:Nat),(∀ t∈ts,zfo t)→k≤8 →
  zcF (fun (n3:Int)=>(some r:Option zBA)) (zcQ (fun (n4:Int)=>some (⟨#[]⟩:zBA))) (pL i ts) (k:Int)=some (if okR k (ts.map tkT) then r else ⟨#[]⟩)
 | [],i,k,_,_=>rfl
 | t::ts,i,k,hok,hk=>by
  have ht:=hok t (List.mem_cons_self ..)
  have next:=fun h=>zlI r ts (i+t.bs.length) (k+1) (fun y hy=>hok y (List.mem_cons_of_mem _ hy)) h
  rw [pL,zco,List.map_cons,okR]
  generalize hag:zcF (fun (n3:Int)=>(some r:Option zBA)) (zcQ (fun (n4:Int)=>some (⟨#[]⟩:zBA))) (pL (i+t.bs.length) ts)=ag at next ⊢
  unfold zcQ
  refine zcf ⟨by omega,by omega⟩ ?_
  by_cases h8:k+1≤8
  ·refine zaE (decide_eq_false (by omega)) (zaV (znI i t ht) ?_)
   have nx:=next h8
   push_cast at nx
   rw [decide_eq_true h8,Bool.true_and]
   cases hl:zgv (tkT t) with
   | true=>refine zaE rfl ?_; rw [nx]; simp
   | false =>
    refine zaI rfl ?_
    by_cases h0:k=0
    ·subst h0
     refine zaI (by decide) ?_
     simp
    ·have hne:(((k:Int)+1:Int)==1)=false:=beq_eq_false_iff_ne.2 (by omega)
     refine zaE hne (zaV (zuQ i t ht) ?_)
     rw [Bool.false_or,decide_eq_true h0,Bool.true_and]
     cases hm:zje (tkT t) with
     | true=>refine zaE rfl ?_; rw [nx]; simp
     | false=>refine zaI rfl ?_; simp
  ·refine zaI (decide_eq_true (by omega)) ?_
   rw [decide_eq_false h8]; simp
theorem zt2 (s:zBA) (hs:s.size≤65536):zdM s=some (zeP s):=by
 have h1:=(zhv s hs).2.1
 have h2:=zj9 (zdh s)
 have h3:(zfc s).size≤1000000000:=by
  have:(zfc s).size≤4*((zlf s).map zes).length:=ziZ fun y hy=>by
   obtain ⟨x,hx,rfl⟩:=List.mem_map.1 hy
   obtain ⟨t,ht,rfl⟩:=List.mem_map.1 hx
   refine zlQ ?_
   rw [zb4]
   have:=zka (zgp _ t ht)
   show t.bs.toArray.toList.length≤4
   simpa using this
  unfold zlf zks at this
  rw [List.length_map,List.length_map] at this
  omega
 unfold zdM
 refine zce (zaV (zt3 s hs) (zaV (a:=zfc s) rfl (zaV (zkC _ (by omega)) (zce (zce ?_)))))
 rw [zlN]
 have:=zlI (zfc s) (zek (zfc s).data.toList) 0 0 (zgp _) (by omega)
 refine this.trans ?_
 unfold zeP
 rw [zlB s hs]
 have e:((zks s).map zgI).map tkT=(zlf s).map zes:=by
  unfold zlf
  rw [List.map_map,List.map_map]
  exact List.map_congr_left fun t _=>zn2 t
 rw [e,zog]
def wdK:List UInt8→Nat→Option (Nat×List UInt8)→List (Nat×List UInt8)
 | [],_,cur=>cur.toList
 | c::l,i,cur=>if c=32 then cur.toList++wdK l (i+1) none else match cur with
  | none=>wdK l (i+1) (some (i,[c]))
  | some (a,w)=>wdK l (i+1) (some (a,w++[c]))
theorem ztu (l:List UInt8) (i:Nat) (cur:Option (Nat×List UInt8)):wdK (32::l) i cur=cur.toList++wdK l (i+1) none:=by
 cases cur <;> rfl
theorem zqH {c:UInt8} (h:c≠32) (l:List UInt8) (i:Nat):wdK (c::l) i none=wdK l (i+1) (some (i,[c])):=by
 rw [wdK,if_neg h]
theorem ztv {c:UInt8} (h:c≠32) (l:List UInt8) (i a:Nat) (w:List UInt8):wdK (c::l) i (some (a,w))=wdK l (i+1) (some (a,w++[c])):=by
 rw [wdK,if_neg h]
def zfK (at_:Int) (p:Nat×List UInt8):zau:=⟨at_+(p.1:Int),ba p.2⟩
theorem zru {s:zBA} {k:Nat} {c:UInt8} (h:s.data.toList[k]?=some c):zln s (k:Int)=some (c.toNat:Int):=by
 unfold zln
 rw [if_pos (by omega),Int.toNat_natCast]
 have:s.data[k]?=some c:=by rw [← Array.getElem?_toList]; exact h
 rw [this]; rfl
theorem zuN {s:zBA} {k:Nat} {c:UInt8} (h:s.data.toList[k]?=some c):zcn s (k:Int) ((k:Int)+1)=ba [c]:=by
 apply zgR
 have hk:=(List.getElem?_eq_some_iff.1 h)
 have e:=zid s k (k+1)
 push_cast at e
 rw [e,zjx,Nat.add_sub_cancel_left]
 obtain ⟨h1,h2⟩:=hk
 rw [List.drop_eq_getElem_cons h1,h2]; rfl
theorem zpE (line:zBA) (at_:Int) (hs:line.size≤1000000000) (ha : -1000000000≤at_∧at_≤1000000000) (J:List zau→Option (List zau)) :
  ∀ (n k:Nat) (E:List (Nat×List UInt8)) (cur:Option (Nat×List UInt8)),k≤line.size→line.size - k<n→E.length≤k→(∀ a w,cur=some (a,w)→w.length≤k)→E.length+cur.toList.length≤k →
   zaW (fun _ _ _=>none) (zcP line at_ J) n ((E++cur.toList).map (zfK at_)) cur.isSome (k:Int)=J ((E++wdK (line.data.toList.drop k) k cur).map (zfK at_)):=by
 intro n
 induction n with
 | zero=>intro k E cur _ h; omega
 | succ n ih =>
  intro k E cur hk hn hE hw hc
  rw [zgt]
  generalize hag:zaW (fun _ _ _=>none) (zcP line at_ J) n=ag
  unfold zcP
  by_cases hlt:k<line.size
  ·have hl:k<line.data.toList.length:=by rw [← zb4]; exact hlt
   obtain ⟨c,hcc⟩:∃ c,line.data.toList[k]?=some c:=⟨_,List.getElem?_eq_getElem hl⟩
   have hdrop:line.data.toList.drop k=c::line.data.toList.drop (k+1):=by
    rw [List.drop_eq_getElem_cons hl]
    have:=List.getElem?_eq_getElem hl
    rw [hcc] at this
    injection this with this
    rw [this]
   refine zaI (decide_eq_true (by omega)) (zce (zaV (zru hcc) ?_))
   have e32:(((c.toNat:Int):Int)==32)=decide (c=32):=by
    rw [Bool.eq_iff_iff,beq_iff_eq,decide_eq_true_iff]
    constructor
    ·intro h; exact UInt8.toNat_inj.1 (by show c.toNat=32; omega)
    ·intro h; subst h; rfl
   have nx:=fun (E':List (Nat×List UInt8)) (cur':Option (Nat×List UInt8)) h1 h2 h3=>ih (k+1) E' cur' (by omega) (by omega) h1 h2 h3
   push_cast at nx
   rw [hag] at nx
   rw [e32,hdrop]
   by_cases h:c=32
   ·rw [decide_eq_true h,h,ztu]
    refine zaI rfl (zcf ⟨by omega,by omega⟩ ?_)
    have:=nx (E++cur.toList) none (by rw [List.length_append]; omega) (by intro a w h; cases h) (by rw [List.length_append]; show _+0≤_; omega)
    rw [show (none:Option (Nat×List UInt8)).toList=[] from rfl,List.append_nil] at this
    refine this.trans ?_
    rw [List.append_assoc]
   ·rw [decide_eq_false h]
    refine zaE rfl ?_
    have hcut:=zuN hcc
    cases cur with
    | none =>
     rw [zqH h]
     refine zaE rfl (zcf ⟨by omega,by omega⟩ (zcf ⟨by omega,by omega⟩ (zcf ⟨by omega,by omega,by omega⟩ (zcf (by rw [List.length_map,List.length_append]; show _+0+1≤_; omega) (zcf ⟨by omega,by omega⟩ ?_)))))
     rw [hcut]
     have:=nx E (some (k,[c])) (by omega) (by intro a w h; injection h with h; injection h with _ h; rw [← h]; show 1≤_; omega) (by show _+1≤_; omega)
     refine Eq.trans ?_ this
     congr 1
     rw [List.map_append,List.map_append]
     show List.map (zfK at_) E++[]++_=_
     rw [List.append_nil]; rfl
    | some aw =>
     obtain ⟨a,w⟩:=aw
     rw [ztv h]
     have hwl:=hw a w rfl
     have hmap:(E++(some (a,w)).toList).map (zfK at_)=E.map (zfK at_)++[zfK at_ (a,w)]:=by rw [List.map_append]; rfl
     have hcl:E.length+1≤k:=hc
     rw [hmap]
     have hlen:((E.map (zfK at_)++[zfK at_ (a,w)]).length:Int) - 1=(E.length:Int):=by rw [List.length_append,List.length_map]; simp
     rw [hlen]
     refine zaI rfl (zcf ⟨by omega,by omega⟩ (zaV (zdH (show (E.map (zfK at_)++[zfK at_ (a,w)])[E.length]?=some (zfK at_ (a,w)) by
      rw [List.getElem?_append_right (by rw [List.length_map]; exact Nat.le_refl _),List.length_map,Nat.sub_self]; rfl)) (zcf ⟨by omega,by omega⟩ (zcf ⟨by omega,by omega,by omega⟩ ?_))))
     rw [hcut]
     refine zcf (by show (ba w).size+(ba [c]).size≤_; rw [zhF,zhF]; show _+1≤_; omega) (zcf ⟨by omega,by omega⟩ ?_)
     have:=nx E (some (a,w++[c])) (by omega) (by intro a' w' h; injection h with h; injection h with _ h; rw [← h,List.length_append]; show _+1≤_; omega) (by show _+1≤_; omega)
     refine Eq.trans ?_ this
     congr 1
     rw [Int.toNat_natCast,List.set_append_right _ _ (by rw [List.length_map]; exact Nat.le_refl _),List.length_map,Nat.sub_self,List.map_append]
     have e2:(zfK at_ (a,w)).text++ba [c]=ba (w++[c]):=by
      apply zgR
      rw [zex,zjx,zjx]
      show (ba w).data.toList++_=_
      rw [zjx]
     show _++[(⟨(zfK at_ (a,w)).at_,(zfK at_ (a,w)).text++ba [c]⟩:zau)]=_++[zfK at_ (a,w++[c])]
     rw [e2]; rfl
  ·have:k=line.size:=by omega
   refine zaE (decide_eq_false (by omega)) ?_
   rw [List.drop_eq_nil_of_le (by rw [← zb4]; omega)]; rfl
theorem ztX (line:zBA) (at_:Int) (hs:line.size≤1000000000) (ha : -1000000000≤at_∧at_≤1000000000):zeu line at_=some ((wdK line.data.toList 0 none).map (zfK at_)):=by
 unfold zeu
 refine zce ?_
 have:=zpE line at_ hs ha some zcy 0 [] none (Nat.zero_le _) (by unfold zcy; omega) (Nat.zero_le _) (by intro a w h; cases h) (Nat.zero_le _)
 exact this
def zb2 (o1:zac) (l1:List zau) (j1:zBA→zBA→(List zBA)→Option (zaM×zac)) (q2:zau) (ag1:zBA→(List zBA)→Int→Option (zaM×zac)) (said4:zBA) (forms4:List zBA) (x4:Int):Option (zaM×zac) := zar (decide ((x4:Int)<(l1.length:Int))) ( zbx (fun (j2:zBA→(List zBA)→Option (zaM×zac)) => zbx (fun (j3:Int→zBA→Bool→Bool→Option (zaM×zac)) => zak (zea l1 x4) fun (q3:zau) => zar ((x4:Int)==0) ( zbx (fun (j4:zBA→Option (zaM×zac)) => zar (decide ((0:Int)<x4)) ( grd (said4.size+(⟨#[32,97,102,116,101,114]⟩:zBA).size≤9223372036854775807) <| j4 (said4++(⟨#[32,97,102,116,101,114]⟩:zBA))
) ( j4 said4
)
) (fun (said6:zBA) => j2 said6 forms4
)
) ( zar (decide (q2.text=(⟨#[112,117,116]⟩:zBA))) ( zar ((x4:Int)==2) ( zbx (fun (j5:zBA→Option (zaM×zac)) => zar (decide ((0:Int)<x4)) ( grd (said4.size+(⟨#[32,97,102,116,101,114]⟩:zBA).size≤9223372036854775807) <| j5 (said4++(⟨#[32,97,102,116,101,114]⟩:zBA))
) ( j5 said4
)
) (fun (said7:zBA) => j2 said7 forms4
)
) ( j3 q3.at_ q3.text true ((x4:Int)==2)
)
) ( j3 q3.at_ q3.text false false
)
)
) (fun (wv1:Int) (wv2:zBA) (x5:Bool) (x6:Bool) => zak (zdM wv2) fun (r2:zBA) => zak (zea forms4 x4) fun (q4:zBA) => zak (zea (forms4.set (x4:Int).toNat r2) x4) fun (q5:zBA) => zar (decide (q5=(⟨#[]⟩:zBA))) ( some ((⟨221,wv1⟩:zaM),o1)
) ( zak (zea (forms4.set (x4:Int).toNat r2) x4) fun (q6:zBA) => zak (zdj q6) fun (r3:zBA) => grd ((⟨#[32]⟩:zBA).size+r3.size≤9223372036854775807) <| grd (said4.size+((⟨#[32]⟩:zBA)++r3).size≤9223372036854775807) <| j2 (said4++((⟨#[32]⟩:zBA)++r3)) (forms4.set (x4:Int).toNat r2)
)
)
) (fun (said5:zBA) (forms5:List zBA) => grd (I64 (x4+1)) <| ag1 said5 forms5 (x4+1)
)
) ( j1 q2.text said4 forms4
)
def zbZ (o1:zac) (l1:List zau) (forms1:List zBA) (j6:Option (zaM×zac)) (ag2:Int→Option (zaM×zac)) (x9:Int):Option (zaM×zac) := zar (decide ((x9:Int)<(forms1.length:Int))) ( zbx (fun (j7:Option (zaM×zac)) => zak (zea forms1 x9) fun (q11:zBA) => zar (decide ((1:Int)<x9)) ( zar (!decide (q11=(⟨#[]⟩:zBA))) ( zar (!((zbJ q11 o1.place).isSome)) ( zak (zea l1 x9) fun (q12:zau) => some ((⟨223,q12.at_⟩:zaM),o1)
) ( j7
)
) ( j7
)
) ( j7
)
) ( grd (I64 (x9+1)) <| ag2 (x9+1)
)
) ( j6
)
def zda (o1:zac) (l1:List zau) (end1:Int):Option (zaM×zac) := zar (((o1.lines.length:Int):Int)==256) ( zak (zea l1 0) fun (q1:zau) => some ((⟨3,q1.at_⟩:zaM),o1)
) ( zak (zew l1 end1) fun (r1:Int) => zar (decide ((0:Int)≤r1)) ( some ((⟨220,r1⟩:zaM),o1)
) ( zbx (fun (j1:zBA→zBA→(List zBA)→Option (zaM×zac)) => zak (zea l1 0) fun (q2:zau) => grd (0≤(l1.length:Int)∧(l1.length:Int)≤2147483648) <| zaW (fun _ _ _=>none) (zb2 o1 l1 j1 q2) zcy q2.text (List.replicate ((l1.length:Int):Int).toNat ByteArray.empty:List zBA) 0
) (fun (verb1:zBA) (said1:zBA) (forms1:List zBA) => zar (decide (verb1=(⟨#[115,107,105,112]⟩:zBA))) ( zak (zea forms1 1) fun (q7:zBA) => zak (zcC q7) fun (r4:zBA) => zar (((zbJ r4 o1.skips).getD false)) ( zak (zea l1 1) fun (q8:zau) => some ((⟨222,q8.at_⟩:zaM),o1)
) ( grd (o1.lines.length+1≤2147483648) <| some ((⟨0,0⟩:zaM),(⟨o1.units,o1.place,o1.fors,zgF r4 true o1.skips,o1.lines++[said1]⟩:zac))
)
) ( zak (zea forms1 1) fun (q9:zBA) => zak (zdu o1 q9) fun (r5:Bool) => zar (r5) ( zak (zea l1 1) fun (q10:zau) => some ((⟨222,q10.at_⟩:zaM),o1)
) ( zbx (fun (j6:Option (zaM×zac)) => zaW (fun _=>none) (zbZ o1 l1 forms1 j6) zcy 0
) ( zbx (fun (j8:(List zBA)→(List (zBA×Int))→(List (zBA×List zBA))→(List (zBA×Bool))→(List zBA)→Option (zaM×zac)) => zar (decide (verb1=(⟨#[112,117,116]⟩:zBA))) ( zak (zea forms1 3) fun (q13:zBA) => grd (I64 (((zbJ q13 o1.place).getD 0)+1)) <| zak (zea forms1 1) fun (q14:zBA) => grd (0≤(((zbJ q13 o1.place).getD 0)+1:Int)∧(((zbJ q13 o1.place).getD 0)+1:Int)≤(o1.units.length:Int)∧o1.units.length≤2147483648) <| zak (zct (⟨zhT o1.units (((zbJ q13 o1.place).getD 0)+1) q14,o1.place,o1.fors,o1.skips,o1.lines⟩:zac)) fun (r6:zac) => j8 r6.units r6.place r6.fors r6.skips r6.lines
) ( zak (zea forms1 1) fun (q15:zBA) => grd (0≤(2:Int)∧(2:Int)≤(forms1.length:Int)∧((forms1.length:Int):Int)≤(forms1.length:Int)) <| j8 o1.units o1.place (zgF q15 (zhi forms1 2 (forms1.length:Int)) o1.fors) o1.skips o1.lines
)
) (fun (l2:List zBA) (m1:List (zBA×Int)) (m2:List (zBA×List zBA)) (m3:List (zBA×Bool)) (l3:List zBA) => grd (l3.length+1≤2147483648) <| some ((⟨0,0⟩:zaM),(⟨l2,m1,m2,m3,l3++[said1]⟩:zac))
)
)
)
)
)
)
)
theorem zhD {bo1:Nat} {o1:zac} {o1_h0 o1_h1 o1_h2 o1_h3 o1_h4:Hd} {vvl1 vl1:Value} {Ll1:List zau} {kl1:Nat} {l1:List zau} (hwl1:Vw vvl1 Ll1 2 kl1 vl1 l1) {end1:Int} {r:(zaM×zac)} (h:zda o1 l1 end1=some r):FnR prog 38 [zP bo1,vl1,zI end1] [zeW zcW 2 vvl1 kl1 Ll1] [cells bo1 [o1_h0.v,.map (some (za7 o1_h1)),.map (some (za7 o1_h2)),.map (some (za7 o1_h3)),o1_h4.v] 79,zv0 o1_h0.v o1.units,zbO (fun n:zBA=>Value.string n) (fun n:Int=>Value.int .i64 n) (za7 o1_h1) o1.place,zcB (za7 o1_h2) o1.fors,zbO (fun n:zBA=>Value.string n) (fun n:Bool=>Value.bool n) (za7 o1_h3) o1.skips,zv0 o1_h4.v o1.lines] (fun b:Hd×Hd×Hd×Hd×Hd=>.agg (zr2 r.1).toArray) (fun b=>[cells bo1 [b.1.v,.map (some (za7 b.2.1)),.map (some (za7 b.2.2.1)),.map (some (za7 b.2.2.2.1)),b.2.2.2.2.v] 79,zv0 b.1.v r.2.units,zbO (fun n:zBA=>Value.string n) (fun n:Int=>Value.int .i64 n) (za7 b.2.1) r.2.place,zcB (za7 b.2.2.1) r.2.fors,zbO (fun n:zBA=>Value.string n) (fun n:Bool=>Value.bool n) (za7 b.2.2.2.1) r.2.skips,zv0 b.2.2.2.2.v r.2.lines]):=by
 unfold zda at h
 refine FnR.intro func38 rfl ntmps38 (by simp) ?_
 intro w0 K hrd
 refine zyG ?_
 refine za3 zpC rfl dc (fun b1 => ?_)
 refine zyN (zaL (zyG (zyR 1 rfl (za5 rfl dc rfl (zaf zkR rfl dc rfl (show _=4 from rfl) (zal (k:=0) zn8 rfl dc rfl rfl rfl (zdy (k:=5) rfl dc rfl rfl underlying38 (zaR rfl za9 (zyN ?_)))))))))
 refine zyB rfl h (fun h => ?_) (fun h => ?_)
 ·
  refine zyG (zyR 1 rfl ?_)
  obtain ⟨q1,hq1,h⟩:=zbA h
  refine zbf hwl1 hq1 underlying86 zgf rfl dc rfl rfl rfl (zaf zgi rfl dc rfl (show _=(kl1+(0:Int).toNat)*2 from rfl) (zcq (n:=kl1+(0:Int).toNat) (j:=0) (i:=0) (q:=q1) hrd rfl (by omega) zdE rfl dc rfl (Vw.get hwl1 hq1) rfl rfl ?_))
  refine zci (v:=.agg #[zI 3,zI q1.at_]) (ps:=[(0,.const (zI 3)),(1,.tmp 27)]) rfl dc rfl (fun _=>by kernel_rfl) ?_
  refine za2 (k:=6) (vs:=[zI 3,zI q1.at_]) (l':=[zI 3,zI q1.at_]) zh2 rfl rfl rfl rfl rfl (show _≤_ by simp) rfl rfl ?_
  refine zyN (zaA (zaj ?_))
  cases h
  exact zcj (rs:=[.cell 6 35]) (o1_h0,o1_h1,o1_h2,o1_h3,o1_h4) (.inl rfl) results38 (.cons (.cells zja (k:=6) rfl rfl rfl) .nil) rfl (zaa [0,1,2,3,4,5] kr rfl)
 refine zao (zaF (zaL (zyG (zyR 2 rfl ?_))))
 obtain ⟨r1,hq2,h⟩:=zbA h
 refine zee (v:=zI r1) (vs:=[vl1,zI end1]) hrd rfl dc rfl rfl rfl zxE (zj2 hwl1 hq2) (.ro 0 rfl .nil) (zyR 1 rfl (zyH (zyR 1 rfl (zaR rfl zbj (zyN ?_)))))
 refine zyB rfl h (fun h => ?_) (fun h => ?_)
 ·
  refine zyG (zyR 1 rfl ?_)
  refine zci (v:=.agg #[zI 220,zI r1]) (ps:=[(0,.const (zI 220)),(1,.tmp 34)]) rfl dc rfl (fun _=>by kernel_rfl) ?_
  refine za2 (k:=6) (vs:=[zI 220,zI r1]) (l':=[zI 220,zI r1]) zh2 rfl rfl rfl rfl rfl (show _≤_ by simp) rfl rfl ?_
  refine zyN (zaA (zaj ?_))
  cases h
  exact zcj (rs:=[.cell 6 35]) (o1_h0,o1_h1,o1_h2,o1_h3,o1_h4) (.inl rfl) results38 (.cons (.cells zja (k:=6) rfl rfl rfl) .nil) rfl (zaa [0,1,2,3,4,5] kr rfl)
 refine zao (zaF ?_)
 obtain ⟨j1,hj1,h⟩:=zbP h
 refine za0 (β:=zBA×zBA×(List zBA)×Value) 3 rfl (fun b=>j1 b.1 b.2.1 b.2.2.1=some r) (fun b=>[]) (fun b=>[(0,zP bo1),(1,vl1),(6,zP b1),(8,.string b.1),(9,.string b.2.1),(10,b.2.2.2)]) (fun b=>[cells bo1 [o1_h0.v,.map (some (za7 o1_h1)),.map (some (za7 o1_h2)),.map (some (za7 o1_h3)),o1_h4.v] 79,zv0 o1_h0.v o1.units,zbO (fun n:zBA=>Value.string n) (fun n:Int=>Value.int .i64 n) (za7 o1_h1) o1.place,zcB (za7 o1_h2) o1.fors,zbO (fun n:zBA=>Value.string n) (fun n:Bool=>Value.bool n) (za7 o1_h3) o1.skips,zv0 o1_h4.v o1.lines,cells b1 [zI 0,zI 0] 35,zv0 b.2.2.2 b.2.2.1]) (fun cut => ?_) ?_
 ·
  refine zyG (zyR 1 rfl ?_)
  obtain ⟨q2,hq3,h⟩:=zbA h
  refine zbf hwl1 hq3 underlying86 zgf rfl dc rfl rfl rfl (zaf zhL rfl dc rfl (show _=(kl1+(0:Int).toNat)*2+1 from rfl) (zcq (n:=kl1+(0:Int).toNat) (j:=1) (i:=0) (q:=q2) hrd rfl (by omega) zeV rfl dc rfl (Vw.get hwl1 hq3) rfl rfl (zyR 1 rfl (zyH (zyR 2 rfl (zyH ?_))))))
  refine zyR 1 rfl (zcm hwl1 rfl dc rfl underlying86 ?_)
  obtain ⟨hg1,h⟩:=zbR h
  refine zqu (z:=ByteArray.empty) underlying38 zwj zx8 zc0 rfl dc rfl hg1 (fun v2 => ?_)
  refine zyR 1 rfl (zyN (cut (zyG (zyR 1 rfl (zcm hwl1 rfl dc rfl underlying86 (zyR 1 rfl (zyN (zaz ?_))))))))
  refine zbN (β:=Nat×zBA×(List zBA)×Int) (fun b=>zaW (fun _ _ _=>none) (zb2 o1 l1 j1 q2) b.1 b.2.1 b.2.2.1 b.2.2.2=some r) (fun b=>[]) (fun b=>[(0,zP bo1),(1,vl1),(6,zP b1),(8,.string q2.text),(9,.string b.2.1),(10,v2),(44,vl1),(45,zI (l1.length:Int)),(46,zI b.2.2.2)]) (fun b=>[cells bo1 [o1_h0.v,.map (some (za7 o1_h1)),.map (some (za7 o1_h2)),.map (some (za7 o1_h3)),o1_h4.v] 79,zv0 o1_h0.v o1.units,zbO (fun n:zBA=>Value.string n) (fun n:Int=>Value.int .i64 n) (za7 o1_h1) o1.place,zcB (za7 o1_h2) o1.fors,zbO (fun n:zBA=>Value.string n) (fun n:Bool=>Value.bool n) (za7 o1_h3) o1.skips,zv0 o1_h4.v o1.lines,cells b1 [zI 0,zI 0] 35,zv0 v2 b.2.2.1]) (fun b=>b.1) (zcy,q2.text,(List.replicate ((l1.length:Int):Int).toNat ByteArray.empty:List zBA),0) h rfl (za4 rfl) (zaa [0,1,2,3,4,5,6,7] kr rfl) ?_
  rintro ⟨n1,said4,forms4,x4⟩ h
  cases n1 with
  | zero=>exact zeq h
  | succ n1 =>
   obtain ⟨ag1,hag1⟩:∃ ag,ag=zaW (fun _ _ _=>none) (zb2 o1 l1 j1 q2) n1:=⟨_,rfl⟩
   have h:zb2 o1 l1 j1 q2 ag1 said4 forms4 x4=some r:=by rw [hag1]; exact h
   unfold zb2 at h
   refine zyG (zaR rfl zbk (zyN (zaL ?_)))
   refine zyB rfl h (fun h => ?_) (fun h => ?_)
   ·
    refine zao (zaF ?_)
    obtain ⟨j2,hj2,h⟩:=zbP h
    refine za0 (β:=zBA×(List zBA)) 0 rfl (fun b=>j2 b.1 b.2=some r) (fun b=>[]) (fun b=>[(0,zP bo1),(1,vl1),(6,zP b1),(8,.string q2.text),(9,.string b.1),(10,v2),(44,vl1),(45,zI (l1.length:Int)),(46,zI x4)]) (fun b=>[cells bo1 [o1_h0.v,.map (some (za7 o1_h1)),.map (some (za7 o1_h2)),.map (some (za7 o1_h3)),o1_h4.v] 79,zv0 o1_h0.v o1.units,zbO (fun n:zBA=>Value.string n) (fun n:Int=>Value.int .i64 n) (za7 o1_h1) o1.place,zcB (za7 o1_h2) o1.fors,zbO (fun n:zBA=>Value.string n) (fun n:Bool=>Value.bool n) (za7 o1_h3) o1.skips,zv0 o1_h4.v o1.lines,cells b1 [zI 0,zI 0] 35,zv0 v2 b.2]) (fun cut => ?_) ?_
    ·
     refine cut (zaz ?_)
     obtain ⟨j3,hj3,h⟩:=zbP h
     refine za0 (β:=Int×zBA×Bool×Bool×Nat) 1 rfl (fun b=>j3 b.1 b.2.1 b.2.2.1 b.2.2.2.1=some r) (fun b=>[]) (fun b=>[(0,zP bo1),(1,vl1),(6,zP b1),(8,.string q2.text),(9,.string said4),(10,v2),(11,zI x4),(12,zP b.2.2.2.2),(44,vl1),(45,zI (l1.length:Int)),(46,zI x4),(54,.string q2.text),(55,.bool (decide (q2.text=(⟨#[112,117,116]⟩:zBA)))),(56,.bool b.2.2.1),(59,.bool b.2.2.2.1)]) (fun b=>[cells bo1 [o1_h0.v,.map (some (za7 o1_h1)),.map (some (za7 o1_h2)),.map (some (za7 o1_h3)),o1_h4.v] 79,zv0 o1_h0.v o1.units,zbO (fun n:zBA=>Value.string n) (fun n:Int=>Value.int .i64 n) (za7 o1_h1) o1.place,zcB (za7 o1_h2) o1.fors,zbO (fun n:zBA=>Value.string n) (fun n:Bool=>Value.bool n) (za7 o1_h3) o1.skips,zv0 o1_h4.v o1.lines,cells b1 [zI 0,zI 0] 35,zv0 v2 forms4,cells b.2.2.2.2 [zI b.1,.string b.2.1] 116]) (fun cut => ?_) ?_
     ·
      refine zyG (zyR 1 rfl ?_)
      obtain ⟨q3,hq4,h⟩:=zbA h
      refine zbf hwl1 hq4 underlying86 zgf rfl dc rfl rfl rfl (zcA (m:=kl1+(x4:Int).toNat) (j:=0) (i:=0) (q:=q3) (cs:=[zI q3.at_,.string q3.text]) hrd rfl (by omega) zvO rfl dc rfl (Vw.get hwl1 hq4) rfl rfl rfl ?_)
      refine za3 zvv rfl dc (fun b3 => ?_)
      refine zyR 1 rfl (za2 (k:=8) (vs:=[zI q3.at_,.string q3.text]) (l':=[zI q3.at_,.string q3.text]) zgf rfl rfl rfl rfl rfl (show _≤_ by simp) rfl rfl ?_)
      refine zyN (cut (zyG (zyR 1 rfl (zaR rfl za9 (zyR 1 rfl ?_)))))
      refine zyS (s:=53) rfl h (fun h => ?_) (fun h => ?_)
      ·
       refine zyR 7 rfl (zyN (zbC rfl ?_))
       obtain ⟨j4,hj4,h⟩:=zbP h
       refine za0 (β:=zBA) 0 rfl (fun b=>j4 b=some r) (fun b=>[]) (fun b=>[(0,zP bo1),(1,vl1),(6,zP b1),(8,.string q2.text),(9,.string b),(10,v2),(44,vl1),(45,zI (l1.length:Int)),(46,zI x4),(54,undef),(55,undef),(56,undef),(57,undef),(58,undef),(59,undef)]) (fun b=>[cells bo1 [o1_h0.v,.map (some (za7 o1_h1)),.map (some (za7 o1_h2)),.map (some (za7 o1_h3)),o1_h4.v] 79,zv0 o1_h0.v o1.units,zbO (fun n:zBA=>Value.string n) (fun n:Int=>Value.int .i64 n) (za7 o1_h1) o1.place,zcB (za7 o1_h2) o1.fors,zbO (fun n:zBA=>Value.string n) (fun n:Bool=>Value.bool n) (za7 o1_h3) o1.skips,zv0 o1_h4.v o1.lines,cells b1 [zI 0,zI 0] 35,zv0 v2 forms4]) (fun cut => ?_) ?_
       ·
        refine cut (zyG (zyR 1 rfl (zaR rfl zeg (zyN ?_))))
        refine zyB rfl h (fun h => ?_) (fun h => ?_)
        ·
         refine zap (zyR 1 rfl ?_)
         obtain ⟨hg2,h⟩:=zbR h
         refine zaR rfl (zfA hg2) (zyR 1 rfl (zaD ?_))
         exact zah (said4++(⟨#[32,97,102,116,101,114]⟩:zBA)) h rfl (za4 rfl) (zaa [0,1,2,3,4,5,6,7] kr rfl)
        refine zao ?_
        exact zah said4 h rfl (za4 rfl) (zaa [0,1,2,3,4,5,6,7] kr rfl)
       rintro said6 h
       rw [hj4] at h
       refine zbz (zaq (zaG ?_))
       exact zah (said6,forms4) h rfl (za4 rfl) (zaa [0,1,2,3,4,5,6,7] kr rfl)
      refine zyR 1 rfl (zaR rfl zeH (zyR 1 rfl ?_))
      refine zyS (s:=56) rfl h (fun h => ?_) (fun h => ?_)
      ·
       refine zyR 1 rfl (zaR rfl za9 (zyR 2 rfl (zyN ?_)))
       refine zyB rfl h (fun h => ?_) (fun h => ?_)
       ·
        obtain ⟨j5,hj5,h⟩:=zbP h
        refine za0 (β:=zBA) 0 rfl (fun b=>j5 b=some r) (fun b=>[]) (fun b=>[(0,zP bo1),(1,vl1),(6,zP b1),(8,.string q2.text),(9,.string b),(10,v2),(44,vl1),(45,zI (l1.length:Int)),(46,zI x4),(54,.string q2.text),(55,.bool (decide (q2.text=(⟨#[112,117,116]⟩:zBA)))),(56,.bool true),(57,zI x4),(58,.bool ((x4:Int)==2)),(59,.bool ((x4:Int)==2))]) (fun b=>[cells bo1 [o1_h0.v,.map (some (za7 o1_h1)),.map (some (za7 o1_h2)),.map (some (za7 o1_h3)),o1_h4.v] 79,zv0 o1_h0.v o1.units,zbO (fun n:zBA=>Value.string n) (fun n:Int=>Value.int .i64 n) (za7 o1_h1) o1.place,zcB (za7 o1_h2) o1.fors,zbO (fun n:zBA=>Value.string n) (fun n:Bool=>Value.bool n) (za7 o1_h3) o1.skips,zv0 o1_h4.v o1.lines,cells b1 [zI 0,zI 0] 35,zv0 v2 forms4]) (fun cut => ?_) ?_
        ·
         refine cut (zyG (zyR 1 rfl (zaR rfl zeg (zyN ?_))))
         refine zyB rfl h (fun h => ?_) (fun h => ?_)
         ·
          refine zap (zyR 1 rfl ?_)
          obtain ⟨hg3,h⟩:=zbR h
          refine zaR rfl (zfA hg3) (zyR 1 rfl (zaD ?_))
          exact zah (said4++(⟨#[32,97,102,116,101,114]⟩:zBA)) h rfl (za4 rfl) (zaa [0,1,2,3,4,5,6,7] kr rfl)
         refine zao ?_
         exact zah said4 h rfl (za4 rfl) (zaa [0,1,2,3,4,5,6,7] kr rfl)
        rintro said7 h
        rw [hj5] at h
        refine zbz (zaq (zaG ?_))
        exact zah (said7,forms4) h rfl (za4 rfl) (zaa [0,1,2,3,4,5,6,7] kr rfl)
       refine zao ?_
       exact zah (q3.at_,q3.text,true,(x4:Int)==2,b3) h rfl (za4 rfl) (zaa [0,1,2,3,4,5,6,7,8] kr rfl)
      refine zyR 4 rfl (zyN (zaQ rfl (zao ?_)))
      exact zah (q3.at_,q3.text,false,false,b3) h rfl (za4 rfl) (zaa [0,1,2,3,4,5,6,7,8] kr rfl)
     rintro ⟨wv1,wv2,x5,x6,b2⟩ h
     rw [hj3] at h
     refine zaL (zyG (zyR 2 rfl (zaf zhL rfl dc rfl (show _=1 from rfl) (zal (k:=8) zeV rfl dc rfl rfl rfl ?_))))
     obtain ⟨r2,hq5,h⟩:=zbA h
     refine zaO (v:=.string r2) (vs:=[.string wv2]) rfl dc rfl rfl rfl zxD (zj0 hq5) ?_
     obtain ⟨q4,hq6,h⟩:=zbA h
     refine zbm (k:=7) hq6 underlying38 zjC rfl dc rfl rfl rfl rfl ?_
     refine zf6 (i:=(x4:Int).toNat) (j:=0) (k:=7) (q:=q4) (q':=r2) zjC zc0 rfl rfl rfl rfl (zcg hq6) rfl dc rfl (fun _ _=>rfl) ?_
     refine zyH (zyR 2 rfl ?_)
     obtain ⟨q5,hq7,h⟩:=zbA h
     refine zbm (k:=7) hq7 underlying38 zjC rfl dc rfl rfl rfl rfl (zcO (i:=(x4:Int).toNat) (j:=0) (k:=7) (q:=q5) zeV zc0 rfl dc rfl rfl (zcg hq7) rfl dc rfl (zaR rfl zeH (zyN ?_)))
     refine zyB rfl h (fun h => ?_) (fun h => ?_)
     ·
      refine zyG (zaf zgi rfl dc rfl (show _=0 from rfl) (zal (k:=8) zdE rfl dc rfl rfl rfl ?_))
      refine zci (v:=.agg #[zI 221,zI wv1]) (ps:=[(0,.const (zI 221)),(1,.tmp 77)]) rfl dc rfl (fun _=>by kernel_rfl) ?_
      refine za2 (k:=6) (vs:=[zI 221,zI wv1]) (l':=[zI 221,zI wv1]) zh2 rfl rfl rfl rfl rfl (show _≤_ by simp) rfl rfl ?_
      refine zyN (zaA (zaj (zan (zaj (zaj (zan (zaj ?_)))))))
      cases h
      exact zcj (rs:=[.cell 6 35]) (o1_h0,o1_h1,o1_h2,o1_h3,o1_h4) (.inl rfl) results38 (.cons (.cells zja (k:=6) rfl rfl rfl) .nil) rfl (zaa [0,1,2,3,4,5] kr rfl)
     refine zao (zaF (zap (zyR 3 rfl ?_)))
     obtain ⟨q6,hq8,h⟩:=zbA h
     refine zbm (k:=7) hq8 underlying38 zjC rfl dc rfl rfl rfl rfl (zcO (i:=(x4:Int).toNat) (j:=0) (k:=7) (q:=q6) zeV zc0 rfl dc rfl rfl (zcg hq8) rfl dc rfl ?_)
     obtain ⟨r3,hq9,h⟩:=zbA h
     refine zaO (v:=.string r3) (vs:=[.string q6]) rfl dc rfl rfl rfl zwi (zhc hq9) ?_
     obtain ⟨hg4,h⟩:=zbR h
     refine zaR rfl (zfA hg4) ?_
     obtain ⟨hg5,h⟩:=zbR h
     refine zaR rfl (zfA hg5) (zyR 1 rfl (zaD (zae ?_)))
     exact zah (said4++((⟨#[32]⟩:zBA)++r3),forms4.set (x4:Int).toNat r2) h rfl (za4 rfl) (zaa [0,1,2,3,4,5,6,7] kr rfl)
    rintro ⟨said5,forms5⟩ h
    rw [hj2] at h
    refine zap ?_
    obtain ⟨hg6,h⟩:=zbR h
    refine zaR rfl (zbc (r:=x4+1) (IntWalk.i64_in _ hg6)) (zyR 1 rfl (zaD ?_))
    subst hag1
    exact zbr (n1,said5,forms5,x4+1) h (Nat.lt_succ_self _) rfl (za4 rfl) (zaa [0,1,2,3,4,5,6,7] kr rfl)
   refine zbz (zaq (zaq (zaG ?_)))
   exact zah (q2.text,said4,forms4,v2) h rfl (za4 rfl) (zaa [0,1,2,3,4,5,6,7] kr rfl)
 rintro ⟨verb1,said1,forms1,v1⟩ h
 rw [hj1] at h
 refine zaL (zyG (zyR 1 rfl (zaR rfl zeH (zyN ?_))))
 refine zyB rfl h (fun h => ?_) (fun h => ?_)
 ·
  refine zyG (zyR 1 rfl ?_)
  obtain ⟨q7,hq10,h⟩:=zbA h
  refine zbm (k:=7) hq10 underlying38 zjC rfl dc rfl rfl rfl rfl (zcO (i:=(1:Int).toNat) (j:=0) (k:=7) (q:=q7) zeV zc0 rfl dc rfl rfl (zcg hq10) rfl dc rfl ?_)
  obtain ⟨r4,hq11,h⟩:=zbA h
  refine zaO (v:=.string r4) (vs:=[.string q7]) rfl dc rfl rfl rfl zlq (zdf hq11) (zyR 1 rfl (zyN (zaL (zyG (zyR 1 rfl (za5 rfl dc rfl (zaf zgy rfl dc rfl (show _=3 from rfl) (zal (k:=0) zlg rfl dc rfl rfl rfl (zyR 1 rfl ?_)))))))))
  refine zl2 (k:=4) (ek:=(fun n:zBA=>Value.string n)) (ev':=(fun n:Bool=>Value.bool n)) (kk:=r4) (z0:=false) (zcM underlying9) underlying77 kr rfl dc rfl rfl rfl ?_
  refine zyN ?_
  refine zyB rfl h (fun h => ?_) (fun h => ?_)
  ·
   refine zyG (zyR 1 rfl ?_)
   obtain ⟨q8,hq12,h⟩:=zbA h
   refine zbf hwl1 hq12 underlying86 zgf rfl dc rfl rfl rfl (zaf zgi rfl dc rfl (show _=(kl1+(1:Int).toNat)*2 from rfl) (zcq (n:=kl1+(1:Int).toNat) (j:=0) (i:=0) (q:=q8) hrd rfl (by omega) zdE rfl dc rfl (Vw.get hwl1 hq12) rfl rfl ?_))
   refine zci (v:=.agg #[zI 222,zI q8.at_]) (ps:=[(0,.const (zI 222)),(1,.tmp 103)]) rfl dc rfl (fun _=>by kernel_rfl) ?_
   refine za2 (k:=6) (vs:=[zI 222,zI q8.at_]) (l':=[zI 222,zI q8.at_]) zh2 rfl rfl rfl rfl rfl (show _≤_ by simp) rfl rfl (zyN (zaA (zaj (zaj ?_))))
   cases h
   exact zcj (rs:=[.cell 6 35]) (o1_h0,o1_h1,o1_h2,o1_h3,o1_h4) (.inl rfl) results38 (.cons (.cells zja (k:=6) rfl rfl rfl) .nil) rfl (zaa [0,1,2,3,4,5] kr rfl)
  refine zao (zaF (zyG (zyR 1 rfl (za5 rfl dc rfl (zaf zgy rfl dc rfl (show _=3 from rfl) (zal (k:=0) zlg rfl dc rfl rfl rfl (zyR 1 rfl ?_)))))))
  refine zfC (k:=4) (ek:=(fun n:zBA=>Value.string n)) (ev':=(fun n:Bool=>Value.bool n)) (kk:=r4) (vv:=true) (zcM underlying9) underlying77 rfl rfl rfl rfl rfl ?_
  refine zyH (zyR 2 rfl (za5 rfl dc rfl (zaf zkR rfl dc rfl (show _=4 from rfl) (zal (k:=0) zn8 rfl dc rfl rfl rfl (zyR 1 rfl ?_)))))
  refine zaT (cs:=[.string said1]) (te:=9) (ps:=[(0,.tmp 115)]) rfl dc rfl (fun _=>by kernel_rfl) (fun b4 => ?_)
  obtain ⟨hg7,h⟩:=zbR h
  refine zb3 (k:=5) (k2:=8) (ys:=[said1]) underlying38 zwj zc0 zkh rfl dc rfl rfl rfl rfl rfl rfl hg7 (fun v3 => ?_)
  refine zcl (k:=5) rfl (fun hd1 he1 => ?_)
  subst he1
  refine za5 rfl dc rfl (zaf zkR rfl dc rfl (show _=4 from rfl) ?_)
  refine zaP (k:=0) (l':=[o1_h0.v,.map (some (za7 o1_h1)),.map (some (za7 o1_h2)),.map (some (za7 o1_h3)),hd1.v]) zsB rfl rfl rfl rfl rfl (fun _ _=>rfl) rfl ?_
  refine zyH ?_
  refine zci (v:=.agg #[zI 0,zI 0]) (ps:=[]) rfl dc rfl (fun _=>by kernel_rfl) ?_
  refine za2 (k:=6) (vs:=[zI 0,zI 0]) (l':=[zI 0,zI 0]) zh2 rfl rfl rfl rfl rfl (show _≤_ by simp) rfl rfl (zyN (zaA (zaj ?_)))
  cases h
  exact zcj (rs:=[.cell 6 35]) (o1_h0,o1_h1,o1_h2,o1_h3,hd1) (.inl rfl) results38 (.cons (.cells zja (k:=6) rfl rfl rfl) .nil) rfl (zaa [0,1,2,3,4,5] kr rfl)
 refine zao (zaF (zaL (zyG (zyR 2 rfl ?_))))
 obtain ⟨q9,hq13,h⟩:=zbA h
 refine zbm (k:=7) hq13 underlying38 zjC rfl dc rfl rfl rfl rfl (zcO (i:=(1:Int).toNat) (j:=0) (k:=7) (q:=q9) zeV zc0 rfl dc rfl rfl (zcg hq13) rfl dc rfl ?_)
 obtain ⟨r5,hq14,h⟩:=zbA h
 refine zee (v:=.bool r5) (vs:=[zP bo1,.string q9]) hrd rfl dc rfl rfl rfl zxC (zie (bo1:=bo1) (o1:=o1) (o1_h0:=o1_h0) (o1_h1:=o1_h1) (o1_h2:=o1_h2) (o1_h3:=o1_h3) (o1_h4:=o1_h4) hq14) (.own (zaa [0] kr rfl) (fun _ _ h=>sepL.one1.1 h) (.own (zaa [1] kr rfl) (fun _ _ h=>sepL.one1.1 h) (.own (zaa [2] kr rfl) (fun _ _ h=>sepL.one1.1 h) (.own (zaa [3] kr rfl) (fun _ _ h=>sepL.one1.1 h) (.own (zaa [4] kr rfl) (fun _ _ h=>sepL.one1.1 h) (.own (zaa [5] kr rfl) (fun _ _ h=>sepL.one1.1 h) .nil)))))) ?_
 refine zyN ?_
 refine zyB rfl h (fun h => ?_) (fun h => ?_)
 ·
  refine zyG (zyR 1 rfl ?_)
  obtain ⟨q10,hq15,h⟩:=zbA h
  refine zbf hwl1 hq15 underlying86 zgf rfl dc rfl rfl rfl (zaf zgi rfl dc rfl (show _=(kl1+(1:Int).toNat)*2 from rfl) (zcq (n:=kl1+(1:Int).toNat) (j:=0) (i:=0) (q:=q10) hrd rfl (by omega) zdE rfl dc rfl (Vw.get hwl1 hq15) rfl rfl ?_))
  refine zci (v:=.agg #[zI 222,zI q10.at_]) (ps:=[(0,.const (zI 222)),(1,.tmp 129)]) rfl dc rfl (fun _=>by kernel_rfl) ?_
  refine za2 (k:=6) (vs:=[zI 222,zI q10.at_]) (l':=[zI 222,zI q10.at_]) zh2 rfl rfl rfl rfl rfl (show _≤_ by simp) rfl rfl (zyN (zaA (zaj ?_)))
  cases h
  exact zcj (rs:=[.cell 6 35]) (o1_h0,o1_h1,o1_h2,o1_h3,o1_h4) (.inl rfl) results38 (.cons (.cells zja (k:=6) rfl rfl rfl) .nil) rfl (zaa [0,1,2,3,4,5] kr rfl)
 refine zao (zaF ?_)
 obtain ⟨j6,hj6,h⟩:=zbP h
 refine za0 (β:=Unit) 0 rfl (fun b=>j6=some r) (fun b=>[]) (fun b=>[(0,zP bo1),(6,zP b1),(8,.string verb1),(9,.string said1),(10,v1)]) (fun b=>[cells bo1 [o1_h0.v,.map (some (za7 o1_h1)),.map (some (za7 o1_h2)),.map (some (za7 o1_h3)),o1_h4.v] 79,zv0 o1_h0.v o1.units,zbO (fun n:zBA=>Value.string n) (fun n:Int=>Value.int .i64 n) (za7 o1_h1) o1.place,zcB (za7 o1_h2) o1.fors,zbO (fun n:zBA=>Value.string n) (fun n:Bool=>Value.bool n) (za7 o1_h3) o1.skips,zv0 o1_h4.v o1.lines,cells b1 [zI 0,zI 0] 35,zv0 v1 forms1]) (fun cut => ?_) ?_
 ·
  refine cut (zyG (zyR 1 rfl (zdy (k:=7) rfl dc rfl rfl underlying38 (zyR 1 rfl (zyN (zaz ?_))))))
  refine zbN (β:=Nat×Int) (fun b=>zaW (fun _=>none) (zbZ o1 l1 forms1 j6) b.1 b.2=some r) (fun b=>[]) (fun b=>[(0,zP bo1),(1,vl1),(6,zP b1),(8,.string verb1),(9,.string said1),(10,v1),(131,v1),(132,zI (forms1.length:Int)),(133,zI b.2)]) (fun b=>[cells bo1 [o1_h0.v,.map (some (za7 o1_h1)),.map (some (za7 o1_h2)),.map (some (za7 o1_h3)),o1_h4.v] 79,zv0 o1_h0.v o1.units,zbO (fun n:zBA=>Value.string n) (fun n:Int=>Value.int .i64 n) (za7 o1_h1) o1.place,zcB (za7 o1_h2) o1.fors,zbO (fun n:zBA=>Value.string n) (fun n:Bool=>Value.bool n) (za7 o1_h3) o1.skips,zv0 o1_h4.v o1.lines,cells b1 [zI 0,zI 0] 35,zv0 v1 forms1]) (fun b=>b.1) (zcy,0) h rfl (za4 rfl) (zaa [0,1,2,3,4,5,6,7] kr rfl) ?_
  rintro ⟨n2,x9⟩ h
  cases n2 with
  | zero=>exact zeq h
  | succ n2 =>
   obtain ⟨ag2,hag2⟩:∃ ag,ag=zaW (fun _=>none) (zbZ o1 l1 forms1 j6) n2:=⟨_,rfl⟩
   have h:zbZ o1 l1 forms1 j6 ag2 x9=some r:=by rw [hag2]; exact h
   unfold zbZ at h
   refine zyG (zaR rfl zbk (zyN (zaL ?_)))
   refine zyB rfl h (fun h => ?_) (fun h => ?_)
   ·
    refine zao (zaF ?_)
    obtain ⟨j7,hj7,h⟩:=zbP h
    refine za0 (β:=Unit) 0 rfl (fun b=>j7=some r) (fun b=>[]) (fun b=>[(0,zP bo1),(1,vl1),(6,zP b1),(8,.string verb1),(9,.string said1),(10,v1),(131,v1),(132,zI (forms1.length:Int)),(133,zI x9)]) (fun b=>[cells bo1 [o1_h0.v,.map (some (za7 o1_h1)),.map (some (za7 o1_h2)),.map (some (za7 o1_h3)),o1_h4.v] 79,zv0 o1_h0.v o1.units,zbO (fun n:zBA=>Value.string n) (fun n:Int=>Value.int .i64 n) (za7 o1_h1) o1.place,zcB (za7 o1_h2) o1.fors,zbO (fun n:zBA=>Value.string n) (fun n:Bool=>Value.bool n) (za7 o1_h3) o1.skips,zv0 o1_h4.v o1.lines,cells b1 [zI 0,zI 0] 35,zv0 v1 forms1]) (fun cut => ?_) ?_
    ·
     refine cut (zaz (zyG (zyR 1 rfl ?_)))
     obtain ⟨q11,hq16,h⟩:=zbA h
     refine zbm (k:=7) hq16 underlying38 zjC rfl dc rfl rfl rfl rfl (zcO (i:=(x9:Int).toNat) (j:=0) (k:=7) (q:=q11) zeV zc0 rfl dc rfl rfl (zcg hq16) rfl dc rfl (zyR 2 rfl (zyH (zyR 1 rfl (za5 rfl dc rfl (zaf zjj rfl dc rfl (show _=1 from rfl) (zal (k:=0) zpM rfl dc rfl rfl rfl (zyR 1 rfl ?_))))))))
     refine zg8 (k:=2) (ek:=(fun n:zBA=>Value.string n)) (ev':=(fun n:Int=>Value.int .i64 n)) (kk:=q11) (z0:=0) (zcM underlying9) underlying75 kr rfl dc rfl rfl rfl ?_
     refine zyR 1 rfl (zaH rfl dc rfl rfl (zaH rfl dc rfl rfl (zyR 2 rfl (zyH (zyR 1 rfl (zaR rfl zeg (zyR 1 rfl ?_)))))))
     refine zyS (s:=149) rfl h (fun h => ?_) (fun h => ?_)
     ·
      refine zyR 1 rfl (zaR rfl zmP (zyR 2 rfl ?_))
      refine zyS (s:=153) rfl h (fun h => ?_) (fun h => ?_)
      ·
       refine zyR 1 rfl (zg7 rfl dc rfl ze7 (zyR 1 rfl (zyN ?_)))
       refine zyB rfl h (fun h => ?_) (fun h => ?_)
       ·
        refine zyG (zyR 2 rfl ?_)
        obtain ⟨q12,hq17,h⟩:=zbA h
        refine zbf hwl1 hq17 underlying86 zgf rfl dc rfl rfl rfl (zaf zgi rfl dc rfl (show _=(kl1+(x9:Int).toNat)*2 from rfl) (zcq (n:=kl1+(x9:Int).toNat) (j:=0) (i:=0) (q:=q12) hrd rfl (by omega) zdE rfl dc rfl (Vw.get hwl1 hq17) rfl rfl ?_))
        refine zci (v:=.agg #[zI 223,zI q12.at_]) (ps:=[(0,.const (zI 223)),(1,.tmp 161)]) rfl dc rfl (fun _=>by kernel_rfl) ?_
        refine za2 (k:=6) (vs:=[zI 223,zI q12.at_]) (l':=[zI 223,zI q12.at_]) zh2 rfl rfl rfl rfl rfl (show _≤_ by simp) rfl rfl (zyN (zaA (zan (zaj (zaj (zan (zaj ?_)))))))
        cases h
        exact zcj (rs:=[.cell 6 35]) (o1_h0,o1_h1,o1_h2,o1_h3,o1_h4) (.inl rfl) results38 (.cons (.cells zja (k:=6) rfl rfl rfl) .nil) rfl (zaa [0,1,2,3,4,5] kr rfl)
       refine zao (zae ?_)
       exact zah () h rfl (za4 rfl) (zaa [0,1,2,3,4,5,6,7] kr rfl)
      refine zyR 3 rfl (zyN (zaQ rfl (zao (zae ?_))))
      exact zah () h rfl (za4 rfl) (zaa [0,1,2,3,4,5,6,7] kr rfl)
     refine zyR 7 rfl (zyN (zaQ rfl (zao (zae ?_))))
     exact zah () h rfl (za4 rfl) (zaa [0,1,2,3,4,5,6,7] kr rfl)
    rintro _ h
    rw [hj7] at h
    refine zap ?_
    obtain ⟨hg8,h⟩:=zbR h
    refine zaR rfl (zbc (r:=x9+1) (IntWalk.i64_in _ hg8)) (zyR 1 rfl (zaD ?_))
    subst hag2
    exact zbr (n2,x9+1) h (Nat.lt_succ_self _) rfl (za4 rfl) (zaa [0,1,2,3,4,5,6,7] kr rfl)
   refine zbz (zaq (zaq (zaG ?_)))
   exact zah () h rfl (za4 rfl) (zaa [0,1,2,3,4,5,6,7] kr rfl)
 rintro _ h
 rw [hj6] at h
 obtain ⟨j8,hj8,h⟩:=zbP h
 refine za0 (β:=(List zBA)×(List (zBA×Int))×(List (zBA×List zBA))×(List (zBA×Bool))×(List zBA)×Hd×Nat×Nat×Nat×Hd) 0 rfl (fun b=>j8 b.1 b.2.1 b.2.2.1 b.2.2.2.1 b.2.2.2.2.1=some r) (fun b=>[]) (fun b=>[(0,zP bo1),(6,zP b1),(9,.string said1)]) (fun b=>[cells bo1 [b.2.2.2.2.2.1.v,.map (some b.2.2.2.2.2.2.1),.map (some b.2.2.2.2.2.2.2.1),.map (some b.2.2.2.2.2.2.2.2.1),b.2.2.2.2.2.2.2.2.2.v] 79,zv0 b.2.2.2.2.2.1.v b.1,zbO (fun n:zBA=>Value.string n) (fun n:Int=>Value.int .i64 n) b.2.2.2.2.2.2.1 b.2.1,zcB b.2.2.2.2.2.2.2.1 b.2.2.1,zbO (fun n:zBA=>Value.string n) (fun n:Bool=>Value.bool n) b.2.2.2.2.2.2.2.2.1 b.2.2.2.1,zv0 b.2.2.2.2.2.2.2.2.2.v b.2.2.2.2.1,cells b1 [zI 0,zI 0] 35]) (fun cut => ?_) ?_
 ·
  refine cut (zyG (zyR 1 rfl (zaR rfl zeH (zyN ?_))))
  refine zyB rfl h (fun h => ?_) (fun h => ?_)
  ·
   refine zaL ?_
   obtain ⟨q13,hq18,h⟩:=zbA h
   obtain ⟨hg9,h⟩:=zbR h
   obtain ⟨q14,hq19,h⟩:=zbA h
   obtain ⟨hg10,h⟩:=zbR h
   refine ztP 2 ?_
   refine let vals1:(Nat×Hd)→List (Nat×Nat×Value):=fun b=>[(0,166,zP bo1),(1,167,zP bo1),(2,168,zP bo1),(3,169,zP bo1),(4,170,o1_h0.v),(5,171,zP bo1),(6,172,zP bo1),(7,173,.pointer (some ⟨bo1,1,none⟩)),(8,174,.map (some (za7 o1_h1))),(9,175,v1),(10,176,.pointer (some ⟨zip v1,(3:Int).toNat*1,none⟩)),(11,177,.string q13),(12,178,zI ((zbJ q13 o1.place).getD 0)),(13,179,zI (((zbJ q13 o1.place).getD 0)+1)),(14,180,v1),(15,181,.pointer (some ⟨zip v1,(1:Int).toNat*1,none⟩)),(16,182,.string q14),(17,183,.slice (some ⟨b.1,0,none⟩) 1 1),(18,184,b.2.v)]; let LL1:(Nat→Prop)→(Nat×Hd)→List Asn:=fun D b=>[cells bo1 [o1_h0.v,.map (some (za7 o1_h1)),.map (some (za7 o1_h2)),.map (some (za7 o1_h3)),o1_h4.v] 79,eD D (zv0 o1_h0.v o1.units) [(18,emp)],zbO (fun n:zBA=>Value.string n) (fun n:Int=>Value.int .i64 n) (za7 o1_h1) o1.place,zcB (za7 o1_h2) o1.fors,zbO (fun n:zBA=>Value.string n) (fun n:Bool=>Value.bool n) (za7 o1_h3) o1.skips,zv0 o1_h4.v o1.lines,cells b1 [zI 0,zI 0] 35,zv0 v1 forms1,eD D emp [(18,emp),(17,cells b.1 [.string q14] 9)],eD D emp [(18,zv0 b.2.v (zhT o1.units (((zbJ q13 o1.place).getD 0)+1) q14))]]; ?_
   have zhq:zyQ [17,18] LL1:=fun i h D b=>zaU rfl (zaU (zvm rfl h) (zaU rfl (zaU rfl (zaU rfl (zaU rfl (zaU rfl (zaU rfl (zaU (zvm rfl h) (zaU (zvm rfl h) rfl)))))))))
   refine zpy (β:=Nat×Hd) 19 ((0:Nat),Hd.nil) vals1 LL1 mixed kr kr dc (fun _=>rfl) (zaU rfl (zaU zjs (zpB (zaU zjs (zaU zjs rfl))))) (zvn zhq (fun _=>rfl) (fun _=>rfl) 2 0 (fun _=>rfl) rfl (zyq zhq rfl (fun _=>rfl) (fun _=>rfl) ?_ (zyq zhq rfl (fun _=>rfl) (fun _=>rfl) ?_ (zqD zhq rfl (fun _=>rfl) (fun _=>rfl) ?_ (zvn zhq (fun _=>rfl) (fun _=>rfl) 1 5 (fun _=>rfl) rfl (zyq zhq rfl (fun _=>rfl) (fun _=>rfl) ?_ (zyq zhq rfl (fun _=>rfl) (fun _=>rfl) ?_ (zqD zhq rfl (fun _=>rfl) (fun _=>rfl) ?_ (zvn zhq (fun _=>rfl) (fun _=>rfl) 1 9 (fun _=>rfl) rfl (zqD zhq rfl (fun _=>rfl) (fun _=>rfl) ?_ (zqD zhq rfl (fun _=>rfl) (fun _=>rfl) ?_ (zqD zhq rfl (fun _=>rfl) (fun _=>rfl) ?_ (zyq zhq rfl (fun _=>rfl) (fun _=>rfl) ?_ (zvn zhq (fun _=>rfl) (fun _=>rfl) 1 14 (fun _=>rfl) rfl (zqD zhq rfl (fun _=>rfl) (fun _=>rfl) ?_ (zqD zhq rfl (fun _=>rfl) (fun _=>rfl) ?_ (zgV ?_ (zgV ?_ DrawG.nil)))))))))))))))))) ?_
   · exact fun D ⟨b8,hd4⟩ n d c u i=>za5 rfl dc (zaX 1 u d) (zaJ 2 u i)
   · exact fun D ⟨b8,hd4⟩ n d c u i=>zaf zjk rfl dc (zaX 2 u d) (show _=0 from rfl) (zaJ 3 u i)
   · exact fun D ⟨b8,hd4⟩ n d c u i=>⟨_,(zaU rfl (zaU (zb6 (fun hD=>n (c 18 _ rfl hD 4 dc)) zdt) (zpB (zaU (zb6 (fun hD=>n (c 18 _ rfl hD 4 dc)) rfl) (zaU (zb6 (fun hD=>n (c 18 _ rfl hD 4 dc)) zdt) rfl))))),zal (k:=0) zn8 rfl dc (zaX 3 u d) rfl rfl (zaJ 4 u i)⟩
   · exact fun D ⟨b8,hd4⟩ n d c u i=>za5 rfl dc (zaX 5 u d) (zaJ 6 u i)
   · exact fun D ⟨b8,hd4⟩ n d c u i=>zaf zjj rfl dc (zaX 6 u d) (show _=1 from rfl) (zaJ 7 u i)
   · exact fun D ⟨b8,hd4⟩ n d c u i=>⟨_,(zaU rfl (zaU (zb6 (fun hD=>n (c 12 _ rfl (c 13 _ rfl (c 18 _ rfl hD 13 dc) 12 dc) 8 dc)) zdt) (zpB (zaU (zb6 (fun hD=>n (c 12 _ rfl (c 13 _ rfl (c 18 _ rfl hD 13 dc) 12 dc) 8 dc)) rfl) (zaU (zb6 (fun hD=>n (c 12 _ rfl (c 13 _ rfl (c 18 _ rfl hD 13 dc) 12 dc) 8 dc)) zdt) rfl))))),zal (k:=0) zpM rfl dc (zaX 7 u d) rfl rfl (zaJ 8 u i)⟩
   · exact fun D ⟨b8,hd4⟩ n d c u i=>⟨_,(zaU rfl (zaU (zb6 (fun hD=>n (c 11 _ rfl (c 12 _ rfl (c 13 _ rfl (c 18 _ rfl hD 13 dc) 12 dc) 11 dc) 10 dc)) zdt) (zpB (zaU (zb6 (fun hD=>n (c 11 _ rfl (c 12 _ rfl (c 13 _ rfl (c 18 _ rfl hD 13 dc) 12 dc) 11 dc) 10 dc)) rfl) (zaU (zb6 (fun hD=>n (c 11 _ rfl (c 12 _ rfl (c 13 _ rfl (c 18 _ rfl hD 13 dc) 12 dc) 11 dc) 10 dc)) zdt) rfl))))),zbm (k:=7) hq18 underlying38 zjC rfl dc (zaX 9 u d) rfl rfl rfl (zaJ 10 u i)⟩
   · exact fun D ⟨b8,hd4⟩ n d c u i=>⟨_,(zaU rfl (zaU (zb6 (fun hD=>n (c 12 _ rfl (c 13 _ rfl (c 18 _ rfl hD 13 dc) 12 dc) 11 dc)) zdt) (zpB (zaU (zb6 (fun hD=>n (c 12 _ rfl (c 13 _ rfl (c 18 _ rfl hD 13 dc) 12 dc) 11 dc)) rfl) (zaU (zb6 (fun hD=>n (c 12 _ rfl (c 13 _ rfl (c 18 _ rfl hD 13 dc) 12 dc) 11 dc)) zdt) rfl))))),zcO (i:=(3:Int).toNat) (j:=0) (k:=7) (q:=q13) zeV zc0 rfl dc (zaX 10 u d) rfl (zcg hq18) rfl dc rfl (zaJ 11 u i)⟩
   · exact fun D ⟨b8,hd4⟩ n d c u i=>⟨_,(zaU rfl (zaU (zb6 (fun hD=>n (c 13 _ rfl (c 18 _ rfl hD 13 dc) 12 dc)) zdt) (zpB (zaU (zb6 (fun hD=>n (c 13 _ rfl (c 18 _ rfl hD 13 dc) 12 dc)) rfl) (zaU (zb6 (fun hD=>n (c 13 _ rfl (c 18 _ rfl hD 13 dc) 12 dc)) zdt) rfl))))),zl2 (k:=2) (ek:=(fun n:zBA=>Value.string n)) (ev':=(fun n:Int=>Value.int .i64 n)) (kk:=q13) (z0:=0) (zcM underlying9) underlying75 kr rfl dc (zaX 8 u d) (zaX 11 u d) rfl (zaJ 12 u i)⟩
   · exact fun D ⟨b8,hd4⟩ n d c u i=>zhG rfl dc (zaX 12 u d) rfl (zbc (r:=((zbJ q13 o1.place).getD 0)+1) (IntWalk.i64_in _ hg9)) (zaJ 13 u i)
   · exact fun D ⟨b8,hd4⟩ n d c u i=>⟨_,(zaU rfl (zaU (zb6 (fun hD=>n (c 16 _ rfl (c 17 _ rfl (c 18 _ rfl hD 17 dc) 16 dc) 15 dc)) zdt) (zpB (zaU (zb6 (fun hD=>n (c 16 _ rfl (c 17 _ rfl (c 18 _ rfl hD 17 dc) 16 dc) 15 dc)) (zb6 (fun hD=>n (c 16 _ rfl (c 17 _ rfl hD 16 dc) 15 dc)) zdt)) (zaU (zb6 (fun hD=>n (c 16 _ rfl (c 17 _ rfl (c 18 _ rfl hD 17 dc) 16 dc) 15 dc)) zdt) rfl))))),zbm (k:=7) hq19 underlying38 zjC rfl dc (zaX 14 u d) rfl rfl rfl (zaJ 15 u i)⟩
   · exact fun D ⟨b8,hd4⟩ n d c u i=>⟨_,(zaU rfl (zaU (zb6 (fun hD=>n (c 17 _ rfl (c 18 _ rfl hD 17 dc) 16 dc)) zdt) (zpB (zaU (zb6 (fun hD=>n (c 17 _ rfl (c 18 _ rfl hD 17 dc) 16 dc)) (zb6 (fun hD=>n (c 17 _ rfl hD 16 dc)) zdt)) (zaU (zb6 (fun hD=>n (c 17 _ rfl (c 18 _ rfl hD 17 dc) 16 dc)) zdt) rfl))))),zcO (i:=(1:Int).toNat) (j:=0) (k:=7) (q:=q14) zeV zc0 rfl dc (zaX 15 u d) rfl (zcg hq19) rfl dc rfl (zaJ 16 u i)⟩
   ·
    intro D b hn hd hcl
    obtain ⟨zb0,hd4⟩:=b
    refine zjz (zaU rfl (zaU (zb6 (fun hD=>hn (hcl 18 _ rfl hD 17 dc)) zdt) (zpB (zaU (zb6 (fun hD=>hn (hcl 18 _ rfl hD 17 dc)) (zb6 hn zdt)) (zaU (zb6 (fun hD=>hn (hcl 18 _ rfl hD 17 dc)) zdt) rfl))))) ?_
    refine zaT (cs:=[.string q14]) (te:=9) (ps:=[(0,.tmp 182)]) rfl dc (evP.cons (zdK (m:=16) rfl rfl (hd 16 dc)) evP.nil) (fun _=>by kernel_rfl) (fun b8 => ?_)
    refine zkn 8 rfl rfl ?_
    exact zmS (b:=(zb0,hd4)) (b8,hd4) 17 (by rfl) (by rfl) rfl (zyk (zvo (zax (fun hD=>absurd hD hn) (zax (fun _=>rfl) rfl)))) (zaU rfl (zaU ((zjr (by rfl)).trans (zb6 (fun hD=>hn (hcl 18 _ rfl hD 17 dc)) zdt)) (zpB (zaU (zb6 (fun h=>h.elim (fun hD=>hn (hcl 18 _ rfl hD 17 dc)) (fun h=>absurd h dc)) (zhg (Or.inr rfl) rfl)) (zaU ((zjr (by rfl)).trans (zb6 (fun hD=>hn (hcl 18 _ rfl hD 17 dc)) zdt)) rfl)))))
   ·
    intro D b hn hd hcl
    obtain ⟨b8,zb1⟩:=b
    refine zjz (zaU rfl (zaU (zb6 hn zdt) (zpB (zaU (zb6 hn (zhg (hd 17 dc) rfl)) (zaU (zb6 hn zdt) rfl))))) ?_
    refine zb9 (vs:=[o1_h0.v,zI (((zbJ q13 o1.place).getD 0)+1),.slice (some ⟨b8,0,none⟩) 1 1]) rfl dc rfl (evL.cons (zdK (m:=4) rfl rfl (hd 4 dc)) (evL.cons (zdK (m:=13) rfl rfl (hd 13 dc)) (evL.cons (zdK (m:=17) rfl rfl (hd 17 dc)) evL.nil))) rfl zxB (zro (x:=q14) hg10) (zaa [1,8] kr rfl) ?_
    rintro v4
    refine zcl (k:=10) rfl (fun hd4 he2 => ?_)
    subst he2
    refine zkn 9 rfl rfl ?_
    exact zmS (b:=(b8,zb1)) (b8,hd4) 18 (by rfl) (by rfl) rfl (zx6 (zvo (zax (fun hD=>absurd hD hn) rfl))) (zaU rfl (zaU (zhg (Or.inr rfl) rfl) (zpB (zaU (zhg (Or.inr rfl) rfl) (zaU (zhg (Or.inr rfl) rfl) rfl)))))
   intro D b hall
   obtain ⟨b8,hd4⟩:=b
   refine zjz (zaU rfl (zaU (zhg (hall 18 dc) rfl) (zpB (zaU (zhg (hall 18 dc) rfl) (zaU (zhg (hall 18 dc) rfl) rfl))))) ?_
   refine za5 rfl dc rfl (zaf zjk rfl dc rfl (show _=0 from rfl) ?_)
   refine zaP (k:=0) (l':=[hd4.v,.map (some (za7 o1_h1)),.map (some (za7 o1_h2)),.map (some (za7 o1_h3)),o1_h4.v]) zsB rfl rfl rfl rfl rfl (fun _ _=>rfl) rfl ?_
   refine zyN (zap (zyR 1 rfl ?_))
   obtain ⟨r6,hq20,h⟩:=zbA h
   refine zb9 (vs:=[zP bo1]) rfl dc rfl rfl rfl zwc (zfk (bo1:=bo1) (o1:=(⟨zhT o1.units (((zbJ q13 o1.place).getD 0)+1) q14,o1.place,o1.fors,o1.skips,o1.lines⟩:zac)) (o1_h0:=hd4) (o1_h1:=o1_h1) (o1_h2:=o1_h2) (o1_h3:=o1_h3) (o1_h4:=o1_h4) hq20) (zaa [0,9,2,3,4,5] kr rfl) ?_
   rintro ⟨hd5,hd6,hd7,hd8,hd9⟩
   refine zcu (L':=[cells bo1 [hd5.v,.map (some (za7 hd6)),.map (some (za7 hd7)),.map (some (za7 hd8)),hd9.v] 79,emp,zbO (fun n:zBA=>Value.string n) (fun n:Int=>Value.int .i64 n) (za7 hd6) r6.place,zcB (za7 hd7) r6.fors,zbO (fun n:zBA=>Value.string n) (fun n:Bool=>Value.bool n) (za7 hd8) r6.skips,zv0 hd9.v r6.lines,cells b1 [zI 0,zI 0] 35,zv0 v1 forms1,emp,zv0 hd5.v r6.units]) (zaa [10,1,12,13,14,15,6,7,8,11] kr rfl) ?_
   refine zaD ?_
   exact zah (r6.units,r6.place,r6.fors,r6.skips,r6.lines,hd5,(za7 hd6),(za7 hd7),(za7 hd8),hd9) h rfl (za4 rfl) (zaa [0,9,2,3,4,5,6] kr rfl)
  obtain ⟨q15,hq21,h⟩:=zbA h
  obtain ⟨hg11,h⟩:=zbR h
  refine ztm (k:=7) rfl (fun hw1 => ?_)
  obtain ⟨v5,hv1,hs1⟩:=zit (lo:=some (zI 2)) (hi:=none) hw1 underlying38 zjC (.inr rfl) (.inl ⟨rfl,rfl⟩) hg11
  refine zdd 9 [(0,189,zP bo1),(1,190,zP bo1),(2,191,.pointer (some ⟨bo1,2,none⟩)),(3,192,.map (some (za7 o1_h2))),(4,193,v1),(5,194,.pointer (some ⟨zip v1,(1:Int).toNat*1,none⟩)),(6,195,.string q15),(7,196,v1),(8,197,v5)] mixed kr kr dc (by rfl) kr kr (zyP 1 0 rfl (zad ?_ (zad ?_ (zad ?_ (zyP 1 4 rfl (zad ?_ (zad ?_ (zyP 1 7 rfl (zad ?_ DrawPre.nil))))))))) ?_
  · exact fun D n d c u i=>za5 rfl dc (zaX 0 u d) (zaJ 1 u i)
  · exact fun D n d c u i=>zaf zou rfl dc (zaX 1 u d) (show _=2 from rfl) (zaJ 2 u i)
  · exact fun D n d c u i=>zal (k:=0) zt6 rfl dc (zaX 2 u d) rfl rfl (zaJ 3 u i)
  · exact fun D n d c u i=>zbm (k:=7) hq21 underlying38 zjC rfl dc (zaX 4 u d) rfl rfl rfl (zaJ 5 u i)
  · exact fun D n d c u i=>zcO (i:=(1:Int).toNat) (j:=0) (k:=7) (q:=q15) zeV zc0 rfl dc (zaX 5 u d) rfl (zcg hq21) rfl dc rfl (zaJ 6 u i)
  · exact fun D n d c u i=>zb7 rfl dc (zaX 7 u d) (evO.some rfl) zpj hs1 (zaJ 8 u i)
  obtain ⟨hdn1,hd11⟩:=Vw.head hv1
  have hkp:=h
  subst hd11
  have h:=hkp
  refine zk8 (As:=[zcB (za7 o1_h2) o1.fors]) (zaa [3] kr rfl) zm0 ?_
  rintro Lf1 hLf1
  refine zfC (k:=8) (ek:=(fun s:zBA=>Value.string s)) (ev':=fsV) (kk:=q15) (vv:=(zhi forms1 2 (forms1.length:Int),hdn1)) (zcM underlying9) underlying76 rfl rfl rfl rfl rfl ?_
  refine zl3 (k:=7) rfl (ztt zc0 hv1) ?_
  refine zk8 (As:=[fsM (za7 o1_h2) (zgF q15 (zhi forms1 2 (forms1.length:Int),hdn1) Lf1),fsO Lf1,zmn zhf 1 hdn1 (zhi forms1 2 (forms1.length:Int))]) (zaa [8,9,7] kr rfl) (znV q15 (zhi forms1 2 (forms1.length:Int)) hdn1 hLf1) ?_
  rintro _ _
  refine zaD ?_
  exact zah (o1.units,o1.place,zgF q15 (zhi forms1 2 (forms1.length:Int)) o1.fors,o1.skips,o1.lines,o1_h0,(za7 o1_h1),(za7 o1_h2),(za7 o1_h3),o1_h4) h rfl (za4 rfl) (zaa [0,1,2,10,4,5,6] kr rfl)
 rintro ⟨l2,m1,m2,m3,l3,hd2,b5,b6,b7,hd3⟩ h
 rw [hj8] at h
 refine zyG (zyR 2 rfl (za5 rfl dc rfl (zaf zkR rfl dc rfl (show _=4 from rfl) (zal (k:=0) zn8 rfl dc rfl rfl rfl (zyR 1 rfl ?_)))))
 refine zaT (cs:=[.string said1]) (te:=9) (ps:=[(0,.tmp 203)]) rfl dc rfl (fun _=>by kernel_rfl) (fun b9 => ?_)
 obtain ⟨hg12,h⟩:=zbR h
 refine zb3 (k:=5) (k2:=7) (ys:=[said1]) underlying38 zwj zc0 zkh rfl dc rfl rfl rfl rfl rfl rfl hg12 (fun v6 => ?_)
 refine zcl (k:=5) rfl (fun hd12 he3 => ?_)
 subst he3
 refine za5 rfl dc rfl (zaf zkR rfl dc rfl (show _=4 from rfl) ?_)
 refine zaP (k:=0) (l':=[hd2.v,.map (some b5),.map (some b6),.map (some b7),hd12.v]) zsB rfl rfl rfl rfl rfl (fun _ _=>rfl) rfl ?_
 refine zyH ?_
 refine zci (v:=.agg #[zI 0,zI 0]) (ps:=[]) rfl dc rfl (fun _=>by kernel_rfl) ?_
 refine za2 (k:=6) (vs:=[zI 0,zI 0]) (l':=[zI 0,zI 0]) zh2 rfl rfl rfl rfl rfl (show _≤_ by simp) rfl rfl ?_
 refine zyN (zaA ?_)
 cases h
 exact zcj (rs:=[.cell 6 35]) (hd2,(⟨some ⟨b5,0,none⟩,0,0⟩:Hd),(⟨some ⟨b6,0,none⟩,0,0⟩:Hd),(⟨some ⟨b7,0,none⟩,0,0⟩:Hd),hd12) (.inl rfl) results38 (.cons (.cells zja (k:=6) rfl rfl rfl) .nil) rfl (zaa [0,1,2,3,4,5] kr rfl)
def zdl (ek1:Int→Int→(List zBA)→(List (zBA×Int))→(List (zBA×List zBA))→(List (zBA×Bool))→(List zBA)→Int→Option ((Option zac)×zaM)) (x1:zBA) (ag1:(List zBA)→(List (zBA×Int))→(List (zBA×List zBA))→(List (zBA×Bool))→(List zBA)→Int→Option ((Option zac)×zaM)) (o16:List zBA) (o17:List (zBA×Int)) (o18:List (zBA×List zBA)) (o19:List (zBA×Bool)) (o20:List zBA) (at3:Int):Option ((Option zac)×zaM) := grd (I64 ((x1.size:Int)+1)) <| grd (I64 (at3+((x1.size:Int)+1))) <| zak (zeu x1 at3) fun (r3:(List zau)) => zar (((r3.length:Int):Int)==0) ( ag1 o16 o17 o18 o19 o20 (at3+((x1.size:Int)+1))
) ( grd (I64 (at3+(x1.size:Int))) <| zak (zda (⟨o16,o17,o18,o19,o20⟩:zac) r3 (at3+(x1.size:Int))) fun (r4:(zaM×zac)) => zar ((r4.1.Err:Int) != 0) ( ek1 r4.1.Err r4.1.At r4.2.units r4.2.place r4.2.fors r4.2.skips r4.2.lines (at3+((x1.size:Int)+1))
) ( ag1 r4.2.units r4.2.place r4.2.fors r4.2.skips r4.2.lines (at3+((x1.size:Int)+1))
)
)
def zdC (text1:zBA):Option ((Option zac)×zaM) := zar (decide ((65536:Int)<(text1.size:Int))) ( some (none,(⟨3,65536⟩:zaM))
) ( zbx (fun (j1:(List zBA)→(List (zBA×Int))→(List (zBA×List zBA))→(List (zBA×Bool))→(List zBA)→Option ((Option zac)×zaM)) => zak (zdO) fun (r1:zac) => zak (zfb text1 (⟨#[10]⟩:zBA)) fun (r2:(zBA×zBA×Int)) => zak (zdF r2.1 r2.2.1 r2.2.2) fun (its1:(List zBA)) => zbx (fun (ek1:Int→Int→(List zBA)→(List (zBA×Int))→(List (zBA×List zBA))→(List (zBA×Bool))→(List zBA)→Int→Option ((Option zac)×zaM)) => zbx (fun (dn1:(List zBA)→(List (zBA×Int))→(List (zBA×List zBA))→(List (zBA×Bool))→(List zBA)→Int→Option ((Option zac)×zaM)) => zcF dn1 (zdl ek1) its1 r1.units r1.place r1.fors r1.skips r1.lines 0
) (fun (o16:List zBA) (o17:List (zBA×Int)) (o18:List (zBA×List zBA)) (o19:List (zBA×Bool)) (o20:List zBA) (at3:Int) => j1 o16 o17 o18 o19 o20
)
) (fun (x2:Int) (x3:Int) (o21:List zBA) (o22:List (zBA×Int)) (o23:List (zBA×List zBA)) (o24:List (zBA×Bool)) (o25:List zBA) (at4:Int) => some (none,(⟨x2,x3⟩:zaM))
)
) (fun (o1:List zBA) (o2:List (zBA×Int)) (o3:List (zBA×List zBA)) (o4:List (zBA×Bool)) (o5:List zBA) => some ((some (⟨o1,o2,o3,o4,o5⟩:zac)),(⟨0,0⟩:zaM))
)
)
theorem zf4 {text1:zBA} {r:((Option zac)×zaM)} (h:zdC text1=some r):Fn prog 14 [.string text1] [] (fun v0:Value=>.tuple #[v0,.agg (zr2 r.2).toArray]) (fun v0=>[zlM zbb zba 79 v0 r.1]):=by
 unfold zdC at h
 refine Fn.intro func14 rfl ntmps14 (by simp) ?_
 intro w0 K
 refine zgo ?_
 show TC _ _ _ _ _ _ _ _ _ [zfF ((([]:List Nat):List Nat).map zfp)]
 refine zyG ?_
 refine za3 zvu rfl dc (fun b1 => ?_)
 refine za3 zpC rfl dc (fun b2 => ?_)
 show TO _ _ _ _ _ _ _ _ _ _ [zfF ((([]:List Nat):List Nat).map zfp),cells b1 [.pointer none] 23,cells b2 [zI 0,zI 0] 35]
 refine zyN ?_
 refine zpv (β:=Unit) (l:=0) (fun _=>False) (fun _=>[]) (fun _=>[]) rfl ?_ ?_
 ·
  refine zaL (zyG (zyR 1 rfl (zcI rfl dc rfl underlying9 (zaR rfl zeg (zyN ?_)))))
  refine zyB rfl h (fun h => ?_) (fun h => ?_)
  ·
   refine zyG ?_
   refine zci (v:=.agg #[zI 3,zI 65536]) (ps:=[(0,.const (zI 3)),(1,.const (zI 65536))]) rfl dc rfl (fun _=>by kernel_rfl) ?_
   refine zaP (k:=1) (l':=[.pointer none]) zsC rfl rfl rfl rfl rfl (fun _ _=>rfl) rfl ?_
   refine za2 (k:=2) (vs:=[zI 3,zI 65536]) (l':=[zI 3,zI 65536]) zh2 rfl rfl rfl rfl rfl (show _≤_ by simp) rfl rfl ?_
   show TO _ _ _ _ _ _ _ _ _ _ [zfF ((([]:List Nat):List Nat).map zfp),cells b1 [.pointer none] 23,cells b2 [zI 3,zI 65536] 35]
   refine zyN (zaA (zaj (zi1 (by simp) (znQ zbb zba 79 ?_))))
   show TX _ _ _ _ _ _ _ [zfF ((([]:List Nat):List Nat).map zfp),cells b1 [.pointer none] 23,cells b2 [zI 3,zI 65536] 35,zlM zbb zba 79 (.pointer none) none]
   cases h
   exact zfJ (rs:=[.cell 2 23,.cell 3 35]) ([]:List Nat) (.pointer none) (.inl rfl) (zcR (k:=0) rfl) results14 (.cons (.cell zi9 (k:=1) rfl rfl) (.cons (.cells zja (k:=2) rfl rfl rfl) .nil)) rfl (zaa [3] kr rfl)
  refine zao (zaF ?_)
  obtain ⟨j1,hj1,h⟩:=zbP h
  refine za0 (β:=(List zBA)×(List (zBA×Int))×(List (zBA×List zBA))×(List (zBA×Bool))×(List zBA)×Nat×Nat×Hd×Nat×Nat×Nat×Hd×(List Nat)) 3 rfl (fun b=>j1 b.1 b.2.1 b.2.2.1 b.2.2.2.1 b.2.2.2.2.1=some r) (fun b=>zfe b.2.2.2.2.2.2.2.2.2.2.2.2) (fun b=>[(2,zP b1),(3,zP b2),(4,zP b.2.2.2.2.2.1)]) (fun b=>[cells b1 [.pointer none] 23,cells b2 [zI 0,zI 0] 35,cells b.2.2.2.2.2.1 [zP b.2.2.2.2.2.2.1] 23,cells b.2.2.2.2.2.2.1 [b.2.2.2.2.2.2.2.1.v,.map (some b.2.2.2.2.2.2.2.2.1),.map (some b.2.2.2.2.2.2.2.2.2.1),.map (some b.2.2.2.2.2.2.2.2.2.2.1),b.2.2.2.2.2.2.2.2.2.2.2.1.v] 79,zv0 b.2.2.2.2.2.2.2.1.v b.1,zbO (fun n:zBA=>Value.string n) (fun n:Int=>Value.int .i64 n) b.2.2.2.2.2.2.2.2.1 b.2.1,zcB b.2.2.2.2.2.2.2.2.2.1 b.2.2.1,zbO (fun n:zBA=>Value.string n) (fun n:Bool=>Value.bool n) b.2.2.2.2.2.2.2.2.2.2.1 b.2.2.2.1,zv0 b.2.2.2.2.2.2.2.2.2.2.2.1.v b.2.2.2.2.1,zfF ((b.2.2.2.2.2.2.2.2.2.2.2.2:List Nat).map zfp)]) (fun cut => ?_) ?_
  ·
   refine zyG ?_
   obtain ⟨r1,hq1,h⟩:=zbA h
   refine zb9 (vs:=[]) rfl dc rfl rfl rfl zxS (zj4 hq1) Splits.nil ?_
   rintro ⟨b8,hd3,hd4,hd5,hd6,hd7⟩
   show TO _ _ _ _ _ _ _ _ _ _ [zfF ((([]:List Nat):List Nat).map zfp),cells b1 [.pointer none] 23,cells b2 [zI 0,zI 0] 35,cells b8 [hd3.v,.map (some (za7 hd4)),.map (some (za7 hd5)),.map (some (za7 hd6)),hd7.v] 79,zv0 hd3.v r1.units,zbO (fun n:zBA=>Value.string n) (fun n:Int=>Value.int .i64 n) (za7 hd4) r1.place,zcB (za7 hd5) r1.fors,zbO (fun n:zBA=>Value.string n) (fun n:Bool=>Value.bool n) (za7 hd6) r1.skips,zv0 hd7.v r1.lines]
   refine za3 zvu rfl dc (fun b9 => ?_)
   refine zaP (k:=9) (l':=[zP b8]) zsC rfl rfl rfl rfl rfl (fun _ _=>rfl) rfl ?_
   show TO _ _ _ _ _ _ _ _ _ _ [zfF ((([]:List Nat):List Nat).map zfp),cells b1 [.pointer none] 23,cells b2 [zI 0,zI 0] 35,cells b8 [hd3.v,.map (some (za7 hd4)),.map (some (za7 hd5)),.map (some (za7 hd6)),hd7.v] 79,zv0 hd3.v r1.units,zbO (fun n:zBA=>Value.string n) (fun n:Int=>Value.int .i64 n) (za7 hd4) r1.place,zcB (za7 hd5) r1.fors,zbO (fun n:zBA=>Value.string n) (fun n:Bool=>Value.bool n) (za7 hd6) r1.skips,zv0 hd7.v r1.lines,cells b9 [zP b8] 23]
   refine zyH ?_
   refine za3 zvt rfl dc (fun b10 => ?_)
   refine zaP (k:=10) (l':=[zI 0]) zh3 rfl rfl rfl rfl rfl (fun _ _=>rfl) rfl ?_
   show TO _ _ _ _ _ _ _ _ _ _ [zfF ((([]:List Nat):List Nat).map zfp),cells b1 [.pointer none] 23,cells b2 [zI 0,zI 0] 35,cells b8 [hd3.v,.map (some (za7 hd4)),.map (some (za7 hd5)),.map (some (za7 hd6)),hd7.v] 79,zv0 hd3.v r1.units,zbO (fun n:zBA=>Value.string n) (fun n:Int=>Value.int .i64 n) (za7 hd4) r1.place,zcB (za7 hd5) r1.fors,zbO (fun n:zBA=>Value.string n) (fun n:Bool=>Value.bool n) (za7 hd6) r1.skips,zv0 hd7.v r1.lines,cells b9 [zP b8] 23,cells b10 [zI 0] 3]
   refine zyN (zaL (zpx (zaF (cut (zyG (zyR 1 rfl ?_))))))
   obtain ⟨r2,hq2,h⟩:=zbA h
   refine zb9 (vs:=[.string text1,.string (⟨#[10]⟩:zBA)]) rfl dc rfl rfl rfl zxR (zh5 hq2) Splits.nil ?_
   rintro ⟨b11,b12,b13⟩
   show TO _ _ _ _ _ _ _ _ _ _ [zfF ((([]:List Nat):List Nat).map zfp),cells b1 [.pointer none] 23,cells b2 [zI 0,zI 0] 35,cells b8 [hd3.v,.map (some (za7 hd4)),.map (some (za7 hd5)),.map (some (za7 hd6)),hd7.v] 79,zv0 hd3.v r1.units,zbO (fun n:zBA=>Value.string n) (fun n:Int=>Value.int .i64 n) (za7 hd4) r1.place,zcB (za7 hd5) r1.fors,zbO (fun n:zBA=>Value.string n) (fun n:Bool=>Value.bool n) (za7 hd6) r1.skips,zv0 hd7.v r1.lines,cells b9 [zP b8] 23,cells b10 [zI 0] 3,cells b11 [.string r2.1] 9,cells b12 [.string r2.2.1] 9,cells b13 [zI r2.2.2] 3]
   refine zyN (zaz ?_)
   obtain ⟨its1,hq3,h⟩:=zbA h
   obtain ⟨ek1,hek1,h⟩:=zbP h
   obtain ⟨dn1,hdn1,h⟩:=zbP h
   refine zsj (α:=zBA) (β:=(List zBA)×(List (zBA×Int))×(List (zBA×List zBA))×(List (zBA×Bool))×(List zBA)×Int×Hd×Nat×Nat×Nat×Hd) (γ:=(Int×Int×(List zBA)×(List (zBA×Int))×(List (zBA×List zBA))×(List (zBA×Bool))×(List zBA)×Int×Hd×Nat×Nat×Nat×Hd)) (δ:=Unit) (ps:=[17]) Ro.nil rfl zxs (zhh hq3) (fun pre b=>∀ post,its1=pre++post→zcF dn1 (zdl ek1) post b.1 b.2.1 b.2.2.1 b.2.2.2.1 b.2.2.2.2.1 b.2.2.2.2.2.1=some r) (fun pre b=>[cells b1 [.pointer none] 23,cells b2 [zI 0,zI 0] 35,cells b9 [zP b8] 23,cells b8 [b.2.2.2.2.2.2.1.v,.map (some b.2.2.2.2.2.2.2.1),.map (some b.2.2.2.2.2.2.2.2.1),.map (some b.2.2.2.2.2.2.2.2.2.1),b.2.2.2.2.2.2.2.2.2.2.v] 79,zv0 b.2.2.2.2.2.2.1.v b.1,zbO (fun n:zBA=>Value.string n) (fun n:Int=>Value.int .i64 n) b.2.2.2.2.2.2.2.1 b.2.1,zcB b.2.2.2.2.2.2.2.2.1 b.2.2.1,zbO (fun n:zBA=>Value.string n) (fun n:Bool=>Value.bool n) b.2.2.2.2.2.2.2.2.2.1 b.2.2.2.1,zv0 b.2.2.2.2.2.2.2.2.2.2.v b.2.2.2.2.1,cells b10 [zI b.2.2.2.2.2.1] 3]) (fun c pre g=>(fun g=>c=.ret∧ek1 g.1 g.2.1 g.2.2.1 g.2.2.2.1 g.2.2.2.2.1 g.2.2.2.2.2.1 g.2.2.2.2.2.2.1 g.2.2.2.2.2.2.2.1=some r) g) (fun c pre g=>(fun g=>[cells b1 [.pointer none] 23,cells b2 [zI g.1,zI g.2.1] 35,cells b9 [zP b8] 23,cells b8 [g.2.2.2.2.2.2.2.2.1.v,.map (some g.2.2.2.2.2.2.2.2.2.1),.map (some g.2.2.2.2.2.2.2.2.2.2.1),.map (some g.2.2.2.2.2.2.2.2.2.2.2.1),g.2.2.2.2.2.2.2.2.2.2.2.2.v] 79,zv0 g.2.2.2.2.2.2.2.2.1.v g.2.2.1,zbO (fun n:zBA=>Value.string n) (fun n:Int=>Value.int .i64 n) g.2.2.2.2.2.2.2.2.2.1 g.2.2.2.1,zcB g.2.2.2.2.2.2.2.2.2.2.1 g.2.2.2.2.1,zbO (fun n:zBA=>Value.string n) (fun n:Bool=>Value.bool n) g.2.2.2.2.2.2.2.2.2.2.2.1 g.2.2.2.2.2.1,zv0 g.2.2.2.2.2.2.2.2.2.2.2.2.v g.2.2.2.2.2.2.1,cells b10 [zI g.2.2.2.2.2.2.2.1] 3]) g) (fun pre x b j=>[(2,zP b1),(3,zP b2),(4,zP b9),(5,zP b10),(16,.func (.func 81) #[] #[zP b11,zP b12,zP b13]),(6,.string x)]) (fun pre x b j=>[cells b1 [.pointer none] 23,cells b2 [zI 0,zI 0] 35,cells b9 [zP b8] 23,cells b8 [b.2.2.2.2.2.2.1.v,.map (some b.2.2.2.2.2.2.2.1),.map (some b.2.2.2.2.2.2.2.2.1),.map (some b.2.2.2.2.2.2.2.2.2.1),b.2.2.2.2.2.2.2.2.2.2.v] 79,zv0 b.2.2.2.2.2.2.1.v b.1,zbO (fun n:zBA=>Value.string n) (fun n:Int=>Value.int .i64 n) b.2.2.2.2.2.2.2.1 b.2.1,zcB b.2.2.2.2.2.2.2.2.1 b.2.2.1,zbO (fun n:zBA=>Value.string n) (fun n:Bool=>Value.bool n) b.2.2.2.2.2.2.2.2.2.1 b.2.2.2.1,zv0 b.2.2.2.2.2.2.2.2.2.2.v b.2.2.2.2.1,cells b10 [zI b.2.2.2.2.2.1] 3]) (r1.units,r1.place,r1.fors,r1.skips,r1.lines,0,hd3,(za7 hd4),(za7 hd5),(za7 hd6),hd7) (fun post e=>by rw [List.nil_append] at e; subst e; exact h) (zaa [1,2,9,3,4,5,6,7,8,10] kr rfl) (zaa [11,12,13] kr rfl) (fun _=>rfl) dc ?_ ?_ ?_ ?_
   ·
    rintro lp rc pre x1 post ⟨o16,o17,o18,o19,o20,at3,hd12,b20,b21,b22,hd13⟩ w1 K1 hxs1 hext hro hinv
    refine zap (zyR 1 rfl (zaD ?_))
    exact fun a w ha hw=>⟨(),(za4 rfl) _ _ _ ha,hw.weaken (zaa [0,1,2,3,4,5,6,7,8,9] kr rfl)⟩
   ·
    rintro lp rc pre x1 post1 ⟨o16,o17,o18,o19,o20,at3,hd12,b20,b21,b22,hd13⟩ _ w1 K1 hxs1 hext hro hinv
    have h:=hinv (x1::post1) hxs1
    obtain ⟨ag1,hag1⟩:∃ ag,ag=zcF dn1 (zdl ek1) post1:=⟨_,rfl⟩
    have h:zdl ek1 x1 ag1 o16 o17 o18 o19 o20 at3=some r:=by have h2:=h; rw [zco,← hag1] at h2; exact h2
    unfold zdl at h
    show TC _ _ _ _ _ _ _ _ [(2,zP b1),(3,zP b2),(4,zP b9),(5,zP b10),(16,.func (.func 81) #[] #[zP b11,zP b12,zP b13]),(6,.string x1)] [cells b1 [.pointer none] 23,cells b2 [zI 0,zI 0] 35,cells b9 [zP b8] 23,cells b8 [hd12.v,.map (some b20),.map (some b21),.map (some b22),hd13.v] 79,zv0 hd12.v o16,zbO (fun n:zBA=>Value.string n) (fun n:Int=>Value.int .i64 n) b20 o17,zcB b21 o18,zbO (fun n:zBA=>Value.string n) (fun n:Bool=>Value.bool n) b22 o19,zv0 hd13.v o20,cells b10 [zI at3] 3]
    refine zaz (zyG (zal (k:=9) zdE rfl dc rfl rfl rfl (zyR 1 rfl (zyH (zal (k:=9) zdE rfl dc rfl rfl rfl (zyR 1 rfl (zcI rfl dc rfl underlying9 ?_)))))))
    obtain ⟨hg1,h⟩:=zbR h
    refine zaR rfl (zbc (r:=(x1.size:Int)+1) (IntWalk.i64_in _ hg1)) ?_
    obtain ⟨hg2,h⟩:=zbR h
    refine zaR rfl (zbc (r:=at3+((x1.size:Int)+1)) (IntWalk.i64_in _ hg2)) ?_
    refine zaP (k:=9) (l':=[zI (at3+((x1.size:Int)+1))]) zh3 rfl rfl rfl rfl rfl (fun _ _=>rfl) rfl ?_
    refine zyH (zyR 2 rfl ?_)
    obtain ⟨r3,hq4,h⟩:=zbA h
    refine zb9 (vs:=[.string x1,zI at3]) rfl dc rfl rfl rfl zxQ (zjZ hq4) Splits.nil ?_
    rintro v1
    show TO _ _ _ _ _ _ _ _ _ _ [cells b1 [.pointer none] 23,cells b2 [zI 0,zI 0] 35,cells b9 [zP b8] 23,cells b8 [hd12.v,.map (some b20),.map (some b21),.map (some b22),hd13.v] 79,zv0 hd12.v o16,zbO (fun n:zBA=>Value.string n) (fun n:Int=>Value.int .i64 n) b20 o17,zcB b21 o18,zbO (fun n:zBA=>Value.string n) (fun n:Bool=>Value.bool n) b22 o19,zv0 hd13.v o20,cells b10 [zI (at3+((x1.size:Int)+1))] 3,zv4 v1 r3]
    refine zcl (k:=10) rfl (fun hd16 he1 => ?_)
    subst he1
    refine zyR 1 rfl (zyN (zaL (zyG (zyR 1 rfl (zdy (k:=10) rfl dc rfl rfl underlying86 (zaR rfl za9 (zyN ?_)))))))
    refine zyB rfl h (fun h => ?_) (fun h => ?_)
    ·
     refine zbz (zaq (zaG ?_))
     exact zcJ (o16,o17,o18,o19,o20,at3+((x1.size:Int)+1),hd12,b20,b21,b22,hd13) (fun post2 e2=>by have e9:=zcd hxs1 e2; subst e9; subst hag1; exact h) (zaa [0,1,2,3,4,5,6,7,8,9] kr rfl)
    refine zao (zaF (zyG (zal (k:=2) zi9 rfl dc rfl rfl rfl (zyR 3 rfl (zcI rfl dc rfl underlying9 ?_)))))
    obtain ⟨hg3,h⟩:=zbR h
    refine zaR rfl (zbc (r:=at3+(x1.size:Int)) (IntWalk.i64_in _ hg3)) ?_
    refine zej (k:=10) rfl (fun hw1 => ?_)
    obtain ⟨r4,hq5,h⟩:=zbA h
    refine zgn (vs:=[zP b8,hd16.v,zI (at3+(x1.size:Int))]) (Rd.nil:Rd _ _ []) rfl dc rfl rfl rfl zxP (zhD (bo1:=b8) (o1:=(⟨o16,o17,o18,o19,o20⟩:zac)) (o1_h0:=hd12) (o1_h1:=(⟨some ⟨b20,0,none⟩,0,0⟩:Hd)) (o1_h2:=(⟨some ⟨b21,0,none⟩,0,0⟩:Hd)) (o1_h3:=(⟨some ⟨b22,0,none⟩,0,0⟩:Hd)) (o1_h4:=hd13) hw1 hq5) (zaa [3,4,5,6,7,8] kr rfl) (.own (As:=[zv4 hd16.v r3]) (zaa [10] kr rfl) (fun _ _ h=>zd9 zds (sepL.one1.1 h)) .nil) ?_
    rintro ⟨hd17,hd18,hd19,hd20,hd21⟩
    refine zcu (L':=[cells b1 [.pointer none] 23,cells b2 [zI 0,zI 0] 35,cells b9 [zP b8] 23,cells b8 [hd17.v,.map (some (za7 hd18)),.map (some (za7 hd19)),.map (some (za7 hd20)),hd21.v] 79,zv0 hd17.v r4.2.units,zbO (fun n:zBA=>Value.string n) (fun n:Int=>Value.int .i64 n) (za7 hd18) r4.2.place,zcB (za7 hd19) r4.2.fors,zbO (fun n:zBA=>Value.string n) (fun n:Bool=>Value.bool n) (za7 hd20) r4.2.skips,zv0 hd21.v r4.2.lines,cells b10 [zI (at3+((x1.size:Int)+1))] 3,zv4 hd16.v r3]) (zaa [0,1,2,11,12,13,14,15,16,9,10] kr rfl) ?_
    refine za3 zpC rfl dc (fun b26 => ?_)
    refine za2 (k:=11) (vs:=(zr2 r4.1)) (l':=(zr2 r4.1)) zh2 rfl rfl rfl rfl rfl (show _≤_ by simp) rfl rfl ?_
    show TO _ _ _ _ _ _ _ _ _ _ [cells b1 [.pointer none] 23,cells b2 [zI 0,zI 0] 35,cells b9 [zP b8] 23,cells b8 [hd17.v,.map (some (za7 hd18)),.map (some (za7 hd19)),.map (some (za7 hd20)),hd21.v] 79,zv0 hd17.v r4.2.units,zbO (fun n:zBA=>Value.string n) (fun n:Int=>Value.int .i64 n) (za7 hd18) r4.2.place,zcB (za7 hd19) r4.2.fors,zbO (fun n:zBA=>Value.string n) (fun n:Bool=>Value.bool n) (za7 hd20) r4.2.skips,zv0 hd21.v r4.2.lines,cells b10 [zI (at3+((x1.size:Int)+1))] 3,zv4 hd16.v r3,cells b26 (zr2 r4.1) 35]
    refine zyH (zaf zrB rfl dc rfl (show _=0 from rfl) (zal (k:=11) zvM rfl dc rfl rfl rfl (zaR rfl zdR (zyN ?_))))
    refine zyB rfl h (fun h => ?_) (fun h => ?_)
    ·
     refine zaL ?_
     refine zdd 2 [(0,40,.agg (zr2 r4.1).toArray)] mixed kr kr dc (by rfl) kr kr (zad ?_ (zad ?_ DrawPre.nil)) ?_
     · exact fun D n d c u i=>zbW (k:=11) (cs:=(zr2 r4.1)) zja rfl dc (za8 (by rfl) rfl) rfl rfl rfl (zaJ 0 u i)
     · exact fun D n d c u i=>zaP (k:=0) (l':=[.pointer none]) zsC rfl (za8 (by rfl) rfl) rfl rfl rfl (fun _ _=>rfl) rfl (zsa (by rfl))
     refine za2 (k:=1) (vs:=(zr2 r4.1)) (l':=(zr2 r4.1)) zh2 rfl rfl rfl rfl rfl (show _≤_ by simp) rfl rfl (zyN (zaA (zan ?_)))
     exact zbU (r4.1.Err,r4.1.At,r4.2.units,r4.2.place,r4.2.fors,r4.2.skips,r4.2.lines,at3+((x1.size:Int)+1),hd17,(za7 hd18),(za7 hd19),(za7 hd20),hd21) (show _∧_ from ⟨rfl,h⟩) (zaa [0,1,2,3,4,5,6,7,8,9] kr rfl)
    refine zao (zae ?_)
    exact zcJ (r4.2.units,r4.2.place,r4.2.fors,r4.2.skips,r4.2.lines,at3+((x1.size:Int)+1),hd17,(za7 hd18),(za7 hd19),(za7 hd20),hd21) (fun post2 e2=>by have e9:=zcd hxs1 e2; subst e9; subst hag1; exact h) (zaa [0,1,2,3,4,5,6,7,8,9] kr rfl)
   ·
    rintro dm1 ⟨o16,o17,o18,o19,o20,at3,hd12,b20,b21,b22,hd13⟩ hinv
    have h:dn1 o16 o17 o18 o19 o20 at3=some r:=hinv [] (List.append_nil _).symm
    rw [hdn1] at h
    show TX _ _ _ _ _ _ _ [zfF ((([]:List Nat):List Nat).map zfp),emp,emp,emp,emp,emp,emp,emp,emp,emp,emp,emp,emp,emp,cells b1 [.pointer none] 23,cells b2 [zI 0,zI 0] 35,cells b9 [zP b8] 23,cells b8 [hd12.v,.map (some b20),.map (some b21),.map (some b22),hd13.v] 79,zv0 hd12.v o16,zbO (fun n:zBA=>Value.string n) (fun n:Int=>Value.int .i64 n) b20 o17,zcB b21 o18,zbO (fun n:zBA=>Value.string n) (fun n:Bool=>Value.bool n) b22 o19,zv0 hd13.v o20,cells b10 [zI at3] 3,zfp dm1]
    refine zey (k:=24) (j:=0) rfl rfl dc ?_
    show TX _ _ _ _ _ _ _ [zfF ((dm1::([]:List Nat):List Nat).map zfp),emp,emp,emp,emp,emp,emp,emp,emp,emp,emp,emp,emp,emp,cells b1 [.pointer none] 23,cells b2 [zI 0,zI 0] 35,cells b9 [zP b8] 23,cells b8 [hd12.v,.map (some b20),.map (some b21),.map (some b22),hd13.v] 79,zv0 hd12.v o16,zbO (fun n:zBA=>Value.string n) (fun n:Int=>Value.int .i64 n) b20 o17,zcB b21 o18,zbO (fun n:zBA=>Value.string n) (fun n:Bool=>Value.bool n) b22 o19,zv0 hd13.v o20,cells b10 [zI at3] 3,emp]
    refine zae ?_
    exact zah (o16,o17,o18,o19,o20,b9,b8,hd12,b20,b21,b22,hd13,dm1::([]:List Nat)) h rfl (za4 rfl) (zaa [14,15,16,17,18,19,20,21,22,0] kr rfl)
   rintro dm1 c pre x1 post g hxs hX
   obtain ⟨rfl,h⟩:=(show _∧_ from hX)
   obtain ⟨x2,x3,o21,o22,o23,o24,o25,at4,hd14,b23,b24,b25,hd15⟩:=g
   rw [hek1] at h
   show TC _ _ _ _ _ _ _ _ _ [zfF ((([]:List Nat):List Nat).map zfp),emp,emp,emp,emp,emp,emp,emp,emp,emp,emp,emp,emp,emp,cells b1 [.pointer none] 23,cells b2 [zI x2,zI x3] 35,cells b9 [zP b8] 23,cells b8 [hd14.v,.map (some b23),.map (some b24),.map (some b25),hd15.v] 79,zv0 hd14.v o21,zbO (fun n:zBA=>Value.string n) (fun n:Int=>Value.int .i64 n) b23 o22,zcB b24 o23,zbO (fun n:zBA=>Value.string n) (fun n:Bool=>Value.bool n) b25 o24,zv0 hd15.v o25,cells b10 [zI at4] 3,zfp dm1]
   refine zil (k:=24) (j:=0) rfl rfl dc ?_
   show TC _ _ _ _ _ _ _ _ _ [zfF ((dm1::([]:List Nat):List Nat).map zfp),emp,emp,emp,emp,emp,emp,emp,emp,emp,emp,emp,emp,emp,cells b1 [.pointer none] 23,cells b2 [zI x2,zI x3] 35,cells b9 [zP b8] 23,cells b8 [hd14.v,.map (some b23),.map (some b24),.map (some b25),hd15.v] 79,zv0 hd14.v o21,zbO (fun n:zBA=>Value.string n) (fun n:Int=>Value.int .i64 n) b23 o22,zcB b24 o23,zbO (fun n:zBA=>Value.string n) (fun n:Bool=>Value.bool n) b25 o24,zv0 hd15.v o25,cells b10 [zI at4] 3,emp]
   refine zaA (zan (zaj (zi1 (by simp) (znQ zbb zba 79 ?_))))
   show TX _ _ _ _ _ _ _ [zfF ((dm1::([]:List Nat):List Nat).map zfp),emp,emp,emp,emp,emp,emp,emp,emp,emp,emp,emp,emp,emp,cells b1 [.pointer none] 23,cells b2 [zI x2,zI x3] 35,cells b9 [zP b8] 23,cells b8 [hd14.v,.map (some b23),.map (some b24),.map (some b25),hd15.v] 79,zv0 hd14.v o21,zbO (fun n:zBA=>Value.string n) (fun n:Int=>Value.int .i64 n) b23 o22,zcB b24 o23,zbO (fun n:zBA=>Value.string n) (fun n:Bool=>Value.bool n) b25 o24,zv0 hd15.v o25,cells b10 [zI at4] 3,emp,zlM zbb zba 79 (.pointer none) none]
   cases h
   exact zfJ (rs:=[.cell 2 23,.cell 3 35]) (dm1::([]:List Nat)) (.pointer none) (.inl rfl) (zcR (k:=0) rfl) results14 (.cons (.cell zi9 (k:=14) rfl rfl) (.cons (.cells zja (k:=15) rfl rfl rfl) .nil)) rfl (zaa [25] kr rfl)
  rintro ⟨o1,o2,o3,o4,o5,b3,b4,hd1,b5,b6,b7,hd2,ds1⟩ h
  rw [hj1] at h
  show TC _ _ _ _ _ (zfe ds1) _ _ [(2,zP b1),(3,zP b2),(4,zP b3)] [cells b1 [.pointer none] 23,cells b2 [zI 0,zI 0] 35,cells b3 [zP b4] 23,cells b4 [hd1.v,.map (some b5),.map (some b6),.map (some b7),hd2.v] 79,zv0 hd1.v o1,zbO (fun n:zBA=>Value.string n) (fun n:Int=>Value.int .i64 n) b5 o2,zcB b6 o3,zbO (fun n:zBA=>Value.string n) (fun n:Bool=>Value.bool n) b7 o4,zv0 hd2.v o5,zfF ((ds1:List Nat).map zfp)]
  refine zyG (zal (k:=2) zi9 rfl dc rfl rfl rfl ?_)
  refine zci (v:=.agg #[zI 0,zI 0]) (ps:=[]) rfl dc rfl (fun _=>by kernel_rfl) ?_
  refine zaP (k:=0) (l':=[zP b4]) zsC rfl rfl rfl rfl rfl (fun _ _=>rfl) rfl ?_
  refine za2 (k:=1) (vs:=[zI 0,zI 0]) (l':=[zI 0,zI 0]) zh2 rfl rfl rfl rfl rfl (show _≤_ by simp) rfl rfl ?_
  show TO _ _ _ _ _ _ _ _ _ _ [cells b1 [zP b4] 23,cells b2 [zI 0,zI 0] 35,cells b3 [zP b4] 23,cells b4 [hd1.v,.map (some b5),.map (some b6),.map (some b7),hd2.v] 79,zv0 hd1.v o1,zbO (fun n:zBA=>Value.string n) (fun n:Int=>Value.int .i64 n) b5 o2,zcB b6 o3,zbO (fun n:zBA=>Value.string n) (fun n:Bool=>Value.bool n) b7 o4,zv0 hd2.v o5,zfF ((ds1:List Nat).map zfp)]
  refine zyN (zaA (zi1 (by simp) ?_))
  refine zu6 (As:=[cells b4 [hd1.v,.map (some b5),.map (some b6),.map (some b7),hd2.v] 79,zv0 hd1.v o1,zbO (fun n:zBA=>Value.string n) (fun n:Int=>Value.int .i64 n) b5 o2,zcB b6 o3,zbO (fun n:zBA=>Value.string n) (fun n:Bool=>Value.bool n) b7 o4,zv0 hd2.v o5]) (zaa [3,4,5,6,7,8] kr rfl) (zqx (enc:=zbb) (nest:=zba) (t:=79) (x:=(⟨o1,o2,o3,o4,o5⟩:zac)) (b:=b4) (hd:=(hd1,(⟨some ⟨b5,0,none⟩,0,0⟩:Hd),(⟨some ⟨b6,0,none⟩,0,0⟩:Hd),(⟨some ⟨b7,0,none⟩,0,0⟩:Hd),hd2))) (fun _ _ => ?_)
  show TX _ _ _ _ _ _ _ [cells b1 [zP b4] 23,cells b2 [zI 0,zI 0] 35,cells b3 [zP b4] 23,emp,emp,emp,emp,emp,emp,zfF ((ds1:List Nat).map zfp),zlM zbb zba 79 (zP b4) (some (⟨o1,o2,o3,o4,o5⟩:zac))]
  cases h
  exact zfJ (rs:=[.cell 2 23,.cell 3 35]) ds1 (zP b4) (.inl rfl) (zcR (k:=9) rfl) results14 (.cons (.cell zi9 (k:=0) rfl rfl) (.cons (.cells zja (k:=1) rfl rfl rfl) .nil)) rfl (zaa [10] kr rfl)
 exact fun b hb=>hb.elim
abbrev Wd:=zau
abbrev zlv:zBA:=⟨#[112,117,116]⟩
abbrev zpq:zBA:=⟨#[97,102,116,101,114]⟩
abbrev cAs:zBA:=⟨#[97,115]⟩
abbrev zmO:zBA:=⟨#[115,107,105,112]⟩
abbrev zf9:zBA:=⟨#[]⟩
def w0:Wd:=⟨0,zf9⟩
def wAt (l:List Wd) (k:Nat):Int:=(l.getD k w0).at_
def zkv (l:List Wd) (e:Int) (least most:Nat):Int:=if l.length<least then e else if most<l.length then wAt l most else -1
def zjJ (l:List Wd) (e:Int):Int :=
 if (l.getD 0 w0).text=zlv then (if 2<l.length∧(l.getD 2 w0).text≠zpq then wAt l 2 else zkv l e 4 4)
 else if (l.getD 0 w0).text=cAs then zkv l e 3 6
 else if (l.getD 0 w0).text=zmO then zkv l e 2 2
 else wAt l 0
theorem zji {α:Type} {l:List α} {k:Nat} {d:α} (h:k<l.length):l[k]?=some (l.getD k d):=by
 rw [List.getD_eq_getElem?_getD,List.getElem?_eq_getElem h]; rfl
theorem zhu {α:Type} {l:List α} {k:Nat} (d:α) (h:k<l.length):zea l (k:Int)=some (l.getD k d):=zdH (zji h)
theorem zum (l:List Wd) (e:Int) (h0:0<l.length):zew l e=some (zjJ l e):=by
 have hsh:∀ (least most:Nat),(zar (decide (((l.length:Int):Int)<(least:Int))) (some e) (zar (decide (((most:Int):Int)<(l.length:Int))) (zak (zea l (most:Int)) fun (q5:Wd)=>some q5.at_) (some (-1))))=some (zkv l e least most):=by
  intro least most
  unfold zkv
  by_cases h1:l.length<least
  ·rw [if_pos h1]; exact zaI (decide_eq_true (by omega)) rfl
  ·rw [if_neg h1]
   refine zaE (decide_eq_false (by omega)) ?_
   by_cases h2:most<l.length
   ·rw [if_pos h2]; exact zaI (decide_eq_true (by omega)) (zaV (zhu w0 h2) rfl)
   ·rw [if_neg h2]; exact zaE (decide_eq_false (by omega)) rfl
 unfold zew zjJ
 refine zce (zaV (zhu (k:=0) w0 h0) ?_)
 by_cases h1:(l.getD 0 w0).text=zlv
 ·rw [if_pos h1]
  refine zaI (decide_eq_true h1) (zce ?_)
  by_cases h2:2<l.length
  ·refine zaI (decide_eq_true (by omega)) (zaV (zhu (k:=2) w0 h2) ?_)
   by_cases h3:(l.getD 2 w0).text=zpq
   ·rw [if_neg (fun h=>h.2 h3)]
    exact zaE (by rw [decide_eq_true h3]; rfl) (hsh 4 4)
   ·rw [if_pos ⟨h2,h3⟩]
    exact zaI (by rw [decide_eq_false h3]; rfl) (zaV (zhu (k:=2) w0 h2) rfl)
  ·rw [if_neg (fun h=>h2 h.1)]
   exact zaE (decide_eq_false (by omega)) (hsh 4 4)
 ·rw [if_neg h1]
  refine zaE (decide_eq_false h1) ?_
  by_cases h2:(l.getD 0 w0).text=cAs
  ·rw [if_pos h2]; exact zaI (decide_eq_true h2) (hsh 3 6)
  ·rw [if_neg h2]
   refine zaE (decide_eq_false h2) ?_
   by_cases h3:(l.getD 0 w0).text=zmO
   ·rw [if_pos h3]; exact zaI (decide_eq_true h3) (hsh 2 2)
   ·rw [if_neg h3]; exact zaE (decide_eq_false h3) (zaV (zhu (k:=0) w0 h0) rfl)
abbrev zq0:zBA:=⟨#[32,97,102,116,101,114]⟩
abbrev zty:zBA:=⟨#[32]⟩
def fmS (put:Bool):Nat→List Wd→Int ⊕ (List zBA×zBA)
 | _,[]=>.inr ([],zf9)
 | i,w::ws =>
  if i=0∨(put=true∧i=2) then (match fmS put (i+1) ws with | .inl a=>.inl a | .inr (f,s)=>.inr (zf9::f,(if i=0 then zf9 else zq0)++s))
  else if zeP w.text=zf9 then .inl w.at_
  else match fmS put (i+1) ws with | .inl a=>.inl a | .inr (f,s)=>.inr (zeP w.text::f,(zty++zvy (zeP w.text))++s)
theorem zrb:∀ (l:List Tk) (k:Nat),k≤8→okR k l=true→k+l.length≤8
 | [],k,hk,_=>hk
 | x::l,k,hk,h=>by
  rw [okR,Bool.and_eq_true,Bool.and_eq_true] at h
  have h8:=of_decide_eq_true h.1.1
  have:=zrb l (k+1) h8 h.2
  rw [List.length_cons]; omega
theorem zsy (s:zBA):∀ y∈zlf s,y.2.size≤4:=by
 intro y hy
 obtain ⟨x,hx,rfl⟩:=List.mem_map.1 hy
 have:=zka (zgp _ x hx)
 show (⟨x.bs.toArray⟩:zBA).size≤4
 rw [zb4]
 simpa using this
theorem zlH (s:zBA):(zeP s).size≤32:=by
 unfold zeP
 by_cases h:okR 0 (zlf s)=true
 ·rw [if_pos h]
  have h1:=zrb _ 0 (by omega) h
  have h2:(zfc s).size≤4*((zlf s).map zes).length:=ziZ fun y hy=>by
   obtain ⟨x,hx,rfl⟩:=List.mem_map.1 hy
   exact zlQ (zsy s x hx)
  rw [List.length_map] at h2
  omega
 ·rw [if_neg h]; show 0≤32; omega
theorem zt4 {α:Type} (D:List α) (x y:α) (R:List α):(D++x::R).set ((D.length:Int)).toNat y=D++y::R:=by
 rw [Int.toNat_natCast,List.set_append_right _ _ (Nat.le_refl _),Nat.sub_self]; rfl
theorem zqb (o:zac) (l:List Wd) (q2:Wd) (J:zBA→zBA→List zBA→Option (zaM×zac)) (hl:l.length≤2147483648) (hw:∀ w∈l,w.text.size≤65536) :
  ∀ (n:Nat) (B A:List Wd) (D:List zBA) (said:zBA),l=A++B→D.length=A.length→B.length<n→said.size≤65536+1000*A.length →
   zaW (fun _ _ _=>none) (zb2 o l J q2) n said (D++List.replicate B.length zf9) (A.length:Int) =
    match fmS (decide (q2.text=zlv)) A.length B with
    | .inl a=>some ((⟨221,a⟩:zaM),o)
    | .inr (f,s)=>J q2.text (said++s) (D++f):=by
 intro n
 induction n with
 | zero=>intro B A D said _ _ h; omega
 | succ n ih =>
  intro B A D said hA hD hn hs
  rw [zgt]
  generalize hag:zaW (fun _ _ _=>none) (zb2 o l J q2) n=ag
  unfold zb2
  cases B with
  | nil =>
   refine zaE (decide_eq_false (by rw [hA]; simp)) ?_
   show J q2.text said (D++[])=J q2.text (said++zf9) (D++[])
   rw [show zf9=ByteArray.empty from rfl,ByteArray.append_empty]
  | cons w B =>
   have hAl:A.length≤2147483648:=by rw [hA,List.length_append] at hl; omega
   have hget:l[A.length]?=some w:=by rw [hA]; simp
   have hA':l=(A++[w])++B:=by rw [hA,List.append_assoc]; rfl
   have hlen':(A++[w]).length=A.length+1:=by simp
   have nx:=fun (x said':zBA) (hs':said'.size≤65536+1000*(A.length+1))=>ih B (A++[w]) (D++[x]) said' hA' (by rw [List.length_append,hlen',hD]; rfl) (by rw [List.length_cons] at hn; omega) (by rw [hlen']; exact hs')
   rw [hag,hlen'] at nx
   have h64:I64 ((A.length:Int)+1):=⟨by omega,by omega⟩
   have hrep:List.replicate (w::B).length zf9=zf9::List.replicate B.length zf9:=rfl
   have hDx:∀ (x:zBA) (R:List zBA),(D++[x])++R=D++x::R:=fun x R=>by rw [List.append_assoc]; rfl
   have skipW:∀ (z:zBA),z.size≤6→(A.length=0∨(decide (q2.text=zlv)=true∧A.length=2))→z=(if A.length=0 then zf9 else zq0) →
     (grd (I64 ((A.length:Int)+1))<|ag (said++z) (D++zf9::List.replicate B.length zf9) ((A.length:Int)+1))=match fmS (decide (q2.text=zlv)) A.length (w::B) with | .inl a=>some ((⟨221,a⟩:zaM),o) | .inr (f,s)=>J q2.text (said++s) (D++f):=by
    intro z hz hc hze
    refine zcf h64 ?_
    have:=nx zf9 (said++z) (by rw [ByteArray.size_append]; omega)
    rw [hDx] at this
    push_cast at this
    rw [this,fmS,if_pos hc]
    cases fmS (decide (q2.text=zlv)) (A.length+1) B with
    | inl a=>rfl
    | inr fs =>
     obtain ⟨f,s⟩:=fs
     show J q2.text ((said++z)++s) ((D++[zf9])++f)=J q2.text (said++(_++s)) (D++zf9::f)
     rw [hDx,ByteArray.append_assoc,hze]
   have spellW:¬ (A.length=0∨(decide (q2.text=zlv)=true∧A.length=2)) →
     (zak (zdM w.text) fun (r2:zBA)=>zak (zea (D++zf9::List.replicate B.length zf9) (A.length:Int)) fun (q4:zBA)=>zak (zea ((D++zf9::List.replicate B.length zf9).set ((A.length:Int):Int).toNat r2) (A.length:Int)) fun (q5:zBA) =>
      zar (decide (q5=(⟨#[]⟩:zBA))) (some ((⟨221,w.at_⟩:zaM),o)) (
       zak (zea ((D++zf9::List.replicate B.length zf9).set ((A.length:Int):Int).toNat r2) (A.length:Int)) fun (q6:zBA)=>zak (zdj q6) fun (r3:zBA) =>
        grd ((⟨#[32]⟩:zBA).size+r3.size≤9223372036854775807)<|grd (said.size+((⟨#[32]⟩:zBA)++r3).size≤9223372036854775807) <|
         grd (I64 ((A.length:Int)+1))<|ag (said++((⟨#[32]⟩:zBA)++r3)) ((D++zf9::List.replicate B.length zf9).set ((A.length:Int):Int).toNat r2) ((A.length:Int)+1)))=match fmS (decide (q2.text=zlv)) A.length (w::B) with | .inl a=>some ((⟨221,a⟩:zaM),o) | .inr (f,s)=>J q2.text (said++s) (D++f):=by
    intro hc
    have hws:w.text.size≤65536:=hw w (by rw [hA]; simp)
    have h32:=zlH w.text
    have hset:=zt4 D zf9 (zeP w.text) (List.replicate B.length zf9)
    rw [hD] at hset
    have hg:∀ (x:zBA) (R:List zBA),zea (D++x::R) (A.length:Int)=some x:=fun x R=>zdH (by rw [← hD]; simp)
    refine zaV (zt2 w.text hws) (zaV (hg _ _) ?_)
    rw [hset,fmS,if_neg hc]
    refine zaV (hg _ _) ?_
    by_cases he:zeP w.text=zf9
    ·rw [if_pos he]; exact zaI (decide_eq_true he) rfl
    ·rw [if_neg he]
     have ht:=(zhv (zeP w.text) (by omega)).2.2.2
     have hb1:(⟨#[32]⟩:zBA).size=1:=rfl
     refine zaE (decide_eq_false he) (zaV (hg _ _) (zaV (zwS _ (by omega)) (zcf (by omega) (zcf (by rw [ByteArray.size_append]; omega) (zcf h64 ?_)))))
     have:=nx (zeP w.text) (said++(zty++zvy (zeP w.text))) (by rw [ByteArray.size_append,ByteArray.size_append]; show _+(1+_)≤_; omega)
     rw [hDx] at this
     push_cast at this
     rw [this]
     cases fmS (decide (q2.text=zlv)) (A.length+1) B with
     | inl a=>rfl
     | inr fs =>
      obtain ⟨f,s⟩:=fs
      show J q2.text ((said++_)++s) ((D++[_])++f)=J q2.text (said++(_++s)) (D++_::f)
      rw [hDx,ByteArray.append_assoc]
   rw [hrep]
   refine zaI (decide_eq_true (by rw [hA]; simp; omega)) (zce (zce (zaV (zdH hget) ?_)))
   by_cases h0:A.length=0
   ·refine zaI (by rw [h0]; rfl) (zce (zaE (by rw [h0]; rfl) ?_))
    have:=skipW zf9 (by show 0≤6; omega) (.inl h0) (by rw [if_pos h0])
    rw [show zf9=ByteArray.empty from rfl,ByteArray.append_empty] at this
    exact this
   ·refine zaE (beq_eq_false_iff_ne.2 (by omega)) ?_
    by_cases hp:q2.text=zlv
    ·refine zaI (decide_eq_true hp) ?_
     by_cases h2:A.length=2
     ·refine zaI (by rw [h2]; rfl) (zce (zaI (decide_eq_true (by omega)) (zcf (by show said.size+6≤_; omega) ?_)))
      exact skipW zq0 (by show 6≤6; omega) (.inr ⟨decide_eq_true hp,h2⟩) (by rw [if_neg h0])
     ·exact zaE (beq_eq_false_iff_ne.2 (by omega)) (spellW (fun h=>by rcases h with h | h; exact h0 h; exact h2 h.2))
    ·exact zaE (decide_eq_false hp) (spellW (fun h=>by rcases h with h | h; exact h0 h; exact hp (of_decide_eq_true h.1)))
section
variable {κ ν:Type} [DecidableEq κ]
theorem ziI (k:κ) (v:ν) (q:κ):∀ L:List (κ×ν),zbJ q (zgF k v L)=if q=k then some v else zbJ q L
 | []=>rfl
 | p::L=>by
  have ih:=ziI k v q L
  unfold zgF
  by_cases h:k=p.1
  ·rw [if_pos h]
   unfold zbJ
   by_cases hq:q=k
   ·rw [if_pos hq,if_pos hq]
   ·rw [if_neg hq,if_neg hq,if_neg (by rw [← h]; exact hq)]
  ·rw [if_neg h]
   unfold zbJ
   by_cases hq:q=p.1
   ·rw [if_pos hq,if_pos hq,if_neg (by rw [hq]; exact fun e=>h e.symm)]
   ·rw [if_neg hq,if_neg hq,ih]
end
def zm1:List zBA→zBA→Option Int
 | [],_=>none
 | x::l,u=>if u=x then some 0 else (zm1 l u).map (· + 1)
theorem zmx:∀ {l:List zBA} {u:zBA} {i:Int},zm1 l u=some i→0≤i∧i<(l.length:Int)∧l[i.toNat]?=some u
 | [],u,i,h=>by cases h
 | x::l,u,i,h=>by
  rw [zm1] at h
  split at h
  ·rename_i e
   injection h with h
   subst h
   exact ⟨Int.le_refl _,by rw [List.length_cons]; push_cast; omega,by rw [e]; rfl⟩
  ·cases h1:zm1 l u with
   | none=>rw [h1] at h; cases h
   | some j =>
    rw [h1] at h
    injection h with h
    subst h
    obtain ⟨a,b,c⟩:=zmx h1
    show 0≤j+1∧_
    refine ⟨by omega,by rw [List.length_cons]; push_cast; omega,?_⟩
    rw [show (j+1).toNat=j.toNat+1 by omega,List.getElem?_cons_succ]
    exact c
theorem idxU_mem:∀ {l:List zBA} {u:zBA},(zm1 l u).isSome=true↔u∈l
 | [],u=>by simp [zm1]
 | x::l,u=>by
  rw [zm1]
  by_cases h:u=x
  ·rw [if_pos h]; simp [h]
  ·rw [if_neg h,Option.isSome_map,idxU_mem]; simp [h]
def zqC:List zBA→Int→List (zBA×Int)→List (zBA×Int)
 | [],_,m=>m
 | u::us,i,m=>zqC us (i+1) (zgF u i m)
theorem zmq:∀ (us:List zBA) (i:Int) (m:List (zBA×Int)) (u:zBA),us.Nodup→zbJ u (zqC us i m)=match zm1 us u with | some k=>some (i+k) | none=>zbJ u m
 | [],i,m,u,_=>rfl
 | x::us,i,m,u,h=>by
  rw [List.nodup_cons] at h
  rw [zqC,zmq us (i+1) _ u h.2,zm1,ziI]
  by_cases hu:u=x
  ·subst hu
   have:zm1 us u=none:=by
    cases hi:zm1 us u with
    | none=>rfl
    | some j =>
     exact absurd (idxU_mem.1 (by rw [hi]; rfl)) h.1
   rw [this,if_pos rfl]
   simp
  ·rw [if_neg hu,if_neg hu]
   cases zm1 us u with
   | none=>rfl
   | some j =>
    show some (i+1+j)=some (i+(j+1))
    congr 1; omega
theorem zsP (o:zac) (h:o.units.length≤1000000000):zct o=some ⟨o.units,zqC o.units 0 o.place,o.fors,o.skips,o.lines⟩:=by
 unfold zct
 have key:∀ (n k:Nat) (m:List (zBA×Int)),k≤o.units.length→o.units.length - k<n→zaW (fun _ _=>none) (zbH o) n m (k:Int)=some ⟨o.units,zqC (o.units.drop k) (k:Int) m,o.fors,o.skips,o.lines⟩:=by
  intro n
  induction n with
  | zero=>intro k m _ h; omega
  | succ n ih =>
   intro k m hk hn
   rw [zgt]
   generalize hag:zaW (fun _ _=>none) (zbH o) n=ag
   unfold zbH
   by_cases hlt:k<o.units.length
   ·refine zaI (decide_eq_true (by omega)) (zaV (zhu zf9 hlt) (zcf ⟨by omega,by omega⟩ ?_))
    have:=ih (k+1) (zgF (o.units.getD k zf9) (k:Int) m) (by omega) (by omega)
    rw [hag] at this
    push_cast at this
    rw [this,List.drop_eq_getElem_cons hlt,zqC]
    congr 3
    rw [List.getD_eq_getElem?_getD,List.getElem?_eq_getElem hlt]; rfl
   ·refine zaE (decide_eq_false (by omega)) ?_
    rw [List.drop_eq_nil_of_le (by omega)]; rfl
 have:=key zcy 0 o.place (Nat.zero_le _) (by unfold zcy; omega)
 rw [List.drop_zero] at this
 exact this
def zup (o:zac) (u:zBA):Bool:=(zbJ u o.place).isSome||(zbJ u o.fors).isSome
theorem zyt (o:zac) (u:zBA):zdu o u=some (zup o u):=by
 unfold zdu zup
 cases (zbJ u o.place).isSome with
 | true=>exact zaI rfl rfl
 | false=>exact zaE rfl (by rw [Bool.false_or])
def zll (o:zac):Nat→List zBA→List Wd→Option Int
 | i,f::fs,w::ws=>if 1<i∧f≠zf9∧(zbJ f o.place).isSome=false then some w.at_ else zll o (i+1) fs ws
 | _,_,_=>none
def zt7 (l:List Wd) (s:zBA):zBA:=(l.getD 0 w0).text++s
def fD (fs:List zBA) (k:Nat):zBA:=fs.getD k zf9
def zw1 (o:zac) (fs:List zBA) (sd:zBA):zac :=
 let us:=zhT o.units ((zbJ (fD fs 3) o.place).getD 0+1) (fD fs 1)
 ⟨us,zqC us 0 o.place,o.fors,o.skips,o.lines++[sd]⟩
def zmu (o:zac) (l:List Wd) (e:Int):zaM×zac :=
 if o.lines.length=256 then (⟨3,wAt l 0⟩,o)
 else if 0≤zjJ l e then (⟨220,zjJ l e⟩,o)
 else match fmS (decide ((l.getD 0 w0).text=zlv)) 0 l with
  | .inl a=>(⟨221,a⟩,o)
  | .inr (fs,s) =>
   if (l.getD 0 w0).text=zmO then
    (if (zbJ (zgb (fD fs 1)) o.skips).getD false=true then (⟨222,wAt l 1⟩,o) else (⟨0,0⟩,⟨o.units,o.place,o.fors,zgF (zgb (fD fs 1)) true o.skips,o.lines++[zt7 l s]⟩))
   else if zup o (fD fs 1)=true then (⟨222,wAt l 1⟩,o)
   else match zll o 0 fs l with
    | some a=>(⟨223,a⟩,o)
    | none=>(⟨0,0⟩,if (l.getD 0 w0).text=zlv then zw1 o fs (zt7 l s) else ⟨o.units,o.place,zgF (fD fs 1) (fs.drop 2) o.fors,o.skips,o.lines++[zt7 l s]⟩)
theorem zri (o:zac) (l:List Wd) (fs:List zBA) (J:Option (zaM×zac)) (hl:fs.length=l.length) (hb:l.length≤2147483648):∀ (n:Nat) (A B:List zBA) (C D:List Wd),fs=A++B→l=C++D→A.length=C.length→B.length<n →
  zaW (fun _=>none) (zbZ o l fs J) n (A.length:Int)=match zll o A.length B D with | some a=>some ((⟨223,a⟩:zaM),o) | none=>J:=by
 intro n
 induction n with
 | zero=>intro A B C D _ _ _ h; omega
 | succ n ih =>
  intro A B C D hA hC hAC hn
  rw [zgt]
  generalize hag:zaW (fun _=>none) (zbZ o l fs J) n=ag
  unfold zbZ
  have hBD:B.length=D.length:=by
   rw [hA,hC,List.length_append,List.length_append] at hl; omega
  cases B with
  | nil=>exact zaE (decide_eq_false (by rw [hA]; simp)) rfl
  | cons f B =>
   cases D with
   | nil=>cases hBD
   | cons w D =>
    have hAl:A.length≤2147483648:=by rw [hC,List.length_append] at hb; omega
    have hgf:fs[A.length]?=some f:=by rw [hA]; simp
    have hgw:l[A.length]?=some w:=by rw [hC,hAC]; simp
    have nx:=ih (A++[f]) B (C++[w]) D (by rw [hA,List.append_assoc]; rfl) (by rw [hC,List.append_assoc]; rfl) (by simp [hAC]) (by rw [List.length_cons] at hn; omega)
    rw [hag,show (A++[f]).length=A.length+1 by simp] at nx
    push_cast at nx
    have go:(grd (I64 ((A.length:Int)+1))<|ag ((A.length:Int)+1))=match zll o (A.length+1) B D with | some a=>some ((⟨223,a⟩:zaM),o) | none=>J:=zcf ⟨by omega,by omega⟩ nx
    refine zaI (decide_eq_true (by rw [hA]; simp; omega)) (zce (zaV (zdH hgf) ?_))
    rw [zll]
    by_cases h1:1<A.length
    ·refine zaI (decide_eq_true (by omega)) ?_
     by_cases h2:f=zf9
     ·rw [if_neg (fun h=>h.2.1 h2)]
      exact zaE (by rw [decide_eq_true h2]; rfl) go
     ·refine zaI (by rw [decide_eq_false h2]; rfl) ?_
      cases h3:(zbJ f o.place).isSome with
      | true=>rw [if_neg (fun h=>by cases h.2.2)]; exact zaE rfl go
      | false=>rw [if_pos ⟨h1,h2,rfl⟩]; exact zaI rfl (zaV (zdH hgw) rfl)
    ·rw [if_neg (fun h=>h1 h.1)]
     exact zaE (decide_eq_false (by omega)) go
theorem zmB (put:Bool):∀ (l:List Wd) (i:Nat) (f:List zBA) (s:zBA),fmS put i l=.inr (f,s)→f.length=l.length
 | [],i,f,s,h=>by
  rw [fmS] at h
  injection h with h
  injection h with h1 h2
  rw [← h1]; rfl
 | w::l,i,f,s,h=>by
  rw [fmS] at h
  cases hr:fmS put (i+1) l with
  | inl a =>
   rw [hr] at h
   split at h
   ·cases h
   ·split at h <;> cases h
  | inr fs =>
   obtain ⟨f',s'⟩:=fs
   have ih:=zmB put l (i+1) f' s' hr
   rw [hr] at h
   split at h
   ·injection h with h
    injection h with h1 h2
    rw [← h1,List.length_cons,List.length_cons,ih]
   ·split at h
    ·cases h
    ·injection h with h
     injection h with h1 h2
     rw [← h1,List.length_cons,List.length_cons,ih]
theorem zkH {l:List Wd} {e:Int} (he:0≤e) (ha:∀ w∈l,0≤w.at_) (h0:0<l.length) (h:¬ 0≤zjJ l e) :
  ((l.getD 0 w0).text=zlv∧l.length=4∧(l.getD 2 w0).text=zpq)∨((l.getD 0 w0).text=cAs∧3≤l.length∧l.length≤6)∨((l.getD 0 w0).text=zmO∧l.length=2):=by
 have hat:∀ k,k<l.length→0≤wAt l k:=fun k hk=>ha _ (List.mem_of_getElem? (zji hk))
 have hsh:∀ a b,¬ 0≤zkv l e a b→a≤l.length∧l.length≤b:=by
  intro a b hh
  unfold zkv at hh
  by_cases h1:l.length<a
  ·rw [if_pos h1] at hh; exact absurd he hh
  ·rw [if_neg h1] at hh
   by_cases h2:b<l.length
   ·rw [if_pos h2] at hh; exact absurd (hat b h2) hh
   ·omega
 unfold zjJ at h
 by_cases h1:(l.getD 0 w0).text=zlv
 ·rw [if_pos h1] at h
  by_cases h2:2<l.length∧(l.getD 2 w0).text≠zpq
  ·rw [if_pos h2] at h; exact absurd (hat 2 h2.1) h
  ·rw [if_neg h2] at h
   have:=hsh 4 4 h
   refine .inl ⟨h1,by omega,?_⟩
   exact Decidable.byContradiction fun hh=>h2 ⟨by omega,hh⟩
 ·rw [if_neg h1] at h
  by_cases h2:(l.getD 0 w0).text=cAs
  ·rw [if_pos h2] at h; exact .inr (.inl ⟨h2,hsh 3 6 h⟩)
  ·rw [if_neg h2] at h
   by_cases h3:(l.getD 0 w0).text=zmO
   ·rw [if_pos h3] at h
    have:=hsh 2 2 h
    exact .inr (.inr ⟨h3,by omega⟩)
   ·rw [if_neg h3] at h; exact absurd (hat 0 h0) h
theorem zul (x:Tk):zes (zes x)=zes x:=by
 cases h:zgv x with
 | true =>
  have e:zes x=(zbe x.1,Utf8.encode (zbe x.1)):=by unfold zes; rw [h]; rfl
  have h1:zgv (zes x)=true:=by rw [zpc]; exact h
  rw [e] at h1 ⊢
  unfold zes
  rw [h1,if_pos rfl]
  show (zbe (zbe x.1),Utf8.encode (zbe (zbe x.1)))=_
  rw [(zjH (show zaY x.1=true from h)).2.1]
 | false =>
  have e:zes x=x:=by unfold zes; rw [h]; rfl
  rw [e,e]
def SpU (u:zBA):Prop:=u≠zf9∧zeP u=u
theorem zn5 (s:zBA) (hs:s.size≤65536):zfc (zfc s)=zfc s:=by
 show zj5 ((zlf (zfc s)).map zes)=zj5 ((zlf s).map zes)
 rw [zlE s hs,List.map_map]
 exact congrArg zj5 (List.map_congr_left fun x _=>zul x)
theorem zsE (s:zBA) (hs:s.size≤65536) (h:zeP s≠zf9):SpU (zeP s):=by
 refine ⟨h,?_⟩
 unfold zeP at h ⊢
 by_cases hk:okR 0 (zlf s)=true
 ·rw [if_pos hk,zlE s hs,zog,if_pos hk,zn5 s hs]
 ·rw [if_neg hk] at h; exact absurd rfl h
theorem zrA (put:Bool):∀ (l:List Wd) (i:Nat) (f:List zBA) (s:zBA),fmS put i l=.inr (f,s)→∀ k w,l[k]?=some w →
  f[k]?=some (if i+k=0∨(put=true∧i+k=2) then zf9 else zeP w.text)∧(¬ (i+k=0∨(put=true∧i+k=2))→zeP w.text≠zf9)
 | [],i,f,s,_,k,w,hk=>by simp at hk
 | w'::l,i,f,s,h,k,w,hk=>by
  rw [fmS] at h
  cases hr:fmS put (i+1) l with
  | inl a =>
   rw [hr] at h
   split at h
   ·cases h
   ·split at h <;> cases h
  | inr fs =>
   obtain ⟨f',s'⟩:=fs
   have ih:=zrA put l (i+1) f' s' hr
   rw [hr] at h
   by_cases hc:i=0∨(put=true∧i=2)
   ·rw [if_pos hc] at h
    injection h with h
    injection h with h1 h2
    subst h1
    cases k with
    | zero =>
     injection hk with hk
     subst hk
     rw [Nat.add_zero,if_pos hc]
     exact ⟨rfl,fun h=>absurd hc h⟩
    | succ k =>
     have:=ih k w hk
     rw [show i+1+k=i+(k+1) by omega] at this
     exact this
   ·rw [if_neg hc] at h
    by_cases he:zeP w'.text=zf9
    ·rw [if_pos he] at h; cases h
    ·rw [if_neg he] at h
     injection h with h
     injection h with h1 h2
     subst h1
     cases k with
     | zero =>
      injection hk with hk
      subst hk
      rw [Nat.add_zero,if_neg hc]
      exact ⟨rfl,fun _=>he⟩
     | succ k =>
      have:=ih k w hk
      rw [show i+1+k=i+(k+1) by omega] at this
      exact this
theorem zjd (o:zac):∀ (fs:List zBA) (ws:List Wd) (i:Nat),fs.length=ws.length→zll o i fs ws=none→∀ k f,fs[k]?=some f→1<i+k→f≠zf9→(zbJ f o.place).isSome=true
 | [],ws,i,_,_,k,f,hk,_,_=>by simp at hk
 | f'::fs,[],i,hl,_,_,_,_,_,_=>by cases hl
 | f'::fs,w::ws,i,hl,h,k,f,hk,h1,hf=>by
  rw [zll] at h
  split at h
  ·cases h
  ·rename_i hn
   cases k with
   | zero =>
    injection hk with hk
    subst hk
    cases hp:(zbJ f' o.place).isSome with
    | true=>rfl
    | false=>exact absurd ⟨by omega,hf,hp⟩ hn
   | succ k=>exact zjd o fs ws (i+1) (by simpa using hl) h k f hk (by omega) hf
structure InvO (o:zac):Prop where
 pl:∀ u,zbJ u o.place=zm1 o.units u
 nd:o.units.Nodup
 ul:o.units.length≤90+o.lines.length
 ll:o.lines.length≤256
 fo:∀ u xs,zbJ u o.fors=some xs→xs≠[]∧xs.length≤4∧∀ x∈xs,x∈o.units
 dj:∀ u,(zbJ u o.fors).isSome=true→u ∉ o.units
 us:∀ u∈o.units,SpU u
 fk:∀ u,(zbJ u o.fors).isSome=true→SpU u
 lw:26≤o.units.length
theorem InvO.ok {o:zac} (h:InvO o):zsk o where
 fo:=fun u xs hx=>⟨(h.fo u xs hx).1,(h.fo u xs hx).2.1⟩
 pl:=fun u i hi=>by
  have hi:zbJ u o.place=some i:=hi
  rw [h.pl] at hi
  have:=zmx hi
  have h1:=h.ul; have h2:=h.ll
  omega
theorem zrC {fs:List zBA} {k:Nat} (h:k<fs.length):fs[k]?=some (fD fs k):=zji h
theorem zkg {l:List Wd} {put:Bool} {f:List zBA} {s:zBA} (h:fmS put 0 l=.inr (f,s)) (k:Nat) (hk:k<l.length) (hn:¬ (k=0∨(put=true∧k=2))):fD f k=zeP (l.getD k w0).text∧fD f k≠zf9:=by
 have hl:=zmB put l 0 f s h
 obtain ⟨h1,h2⟩:=zrA put l 0 f s h k _ (zji hk)
 rw [Nat.zero_add,if_neg hn,zrC (by omega)] at h1
 injection h1 with h1
 rw [Nat.zero_add] at h2
 exact ⟨h1,by rw [h1]; exact h2 hn⟩
theorem zoh {o:zac} (h:InvO o) {u:zBA} (hu:(zbJ u o.place).isSome=false):u ∉ o.units:=by
 intro hm
 have:=idxU_mem.2 hm
 rw [← h.pl,hu] at this
 cases this
theorem zsU {o:zac} (h:InvO o) {u:zBA} (hu:(zbJ u o.place).isSome=true):u∈o.units:=by
 rw [h.pl] at hu
 exact idxU_mem.1 hu
theorem zvW {o:zac} (h:InvO o) (l:List Wd) (e:Int) (he:0≤e) (h0:0<l.length) (hl:l.length≤1000000000) (ha:∀ w∈l,0≤w.at_) (hw:∀ w∈l,w.text.size≤65536):zda o l e=some (zmu o l e):=by
 have hul:=h.ul; have hll:=h.ll
 unfold zda zmu
 by_cases h1:o.lines.length=256
 ·rw [if_pos h1]
  exact zaI (by rw [h1]; rfl) (zaV (zhu (k:=0) w0 h0) rfl)
 rw [if_neg h1]
 refine zaE (beq_eq_false_iff_ne.2 (by omega)) (zaV (zum l e h0) ?_)
 by_cases h2:0≤zjJ l e
 ·rw [if_pos h2]; exact zaI (decide_eq_true h2) rfl
 rw [if_neg h2]
 have hsh:=zkH he ha h0 h2
 refine zaE (decide_eq_false h2) (zce (zaV (zhu (k:=0) w0 h0) (zcf ⟨by omega,by omega⟩ ?_)))
 have hq:(l.getD 0 w0).text.size≤65536:=hw _ (List.mem_of_getElem? (zji h0))
 have hloop:=fun J=>zqb o l (l.getD 0 w0) J (by omega) hw zcy l [] [] (l.getD 0 w0).text rfl rfl (by unfold zcy; omega) (by show _≤_+1000*0; omega)
 rw [Int.toNat_natCast]
 refine (hloop _).trans ?_
 cases hf:fmS (decide ((l.getD 0 w0).text=zlv)) ([]:List Wd).length l with
 | inl a=>rfl
 | inr fs =>
  obtain ⟨fs,s⟩:=fs
  have hf:fmS (decide ((l.getD 0 w0).text=zlv)) 0 l=.inr (fs,s):=hf
  have hlen:=zmB _ _ _ _ _ hf
  have h2l:2≤l.length:=by rcases hsh with h | h | h <;> omega
  have hg:=fun (k:Nat) (hk:k<l.length)=>zhu (l:=fs) (k:=k) zf9 (by omega)
  show zar (decide ((l.getD 0 w0).text=zmO)) _ _=some (ite ((l.getD 0 w0).text=zmO) _ _)
  by_cases hsk:(l.getD 0 w0).text=zmO
  ·rw [if_pos hsk]
   have h32:(fD fs 1).size≤65536:=by
    have:=(zkg hf 1 (by omega) (by omega)).1
    rw [this]; have:=zlH (l.getD 1 w0).text; omega
   refine zaI (decide_eq_true hsk) (zaV (hg 1 (by omega)) (zaV (zpe _ h32) ?_))
   show zar ((zbJ (zgb (fD fs 1)) o.skips).getD false) _ _=_
   cases hb:(zbJ (zgb (fD fs 1)) o.skips).getD false with
   | true=>rw [if_pos rfl]; exact zaI rfl (zaV (zhu (k:=1) w0 (by omega)) rfl)
   | false=>rw [if_neg (by simp)]; exact zaE rfl (zcf (by omega) rfl)
  ·rw [if_neg hsk]
   refine zaE (decide_eq_false hsk) (zaV (hg 1 (by omega)) (zaV (zyt o _) ?_))
   show zar (zup o (fD fs 1)) _ _=_
   cases hb:zup o (fD fs 1) with
   | true=>rw [if_pos rfl]; exact zaI rfl (zaV (zhu (k:=1) w0 (by omega)) rfl)
   | false =>
    rw [if_neg (by simp)]
    refine zaE rfl (zce ?_)
    have hlk:=fun J=>zri o l fs J hlen (by omega) zcy [] fs [] l rfl rfl rfl (by unfold zcy; omega)
    refine (hlk _).trans ?_
    cases hla:zll o ([]:List zBA).length fs l with
    | some a=>rfl
    | none =>
     have hla:zll o 0 fs l=none:=hla
     show zbx _ _=some ((⟨0,0⟩:zaM),ite ((l.getD 0 w0).text=zlv) _ _)
     refine zce ?_
     by_cases hp:(l.getD 0 w0).text=zlv
     ·rw [if_pos hp]
      have h4:l.length=4:=by
       rcases hsh with h | h | h
       ·exact h.2.1
       ·rw [h.1] at hp; exact absurd hp (by decide)
       ·exact absurd h.1 hsk
      have hn3:=(zkg hf 3 (by omega) (by omega)).2
      have h3:=zjd o fs l 0 hlen hla 3 _ (zrC (by omega)) (by omega) hn3
      obtain ⟨p,hp3⟩:=Option.isSome_iff_exists.1 h3
      have hr:=hp3
      rw [h.pl] at hr
      have hrng:=zmx hr
      have hD3:fs.getD 3 zf9=fD fs 3:=rfl
      have hins:(zhT o.units (p+1) (fD fs 1)).length=o.units.length+1:=by
       unfold zhT
       rw [List.length_append,List.length_cons,List.length_take,List.length_drop]; omega
      refine zaI (decide_eq_true hp) (zaV (hg 3 (by omega)) ?_)
      rw [hD3,hp3,Option.getD_some]
      refine zcf ⟨by omega,by omega⟩ (zaV (hg 1 (by omega)) (zcf ⟨by omega,by omega,by omega⟩ (zaV (zsP _ (by show (zhT o.units (p+1) (fD fs 1)).length≤_; omega)) ?_)))
      show (grd (o.lines.length+1≤2147483648) _)=_
      refine zcf (by omega) ?_
      unfold zw1
      rw [hp3,Option.getD_some]; rfl
     ·rw [if_neg hp]
      have hcut:zhi ([]++fs) 2 ((([]++fs:List zBA).length:Nat):Int)=fs.drop 2:=zrM fs 2
      refine zaE (decide_eq_false hp) (zaV (hg 1 (by omega)) (zcf ⟨by omega,by show (2:Int)≤(fs.length:Int); omega,Int.le_refl _⟩ ?_))
      rw [hcut]
      exact zcf (by omega) rfl
theorem insL_mem {xs:List zBA} {i:Int} {x u:zBA}:u∈zhT xs i x↔u=x∨u∈xs:=by
 unfold zhT
 rw [List.mem_append,List.mem_cons]
 have:u∈xs↔u∈xs.take i.toNat∨u∈xs.drop i.toNat:=by rw [← List.mem_append,List.take_append_drop]
 rw [this]
 constructor
 ·rintro (h | h | h)
  ·exact .inr (.inl h)
  ·exact .inl h
  ·exact .inr (.inr h)
 ·rintro (h | h | h)
  ·exact .inr (.inl h)
  ·exact .inl h
  ·exact .inr (.inr h)
theorem zp5 {xs:List zBA} {i:Int} {x:zBA} (h:xs.Nodup) (hx:x ∉ xs):(zhT xs i x).Nodup:=by
 have hp:(zhT xs i x).Perm (x::xs):=by
  unfold zhT
  have:(xs.take i.toNat++x::xs.drop i.toNat).Perm (x::(xs.take i.toNat++xs.drop i.toNat)):=List.perm_middle
  rw [List.take_append_drop] at this
  exact this
 exact hp.nodup_iff.2 (List.nodup_cons.2 ⟨hx,h⟩)
theorem zpb {o:zac} (h:InvO o) (l:List Wd) (e:Int) (he:0≤e) (h0:0<l.length) (ha:∀ w∈l,0≤w.at_) (hw:∀ w∈l,w.text.size≤65536):InvO (zmu o l e).2:=by
 have hul:=h.ul; have hll:=h.ll
 unfold zmu
 by_cases h1:o.lines.length=256
 ·rw [if_pos h1]; exact h
 rw [if_neg h1]
 by_cases h2:0≤zjJ l e
 ·rw [if_pos h2]; exact h
 rw [if_neg h2]
 have hsh:=zkH he ha h0 h2
 cases hf:fmS (decide ((l.getD 0 w0).text=zlv)) 0 l with
 | inl a=>exact h
 | inr fs =>
  obtain ⟨fs,s⟩:=fs
  have hlen:=zmB _ _ _ _ _ hf
  have h2l:2≤l.length:=by rcases hsh with h | h | h <;> omega
  show InvO (Prod.snd (ite _ _ _))
  by_cases hsk:(l.getD 0 w0).text=zmO
  ·rw [if_pos hsk]
   cases hb:(zbJ (zgb (fD fs 1)) o.skips).getD false with
   | true=>rw [if_pos rfl]; exact h
   | false =>
    rw [if_neg (by simp)]
    exact ⟨h.pl,h.nd,by show o.units.length≤90+(o.lines++_).length; rw [List.length_append]; omega,by show (o.lines++_).length≤_; rw [List.length_append]; show _+1≤_; omega,h.fo,h.dj,h.us,h.fk,h.lw⟩
  ·rw [if_neg hsk]
   cases hb:zup o (fD fs 1) with
   | true=>rw [if_pos rfl]; exact h
   | false =>
    rw [if_neg (by simp)]
    have hb1:(zbJ (fD fs 1) o.place).isSome=false∧(zbJ (fD fs 1) o.fors).isSome=false:=by
     unfold zup at hb
     exact Bool.or_eq_false_iff.1 hb
    have hnu:=zoh h hb1.1
    cases hla:zll o 0 fs l with
    | some a=>exact h
    | none =>
     obtain ⟨hs1,hs2⟩:=zkg hf 1 (by omega) (by omega)
     have hsp:SpU (fD fs 1):=by
      rw [hs1] at hs2 ⊢
      exact zsE _ (hw _ (List.mem_of_getElem? (zji (by omega)))) hs2
     show InvO (ite _ _ _)
     by_cases hp:(l.getD 0 w0).text=zlv
     ·rw [if_pos hp]
      have h4:l.length=4:=by
       rcases hsh with h | h | h
       ·exact h.2.1
       ·rw [h.1] at hp; exact absurd hp (by decide)
       ·exact absurd h.1 hsk
      unfold zw1
      generalize (zbJ (fD fs 3) o.place).getD 0+1=i
      have hnd:=zp5 (i:=i) h.nd hnu
      refine ⟨fun u => ?_,hnd,?_,?_,fun u xs hx => ?_,fun u hu => ?_,fun u hu => ?_,h.fk,?_⟩
      ·show zbJ u (zqC (zhT o.units i (fD fs 1)) 0 o.place)=zm1 (zhT o.units i (fD fs 1)) u
       rw [zmq _ _ _ _ hnd]
       cases hi:zm1 (zhT o.units i (fD fs 1)) u with
       | some k=>show some (0+k)=_; rw [Int.zero_add]
       | none =>
        show zbJ u o.place=none
        rw [h.pl]
        cases hj:zm1 o.units u with
        | none=>rfl
        | some j =>
         have hm:u∈zhT o.units i (fD fs 1):=insL_mem.2 (.inr (idxU_mem.1 (by rw [hj]; rfl)))
         have:=idxU_mem.2 hm
         rw [hi] at this; cases this
      ·show (zhT o.units i (fD fs 1)).length≤90+(o.lines++_).length
       unfold zhT
       simp only [List.length_append,List.length_cons,List.length_nil,List.length_take,List.length_drop]
       omega
      ·show (o.lines++_).length≤256
       rw [List.length_append]; show _+1≤_; omega
      ·have:=h.fo u xs hx
       exact ⟨this.1,this.2.1,fun x hx=>insL_mem.2 (.inr (this.2.2 x hx))⟩
      ·intro hm
       rcases insL_mem.1 hm with rfl | hm
       ·have hu:(zbJ (fD fs 1) o.fors).isSome=true:=hu
        rw [hb1.2] at hu; cases hu
       ·exact h.dj u hu hm
      ·rcases insL_mem.1 hu with rfl | hm
       ·exact hsp
       ·exact h.us u hm
      ·have:=h.lw
       show 26≤(zhT o.units i (fD fs 1)).length
       unfold zhT
       rw [List.length_append,List.length_cons,List.length_take,List.length_drop]; omega
     ·rw [if_neg hp]
      have h36:3≤l.length∧l.length≤6:=by
       rcases hsh with h | h | h
       ·exact absurd h.1 hp
       ·exact h.2
       ·exact absurd h.1 hsk
      have hput:decide ((l.getD 0 w0).text=zlv)=false:=decide_eq_false hp
      refine ⟨h.pl,h.nd,by show o.units.length≤90+(o.lines++_).length; rw [List.length_append]; omega,by show (o.lines++_).length≤_; rw [List.length_append]; show _+1≤_; omega,fun u xs hx => ?_,fun u hu => ?_,h.us,fun u hu => ?_,h.lw⟩
      ·have hx:zbJ u (zgF (fD fs 1) (fs.drop 2) o.fors)=some xs:=hx
       rw [ziI] at hx
       by_cases hu:u=fD fs 1
       ·rw [if_pos hu] at hx
        injection hx with hx
        subst hx
        refine ⟨fun e => ?_,by rw [List.length_drop]; omega,fun x hx => ?_⟩
        ·have:=congrArg List.length e
         rw [List.length_drop,List.length_nil] at this; omega
        ·obtain ⟨k,hk⟩:=List.mem_iff_getElem?.1 hx
         rw [List.getElem?_drop] at hk
         have hkl:=(List.getElem?_eq_some_iff.1 hk).1
         have hfd:fD fs (2+k)=x:=by
          have:=zrC (fs:=fs) (k:=2+k) hkl
          rw [hk] at this
          injection this with this
          exact this.symm
         have hne:=(zkg hf (2+k) (by omega) (by rw [hput]; rintro (h | h); omega; cases h.1)).2
         rw [hfd] at hne
         exact zsU h (zjd o fs l 0 hlen hla (2+k) x hk (by omega) hne)
       ·rw [if_neg hu] at hx
        exact h.fo u xs hx
      ·have hu:(zbJ u (zgF (fD fs 1) (fs.drop 2) o.fors)).isSome=true:=hu
       rw [ziI] at hu
       by_cases hq:u=fD fs 1
       ·rw [hq]; exact hnu
       ·rw [if_neg hq] at hu
        exact h.dj u hu
      ·have hu:(zbJ u (zgF (fD fs 1) (fs.drop 2) o.fors)).isSome=true:=hu
       rw [ziI] at hu
       by_cases hq:u=fD fs 1
       ·rw [hq]; exact hsp
       ·rw [if_neg hq] at hu
        exact h.fk u hu
def units0:List Int:=[97,98,99,100,101,102,103,104,105,106,107,108,109,110,111,112,113,114,115,116,117,118,119,120,121,122,945,946,947,948,949,950,951,952,953,954,955,956,957,958,959,960,961,963,964,965,966,967,968,969,1072,1073,1074,1075,1076,1077,1078,1079,1080,1082,1083,1084,1085,1086,1087,1088,1089,1090,1091,1092,1093,1094,1095,1096,1097,1098,1099,1100,1101,1102,1103,1106,1108,1109,1110,1112,1113,1114,1115,1119]
def us0:List zBA:=units0.map Utf8.encode
def zvP:zac:=⟨us0,zqC us0 0 [],[],[],[]⟩
theorem zu2:(match zdO with | some o=>decide (o.units=us0)&&(decide (o.place.map Prod.fst=(zqC us0 0 []).map Prod.fst)&&decide (o.place.map Prod.snd=(zqC us0 0 []).map Prod.snd))&&o.fors.isEmpty&&o.skips.isEmpty&&o.lines.isEmpty | none=>false)=true:=by decide +kernel
theorem znk {α β:Type}:∀ {a b:List (α×β)},a.map Prod.fst=b.map Prod.fst→a.map Prod.snd=b.map Prod.snd→a=b
 | [],[],_,_=>rfl
 | [],_::_,h,_=>by cases h
 | _::_,[],h,_=>by cases h
 | x::a,y::b,h1,h2=>by
  rw [List.map_cons,List.map_cons] at h1 h2
  injection h1 with p1 q1
  injection h2 with p2 q2
  rw [Prod.ext p1 p2,znk q1 q2]
theorem zu0:zdO=some zvP:=by
 have h:=zu2
 cases hb:zdO with
 | none=>rw [hb] at h; cases h
 | some o =>
  rw [hb] at h
  simp only [Bool.and_eq_true,decide_eq_true_eq,List.isEmpty_iff] at h
  obtain ⟨⟨⟨⟨h1,h2,h3⟩,h4⟩,h5⟩,h6⟩:=h
  obtain ⟨u,p,f,s,l⟩:=o
  simp only at h1 h2 h3 h4 h5 h6
  subst h1; subst h4; subst h5; subst h6
  rw [znk h2 h3]; rfl
theorem zm4:us0.Nodup:=by decide +kernel
theorem zvw:(us0.all fun u=>!decide (u=zf9)&&decide (zeP u=u))=true:=by decide +kernel
theorem zxi:InvO zvP where
 pl:=fun u=>by
  show zbJ u (zqC us0 0 [])=zm1 us0 u
  rw [zmq _ _ _ _ zm4]
  cases zm1 us0 u with
  | none=>rfl
  | some k=>show some (0+k)=_; rw [Int.zero_add]
 nd:=zm4
 ul:=by show us0.length≤90+0; decide
 ll:=by show 0≤256; omega
 fo:=fun u xs h=>by cases h
 dj:=fun u h=>by cases h
 fk:=fun u h=>by cases h
 lw:=by show 26≤us0.length; decide
 us:=fun u hu=>by
  have:=List.all_eq_true.1 zvw u hu
  rw [Bool.and_eq_true,Bool.not_eq_true',decide_eq_false_iff_not,decide_eq_true_iff] at this
  exact this
def lns:List UInt8→List UInt8→List (List UInt8)
 | [],cur=>[cur]
 | c::l,cur=>if c=10 then cur::lns l [] else lns l (cur++[c])
theorem zo9:∀ (l cur:List UInt8),Lib.indexByte l 10<0→lns l cur=[cur++l]
 | [],cur,_=>by rw [lns,List.append_nil]
 | c::l,cur,h=>by
  unfold Lib.indexByte at h
  by_cases hc:c=10
  ·rw [hc] at h; exact absurd (show (0:Int)<0 from h) (by decide)
  ·have hb:(c==(10:UInt8))=false:=beq_eq_false_iff_ne.2 hc
   rw [hb] at h
   simp only [Bool.false_eq_true,if_false] at h
   have:Lib.indexByte l 10<0:=by
    by_cases h1:Lib.indexByte l 10=-1
    ·omega
    ·rw [beq_eq_false_iff_ne.2 h1] at h
     simp only [Bool.false_eq_true,if_false] at h
     have:=indexByte_ge l 10
     omega
   rw [lns,if_neg hc,zo9 l _ this,List.append_assoc]; rfl
theorem zo8:∀ (l cur:List UInt8) (m:Nat),Lib.indexByte l 10=(m:Int)→lns l cur=(cur++l.take m)::lns (l.drop (m+1)) []∧m<l.length
 | [],cur,m,h=>by
  have:(-1:Int)=(m:Int):=h
  omega
 | c::l,cur,m,h=>by
  unfold Lib.indexByte at h
  by_cases hc:c=10
  ·rw [hc] at h
   have hm:(0:Int)=(m:Int):=h
   obtain rfl:m=0:=by omega
   rw [lns,if_pos hc,List.take_zero,List.append_nil]
   exact ⟨rfl,by rw [List.length_cons]; omega⟩
  ·have hb:(c==(10:UInt8))=false:=beq_eq_false_iff_ne.2 hc
   rw [hb] at h
   simp only [Bool.false_eq_true,if_false] at h
   by_cases h1:Lib.indexByte l 10=-1
   ·rw [h1] at h
    have:(-1:Int)=(m:Int):=h
    omega
   ·rw [beq_eq_false_iff_ne.2 h1] at h
    simp only [Bool.false_eq_true,if_false] at h
    have:=indexByte_ge l 10
    obtain ⟨k,hk⟩:∃ k:Nat,Lib.indexByte l 10=(k:Int):=⟨(Lib.indexByte l 10).toNat,by omega⟩
    obtain rfl:m=k+1:=by omega
    obtain ⟨e1,e2⟩:=zo8 l (cur++[c]) k hk
    rw [lns,if_neg hc,e1,List.append_assoc]
    exact ⟨rfl,by rw [List.length_cons]; omega⟩
theorem zpL (J:zBA→Option (List zBA)) (hJ:∀ x,J x=some [x]):∀ (n:Nat) (x:zBA),x.size<n→x.size≤1000000000→zaW (fun _=>none) (zbY (⟨#[10]⟩:zBA) 0 J) n x=some ((lns x.data.toList []).map ba):=by
 intro n
 induction n with
 | zero=>intro x h; omega
 | succ n ih =>
  intro x hn hb
  rw [zgt]
  generalize hag:zaW (fun _=>none) (zbY (⟨#[10]⟩:zBA) 0 J) n=ag
  unfold zbY
  have hge:=indexByte_ge x.data.toList 10
  refine zcf rfl ?_
  by_cases h:Lib.indexByte x.data.toList 10<0
  ·refine zaI (decide_eq_true h) ?_
   rw [hJ,zo9 _ _ h]
   show some [x]=some [ba ([]++x.data.toList)]
   rw [List.nil_append,show ba x.data.toList=x from zgR (zjx _)]
  ·obtain ⟨m,hm⟩:∃ m:Nat,Lib.indexByte x.data.toList 10=(m:Int):=⟨(Lib.indexByte x.data.toList 10).toNat,by omega⟩
   obtain ⟨e1,e2⟩:=zo8 x.data.toList [] m hm
   rw [← zb4] at e2
   rw [hm,e1]
   have hs1:((⟨#[10]⟩:zBA).size:Int)=1:=rfl
   rw [hs1,Int.add_zero]
   refine zaE (decide_eq_false (by omega)) (zcf ⟨by omega,by omega⟩ (zcf ⟨by omega,by omega,by omega⟩ ?_))
   have c1:zcn x 0 (m:Int)=ba ([]++x.data.toList.take m):=by
    apply zgR
    have:=zid x 0 m
    rw [show ((0:Nat):Int)=0 from rfl] at this
    rw [this,zjx]; rfl
   have c2:(zcn x ((m:Int)+1) (x.size:Int)).data.toList=x.data.toList.drop (m+1):=by
    have:=zid x (m+1) x.size
    push_cast at this
    rw [this,List.take_of_length_le (by rw [List.length_drop,← zb4]; omega)]
   have c3:(zcn x ((m:Int)+1) (x.size:Int)).size=x.size - (m+1):=by rw [zb4,c2,List.length_drop,← zb4]
   have:=ih (zcn x ((m:Int)+1) (x.size:Int)) (by omega) (by omega)
   rw [hag,c2] at this
   rw [c1]
   have hin:(grd (I64 ((m:Int)+1))<|grd (0≤((m:Int)+1:Int)∧((m:Int)+1:Int)≤(x.size:Int)∧((x.size:Int):Int)≤(x.size:Int))<|ag (zcn x ((m:Int)+1) (x.size:Int)))=some ((lns (x.data.toList.drop (m+1)) []).map ba):=zcf ⟨by omega,by omega⟩ (zcf ⟨by omega,by omega,by omega⟩ this)
   rw [hin]; rfl
def rdL:zac→Int→List (List UInt8)→(Option zac)×zaM
 | o,_,[]=>(some o,⟨0,0⟩)
 | o,at_,x::xs =>
  if wdK x 0 none=[] then rdL o (at_+((x.length:Int)+1)) xs
  else if (zmu o ((wdK x 0 none).map (zfK at_)) (at_+(x.length:Int))).1.Err=0 then rdL (zmu o ((wdK x 0 none).map (zfK at_)) (at_+(x.length:Int))).2 (at_+((x.length:Int)+1)) xs
  else (none,(zmu o ((wdK x 0 none).map (zfK at_)) (at_+(x.length:Int))).1)
def zvg (xs:List (List UInt8)):Nat:=(xs.map fun x=>x.length+1).sum
theorem ziq (x:List UInt8) (xs:List (List UInt8)):zvg (x::xs)=x.length+1+zvg xs:=by unfold zvg; simp
theorem zmt:∀ (l cur:List UInt8),zvg (lns l cur)=l.length+cur.length+1
 | [],cur=>by rw [lns,ziq]; show cur.length+1+0=0+cur.length+1; omega
 | c::l,cur=>by
  rw [lns]
  split
  ·rw [ziq,zmt l []]; simp; omega
  ·rw [zmt l]; simp; omega
theorem zm2:∀ (l:List UInt8) (i:Nat) (cur:Option (Nat×List UInt8)),(∀ p∈wdK l i cur,p.2.length≤l.length+(cur.toList.map fun p=>p.2.length).sum)∧(wdK l i cur).length≤l.length+cur.toList.length
 | [],i,none=>⟨(fun p h=>by cases h),by show 0≤0; omega⟩
 | [],i,some q=>⟨fun p h=>by
   have:p=q:=List.mem_singleton.1 h
   subst this; simp,by show 1≤0+1; omega⟩
 | c::l,i,cur=>by
  by_cases hc:c=32
  ·subst hc
   obtain ⟨h1,h2⟩:=zm2 l (i+1) none
   rw [ztu]
   have h2:(wdK l (i+1) none).length≤l.length+0:=h2
   refine ⟨fun p hp => ?_,by rw [List.length_append,List.length_cons]; omega⟩
   rcases List.mem_append.1 hp with hp | hp
   ·cases cur with
    | none=>cases hp
    | some q=>rw [List.mem_singleton.1 hp]; simp
   ·have:=h1 p hp
    simp at this ⊢
    omega
  ·cases cur with
   | none =>
    obtain ⟨h1,h2⟩:=zm2 l (i+1) (some (i,[c]))
    rw [zqH hc]
    have h2:(wdK l (i+1) (some (i,[c]))).length≤l.length+1:=h2
    refine ⟨fun p hp => ?_,by rw [List.length_cons]; show _≤l.length+1+0; omega⟩
    have:=h1 p hp
    simp at this ⊢
    omega
   | some q =>
    obtain ⟨a,w⟩:=q
    obtain ⟨h1,h2⟩:=zm2 l (i+1) (some (a,w++[c]))
    rw [ztv hc]
    have h2:(wdK l (i+1) (some (a,w++[c]))).length≤l.length+1:=h2
    refine ⟨fun p hp => ?_,by rw [List.length_cons]; show _≤l.length+1+1; omega⟩
    have:=h1 p hp
    simp at this ⊢
    omega
theorem znd:∀ (xs:List (List UInt8)) (o:zac) (at_:Int),InvO o→0≤at_→at_+(zvg xs:Int)≤200000→(∀ x∈xs,x.length≤65536) →
  zcF (fun (o16:List zBA) (o17:List (zBA×Int)) (o18:List (zBA×List zBA)) (o19:List (zBA×Bool)) (o20:List zBA) (at3:Int)=>(some ((some (⟨o16,o17,o18,o19,o20⟩:zac)),(⟨0,0⟩:zaM)):Option ((Option zac)×zaM)))
   (zdl (fun (x2:Int) (x3:Int) (o21:List zBA) (o22:List (zBA×Int)) (o23:List (zBA×List zBA)) (o24:List (zBA×Bool)) (o25:List zBA) (at4:Int)=>some (none,(⟨x2,x3⟩:zaM)))) (xs.map ba) o.units o.place o.fors o.skips o.lines at_=some (rdL o at_ xs)
 | [],o,at_,_,_,_,_=>rfl
 | x::xs,o,at_,hi,ha,hb,hx=>by
  have hxl:=hx x (List.mem_cons_self ..)
  rw [ziq] at hb
  push_cast at hb
  have next:=fun (o':zac) (h':InvO o')=>znd xs o' (at_+((x.length:Int)+1)) h' (by omega) (by omega) (fun y hy=>hx y (List.mem_cons_of_mem _ hy))
  rw [List.map_cons,zco]
  generalize hag:zcF (fun (o16:List zBA) (o17:List (zBA×Int)) (o18:List (zBA×List zBA)) (o19:List (zBA×Bool)) (o20:List zBA) (at3:Int)=>(some ((some (⟨o16,o17,o18,o19,o20⟩:zac)),(⟨0,0⟩:zaM)):Option ((Option zac)×zaM))) _ (xs.map ba)=ag at next ⊢
  unfold zdl
  have hs:(ba x).size=x.length:=zhF x
  obtain ⟨w1,w2⟩:=zm2 x 0 none
  have w2:(wdK x 0 none).length≤x.length+0:=w2
  refine zcf ⟨by omega,by omega⟩ (zcf ⟨by omega,by omega⟩ (zaV (ztX (ba x) at_ (by omega) ⟨by omega,by omega⟩) ?_))
  rw [zjx,hs,List.length_map,rdL]
  by_cases h0:wdK x 0 none=[]
  ·rw [if_pos h0,h0]
   exact zaI rfl (next o hi)
  ·rw [if_neg h0]
   have hlen:0<(wdK x 0 none).length:=List.length_pos_iff.2 h0
   have hat:∀ w∈(wdK x 0 none).map (zfK at_),0≤w.at_:=fun w hw=>by
    obtain ⟨p,hp,rfl⟩:=List.mem_map.1 hw
    show 0≤at_+(p.1:Int)
    omega
   have htx:∀ w∈(wdK x 0 none).map (zfK at_),w.text.size≤65536:=fun w hw=>by
    obtain ⟨p,hp,rfl⟩:=List.mem_map.1 hw
    show (ba p.2).size≤65536
    rw [zhF]
    have:=w1 p hp
    have:p.2.length≤x.length+0:=this
    omega
   have e:(⟨o.units,o.place,o.fors,o.skips,o.lines⟩:zac)=o:=rfl
   refine zaE (beq_eq_false_iff_ne.2 (by omega)) (zcf ⟨by omega,by omega⟩ ?_)
   rw [e]
   refine zaV (zvW hi _ _ (by omega) (by rw [List.length_map]; exact hlen) (by rw [List.length_map]; omega) hat htx) ?_
   have hinv:=zpb hi ((wdK x 0 none).map (zfK at_)) (at_+(x.length:Int)) (by omega) (by rw [List.length_map]; exact hlen) hat htx
   generalize zmu o ((wdK x 0 none).map (zfK at_)) (at_+(x.length:Int))=r at hinv ⊢
   by_cases h1:r.1.Err=0
   ·rw [if_pos h1]
    exact zaE (by rw [h1]; rfl) (next r.2 hinv)
   ·rw [if_neg h1]
    exact zaI (bne_iff_ne.2 h1) rfl
theorem zq3:∀ (xs:List (List UInt8)) (o:zac) (at_:Int),InvO o→0≤at_→(∀ x∈xs,x.length≤65536)→(∃ o',rdL o at_ xs=(some o',⟨0,0⟩)∧InvO o')∨(∃ e,rdL o at_ xs=(none,e)∧e.Err≠0)
 | [],o,at_,hi,_,_=>.inl ⟨o,rfl,hi⟩
 | x::xs,o,at_,hi,ha,hx=>by
  have hxl:=hx x (List.mem_cons_self ..)
  have next:=fun (o':zac) (h':InvO o')=>zq3 xs o' (at_+((x.length:Int)+1)) h' (by omega) (fun y hy=>hx y (List.mem_cons_of_mem _ hy))
  obtain ⟨w1,w2⟩:=zm2 x 0 none
  rw [rdL]
  by_cases h0:wdK x 0 none=[]
  ·rw [if_pos h0]; exact next o hi
  ·rw [if_neg h0]
   by_cases h1:(zmu o ((wdK x 0 none).map (zfK at_)) (at_+(x.length:Int))).1.Err=0
   ·rw [if_pos h1]
    refine next _ (zpb hi _ _ (by omega) (by rw [List.length_map]; exact List.length_pos_iff.2 h0) (fun w hw => ?_) (fun w hw => ?_))
    ·obtain ⟨p,hp,rfl⟩:=List.mem_map.1 hw
     show 0≤at_+(p.1:Int)
     omega
    ·obtain ⟨p,hp,rfl⟩:=List.mem_map.1 hw
     show (ba p.2).size≤65536
     rw [zhF]
     have:p.2.length≤x.length+0:=w1 p hp
     omega
   ·rw [if_neg h1]; exact .inr ⟨_,rfl,h1⟩
def zpQ (text:zBA):(Option zac)×zaM:=if 65536<text.size then (none,⟨3,65536⟩) else rdL zvP 0 (lns text.data.toList [])
theorem zpa (l cur:List UInt8):∀ x∈lns l cur,x.length≤l.length+cur.length:=by
 intro x hx
 have h1:=zmt l cur
 have:∀ (xs:List (List UInt8)),x∈xs→x.length+1≤zvg xs:=by
  intro xs
  induction xs with
  | nil=>intro h; cases h
  | cons y ys ih =>
   intro h
   rw [ziq]
   rcases List.mem_cons.1 h with rfl | h
   ·omega
   ·have:=ih h; omega
 have:=this _ hx
 omega
theorem ztz (text:zBA):zdC text=some (zpQ text):=by
 unfold zdC zpQ
 by_cases h:65536<text.size
 ·rw [if_pos h]; exact zaI (decide_eq_true (by omega)) rfl
 ·rw [if_neg h]
  refine zaE (decide_eq_false (by omega)) (zce (zaV zu0 (zaV (a:=((⟨#[10]⟩:zBA),text,0)) rfl (zaV (a:=(lns text.data.toList []).map ba) ?_ (zce (zce ?_))))))
  ·unfold zdF
   exact zce (zaE rfl (zce (zpL _ (fun x=>rfl) zcy text (by unfold zcy; omega) (by omega))))
  ·have hs:=zmt text.data.toList []
   rw [← zb4,List.length_nil] at hs
   exact znd (lns text.data.toList []) zvP 0 zxi (Int.le_refl _) (by omega) (fun x hx=>by have:=zpa text.data.toList [] x hx; rw [← zb4,List.length_nil] at this; omega)
theorem zne (text:zBA):(∃ o',zpQ text=(some o',⟨0,0⟩)∧InvO o')∨(∃ e,zpQ text=(none,e)∧e.Err≠0):=by
 unfold zpQ
 by_cases h:65536<text.size
 ·rw [if_pos h]; exact .inr ⟨_,rfl,by show (3:Int)≠0; omega⟩
 ·rw [if_neg h]
  exact zq3 _ _ _ zxi (Int.le_refl _) (fun x hx=>by have:=zpa text.data.toList [] x hx; rw [← zb4,List.length_nil] at this; omega)
def zlO (text:zBA):zac:=(zpQ text).1.getD zvP
theorem zpW (text:zBA):InvO (zlO text):=by
 unfold zlO
 rcases zne text with ⟨o,h,hi⟩ | ⟨e,h,he⟩
 ·rw [h]; exact hi
 ·rw [h]; exact zxi
def zeF  : Option Bool := zak (zdC (⟨#[112,117,116,32,99,104,32,97,102,116,101,114,32,99]⟩:zBA)) fun (r1:((Option zac)×zaM)) => zak (r1.1) fun (p1:zac) => zak (zbI p1 (⟨#[99,122]⟩:zBA) (⟨#[99,104,97]⟩:zBA)) fun (r2:(Int×Int)) => zar (ze4 r1.2 (⟨0,0⟩:zaM)) ( zar ((r2.1:Int)==(-1)) ( zar ((r2.2:Int)==1) ( zak (zd6 p1 (⟨#[99,104,111,112]⟩:zBA)) fun (r3:zBA) => some (decide (r3=(⟨#[67,72]⟩:zBA)))
) ( some false
)
) ( some false
)
) ( some false
)
theorem zhZ  {r:Bool} (h:zeF=some r):FnP prog 6 [] (.bool r):=by
 unfold zeF at h
 refine FnP.intro func6 rfl ntmps6 (by simp) ?_
 intro w0 K
 refine zyG (zyR 1 rfl (zyH ?_))
 obtain ⟨r1,hq1,h⟩:=zbA h
 refine zb9 (vs:=[.string (⟨#[112,117,116,32,99,104,32,97,102,116,101,114,32,99]⟩:zBA)]) rfl dc rfl rfl rfl zuJ (zf4 hq1) Splits.nil ?_
 rintro v1
 refine zcu (L':=[zlM zbb zba 79 v1 r1.1]) (zaa [0] kr rfl) (zyR 1 rfl (zaH rfl dc rfl rfl (zaH rfl dc rfl rfl ?_)))
 refine za3 zpC rfl dc (fun b1 => ?_)
 refine zyR 1 rfl (za2 (k:=1) (vs:=(zr2 r1.2)) (l':=(zr2 r1.2)) zh2 rfl rfl rfl rfl rfl (show _≤_ by simp) rfl rfl ?_)
 refine zyH (zyR 1 rfl ?_)
 obtain ⟨p1,hq2,h⟩:=zbA h
 refine zk8 (As:=[zlM zbb zba 79 v1 r1.1]) (zaa [0] kr rfl) (zjT hq2) ?_
 rintro ⟨b2,hd1,hd2,hd3,hd4,hd5⟩ hv1
 have hkp:=h
 subst hv1
 have h:=hkp
 obtain ⟨r2,hq3,h⟩:=zbA h
 refine zee (v:=.tuple #[zI r2.1,zI r2.2]) (vs:=[zP b2,.string (⟨#[99,122]⟩:zBA),.string (⟨#[99,104,97]⟩:zBA)]) (Rd.nil:Rd _ _ []) rfl dc rfl rfl rfl zs7 (zc8 (bo1:=b2) (o1:=p1) (o1_h0:=hd1) (o1_h1:=hd2) (o1_h2:=hd3) (o1_h3:=hd4) (o1_h4:=hd5) hq3) (.own (zaa [2] kr rfl) (fun _ _ h=>sepL.one1.1 h) (.own (zaa [3] kr rfl) (fun _ _ h=>sepL.one1.1 h) (.own (zaa [4] kr rfl) (fun _ _ h=>sepL.one1.1 h) (.own (zaa [5] kr rfl) (fun _ _ h=>sepL.one1.1 h) (.own (zaa [6] kr rfl) (fun _ _ h=>sepL.one1.1 h) (.own (zaa [7] kr rfl) (fun _ _ h=>sepL.one1.1 h) .nil)))))) ?_
 refine zyR 1 rfl (zaH rfl dc rfl rfl (zaH rfl dc rfl rfl (zyR 2 rfl (zyH (zbW (k:=1) (cs:=(zr2 r1.2)) zja rfl dc rfl rfl rfl rfl ?_)))))
 refine zci (v:=.agg #[zI 0,zI 0]) (ps:=[]) rfl dc rfl (fun _=>by kernel_rfl) ?_
 refine zaR rfl (zqq r1.2 (⟨0,0⟩:zaM)) (zyR 1 rfl ?_)
 refine zyS (s:=17) rfl h (fun h => ?_) (fun h => ?_)
 ·
  refine zyR 1 rfl (zaR rfl za9 (zyR 2 rfl ?_))
  refine zyS (s:=21) rfl h (fun h => ?_) (fun h => ?_)
  ·
   refine zyR 1 rfl (zaR rfl za9 (zyR 2 rfl ?_))
   refine zyS (s:=25) rfl h (fun h => ?_) (fun h => ?_)
   ·
    refine zyR 1 rfl ?_
    obtain ⟨r3,hq4,h⟩:=zbA h
    refine zee (v:=.string r3) (vs:=[zP b2,.string (⟨#[99,104,111,112]⟩:zBA)]) (Rd.nil:Rd _ _ []) rfl dc rfl rfl rfl zx0 (zgO (bo1:=b2) (o1:=p1) (o1_h0:=hd1) (o1_h1:=hd2) (o1_h2:=hd3) (o1_h3:=hd4) (o1_h4:=hd5) hq4) (.own (zaa [2] kr rfl) (fun _ _ h=>sepL.one1.1 h) (.own (zaa [3] kr rfl) (fun _ _ h=>sepL.one1.1 h) (.own (zaa [4] kr rfl) (fun _ _ h=>sepL.one1.1 h) (.own (zaa [5] kr rfl) (fun _ _ h=>sepL.one1.1 h) (.own (zaa [6] kr rfl) (fun _ _ h=>sepL.one1.1 h) (.own (zaa [7] kr rfl) (fun _ _ h=>sepL.one1.1 h) .nil)))))) ?_
    refine zaR rfl zeH (zyR 2 rfl (zyN (zaA ?_)))
    cases h
    exact zaS 0 results6
   refine zyR 5 rfl (zyN (zaA ?_))
   cases h
   exact zaS 0 results6
  refine zyR 9 rfl (zyN (zaA ?_))
  cases h
  exact zaS 0 results6
 refine zyR 13 rfl (zaD ?_)
 refine zaF (zaA ?_)
 cases h
 exact zaS 0 results6
def zd2 (s1:zBA):Option zBA := zar (decide ((512:Int)<(s1.size:Int))) ( grd (0≤(0:Int)∧(0:Int)≤512∧(512:Int)≤(s1.size:Int)) <| some (zcn s1 0 512)
) ( some s1
)
theorem zgu {s1:zBA} {r:zBA} (h:zd2 s1=some r):FnP prog 8 [.string s1] (.string r):=by
 unfold zd2 at h
 refine FnP.intro func8 rfl ntmps8 (by simp) ?_
 intro w0 K
 refine zyG (zyR 1 rfl (zyN (zaL (zyG (zyR 1 rfl (zcI rfl dc rfl underlying9 (zaR rfl zeg (zyN ?_))))))))
 refine zyB rfl h (fun h => ?_) (fun h => ?_)
 ·
  refine zyG (zyR 1 rfl ?_)
  obtain ⟨hg1,h⟩:=zbR h
  refine zb7 rfl dc rfl rfl rfl (za6 (i:=0) (j:=512) underlying9 (.inl ⟨rfl,rfl⟩) (.inr rfl) hg1) (zyR 1 rfl (zyN (zaA (zaj ?_))))
  cases h
  exact zaS 2 results8
 refine zao (zaF (zyG (zyR 2 rfl (zyN (zaA ?_)))))
 cases h
 exact zaS 2 results8
def zff (text1:zBA):Option (Option zac) := zak (zdC text1) fun (r1:((Option zac)×zaM)) => zar ((r1.2.Err:Int)==0) ( some r1.1
) ( zak (zdC (⟨#[]⟩:zBA)) fun (r2:((Option zac)×zaM)) => some r2.1
)
theorem zlk {text1:zBA} {r:(Option zac)} (h:zff text1=some r):Fn prog 7 [.string text1] [] (fun v0:Value=>v0) (fun v0=>[zlM zbb zba 79 v0 r]):=by
 unfold zff at h
 refine Fn.intro func7 rfl ntmps7 (by simp) ?_
 intro w0 K
 refine zyG (zyR 1 rfl (zyN (zaL (zyG (zyR 1 rfl ?_)))))
 obtain ⟨r1,hq1,h⟩:=zbA h
 refine zb9 (vs:=[.string text1]) rfl dc rfl rfl rfl zuJ (zf4 hq1) Splits.nil ?_
 rintro v1
 refine zcu (L':=[zlM zbb zba 79 v1 r1.1]) (zaa [0] kr rfl) (zyR 1 rfl (zaH rfl dc rfl rfl (zaH rfl dc rfl rfl ?_)))
 refine za3 zpC rfl dc (fun b1 => ?_)
 refine zyR 1 rfl (za2 (k:=1) (vs:=(zr2 r1.2)) (l':=(zr2 r1.2)) zh2 rfl rfl rfl rfl rfl (show _≤_ by simp) rfl rfl ?_)
 refine zyH (zaf zrB rfl dc rfl (show _=0 from rfl) (zal (k:=1) zvM rfl dc rfl rfl rfl (zaR rfl za9 (zyN ?_))))
 refine zyB rfl h (fun h => ?_) (fun h => ?_)
 ·
  refine zyG (zyR 2 rfl (zyN (zaA (zaj ?_))))
  cases h
  exact zcj (rs:=[.tmp 2]) v1 (.inl rfl) results7 (.cons (.tmp rfl) .nil) rfl (zaa [0] kr rfl)
 refine zao (zaF (zyG ?_))
 obtain ⟨r2,hq2,h⟩:=zbA h
 refine zb9 (vs:=[.string (⟨#[]⟩:zBA)]) rfl dc rfl rfl rfl zuJ (zf4 hq2) Splits.nil ?_
 rintro v2
 refine zcu (L':=[zlM zbb zba 79 v1 r1.1,cells b1 (zr2 r1.2) 35,zlM zbb zba 79 v2 r2.1]) (zaa [0,1,2] kr rfl) (zyR 1 rfl (zaH rfl dc rfl rfl (zaH rfl dc rfl rfl ?_)))
 refine za3 zpC rfl dc (fun b2 => ?_)
 refine zyR 1 rfl (za2 (k:=3) (vs:=(zr2 r2.2)) (l':=(zr2 r2.2)) zh2 rfl rfl rfl rfl rfl (show _≤_ by simp) rfl rfl ?_)
 refine zyH (zyR 2 rfl (zyN (zaA ?_)))
 cases h
 exact zcj (rs:=[.tmp 2]) v2 (.inl rfl) results7 (.cons (.tmp rfl) .nil) rfl (zaa [2] kr rfl)
theorem zm3:zeF=some true:=by decide +kernel
def zuO (s:zBA):zBA:=if 512<s.size then zcn s 0 512 else s
theorem zn6 (s:zBA):zd2 s=some (zuO s):=by
 unfold zd2 zuO
 by_cases h:512<s.size
 ·rw [if_pos h]; exact zaI (decide_eq_true (by omega)) (zcf ⟨by omega,by omega,by omega⟩ rfl)
 ·rw [if_neg h]; exact zaE (decide_eq_false (by omega)) rfl
theorem zoD (s:zBA):(zuO s).size≤512:=by
 unfold zuO
 by_cases h:512<s.size
 ·rw [if_pos h]
  have:=zid s 0 512
  rw [zb4]
  rw [show zcn s 0 512=zcn s ((0:Nat):Int) ((512:Nat):Int) from rfl,this,List.length_take]
  omega
 ·rw [if_neg h]; omega
theorem zue (text:zBA):zff text=some (some (zlO text)):=by
 unfold zff zlO
 refine zaV (ztz text) ?_
 rcases zne text with ⟨o,h,hi⟩ | ⟨e,h,he⟩
 ·rw [h]; exact zaI rfl rfl
 ·rw [h]
  exact zaE (beq_eq_false_iff_ne.2 he) (zaV (ztz _) rfl)
def zdG (text1:zBA) (l1:zfv):Option Bool := zak (zeF) fun (r1:Bool) => zar (!r1) ( some false
) ( zak (zff text1) fun (r2:(Option zac)) => zar (r2.isNone) ( some false
) ( zak (zd2 l1.e0) fun (r3:zBA) => zak (zd2 l1.e1) fun (r4:zBA) => zak (zd2 l1.e2) fun (r5:zBA) => zak (r2) fun (p1:zac) => zak (zbI p1 r3 r4) fun (r6:(Int×Int)) => zak (zbI p1 r4 r5) fun (r7:(Int×Int)) => zak (zbI p1 r3 r5) fun (r8:(Int×Int)) => zar (((r6.1:Int)==0) != (decide (r3=r4))) ( some false
) ( zar (((r6.1:Int)==0) != ((r6.2:Int)==0)) ( some false
) ( grd (I64 (r6.1*r6.1)) <| zar (decide ((1:Int)<(r6.1*r6.1))) ( some false
) ( zar (decide ((r6.2:Int)<0)) ( some false
) ( zar (decide ((4:Int)<r6.2)) ( some false
) ( zbx (fun (j1:Option Bool) => zar (decide ((r6.1:Int)≤0)) ( zar (decide ((r7.1:Int)≤0)) ( zar (decide ((0:Int)<r8.1)) ( some false
) ( zar ((r8.1:Int)==0) ( grd (I64 (r6.1+r7.1)) <| zar (((r6.1+r7.1):Int) != 0) ( some false
) ( zar (decide ((0:Int)≤r6.1)) ( zar (decide ((0:Int)≤r7.1)) ( zar (decide ((r8.1:Int)<0)) ( some false
) ( zar ((r8.1:Int)==0) ( grd (I64 (r6.1+r7.1)) <| zar (((r6.1+r7.1):Int) != 0) ( some false
) ( j1
)
) ( j1
)
)
) ( j1
)
) ( j1
)
)
) ( zar (decide ((0:Int)≤r6.1)) ( zar (decide ((0:Int)≤r7.1)) ( zar (decide ((r8.1:Int)<0)) ( some false
) ( zar ((r8.1:Int)==0) ( grd (I64 (r6.1+r7.1)) <| zar (((r6.1+r7.1):Int) != 0) ( some false
) ( j1
)
) ( j1
)
)
) ( j1
)
) ( j1
)
)
)
) ( zar (decide ((0:Int)≤r6.1)) ( zar (decide ((0:Int)≤r7.1)) ( zar (decide ((r8.1:Int)<0)) ( some false
) ( zar ((r8.1:Int)==0) ( grd (I64 (r6.1+r7.1)) <| zar (((r6.1+r7.1):Int) != 0) ( some false
) ( j1
)
) ( j1
)
)
) ( j1
)
) ( j1
)
)
) ( zar (decide ((0:Int)≤r6.1)) ( zar (decide ((0:Int)≤r7.1)) ( zar (decide ((r8.1:Int)<0)) ( some false
) ( zar ((r8.1:Int)==0) ( grd (I64 (r6.1+r7.1)) <| zar (((r6.1+r7.1):Int) != 0) ( some false
) ( j1
)
) ( j1
)
)
) ( j1
)
) ( j1
)
)
) ( zbx (fun (j2:Option Bool) => zar ((r6.1:Int) != 0) ( zar ((r7.1:Int) != 0) ( zar ((r8.1:Int) != 0) ( zar ((r6.1:Int)==r7.1) ( zar ((r8.2:Int) != (min r6.2 r7.2)) ( some false
) ( j2
)
) ( j2
)
) ( j2
)
) ( j2
)
) ( j2
)
) ( zak (zbL p1 r3) fun (r9:zBA) => zak (zbL p1 r4) fun (r10:zBA) => zak (zbL p1 r5) fun (r11:zBA) => zar (((Lib.compareBytes r9.data.toList r10.data.toList):Int)==r6.1) ( zar (((Lib.compareBytes r10.data.toList r11.data.toList):Int)==r7.1) ( zar (((Lib.compareBytes r9.data.toList r11.data.toList):Int)==r8.1) ( zak (zeF) fun (r12:Bool) => some r12
) ( some false
)
) ( some false
)
) ( some false
)
)
)
)
)
)
)
)
)
)
theorem zhs {text1:zBA} {l1:zfv} {r:Bool} (h:zdG text1 l1=some r):FnP prog 5 [.string text1,.agg #[.string l1.e0,.string l1.e1,.string l1.e2]] (.bool r):=by
 unfold zdG at h
 refine FnP.intro func5 rfl ntmps5 (by simp) ?_
 intro w0 K
 refine zyG ?_
 refine zdX rfl dc rfl (fun b1 => ?_)
 refine zyR 1 rfl (zyN (zaL (zyG ?_)))
 obtain ⟨r1,hq1,h⟩:=zbA h
 refine zaO (v:=.bool r1) (vs:=[]) rfl dc rfl rfl rfl zyd (zhZ hq1) (zg7 rfl dc rfl ze7 (zyN ?_))
 refine zyB rfl h (fun h => ?_) (fun h => ?_)
 ·
  refine zyG (zyR 1 rfl (zyN (zaA (zaj ?_))))
  cases h
  exact zaS 4 results5
 refine zao (zaF (zaL ?_))
 refine zdd 8 [(0,18,zP b1),(1,19,.string l1.e0),(2,20,.pointer (some ⟨b1,1,none⟩)),(3,21,.string l1.e1),(4,22,.pointer (some ⟨b1,2,none⟩)),(5,23,.string l1.e2),(6,5,.string l1.e0),(7,6,.string l1.e1)] mixed kr kr dc (by rfl) kr kr (zad ?_ (zad ?_ (zad ?_ (zad ?_ (zad ?_ (zad ?_ (zyP 2 6 rfl DrawPre.nil))))))) ?_
 · exact fun D n d c u i=>zcX dc underlying26 zjC rfl dc (za8 (by rfl) rfl) rfl (show _=0 from rfl) (zaJ 0 u i)
 · exact fun D n d c u i=>zal (k:=0) zeV rfl dc (zaX 0 u d) rfl rfl (zaJ 1 u i)
 · exact fun D n d c u i=>zcX dc underlying26 zjC rfl dc (za8 (by rfl) rfl) rfl (show _=1 from rfl) (zaJ 2 u i)
 · exact fun D n d c u i=>zal (k:=0) zeV rfl dc (zaX 2 u d) rfl rfl (zaJ 3 u i)
 · exact fun D n d c u i=>zcX dc underlying26 zjC rfl dc (za8 (by rfl) rfl) rfl (show _=2 from rfl) (zaJ 4 u i)
 · exact fun D n d c u i=>zal (k:=0) zeV rfl dc (zaX 4 u d) rfl rfl (zaJ 5 u i)
 refine zyR 1 rfl (zyH (zyR 1 rfl ?_))
 obtain ⟨r2,hq2,h⟩:=zbA h
 refine zb9 (vs:=[.string text1]) rfl dc rfl rfl rfl zyv (zlk hq2) Splits.nil ?_
 rintro v1
 refine zcu (L':=[cells b1 [.string l1.e0,.string l1.e1,.string l1.e2] 26,zlM zbb zba 79 v1 r2]) (zaa [0,1] kr rfl) (zyR 1 rfl (zyN (zaL (zyG (zyR 1 rfl ?_)))))
 refine zsd (k:=1) rfl (fun hv1 => ?_)
 refine zaR rfl (zqp underlying23 hv1) (zyN ?_)
 refine zyB rfl h (fun h => ?_) (fun h => ?_)
 ·
  refine zyG (zyR 1 rfl (zyN (zaA (zaj ?_))))
  cases h
  exact zaS 4 results5
 refine zao (zaF (zyG (zyR 1 rfl ?_)))
 obtain ⟨r3,hq3,h⟩:=zbA h
 refine zaO (v:=.string r3) (vs:=[.string l1.e0]) rfl dc rfl rfl rfl zxu (zgu hq3) (zyR 1 rfl ?_)
 obtain ⟨r4,hq4,h⟩:=zbA h
 refine zaO (v:=.string r4) (vs:=[.string l1.e1]) rfl dc rfl rfl rfl zxu (zgu hq4) (zyR 1 rfl ?_)
 obtain ⟨r5,hq5,h⟩:=zbA h
 refine zaO (v:=.string r5) (vs:=[.string l1.e2]) rfl dc rfl rfl rfl zxu (zgu hq5) (zyR 3 rfl (zyH (zyR 3 rfl ?_)))
 obtain ⟨p1,hq6,h⟩:=zbA h
 refine zk8 (As:=[zlM zbb zba 79 v1 r2]) (zaa [1] kr rfl) (zjT hq6) ?_
 rintro ⟨b2,hd1,hd2,hd3,hd4,hd5⟩ hv2
 have hkp:=h
 subst hv2
 have h:=hkp
 obtain ⟨r6,hq7,h⟩:=zbA h
 refine zee (v:=.tuple #[zI r6.1,zI r6.2]) (vs:=[zP b2,.string r3,.string r4]) (Rd.nil:Rd _ _ []) rfl dc rfl rfl rfl zs7 (zc8 (bo1:=b2) (o1:=p1) (o1_h0:=hd1) (o1_h1:=hd2) (o1_h2:=hd3) (o1_h3:=hd4) (o1_h4:=hd5) hq7) (.own (zaa [2] kr rfl) (fun _ _ h=>sepL.one1.1 h) (.own (zaa [3] kr rfl) (fun _ _ h=>sepL.one1.1 h) (.own (zaa [4] kr rfl) (fun _ _ h=>sepL.one1.1 h) (.own (zaa [5] kr rfl) (fun _ _ h=>sepL.one1.1 h) (.own (zaa [6] kr rfl) (fun _ _ h=>sepL.one1.1 h) (.own (zaa [7] kr rfl) (fun _ _ h=>sepL.one1.1 h) .nil)))))) ?_
 refine zyR 1 rfl (zaH rfl dc rfl rfl (zaH rfl dc rfl rfl (zyR 2 rfl (zyH (zyR 3 rfl ?_)))))
 obtain ⟨r7,hq8,h⟩:=zbA h
 refine zee (v:=.tuple #[zI r7.1,zI r7.2]) (vs:=[zP b2,.string r4,.string r5]) (Rd.nil:Rd _ _ []) rfl dc rfl rfl rfl zs7 (zc8 (bo1:=b2) (o1:=p1) (o1_h0:=hd1) (o1_h1:=hd2) (o1_h2:=hd3) (o1_h3:=hd4) (o1_h4:=hd5) hq8) (.own (zaa [2] kr rfl) (fun _ _ h=>sepL.one1.1 h) (.own (zaa [3] kr rfl) (fun _ _ h=>sepL.one1.1 h) (.own (zaa [4] kr rfl) (fun _ _ h=>sepL.one1.1 h) (.own (zaa [5] kr rfl) (fun _ _ h=>sepL.one1.1 h) (.own (zaa [6] kr rfl) (fun _ _ h=>sepL.one1.1 h) (.own (zaa [7] kr rfl) (fun _ _ h=>sepL.one1.1 h) .nil)))))) ?_
 refine zyR 1 rfl (zaH rfl dc rfl rfl (zaH rfl dc rfl rfl (zyR 2 rfl (zyH (zyR 3 rfl ?_)))))
 obtain ⟨r8,hq9,h⟩:=zbA h
 refine zee (v:=.tuple #[zI r8.1,zI r8.2]) (vs:=[zP b2,.string r3,.string r5]) (Rd.nil:Rd _ _ []) rfl dc rfl rfl rfl zs7 (zc8 (bo1:=b2) (o1:=p1) (o1_h0:=hd1) (o1_h1:=hd2) (o1_h2:=hd3) (o1_h3:=hd4) (o1_h4:=hd5) hq9) (.own (zaa [2] kr rfl) (fun _ _ h=>sepL.one1.1 h) (.own (zaa [3] kr rfl) (fun _ _ h=>sepL.one1.1 h) (.own (zaa [4] kr rfl) (fun _ _ h=>sepL.one1.1 h) (.own (zaa [5] kr rfl) (fun _ _ h=>sepL.one1.1 h) (.own (zaa [6] kr rfl) (fun _ _ h=>sepL.one1.1 h) (.own (zaa [7] kr rfl) (fun _ _ h=>sepL.one1.1 h) .nil)))))) ?_
 refine zyR 1 rfl (zaH rfl dc rfl rfl (zaH rfl dc rfl rfl (zyR 2 rfl (zyN (zaL (zyG (zyR 1 rfl (zaR rfl za9 (zyR 2 rfl ?_)))))))))
 refine zaR rfl zeH (zaR rfl (zk4 underlying4) (zyR 1 rfl ?_))
 refine zyS (s:=61) rfl h (fun h => ?_) (fun h => ?_)
 ·
  refine zyR 14 rfl ?_
  refine zyR 6 rfl (zyN (zbC rfl (zyG (zyR 1 rfl (zyN ?_)))))
  refine zaA (zaj ?_)
  cases h
  exact zaS 4 results5
 refine zyR 1 rfl (zaR rfl za9 (zyR 1 rfl (zaR rfl za9 (zaR rfl (zk4 underlying4) (zyR 2 rfl ?_)))))
 refine zyS (s:=68) rfl h (fun h => ?_) (fun h => ?_)
 ·
  refine zyR 13 rfl (zaD ?_)
  refine zaF (zbC rfl (zyG (zyR 1 rfl (zyN (zaA (zaj ?_))))))
  cases h
  exact zaS 4 results5
 refine zyR 2 rfl ?_
 obtain ⟨hg1,h⟩:=zbR h
 refine zaR rfl (zuX (r:=r6.1*r6.1) (IntWalk.i64_in _ hg1)) (zaR rfl zeg (zyR 2 rfl ?_))
 refine zyS (s:=74) rfl h (fun h => ?_) (fun h => ?_)
 ·
  refine zyR 7 rfl (zyN (zbC rfl (zyG (zyR 1 rfl (zaD ?_)))))
  refine zaF (zaA (zaj ?_))
  cases h
  exact zaS 4 results5
 refine zyR 1 rfl (zaR rfl zbk (zyR 2 rfl ?_))
 refine zyS (s:=78) rfl h (fun h => ?_) (fun h => ?_)
 ·
  refine zyR 3 rfl (zyN (zbC rfl (zyG (zyR 1 rfl (zyN (zaA (zaj ?_)))))))
  cases h
  exact zaS 4 results5
 refine zyR 1 rfl (zaR rfl zeg (zyR 1 rfl (zyN ?_)))
 refine zyB rfl h (fun h => ?_) (fun h => ?_)
 ·
  refine zyG (zyR 1 rfl (zyN (zaA (zaj ?_))))
  cases h
  exact zaS 4 results5
 refine zao (zaF ?_)
 obtain ⟨j1,hj1,h⟩:=zbP h
 refine za0 (β:=Unit) 0 rfl (fun b=>j1=some r) (fun b=>[]) (fun b=>[(5,.string r3),(6,.string r4),(7,.string r5),(8,zP b2),(9,zI r6.1),(10,zI r6.2),(11,zI r7.1),(12,zI r7.2),(13,zI r8.1),(14,zI r8.2)]) (fun b=>[cells b2 [hd1.v,.map (some (za7 hd2)),.map (some (za7 hd3)),.map (some (za7 hd4)),hd5.v] 79,zv0 hd1.v p1.units,zbO (fun n:zBA=>Value.string n) (fun n:Int=>Value.int .i64 n) (za7 hd2) p1.place,zcB (za7 hd3) p1.fors,zbO (fun n:zBA=>Value.string n) (fun n:Bool=>Value.bool n) (za7 hd4) p1.skips,zv0 hd5.v p1.lines]) (fun cut => ?_) ?_
 ·
  refine cut (zyG (zyR 1 rfl (zaR rfl zbX (zyR 1 rfl ?_))))
  refine zyS (s:=84) rfl h (fun h => ?_) (fun h => ?_)
  ·
   refine zyR 1 rfl (zaR rfl zbX (zyR 2 rfl ?_))
   refine zyS (s:=88) rfl h (fun h => ?_) (fun h => ?_)
   ·
    refine zyR 1 rfl (zaR rfl zeg (zyR 1 rfl ?_))
    refine zyS (s:=91) rfl h (fun h => ?_) (fun h => ?_)
    ·
     refine zyR 14 rfl ?_
     refine zyR 14 rfl ?_
     refine zyR 4 rfl (zyN (zbC rfl (zyG (zyR 1 rfl (zyN (zaA (zaj ?_)))))))
     cases h
     exact zaS 4 results5
    refine zyR 1 rfl (zaR rfl za9 (zyR 1 rfl ?_))
    refine zyS (s:=94) rfl h (fun h => ?_) (fun h => ?_)
    ·
     refine zyR 2 rfl ?_
     obtain ⟨hg2,h⟩:=zbR h
     refine zaR rfl (zbc (r:=r6.1+r7.1) (IntWalk.i64_in _ hg2)) (zaR rfl zdR (zyR 4 rfl ?_))
     refine zyS (s:=102) rfl h (fun h => ?_) (fun h => ?_)
     ·
      refine zyR 14 rfl ?_
      refine zyR 7 rfl (zyN (zbC rfl (zyG (zyR 1 rfl (zaD ?_)))))
      refine zaF (zaA (zaj ?_))
      cases h
      exact zaS 4 results5
     refine zyR 1 rfl (zaR rfl zbj (zyR 1 rfl ?_))
     refine zyS (s:=105) rfl h (fun h => ?_) (fun h => ?_)
     ·
      refine zyR 1 rfl (zaR rfl zbj (zyR 2 rfl ?_))
      refine zyS (s:=109) rfl h (fun h => ?_) (fun h => ?_)
      ·
       refine zyR 1 rfl (zaR rfl zbk (zyR 1 rfl ?_))
       refine zyS (s:=112) rfl h (fun h => ?_) (fun h => ?_)
       ·
        refine zyR 11 rfl (zyN (zbC rfl ?_))
        refine zyG (zyR 1 rfl (zyN (zaA (zaj ?_))))
        cases h
        exact zaS 4 results5
       refine zyR 1 rfl (zaR rfl za9 (zyR 1 rfl ?_))
       refine zyS (s:=115) rfl h (fun h => ?_) (fun h => ?_)
       ·
        refine zyR 2 rfl ?_
        obtain ⟨hg3,h⟩:=zbR h
        refine zaR rfl (zbc (r:=r6.1+r7.1) (IntWalk.i64_in _ hg3)) (zaR rfl zdR (zyR 4 rfl (zyN ?_)))
        refine zyB rfl h (fun h => ?_) (fun h => ?_)
        ·
         refine zyG (zyR 1 rfl (zyN (zaA (zaj ?_))))
         cases h
         exact zaS 4 results5
        refine zao ?_
        exact zah () h rfl (za4 rfl) (zaa [2,3,4,5,6,7] kr rfl)
       refine zyR 8 rfl (zyN (zaQ rfl (zao ?_)))
       exact zah () h rfl (za4 rfl) (zaa [2,3,4,5,6,7] kr rfl)
      refine zyR 14 rfl ?_
      refine zyN (zaQ rfl (zao ?_))
      exact zah () h rfl (za4 rfl) (zaa [2,3,4,5,6,7] kr rfl)
     refine zyR 14 rfl ?_
     refine zyR 4 rfl (zyN (zaQ rfl (zao ?_)))
     exact zah () h rfl (za4 rfl) (zaa [2,3,4,5,6,7] kr rfl)
    refine zyR 9 rfl (zaR rfl zbj (zyR 1 rfl ?_))
    refine zyS (s:=105) rfl h (fun h => ?_) (fun h => ?_)
    ·
     refine zyR 1 rfl (zaR rfl zbj (zyR 2 rfl ?_))
     refine zyS (s:=109) rfl h (fun h => ?_) (fun h => ?_)
     ·
      refine zyR 1 rfl (zaR rfl zbk (zyR 1 rfl ?_))
      refine zyS (s:=112) rfl h (fun h => ?_) (fun h => ?_)
      ·
       refine zyR 11 rfl (zyN (zbC rfl ?_))
       refine zyG (zyR 1 rfl (zyN (zaA (zaj ?_))))
       cases h
       exact zaS 4 results5
      refine zyR 1 rfl (zaR rfl za9 (zyR 1 rfl ?_))
      refine zyS (s:=115) rfl h (fun h => ?_) (fun h => ?_)
      ·
       refine zyR 2 rfl ?_
       obtain ⟨hg4,h⟩:=zbR h
       refine zaR rfl (zbc (r:=r6.1+r7.1) (IntWalk.i64_in _ hg4)) (zaR rfl zdR (zyR 4 rfl (zyN ?_)))
       refine zyB rfl h (fun h => ?_) (fun h => ?_)
       ·
        refine zyG (zyR 1 rfl (zyN (zaA (zaj ?_))))
        cases h
        exact zaS 4 results5
       refine zao ?_
       exact zah () h rfl (za4 rfl) (zaa [2,3,4,5,6,7] kr rfl)
      refine zyR 8 rfl (zyN (zaQ rfl (zao ?_)))
      exact zah () h rfl (za4 rfl) (zaa [2,3,4,5,6,7] kr rfl)
     refine zyR 14 rfl ?_
     refine zyN (zaQ rfl (zao ?_))
     exact zah () h rfl (za4 rfl) (zaa [2,3,4,5,6,7] kr rfl)
    refine zyR 14 rfl ?_
    refine zyR 4 rfl (zyN (zaQ rfl (zao ?_)))
    exact zah () h rfl (za4 rfl) (zaa [2,3,4,5,6,7] kr rfl)
   refine zyR 14 rfl ?_
   refine zyR 1 rfl (zaR rfl zbj (zyR 1 rfl ?_))
   refine zyS (s:=105) rfl h (fun h => ?_) (fun h => ?_)
   ·
    refine zyR 1 rfl (zaR rfl zbj (zyR 2 rfl ?_))
    refine zyS (s:=109) rfl h (fun h => ?_) (fun h => ?_)
    ·
     refine zyR 1 rfl (zaR rfl zbk (zyR 1 rfl ?_))
     refine zyS (s:=112) rfl h (fun h => ?_) (fun h => ?_)
     ·
      refine zyR 11 rfl (zyN (zbC rfl ?_))
      refine zyG (zyR 1 rfl (zyN (zaA (zaj ?_))))
      cases h
      exact zaS 4 results5
     refine zyR 1 rfl (zaR rfl za9 (zyR 1 rfl ?_))
     refine zyS (s:=115) rfl h (fun h => ?_) (fun h => ?_)
     ·
      refine zyR 2 rfl ?_
      obtain ⟨hg5,h⟩:=zbR h
      refine zaR rfl (zbc (r:=r6.1+r7.1) (IntWalk.i64_in _ hg5)) (zaR rfl zdR (zyR 4 rfl (zyN ?_)))
      refine zyB rfl h (fun h => ?_) (fun h => ?_)
      ·
       refine zyG (zyR 1 rfl (zyN (zaA (zaj ?_))))
       cases h
       exact zaS 4 results5
      refine zao ?_
      exact zah () h rfl (za4 rfl) (zaa [2,3,4,5,6,7] kr rfl)
     refine zyR 8 rfl (zyN (zaQ rfl (zao ?_)))
     exact zah () h rfl (za4 rfl) (zaa [2,3,4,5,6,7] kr rfl)
    refine zyR 14 rfl ?_
    refine zyN (zaQ rfl (zao ?_))
    exact zah () h rfl (za4 rfl) (zaa [2,3,4,5,6,7] kr rfl)
   refine zyR 14 rfl ?_
   refine zyR 4 rfl (zyN (zaQ rfl (zao ?_)))
   exact zah () h rfl (za4 rfl) (zaa [2,3,4,5,6,7] kr rfl)
  refine zyR 14 rfl ?_
  refine zyR 5 rfl (zaR rfl zbj (zyR 1 rfl ?_))
  refine zyS (s:=105) rfl h (fun h => ?_) (fun h => ?_)
  ·
   refine zyR 1 rfl (zaR rfl zbj (zyR 2 rfl ?_))
   refine zyS (s:=109) rfl h (fun h => ?_) (fun h => ?_)
   ·
    refine zyR 1 rfl (zaR rfl zbk (zyR 1 rfl ?_))
    refine zyS (s:=112) rfl h (fun h => ?_) (fun h => ?_)
    ·
     refine zyR 11 rfl (zyN (zbC rfl ?_))
     refine zyG (zyR 1 rfl (zyN (zaA (zaj ?_))))
     cases h
     exact zaS 4 results5
    refine zyR 1 rfl (zaR rfl za9 (zyR 1 rfl ?_))
    refine zyS (s:=115) rfl h (fun h => ?_) (fun h => ?_)
    ·
     refine zyR 2 rfl ?_
     obtain ⟨hg6,h⟩:=zbR h
     refine zaR rfl (zbc (r:=r6.1+r7.1) (IntWalk.i64_in _ hg6)) (zaR rfl zdR (zyR 4 rfl (zyN ?_)))
     refine zyB rfl h (fun h => ?_) (fun h => ?_)
     ·
      refine zyG (zyR 1 rfl (zyN (zaA (zaj ?_))))
      cases h
      exact zaS 4 results5
     refine zao ?_
     exact zah () h rfl (za4 rfl) (zaa [2,3,4,5,6,7] kr rfl)
    refine zyR 8 rfl (zyN (zaQ rfl (zao ?_)))
    exact zah () h rfl (za4 rfl) (zaa [2,3,4,5,6,7] kr rfl)
   refine zyR 14 rfl ?_
   refine zyN (zaQ rfl (zao ?_))
   exact zah () h rfl (za4 rfl) (zaa [2,3,4,5,6,7] kr rfl)
  refine zyR 14 rfl ?_
  refine zyR 4 rfl (zyN (zaQ rfl (zao ?_)))
  exact zah () h rfl (za4 rfl) (zaa [2,3,4,5,6,7] kr rfl)
 rintro _ h
 rw [hj1] at h
 obtain ⟨j2,hj2,h⟩:=zbP h
 refine za0 (β:=Unit) 0 rfl (fun b=>j2=some r) (fun b=>[]) (fun b=>[(5,.string r3),(6,.string r4),(7,.string r5),(8,zP b2),(9,zI r6.1),(11,zI r7.1),(13,zI r8.1)]) (fun b=>[cells b2 [hd1.v,.map (some (za7 hd2)),.map (some (za7 hd3)),.map (some (za7 hd4)),hd5.v] 79,zv0 hd1.v p1.units,zbO (fun n:zBA=>Value.string n) (fun n:Int=>Value.int .i64 n) (za7 hd2) p1.place,zcB (za7 hd3) p1.fors,zbO (fun n:zBA=>Value.string n) (fun n:Bool=>Value.bool n) (za7 hd4) p1.skips,zv0 hd5.v p1.lines]) (fun cut => ?_) ?_
 ·
  refine cut (zyG (zyR 1 rfl (zaR rfl zdR (zyR 1 rfl ?_))))
  refine zyS (s:=126) rfl h (fun h => ?_) (fun h => ?_)
  ·
   refine zyR 1 rfl (zaR rfl zdR (zyR 2 rfl ?_))
   refine zyS (s:=130) rfl h (fun h => ?_) (fun h => ?_)
   ·
    refine zyR 1 rfl (zaR rfl zdR (zyR 2 rfl ?_))
    refine zyS (s:=134) rfl h (fun h => ?_) (fun h => ?_)
    ·
     refine zyR 2 rfl (zaR rfl za9 (zyR 1 rfl ?_))
     refine zyS (s:=138) rfl h (fun h => ?_) (fun h => ?_)
     ·
      refine zyR 3 rfl (zse rfl dc rfl rfl (zaR rfl zdR (zyR 2 rfl (zyN ?_))))
      refine zyB rfl h (fun h => ?_) (fun h => ?_)
      ·
       refine zyG (zyR 1 rfl (zyN (zaA (zaj ?_))))
       cases h
       exact zaS 4 results5
      refine zao ?_
      exact zah () h rfl (za4 rfl) (zaa [0,1,2,3,4,5] kr rfl)
     refine zyR 7 rfl (zyN (zaQ rfl (zao ?_)))
     exact zah () h rfl (za4 rfl) (zaa [0,1,2,3,4,5] kr rfl)
    refine zyR 11 rfl (zyN (zaQ rfl ?_))
    refine zao ?_
    exact zah () h rfl (za4 rfl) (zaa [0,1,2,3,4,5] kr rfl)
   refine zyR 14 rfl ?_
   refine zyR 1 rfl (zyN (zaQ rfl (zao ?_)))
   exact zah () h rfl (za4 rfl) (zaa [0,1,2,3,4,5] kr rfl)
  refine zyR 14 rfl ?_
  refine zyR 5 rfl (zyN (zaQ rfl (zao ?_)))
  exact zah () h rfl (za4 rfl) (zaa [0,1,2,3,4,5] kr rfl)
 rintro _ h
 rw [hj2] at h
 refine zyG (zyR 2 rfl ?_)
 obtain ⟨r9,hq10,h⟩:=zbA h
 refine zgn (vs:=[zP b2,.string r3]) (Rd.nil:Rd _ _ []) rfl dc rfl rfl rfl zuI (zeN (bo1:=b2) (o1:=p1) (o1_h0:=hd1) (o1_h1:=hd2) (o1_h2:=hd3) (o1_h3:=hd4) (o1_h4:=hd5) hq10) Splits.nil (.own (zaa [0] kr rfl) (fun _ _ h=>sepL.one1.1 h) (.own (zaa [1] kr rfl) (fun _ _ h=>sepL.one1.1 h) (.own (zaa [2] kr rfl) (fun _ _ h=>sepL.one1.1 h) (.own (zaa [3] kr rfl) (fun _ _ h=>sepL.one1.1 h) (.own (zaa [4] kr rfl) (fun _ _ h=>sepL.one1.1 h) (.own (zaa [5] kr rfl) (fun _ _ h=>sepL.one1.1 h) .nil)))))) ?_
 rintro v2
 refine zyR 2 rfl ?_
 obtain ⟨r10,hq11,h⟩:=zbA h
 refine zgn (vs:=[zP b2,.string r4]) (Rd.nil:Rd _ _ []) rfl dc rfl rfl rfl zuI (zeN (bo1:=b2) (o1:=p1) (o1_h0:=hd1) (o1_h1:=hd2) (o1_h2:=hd3) (o1_h3:=hd4) (o1_h4:=hd5) hq11) Splits.nil (.own (zaa [0] kr rfl) (fun _ _ h=>sepL.one1.1 h) (.own (zaa [1] kr rfl) (fun _ _ h=>sepL.one1.1 h) (.own (zaa [2] kr rfl) (fun _ _ h=>sepL.one1.1 h) (.own (zaa [3] kr rfl) (fun _ _ h=>sepL.one1.1 h) (.own (zaa [4] kr rfl) (fun _ _ h=>sepL.one1.1 h) (.own (zaa [5] kr rfl) (fun _ _ h=>sepL.one1.1 h) .nil)))))) ?_
 rintro v3
 refine zyR 2 rfl ?_
 obtain ⟨r11,hq12,h⟩:=zbA h
 refine zgn (vs:=[zP b2,.string r5]) (Rd.nil:Rd _ _ []) rfl dc rfl rfl rfl zuI (zeN (bo1:=b2) (o1:=p1) (o1_h0:=hd1) (o1_h1:=hd2) (o1_h2:=hd3) (o1_h3:=hd4) (o1_h4:=hd5) hq12) Splits.nil (.own (zaa [0] kr rfl) (fun _ _ h=>sepL.one1.1 h) (.own (zaa [1] kr rfl) (fun _ _ h=>sepL.one1.1 h) (.own (zaa [2] kr rfl) (fun _ _ h=>sepL.one1.1 h) (.own (zaa [3] kr rfl) (fun _ _ h=>sepL.one1.1 h) (.own (zaa [4] kr rfl) (fun _ _ h=>sepL.one1.1 h) (.own (zaa [5] kr rfl) (fun _ _ h=>sepL.one1.1 h) .nil)))))) ?_
 rintro v4
 refine zsh (v:=.agg #[v2,v3,v4]) (ps:=[(0,.tmp 148),(1,.tmp 151),(2,.tmp 154)]) rfl dc rfl (fun _ h=>by rcases zrY h (k:=6) rfl with ⟨_,_,_,rfl⟩; rcases zrY h (k:=7) rfl with ⟨_,_,_,rfl⟩; rcases zrY h (k:=8) rfl with ⟨_,_,_,rfl⟩; kernel_rfl) ?_
 refine za3 zwO rfl dc (fun b3 => ?_)
 refine zqt (k:=9) (vs:=[v2,v3,v4]) (l':=[v2,v3,v4]) zwU rfl rfl rfl rfl rfl (show _≤_ by simp) (fun _ h=>(zic ((fun _ h=>zkE h (k:=6) rfl) _ h) (zic ((fun _ h=>zkE h (k:=7) rfl) _ h) (zic ((fun _ h=>zkE h (k:=8) rfl) _ h) rfl)))) rfl ?_
 refine zyH (zcX dc underlying45 zm6 rfl dc rfl rfl (show _=0 from rfl) (zal (k:=9) zmk rfl dc rfl rfl rfl (zcX dc underlying45 zm6 rfl dc rfl rfl (show _=1 from rfl) (zal (k:=9) zmk rfl dc rfl rfl rfl (zeJ (v:=zI (Lib.compareBytes r9.data.toList r10.data.toList)) (vs:=[v2,v3]) rfl dc rfl rfl rfl zuH (zoI (e:=5) r9 r10) [6,7] kr rfl (zyR 1 rfl (zaR rfl za9 (zyR 1 rfl ?_))))))))
 refine zyS (s:=163) rfl h (fun h => ?_) (fun h => ?_)
 ·
  refine zcX dc underlying45 zm6 rfl dc rfl rfl (show _=1 from rfl) (zal (k:=9) zmk rfl dc rfl rfl rfl (zcX dc underlying45 zm6 rfl dc rfl rfl (show _=2 from rfl) (zal (k:=9) zmk rfl dc rfl rfl rfl (zeJ (v:=zI (Lib.compareBytes r10.data.toList r11.data.toList)) (vs:=[v3,v4]) rfl dc rfl rfl rfl zuH (zoI (e:=5) r10 r11) [7,8] kr rfl (zyR 1 rfl (zaR rfl za9 (zyR 2 rfl ?_)))))))
  refine zyS (s:=172) rfl h (fun h => ?_) (fun h => ?_)
  ·
   refine zcX dc underlying45 zm6 rfl dc rfl rfl (show _=0 from rfl) (zal (k:=9) zmk rfl dc rfl rfl rfl (zcX dc underlying45 zm6 rfl dc rfl rfl (show _=2 from rfl) (zal (k:=9) zmk rfl dc rfl rfl rfl (zeJ (v:=zI (Lib.compareBytes r9.data.toList r11.data.toList)) (vs:=[v2,v4]) rfl dc rfl rfl rfl zuH (zoI (e:=5) r9 r11) [6,8] kr rfl (zyR 1 rfl (zaR rfl za9 (zyR 2 rfl ?_)))))))
   refine zyS (s:=181) rfl h (fun h => ?_) (fun h => ?_)
   ·
    obtain ⟨r12,hq13,h⟩:=zbA h
    refine zaO (v:=.bool r12) (vs:=[]) rfl dc rfl rfl rfl zyd (zhZ hq13) (zyR 2 rfl (zyN (zaA ?_)))
    cases h
    exact zaS 4 results5
   refine zyR 3 rfl (zyN (zaA ?_))
   cases h
   exact zaS 4 results5
  refine zyR 12 rfl (zyN ?_)
  refine zaA ?_
  cases h
  exact zaS 4 results5
 refine zyR 14 rfl ?_
 refine zyR 7 rfl (zyN (zaA ?_))
 cases h
 exact zaS 4 results5
theorem zxc {α:Type} {a b c d a' b' c' d':α} (h:[a,b,c,d]=[a',b',c',d']):d=d':=by
 injection h with _ h
 injection h with _ h
 injection h with _ h
 injection h with h _
theorem zys {α:Type} (a b c d:α):[a,b,c,d].length=4:=rfl
theorem zsR {o:zac} {a b:zBA} (h:zdI o a=zdI o b):a=b:=by
 unfold zdI at h
 exact zgR (zxc h)
theorem zmv (o:zac) (a:zBA):(zdI o a).length=4:=by
 unfold zdI
 exact zys _ _ _ _
theorem zfX (o:zac) (a b:zBA):(zdI o a).length=(zdI o b).length:=by rw [zmv,zmv]
theorem zoo {o:zac} (h:zsk o) (a b:zBA) (ha:Few a) (hb:Few b) {x y:zBA}
  (hx:x.data.toList=k1 (elA o a)++(k2 (elA o a)++(k3 (elA o a)++a.data.toList))) (hy:y.data.toList=k1 (elA o b)++(k2 (elA o b)++(k3 (elA o b)++b.data.toList))):Lib.compareBytes x.data.toList y.data.toList=(zg5 1 (zdI o a) (zdI o b)).1:=by
 show cb x.data.toList y.data.toList=_
 obtain ⟨ga,_⟩:=ziS h a ha
 obtain ⟨gb,_⟩:=ziS h b hb
 rw [hx,hy,zuk ga gb]
 unfold zdI
 rw [zo7 ga gb]
theorem zlt (text:zBA) (l:zfv):zdG text l=some true:=by
 unfold zdG
 refine zaV zm3 (zaE rfl (zaV (zue text) (zaE rfl (zaV (zn6 _) (zaV (zn6 _) (zaV (zn6 _) (zaV (a:=zlO text) rfl ?_)))))))
 have hi:=(zpW text).ok
 generalize zlO text=o at hi
 have la:=zoD l.e0; have lb:=zoD l.e1; have lc:=zoD l.e2
 generalize zuO l.e0=a at la ⊢
 generalize zuO l.e1=b at lb ⊢
 generalize zuO l.e2=c at lc ⊢
 refine zaV (zkX hi a b (zox (by omega)) (zox (by omega))) (zaV (zkX hi b c (zox (by omega)) (zox (by omega))) (zaV (zkX hi a c (zox (by omega)) (zox (by omega))) ?_))
 obtain ⟨ka,ea,da⟩:=zun hi a (zox (by omega))
 obtain ⟨kb,eb,db⟩:=zun hi b (zox (by omega))
 obtain ⟨kc,ec,dc⟩:=zun hi c (zox (by omega))
 have kab:=zoo hi a b (zox (by omega)) (zox (by omega)) da db
 have kbc:=zoo hi b c (zox (by omega)) (zox (by omega)) db dc
 have kac:=zoo hi a c (zox (by omega)) (zox (by omega)) da dc
 have r1:=zhN (zdI o a) (zdI o b) 1 (by omega) (zfX o a b)
 have r2:=zhN (zdI o b) (zdI o c) 1 (by omega) (zfX o b c)
 have r3:=zhN (zdI o a) (zdI o c) 1 (by omega) (zfX o a c)
 have t1:=zjv (zdI o a) (zdI o b) (zdI o c) 1 (by omega) (zfX o a b) (zfX o b c)
 have t2:=zjv (zdI o c) (zdI o b) (zdI o a) 1 (by omega) (zfX o c b) (zfX o b a)
 rw [ziT (zdI o b) (zdI o c),ziT (zdI o a) (zdI o b),ziT (zdI o a) (zdI o c)] at t2
 have h4:((zdI o a).length:Int)=4:=by rw [zmv]; rfl
 have h4b:((zdI o b).length:Int)=4:=by rw [zmv]; rfl
 rw [h4] at r1 r3
 rw [h4b] at r2
 have eab:(decide (a=b))=decide ((zg5 1 (zdI o a) (zdI o b)).1=0):=by
  rcases r1 with ⟨e,h⟩ | ⟨e,_,_,h⟩
  ·rw [e,decide_eq_true (zsR h)]; rfl
  ·rw [decide_eq_false (fun hh=>h (by rw [hh])),decide_eq_false (by omega)]
 rw [eab]
 generalize hC1:zg5 1 (zdI o a) (zdI o b)=C1 at *
 generalize hC2:zg5 1 (zdI o b) (zdI o c)=C2 at *
 generalize hC3:zg5 1 (zdI o a) (zdI o c)=C3 at *
 clear hC1 hC2 hC3 eab
 obtain ⟨x,i⟩:=C1
 obtain ⟨y,k⟩:=C2
 obtain ⟨z,j⟩:=C3
 simp only at *
 have r1':(x=0∧i=0)∨((x=-1∨x=1)∧1≤i∧i<5):=by
  rcases r1 with ⟨e,_⟩ | ⟨h1,h2,h3,_⟩
  ·injection e with e1 e2; exact .inl ⟨e1,e2⟩
  ·exact .inr ⟨h1,h2,by omega⟩
 have r2':(y=0∧k=0)∨((y=-1∨y=1)∧1≤k∧k<5):=by
  rcases r2 with ⟨e,_⟩ | ⟨h1,h2,h3,_⟩
  ·injection e with e1 e2; exact .inl ⟨e1,e2⟩
  ·exact .inr ⟨h1,h2,by omega⟩
 have r3':(z=0∧j=0)∨((z=-1∨z=1)∧1≤j∧j<5):=by
  rcases r3 with ⟨e,_⟩ | ⟨h1,h2,h3,_⟩
  ·injection e with e1 e2; exact .inl ⟨e1,e2⟩
  ·exact .inr ⟨h1,h2,by omega⟩
 clear r1 r2 r3
 have bz:∀ n:Int,((n:Int)==0)=decide (n=0):=fun n=>by rw [Bool.eq_iff_iff,beq_iff_eq,decide_eq_true_iff]
 have hxx:x*x≤1∧0≤x*x:=by rcases r1' with ⟨h,_⟩ | ⟨h | h,_⟩ <;> rw [h] <;> decide
 refine zaE (by rw [bz]; simp) (zaE (by rw [bz,bz]; rcases r1' with ⟨h1,h2⟩ | ⟨h1,h2,h3⟩; (rw [h1,h2]; rfl); (rw [decide_eq_false (by omega),decide_eq_false (by omega)]; rfl)) (zcf ⟨by omega,by omega⟩ (zaE (decide_eq_false (by omega)) (zaE (decide_eq_false (by omega)) (zaE (decide_eq_false (by omega)) (zce ?_))))))
 have fin:∀ j1:Option Bool,j1=some true→(zbx (fun (j2:Option Bool)=>zar ((x:Int) != 0) (zar ((y:Int) != 0) (zar ((z:Int) != 0) (zar ((x:Int)==y) (zar ((j:Int) != (min i k)) (some false) (j2)) (j2)) (j2)) (j2)) (j2)) j1)=some true:=by
  intro j1 hj
  refine zce ?_
  by_cases h1:x=0
  ·exact zaE (by rw [h1]; rfl) hj
  ·refine zaI (bne_iff_ne.2 h1) ?_
   by_cases h2:y=0
   ·exact zaE (by rw [h2]; rfl) hj
   ·refine zaI (bne_iff_ne.2 h2) ?_
    by_cases h3:z=0
    ·exact zaE (by rw [h3]; rfl) hj
    ·refine zaI (bne_iff_ne.2 h3) ?_
     by_cases h5:x=y
     ·refine zaI (beq_iff_eq.2 h5) (zaE ?_ hj)
      have hm:j=min i k:=by
       rcases r1' with ⟨h,_⟩ | ⟨h,_,_⟩
       ·exact absurd h h1
       ·rcases h with h | h
        ·exact (t1 (by omega) (by omega)).2.2 h1 h2
        ·have:=(t2 (by omega) (by omega)).2.2 (by omega) (by omega)
         rw [this]; omega
      rw [hm]; simp
     ·exact zaE (beq_eq_false_iff_ne.2 h5) hj
 have last:(zak (zbL o a) fun (r9:zBA)=>zak (zbL o b) fun (r10:zBA)=>zak (zbL o c) fun (r11:zBA) =>
   zar (((Lib.compareBytes r9.data.toList r10.data.toList):Int)==x) (zar (((Lib.compareBytes r10.data.toList r11.data.toList):Int)==y) (zar (((Lib.compareBytes r9.data.toList r11.data.toList):Int)==z) (zak (zeF) fun (r12:Bool)=>some r12) (some false)) (some false)) (some false))=some true :=
  zaV ea (zaV eb (zaV ec (zaI (beq_iff_eq.2 kab) (zaI (beq_iff_eq.2 kbc) (zaI (beq_iff_eq.2 kac) (zaV zm3 rfl))))))
 have hfin:=fin _ last
 have up:∀ j1:Option Bool,j1=some true→(zar (decide ((0:Int)≤x)) (zar (decide ((0:Int)≤y)) (zar (decide ((z:Int)<0)) (some false) (zar ((z:Int)==0) (grd (I64 (x+y))<|zar (((x+y):Int) != 0) (some false) (j1)) (j1))) (j1)) (j1))=some true:=by
  intro j1 hj
  by_cases h1:0≤x
  ·refine zaI (decide_eq_true h1) ?_
   by_cases h2:0≤y
   ·have q:=t2 (by omega) (by omega)
    refine zaI (decide_eq_true h2) (zaE (decide_eq_false (by omega)) ?_)
    by_cases h3:z=0
    ·refine zaI (by rw [h3]; rfl) (zcf ⟨by omega,by omega⟩ (zaE ?_ hj))
     have:=q.2.1 (by omega)
     rw [show x+y=0 by omega]; rfl
    ·exact zaE (beq_eq_false_iff_ne.2 h3) hj
   ·exact zaE (decide_eq_false h2) hj
  ·exact zaE (decide_eq_false h1) hj
 have hup:=up _ hfin
 by_cases h1:x≤0
 ·refine zaI (decide_eq_true h1) ?_
  by_cases h2:y≤0
  ·have q:=t1 (by omega) (by omega)
   refine zaI (decide_eq_true h2) (zaE (decide_eq_false (by omega)) ?_)
   by_cases h3:z=0
   ·refine zaI (by rw [h3]; rfl) (zcf ⟨by omega,by omega⟩ (zaE ?_ hup))
    have:=q.2.1 h3
    rw [show x+y=0 by omega]; rfl
   ·exact zaE (beq_eq_false_iff_ne.2 h3) hup
  ·exact zaE (decide_eq_false h2) hup
 ·exact zaE (decide_eq_false h1) hup
theorem collateOrder_any (text:zBA) (l:zfv) (w:World) (h0:text.size≤140737488351232):Calls prog 5 #[.string text,.agg #[.string l.e0,.string l.e1,.string l.e2]] w fun e w'=>e=.returned (.bool true)∧Below w.heap.size w w' :=
 zhs (zlt text l) w
end Go.Proofs.YtifpjbgnikjglaaDoor
