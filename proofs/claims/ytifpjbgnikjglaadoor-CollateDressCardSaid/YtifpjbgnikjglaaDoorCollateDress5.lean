/-
  Texts laid together: Ki, Kj, Kk, Kl, Km, LcD, Kn, Ko, Kp, Kq, LcH, Kr, Ks, Kt, Ku, LcJ, PlCollateDress. Nothing is assumed.
-/
import Derived.Test.YtifpjbgnikjglaaDoorCollateDress4
import Derived.Test.YtifpjbgnikjglaaDoorCollateDress2
set_option maxRecDepth 100000
set_option maxHeartbeats 4000000
namespace Go.Proofs.YtifpjbgnikjglaaDoor
open Go.RowKit Go.Lib
open Tryd
set_option linter.unusedVariables false
set_option linter.unusedSimpArgs false
def zuk (o:zhN):Prop:=∀ u i,o.p u=some i→0≤i∧i<65536
theorem zpp (m:zBA):∀ {l:List El} {e:El},e∈zox m l→e∈l∨∃ e'∈l,e=⟨e'.sort,e'.place,e'.digits,m,e'.great⟩
 | [],e,h=>.inl h
 | [a],e,h=>.inr ⟨a,List.mem_cons_self ..,List.mem_singleton.1 h⟩
 | a::b::l,e,h=>by
  rw [zox] at h
  rcases List.mem_cons.1 h with rfl | h
  ·exact .inl (List.mem_cons_self ..)
  ·rcases zpp m h with h | ⟨e',h1,h2⟩
   ·exact .inl (List.mem_cons_of_mem _ h)
   ·exact .inr ⟨e',List.mem_cons_of_mem _ h1,h2⟩
theorem zqy {r:Int} (h:mrk r=true):∀ c∈(Utf8.encode r).data.toList,c≠0:=by
 have h:=of_decide_eq_true h
 have key:((List.range 880).all fun n=>decide (n<768)||((Utf8.encode (n:Int)).data.toList.all fun c=>c != 0))=true:=by decide +kernel
 have:=List.all_eq_true.1 key r.toNat (List.mem_range.2 (by omega))
 rw [show ((r.toNat:Nat):Int)=r by omega,decide_eq_false (by omega),Bool.false_or] at this
 intro c hc
 exact bne_iff_ne.1 (List.all_eq_true.1 this c hc)
theorem znG:∀ {l:List Tk},(∀ x∈l,zhv x=true)→(∀ c∈(zgh l).data.toList,c≠0)∧(zgh l).size≤4*l.length
 | [],_=>⟨(fun c h=>nomatch (show c∈([]:List UInt8) from h)),Nat.le_refl _⟩
 | x::l,h=>by
  obtain ⟨h1,h2⟩:=znG (l:=l) fun y hy=>h y (List.mem_cons_of_mem _ hy)
  unfold zgh at h1 h2 ⊢
  rw [zdm,zjR,ByteArray.size_append,List.length_cons]
  have:=zc5 x.1
  refine ⟨fun c hc => ?_,by omega⟩
  rcases List.mem_append.1 hc with hc | hc
  ·exact zqy (h x (List.mem_cons_self ..)) c hc
  ·exact h1 c hc
theorem zhI:∀ {l:List Tk},(∀ x∈l,x.2.size≤4)→(zhl l).size≤4*l.length
 | [],_=>Nat.le_refl _
 | x::l,h=>by
  have h2:=zhI (l:=l) fun y hy=>h y (List.mem_cons_of_mem _ hy)
  have h1:=h x (List.mem_cons_self ..)
  unfold zhl at h2 ⊢
  rw [zdm,ByteArray.size_append,List.length_cons]; omega
theorem zlM {α:Type} {p:α→Bool} {l:List α} {x:α} (h:x∈l.takeWhile p):p x=true∧x∈l :=
 ⟨List.all_eq_true.1 (List.all_takeWhile (p:=p) (l:=l)) x h,(List.takeWhile_sublist p).subset h⟩
theorem ztU:zfq zwt:=⟨.inl rfl,(by show (0:Int)≤0∧(0:Int)<65536; omega),by decide,fun _=>rfl,(fun c h=>nomatch (show c∈([]:List UInt8) from h)),by decide,.inl rfl⟩
theorem zqI (l:List Tk):zi1 l=0∨zi1 l=1:=by unfold zi1; split <;> simp
theorem zqY (o:zhN) (hf:zhg o) (hp:zuk o) (x:Tk) (l:List Tk) (hl:∀ y∈x::l,y.2.size≤4) (hn:(x::l).length≤65536) (es:List El) (h:(zfp o x l).2=some es):(∀ e∈es,zfq e)∧es.length≤4:=by
 unfold zfp at h
 split at h
 ·rename_i hk
  have hL:zaN x.1=true:=(zgX x).1.1 hk
  have hm:=zks o hf x l hL
  injection h with h
  subst h
  have hms:∀ y∈((x::l).drop (zdj o x l).1).takeWhile zhv,zhv y=true:=fun y hy=>(zlM hy).1
  have hml:(((x::l).drop (zdj o x l).1).takeWhile zhv).length≤65536:=by
   have:=(List.takeWhile_sublist zhv (l:=(x::l).drop (zdj o x l).1)).length_le
   rw [List.length_drop] at this; omega
  obtain ⟨m1,m2⟩:=znG hms
  refine ⟨fun e he => ?_,by rw [zpq,List.length_map]; exact hm.2.2.2⟩
  have base:∀ u,zfq (elU o (zi1 ((x::l).take (zdj o x l).1)) u):=fun u=>by
   have hpl:0≤(o.p u).getD 0∧(o.p u).getD 0<65536:=by
    cases hq:o.p u with
    | none=>rw [Option.getD_none]; omega
    | some i=>rw [Option.getD_some]; exact hp u i hq
   exact ⟨.inr (.inr (.inl rfl)),hpl,by show (0:Nat)≤_; omega,fun _=>rfl,(fun c h=>nomatch (show c∈([]:List UInt8) from h)),by show (0:Nat)≤_; omega,zqI _⟩
  rcases zpp _ he with he | ⟨e',he',rfl⟩
  ·obtain ⟨u,_,rfl⟩:=List.mem_map.1 he
   exact base u
  ·obtain ⟨u,_,rfl⟩:=List.mem_map.1 he'
   have b:=base u
   exact ⟨b.so,b.pl,b.di,b.nd,m1,by show (zgh _).size≤_; omega,b.gr⟩
 ·split at h
  ·injection h with h
   subst h
   refine ⟨fun e he => ?_,by simp⟩
   rw [List.mem_singleton] at he
   subst he
   have h1:(zhl (x::l.takeWhile zhc)).size≤4*(x::l.takeWhile zhc).length:=zhI fun y hy=>hl y (by
    rcases List.mem_cons.1 hy with rfl | hy
    ·exact List.mem_cons_self ..
    ·exact List.mem_cons_of_mem _ (zlM hy).2)
   have h2:=(List.takeWhile_sublist zhc (l:=l)).length_le
   have h3:(zws (x::l.takeWhile zhc)).size≤(zhl (x::l.takeWhile zhc)).size:=by
    rw [zcE,zcE]
    exact (List.dropWhile_sublist _).length_le
   rw [List.length_cons] at hn h1
   exact ⟨.inr (.inl rfl),by show (0:Int)≤0∧(0:Int)<65536; omega,by show (zws _).size≤_; omega,fun h=>absurd rfl h,(fun c h=>nomatch (show c∈([]:List UInt8) from h)),by show (0:Nat)≤_; omega,.inl rfl⟩
  ·split at h
   ·cases h
   ·split at h
    ·injection h with h
     subst h
     refine ⟨fun e he => ?_,by simp⟩
     rw [List.mem_singleton] at he
     subst he
     have hby:0≤zge x.2∧zge x.2≤255:=by unfold zge; have:=(x.2.data.toList.headD 0).toNat_lt; omega
     exact ⟨.inr (.inr (.inr rfl)),by show 0≤zge x.2∧zge x.2<65536; omega,by show (0:Nat)≤_; omega,fun _=>rfl,(fun c h=>nomatch (show c∈([]:List UInt8) from h)),by show (0:Nat)≤_; omega,.inl rfl⟩
    ·injection h with h
     subst h
     exact ⟨(fun e he=>by cases he),by simp⟩
theorem zlf (o:zhN) (hf:zhg o) (hp:zuk o):∀ (n:Nat) (l:List Tk),(∀ y∈l,y.2.size≤4)→l.length≤65536→(∀ es,some es∈zeF o n l→(∀ e∈es,zfq e)∧es.length≤4)∧(zeF o n l).length≤n
 | 0,l,_,_=>⟨(fun es h=>by cases h),Nat.le_refl _⟩
 | n+1,[],_,_=>⟨(fun es h=>by cases h),Nat.zero_le _⟩
 | n+1,x::l,hl,hn=>by
  obtain ⟨h1,h2⟩:=zlf o hf hp n ((x::l).drop (zfp o x l).1) (fun y hy=>hl y (List.mem_of_mem_drop hy)) (by rw [List.length_drop]; omega)
  rw [zeF]
  refine ⟨fun es h => ?_,by rw [List.length_cons]; omega⟩
  rcases List.mem_cons.1 h with h | h
  ·exact zqY o hf hp x l hl hn es h.symm
  ·exact h1 es h
theorem zkz:∀ (cs:List (Option (List El))) (out:List El) (sp:Bool),(∀ es,some es∈cs→(∀ e∈es,zfq e)∧es.length≤4)→(∀ e∈out,zfq e)→(∀ e∈asm cs out sp,zfq e)∧(asm cs out sp).length≤out.length+5*cs.length
 | [],out,sp,_,h=>⟨h,Nat.le_refl _⟩
 | none::cs,out,sp,hc,h=>by
  obtain ⟨h1,h2⟩:=zkz cs out true (fun es he=>hc es (List.mem_cons_of_mem _ he)) h
  exact ⟨h1,by rw [List.length_cons]; show (asm cs out true).length≤_; omega⟩
 | some []::cs,out,sp,hc,h=>by
  obtain ⟨h1,h2⟩:=zkz cs out sp (fun es he=>hc es (List.mem_cons_of_mem _ he)) h
  exact ⟨h1,by rw [List.length_cons]; show (asm cs out sp).length≤_; omega⟩
 | some (e::es)::cs,out,sp,hc,h=>by
  have he:=hc _ (List.mem_cons_self ..)
  have hg:=zi6 sp out
  obtain ⟨h1,h2⟩:=zkz cs (out++zom sp out++e::es) false (fun es he=>hc es (List.mem_cons_of_mem _ he)) (fun a ha=>by
   rcases List.mem_append.1 ha with ha | ha
   ·rcases List.mem_append.1 ha with ha | ha
    ·exact h a ha
    ·unfold zom at ha
     split at ha
     ·rw [List.mem_singleton.1 ha]; exact ztU
     ·cases ha
   ·exact he.1 a ha)
  refine ⟨h1,?_⟩
  show (asm cs (out++zom sp out++e::es) false).length≤_
  have:=he.2
  simp only [List.length_append,List.length_cons] at h2 this ⊢
  omega
theorem zqT (o:zhN) (hf:zhg o) (hp:zuk o) (l:List Tk) (hl:∀ y∈l,y.2.size≤4) (hn:l.length≤65536):(∀ e∈zic o l,zfq e)∧(zic o l).length≤327680:=by
 unfold zic
 obtain ⟨h1,h2⟩:=zlf o hf hp l.length (l.drop (zhs o l)) (fun y hy=>hl y (List.mem_of_mem_drop hy)) (by rw [List.length_drop]; omega)
 obtain ⟨h3,h4⟩:=zkz (zeF o l.length (l.drop (zhs o l))) [] false h1 (fun e h=>by cases h)
 exact ⟨h3,by rw [List.length_nil] at h4; omega⟩
theorem ziG {t:Tok} (h:zey t):t.bs.length≤4:=by
 rcases h with h | h
 ·rw [h.2]; exact (zfy t.r).2
 ·unfold Tok.broken at h; simp at h; omega
theorem zrk (t:zBA) (ht:Few t):(∀ y∈zh5 t,y.2.size≤4)∧(zh5 t).length≤65536:=by
 have h1:=ht.2
 have h2:=ziE (zcc t)
 refine ⟨fun y hy => ?_,by unfold zh5 zig; rw [List.length_map]; omega⟩
 obtain ⟨x,hx,rfl⟩:=List.mem_map.1 hy
 have:=ziG (zef _ x hx)
 show (⟨x.bs.toArray⟩:zBA).size≤4
 rw [zcE]
 simpa using this
def elA (o:zac) (t:zBA):List El:=zic (zem o) (zh5 t)
def zit (o:zac) (t:zBA):List (List UInt8):=[k1 (elA o t),k2 (elA o t),k3 (elA o t),t.data.toList]
structure zwl (o:zac):Prop where
 fo:zhg (zem o)
 pl:zuk (zem o)
theorem zpP {o:zac} (h:zwl o) (t:zBA) (ht:Few t):(∀ e∈elA o t,zfq e)∧(elA o t).length≤327680 :=
 zqT _ h.fo h.pl _ (zrk t ht).1 (zrk t ht).2
theorem zyp {x y:List El} (hx:∀ e∈x,zfq e) (hy:∀ e∈y,zfq e):cb (k1 x) (k1 y)=sg (zh0 zgm x y):=by
 have:=zuA [] [] hx hy
 rw [List.append_nil,List.append_nil] at this
 rw [this]
 split
 ·rename_i h; rw [h]; rfl
 ·rfl
theorem zyo {x y:List El} (hx:∀ e∈x,zfq e) (hy:∀ e∈y,zfq e) (hl:x.length=y.length):cb (k2 x) (k2 y)=sg (zh0 zht x y):=by
 have:=zuz [] [] hx hy hl
 rw [List.append_nil,List.append_nil] at this
 rw [this]
 split
 ·rename_i h; rw [h]; rfl
 ·rfl
theorem zyn {x y:List El} (hx:∀ e∈x,zfq e) (hy:∀ e∈y,zfq e) (hl:x.length=y.length):cb (k3 x) (k3 y)=sg (zh0 zi2 x y):=by
 have:=zuy [] [] hx hy hl
 rw [List.append_nil,List.append_nil] at this
 rw [this]
 split
 ·rename_i h; rw [h]; rfl
 ·rfl
def lvl (x y:List El) (a b:List UInt8):Int×Int :=
 if zh0 zgm x y=0 then (if zh0 zht x y=0 then (if zh0 zi2 x y=0 then (if cb a b=0 then (0,0) else (cb a b,4)) else (sg (zh0 zi2 x y),3)) else (sg (zh0 zht x y),2)) else (sg (zh0 zgm x y),1)
theorem ztK {x y:List El} (hx:∀ e∈x,zfq e) (hy:∀ e∈y,zfq e) (a b:List UInt8):zlo 1 [k1 x,k2 x,k3 x,a] [k1 y,k2 y,k3 y,b]=lvl x y a b:=by
 unfold lvl
 rw [zlo,zyp hx hy]
 by_cases h1:zh0 zgm x y=0
 ·rw [if_pos (sg_zero.2 h1),if_pos h1,zlo,zyo hx hy (zmI h1)]
  by_cases h2:zh0 zht x y=0
  ·rw [if_pos (sg_zero.2 h2),if_pos h2,zlo,zyn hx hy (zmI h1)]
   by_cases h3:zh0 zi2 x y=0
   ·rw [if_pos (sg_zero.2 h3),if_pos h3,zlo]
    by_cases h4:cb a b=0
    ·rw [if_pos h4,if_pos h4]; rfl
    ·rw [if_neg h4,if_neg h4]; rfl
   ·rw [if_neg (fun h=>h3 (sg_zero.1 h)),if_neg h3]; rfl
  ·rw [if_neg (fun h=>h2 (sg_zero.1 h)),if_neg h2]; rfl
 ·rw [if_neg (fun h=>h1 (sg_zero.1 h)),if_neg h1]
theorem zzq {n:Int} (h:n≠0):((n:Int) != 0)=true:=bne_iff_ne.2 h
theorem zzp {n:Int} (h:n=0):((n:Int) != 0)=false:=by rw [h]; rfl
theorem zn3 {o:zac} (h:zwl o) (a b:zBA) (ha:Few a) (hb:Few b):zbn o a b=some (zlo 1 (zit o a) (zit o b)):=by
 obtain ⟨ga,la⟩:=zpP h a ha
 obtain ⟨gb,lb⟩:=zpP h b hb
 unfold zbn
 by_cases hab:a=b
 ·subst hab
  refine zaL (decide_eq_true rfl) ?_
  rw [zn4]
 ·refine zaG (decide_eq_false hab) (zcf (zaS (zl8 o h.fo a ha) (zaS (zl8 o h.fo b hb) ?_)))
  show zak (zaw (elA o a) (elA o b)) _=_
  have e1:zaw (elA o a) (elA o b)=some (zh0 zgm (elA o a) (elA o b)) :=
   zcf (zo6 (cv:=zdN) _ _ (by omega) (fun _ _=>rfl) (fun p hp q hq=>zvs p q (ga p hp) (gb q hq)))
  have e2:zaA (elA o a) (elA o b)=some (zh0 zht (elA o a) (elA o b)) :=
   zcf (zo6 (cv:=zc2) _ _ (by omega) (fun _ _=>rfl) (fun p hp q hq=>rfl))
  have e3:zaz (elA o a) (elA o b)=some (zh0 zi2 (elA o a) (elA o b)) :=
   zcf (zo6 (cv:=zc1) _ _ (by omega) (fun _ _=>rfl) (fun p hp q hq=>by
    have g1:=(ga p hp).gr; have g2:=(gb q hq).gr
    exact zcm ⟨by omega,by omega⟩ rfl))
  unfold zit
  rw [ztK ga gb]
  unfold lvl
  refine zaS e1 ?_
  by_cases h1:zh0 zgm (elA o a) (elA o b)=0
  ·rw [if_pos h1]
   refine zaG (zzp h1) (zaS e2 ?_)
   by_cases h2:zh0 zht (elA o a) (elA o b)=0
   ·rw [if_pos h2]
    refine zaG (zzp h2) (zaS e3 ?_)
    by_cases h3:zh0 zi2 (elA o a) (elA o b)=0
    ·rw [if_pos h3]
     refine zaG (zzp h3) ?_
     rw [if_neg (fun h=>hab (zie (zm5 h)))]
    ·rw [if_neg h3]; exact zaL (zzq h3) (zaS (zru _) rfl)
   ·rw [if_neg h2]; exact zaL (zzq h2) (zaS (zru _) rfl)
  ·rw [if_neg h1]; exact zaL (zzq h1) (zaS (zru _) rfl)
def ba (l:List UInt8):zBA:=⟨l.toArray⟩
theorem zn8 (l:List UInt8):(ba l).data.toList=l:=by unfold ba; simp
theorem zlg (l:List UInt8):(ba l).size=l.length:=by rw [zcE,zn8]
theorem zyj:((List.range 1120).all fun n=>!zaN (n:Int)||(zaN (zaV (n:Int))&&decide (zaV (zaV (n:Int))=zaV (n:Int))&&!great (zaV (n:Int))&&(decide (zby (n:Int) tabS≠none)||decide (zby (zaV (n:Int)) tabS=none))))=true:=by decide +kernel
theorem zfB {r:Int} (h:zaN r=true):zaN (zaV r)=true∧zaV (zaV r)=zaV r∧great (zaV r)=false∧(zby r tabS=none→zby (zaV r) tabS=none):=by
 have h1:=zce r h
 have:=List.all_eq_true.1 zyj r.toNat (List.mem_range.2 (by omega))
 rw [show ((r.toNat:Nat):Int)=r by omega,h] at this
 simp only [Bool.not_true,Bool.false_or,Bool.and_eq_true,decide_eq_true_eq,Bool.or_eq_true,Bool.not_eq_true'] at this
 exact ⟨this.1.1.1,this.1.1.2,this.1.2,fun hn=>this.2.resolve_left (fun h=>h hn)⟩
theorem zqz {r:Int} (h:zaN r=false):zaV r=r:=by
 unfold zaV
 have:great r=false:=by
  unfold zaN at h
  cases hg:great r with
  | false=>rfl
  | true=>rw [hg] at h; cases h
 rw [this]; rfl
def zbu (x:Tk):Tk:=if zeb x then (zaV x.1,Utf8.encode (zaV x.1)) else x
def zdF (s:zBA):zBA:=zhl ((zh5 s).map zbu)
def gS (c:Itm×List Itm):List Int:=zaV c.1.Rune::(kLo c++kHi c)
theorem zxg:zoi (mkO gS):=zrT (fun c _=>by unfold gS; simp) (fun c hc hn hm r hr=>by
 obtain ⟨h1,h2⟩:=zhQ hm
 unfold gS at hr
 rcases List.mem_cons.1 hr with rfl | hr
 ·exact .inl (zfB hc).1
 ·rcases List.mem_append.1 hr with hr | hr
  ·exact .inr (h1 r hr)
  ·exact .inr (h2 r hr))
theorem zzP:∀ c:Itm×List Itm,isL c.1=true→zby c.1.Rune tabS=none→(∀ m∈c.2,isM m=true)→∀ t,(mkO gS c).head?=some t→mrk (zdG t).Rune=false:=by
 intro c hL hn hm t ht
 have e:mkO gS c=(zaV c.1.Rune::(kLo c++kHi c)).map zgA:=by unfold mkO; rw [hL]; rfl
 rw [e] at ht
 exact zr7 (zfB hL).1 t ht
theorem ziF (s:zBA) (hs:s.size≤65536):zig s=(clT (zdU s.data.toList)).flatMap (mkO gA):=zmB zxh (zj9 s hs)
theorem zrm {r:Int} (h:vr r):tkT (zgA r)=(r,Utf8.encode r):=by
 have hv:=zda (zeW h)
 have e:(zgA r).bs=(Utf8.encode r).data.toList:=(zcY r).symm
 unfold tkT
 rw [hv,if_neg (by simp),e]
 have:(((zgA r).r:Nat):Int)=r:=by show ((r.toNat:Nat):Int)=r; unfold vr at h; omega
 rw [this]
def zeY (t:Tok):Tok:=if zeb (tkT t) then zgA (zaV (tkT t).1) else t
theorem zmt (t:Tok):tkT (zeY t)=zbu (tkT t):=by
 unfold zeY zbu
 cases h:zeb (tkT t) with
 | true =>
  rw [if_pos rfl,if_pos rfl]
  exact zrm (zeJ (zfB (show zaN (tkT t).1=true from h)).1)
 | false=>rw [if_neg (by simp),if_neg (by simp)]
theorem zvj {s:zBA} (hs:s.size≤65536):∀ c∈clT (zdU s.data.toList),(mkO gA c).map zeY=mkO gS c:=by
 intro c hc
 rcases zm0 (zef _) c hc with ⟨g1,g2,g3⟩ | ⟨g1,g2,t,g3,g4⟩
 ·obtain ⟨h1,h2⟩:=zhQ g2
  have e1:mkO gA c=(c.1.Rune::(kLo c++kHi c)).map zgA:=by unfold mkO; rw [g1,zk2]; rfl
  have e2:mkO gS c=(zaV c.1.Rune::(kLo c++kHi c)).map zgA:=by unfold mkO; rw [g1]; rfl
  rw [e1,e2,List.map_cons,List.map_cons,List.map_cons]
  have hx:tkT (zgA c.1.Rune)=(c.1.Rune,Utf8.encode c.1.Rune):=zrm (zeJ g1)
  congr 1
  ·unfold zeY
   rw [hx]
   exact if_pos (show zaN c.1.Rune=true from g1)
  ·rw [List.map_map]
   refine List.map_congr_left fun m hm => ?_
   have hmk:mrk m=true:=by
    rcases List.mem_append.1 hm with hm | hm
    ·exact h1 m hm
    ·exact h2 m hm
   show zeY (zgA m)=zgA m
   unfold zeY
   rw [zrm (znD hmk)]
   exact if_neg (by show ¬ zaN m=true; rw [zci hmk]; simp)
 ·have e1:∀ g,mkO g c=[t]:=fun g=>by unfold mkO; rw [g1,g4,zjx g3]; rfl
  rw [e1,e1]
  have hL:zeb (tkT t)=false:=by
   have:isL (zdG t)=false:=by rw [← g4]; exact g1
   exact this
  show [zeY t]=[t]
  unfold zeY
  rw [hL,if_neg (by simp)]
theorem zl6 {α β:Type} {f g:α→List β}:∀ {l:List α},(∀ x∈l,f x=g x)→l.flatMap f=l.flatMap g
 | [],_=>rfl
 | x::l,h=>by rw [List.flatMap_cons,List.flatMap_cons,h x (List.mem_cons_self ..),zl6 fun y hy=>h y (List.mem_cons_of_mem _ hy)]
theorem zlW {s:zBA} (hs:s.size≤65536):(zig s).map zeY=(clT (zdU s.data.toList)).flatMap (mkO gS):=by
 rw [ziF s hs,List.map_flatMap]
 exact zl6 (zvj hs)
theorem zvS (ts:List Tok):(zhl ((ts.map tkT).map zbu)).data.toList=zbZ (ts.map zeY):=by
 rw [← zjh,List.map_map,List.map_map]
 congr 1; congr 1; congr 1
 exact List.map_congr_left fun t _=>(zmt t).symm
theorem zio (s:zBA) (hs:s.size≤65536):(zdF s).data.toList=zbZ ((clT (zdU s.data.toList)).flatMap (mkO gS)):=by
 rw [← zlW hs]; exact zvS _
theorem zlP (s:zBA) (hs:s.size≤65536):zdU (zdF s).data.toList=(zig s).map zeY:=by
 rw [zlW hs]; exact zmB zxg (zio s hs)
def smC (c:Itm×List Itm):zBA:=if isL c.1 then zeg (gS c) else c.1.Text
theorem znN (c:Itm×List Itm):kLo (zeD c)=kLo c∧kHi (zeD c)=kHi c:=by
 unfold kLo kHi
 have:=ziX c.2
 constructor
 ·show (loI (c.2.map zeG)).map _=_; rw [this.1,List.map_map]; rfl
 ·show (hiI (c.2.map zeG)).map _=_; rw [this.2,List.map_map]; rfl
theorem znr (c:Itm×List Itm):smC (zeD c)=smC c:=by
 unfold smC gS
 rw [(znN c).1,(znN c).2]; rfl
theorem zrt (s:zBA) (hs:s.size≤65536):J smC (zj7 s)=zdF s:=by
 apply zie
 rw [zio s hs]
 exact zjD znr (fun c hL _ _=>by unfold smC; rw [hL]; rfl) (fun c hL _=>by unfold smC; rw [hL]; rfl) s hs
theorem zyh {c:Itm×List Itm} (hL:isL c.1=true) (hm:∀ m∈c.2,isM m=true) (hn:zby c.1.Rune tabS=none):∃ d:Itm×List Itm,clT (mkO gS c)=[d]∧isL d.1=true∧okT d.1∧(∀ m∈d.2,isM m=true∧okT m)∧d.1.Rune=zaV c.1.Rune∧kLo d=kLo c∧kHi d=kHi c:=by
 obtain ⟨h1,h2⟩:=zhQ hm
 have e:mkO gS c=(zaV c.1.Rune::(kLo c++kHi c)).map zgA:=by unfold mkO; rw [hL]; rfl
 have hp:zcx (zaV c.1.Rune)=[zaV c.1.Rune]:=by unfold zcx; rw [(zfB hL).2.2.2 hn]
 have:=zrM (c:=(mkI (zaV c.1.Rune),[])) (zfB hL).1 (st:=kLo c++kHi c) (fun m hm=>by
  rcases List.mem_append.1 hm with hm | hm
  ·exact h1 m hm
  ·exact h2 m hm) hp rfl
 obtain ⟨o1,o2,o3,o4,o5⟩:=this
 rw [← e] at o1
 refine ⟨_,o1,o2,o3,o4,rfl,?_⟩
 obtain ⟨k1,k2⟩:=zrZ (zaV c.1.Rune) ([]++(kLo c++kHi c))
 obtain ⟨l1,l2⟩:=zoO c
 rw [k1,k2,List.nil_append,List.filter_append,List.filter_append,(zjv l1).1,(zjv l1).2,(zjB l2).1,(zjB l2).2]
 simp
theorem zlh (s:zBA) (hs:s.size≤65536):zcc (zdF s)=zdF s:=by
 rw [← zrt s hs]
 refine zk3 zxg zzP ze2 znr hs (x:=J smC (zj7 s)) (by rw [zrt s hs]; exact zio s hs) (fun c hL hm hn hok => ?_) (fun y hy=>by unfold smC; rw [hy]; rfl)
 obtain ⟨d,d1,d2,d3,d4,d5,d6,d7⟩:=zyh hL (fun m h=>(hm m h).1) hn
 rw [d1,zdm,znh,ByteArray.append_empty,zgO d2 d3 d4,zk2,d5,d6,d7]
 unfold smC
 rw [hL]; rfl
theorem zoq (s:zBA) (hs:s.size≤65536):zig (zdF s)=(zig s).map zeY:=by
 unfold zig
 rw [zlh s hs]; exact zlP s hs
theorem zjq (s:zBA) (hs:s.size≤65536):zh5 (zdF s)=(zh5 s).map zbu:=by
 unfold zh5
 rw [zoq s hs,List.map_map,List.map_map]
 exact List.map_congr_left fun t _=>zmt t
theorem zn6 (i:Nat) (t:Tok) (h:zey t):zdr (pT i t)=some (zeb (tkT t)):=by
 unfold zdr
 refine zcm (zeO h) ?_
 show some ((zbx t.broken (t.r:Int):Int)==1)=_
 rw [zj3,zgG]
theorem zvQ (i:Nat) (t:Tok) (h:zey t):zdC (pT i t)=some (zhv (tkT t)):=by
 unfold zdC
 refine zcm (zeO h) ?_
 show some ((zbx t.broken (t.r:Int):Int)==2)=_
 rw [zj3,zkX]
theorem zju {x:Tk} (h:x.2.size≤4):(zbu x).2.size≤4:=by
 unfold zbu
 split
 ·exact zc5 _
 ·exact h
theorem zlX (S:zBA) (hS:S.size≤1000000000):∀ (ts A:List Tok) (b:zBA),S.data.toList=zbZ (A++ts)→(∀ t∈ts,zey t)→b.size+4*ts.length≤100000000000 →
  zcH (fun b8=>(some b8:Option zBA)) (zcC S) (pL (zbZ A).length ts) b=some (b++zhl ((ts.map tkT).map zbu))
 | [],A,b,_,_,_=>by
  rw [pL,zjt]
  show some b=some (b++ByteArray.empty)
  rw [ByteArray.append_empty]
 | t::ts,A,b,hd,hok,hb=>by
  have ht:=hok t (List.mem_cons_self ..)
  have hlen:(zbZ A).length+(t.bs.length+(zbZ ts).length)=S.size:=by rw [zcE,hd,zbv,zcn,List.length_append,List.length_append]
  have e:(zbZ A).length+t.bs.length=(zbZ (A++[t])).length:=by rw [zbv,List.length_append]; simp [zbZ]
  rw [List.length_cons] at hb
  have next:∀ x:zBA,x.size≤4→zcH (fun b8=>(some b8:Option zBA)) (zcC S) (pL ((zbZ A).length+t.bs.length) ts) (b++x)=some ((b++x)++zhl ((ts.map tkT).map zbu)):=fun x hx=>by
   rw [e]
   exact zlX S hS ts (A++[t]) (b++x) (by rw [hd,List.append_assoc]; rfl) (fun y hy=>hok y (List.mem_cons_of_mem _ hy)) (by rw [ByteArray.size_append]; omega)
  rw [pL,zcr]
  generalize hag:zcH (fun b8=>(some b8:Option zBA)) (zcC S) (pL ((zbZ A).length+t.bs.length) ts)=ag at next ⊢
  unfold zcC
  refine zaS (zn6 _ t ht) ?_
  have hJ:zhl (((t::ts).map tkT).map zbu)=(zbu (tkT t)).2++zhl ((ts.map tkT).map zbu):=by unfold zhl; rw [List.map_cons,List.map_cons,zdm]
  rw [hJ,← ByteArray.append_assoc]
  cases hl:zeb (tkT t) with
  | true =>
   obtain ⟨h1,h2,h3⟩:=zrV hl
   have e2:(zbu (tkT t)).2=Utf8.encode (zaV (t.r:Int)):=by unfold zbu; rw [hl,h1]; rfl
   have e4:=zc5 (zaV (t.r:Int))
   rw [e2]
   exact zaL rfl (zcm (zeO ht) (zcm (by show b.size+(Utf8.encode (zaV (t.r:Int))).size≤_; omega) (next _ e4)))
  | false =>
   have e2:(zbu (tkT t)).2=(tkT t).2:=by unfold zbu; rw [hl]; rfl
   have hsz:=ziG ht
   have hq:(pT (zbZ A).length t).At+(pT (zbZ A).length t).Width=(((zbZ A).length+t.bs.length:Nat):Int):=by
    show ((zbZ A).length:Int)+(t.bs.length:Int)=_; push_cast; rfl
   have hcut:zco S (pT (zbZ A).length t).At (((zbZ A).length+t.bs.length:Nat):Int)=(tkT t).2:=by
    have:=zo3 (s:=S) (A:=A) (W:=[t]) (Z:=ts) (by rw [hd]; rfl) rfl (b:=(zbZ A).length+t.bs.length) (by simp [zbZ])
    rw [show (pT (zbZ A).length t).At=((zbZ A).length:Int) from rfl,this]
    show J (·.2) [tkT t]=_
    rw [zdm,znh,ByteArray.append_empty]
   have hs4:(tkT t).2.size≤4:=by rw [zcE]; show t.bs.toArray.toList.length≤4; simpa using hsz
   rw [e2]
   refine zaG rfl ?_
   rw [hq,hcut]
   exact zcm ⟨by omega,by omega⟩ (zcm ⟨by show (0:Int)≤((zbZ A).length:Int); omega,by show ((zbZ A).length:Int)≤_; omega,by omega⟩ (zcm (by omega) (next _ hs4)))
theorem zu0 (s:zBA) (hs:s.size≤65536):zeq s=some (zdF s):=by
 have h1:=(zfY s hs).2.1
 have h2:=ziE (zcc s)
 unfold zeq
 refine zcf (zaS (zhW s hs) (zaS (a:=zcc s) rfl (zaS (zkQ _ (by omega)) (zcf ?_))))
 rw [zkT]
 have:=zlX (zcc s) (by omega) (zdU (zcc s).data.toList) [] ByteArray.empty (by rw [List.nil_append,zfZ]) (zef _) (by show 0+_≤_; omega)
 rw [ByteArray.empty_append] at this
 exact this
def okR:Nat→List Tk→Bool
 | _,[]=>true
 | k,x::l=>decide (k+1≤8)&&(zeb x||(decide (k≠0)&&zhv x))&&okR (k+1) l
def zeE (s:zBA):zBA:=if okR 0 (zh5 s) then zdF s else ⟨#[]⟩
theorem zhR (x:Tk):zeb (zbu x)=zeb x:=by
 unfold zbu
 cases h:zeb x with
 | true=>rw [if_pos rfl]; exact (zfB (show zaN x.1=true from h)).1
 | false=>rw [if_neg (by simp)]; exact h
theorem zmJ (x:Tk):zhv (zbu x)=zhv x:=by
 unfold zbu
 cases h:zeb x with
 | true =>
  rw [if_pos rfl]
  have h1:=zgE (zfB (show zaN x.1=true from h)).1
  have h2:=zgE (show zaN x.1=true from h)
  show mrk _=mrk _
  rw [h1,h2]
 | false=>rw [if_neg (by simp)]
theorem zoH:∀ (l:List Tk) (k:Nat),okR k (l.map zbu)=okR k l
 | [],k=>rfl
 | x::l,k=>by rw [List.map_cons,okR,okR,zoH l,zhR,zmJ]
theorem zlV (r:zBA):∀ (ts:List Tok) (i k:Nat),(∀ t∈ts,zey t)→k≤8 →
  zcH (fun (n3:Int)=>(some r:Option zBA)) (zcR (fun (n4:Int)=>some (⟨#[]⟩:zBA))) (pL i ts) (k:Int)=some (if okR k (ts.map tkT) then r else ⟨#[]⟩)
 | [],i,k,_,_=>rfl
 | t::ts,i,k,hok,hk=>by
  have ht:=hok t (List.mem_cons_self ..)
  have next:=fun h=>zlV r ts (i+t.bs.length) (k+1) (fun y hy=>hok y (List.mem_cons_of_mem _ hy)) h
  rw [pL,zcr,List.map_cons,okR]
  generalize hag:zcH (fun (n3:Int)=>(some r:Option zBA)) (zcR (fun (n4:Int)=>some (⟨#[]⟩:zBA))) (pL (i+t.bs.length) ts)=ag at next ⊢
  unfold zcR
  refine zcm ⟨by omega,by omega⟩ ?_
  by_cases h8:k+1≤8
  ·refine zaG (decide_eq_false (by omega)) (zaS (zn6 i t ht) ?_)
   have nx:=next h8
   push_cast at nx
   rw [decide_eq_true h8,Bool.true_and]
   cases hl:zeb (tkT t) with
   | true=>refine zaG rfl ?_; rw [nx]; simp
   | false =>
    refine zaL rfl ?_
    by_cases h0:k=0
    ·subst h0
     refine zaL (by decide) ?_
     simp
    ·have hne:(((k:Int)+1:Int)==1)=false:=beq_eq_false_iff_ne.2 (by omega)
     refine zaG hne (zaS (zvQ i t ht) ?_)
     rw [Bool.false_or,decide_eq_true h0,Bool.true_and]
     cases hm:zhv (tkT t) with
     | true=>refine zaG rfl ?_; rw [nx]; simp
     | false=>refine zaL rfl ?_; simp
  ·refine zaL (decide_eq_true (by omega)) ?_
   rw [decide_eq_false h8]; simp
theorem zuZ (s:zBA) (hs:s.size≤65536):zdM s=some (zeE s):=by
 have h1:=(zfY s hs).2.1
 have h2:=ziE (zcc s)
 have h3:(zdF s).size≤1000000000:=by
  have:(zdF s).size≤4*((zh5 s).map zbu).length:=zhI fun y hy=>by
   obtain ⟨x,hx,rfl⟩:=List.mem_map.1 hy
   obtain ⟨t,ht,rfl⟩:=List.mem_map.1 hx
   refine zju ?_
   rw [zcE]
   have:=ziG (zef _ t ht)
   show t.bs.toArray.toList.length≤4
   simpa using this
  unfold zh5 zig at this
  rw [List.length_map,List.length_map] at this
  omega
 unfold zdM
 refine zcf (zaS (zu0 s hs) (zaS (a:=zdF s) rfl (zaS (zkQ _ (by omega)) (zcf (zcf ?_)))))
 rw [zkT]
 have:=zlV (zdF s) (zdU (zdF s).data.toList) 0 0 (zef _) (by omega)
 refine this.trans ?_
 unfold zeE
 rw [zlP s hs]
 have e:((zig s).map zeY).map tkT=(zh5 s).map zbu:=by
  unfold zh5
  rw [List.map_map,List.map_map]
  exact List.map_congr_left fun t _=>zmt t
 rw [e,zoH]
def wdK:List UInt8→Nat→Option (Nat×List UInt8)→List (Nat×List UInt8)
 | [],_,cur=>cur.toList
 | c::l,i,cur=>if c=32 then cur.toList++wdK l (i+1) none else match cur with
  | none=>wdK l (i+1) (some (i,[c]))
  | some (a,w)=>wdK l (i+1) (some (a,w++[c]))
theorem zum (l:List UInt8) (i:Nat) (cur:Option (Nat×List UInt8)):wdK (32::l) i cur=cur.toList++wdK l (i+1) none:=by
 cases cur <;> rfl
theorem zrf {c:UInt8} (h:c≠32) (l:List UInt8) (i:Nat):wdK (c::l) i none=wdK l (i+1) (some (i,[c])):=by
 rw [wdK,if_neg h]
theorem zun {c:UInt8} (h:c≠32) (l:List UInt8) (i a:Nat) (w:List UInt8):wdK (c::l) i (some (a,w))=wdK l (i+1) (some (a,w++[c])):=by
 rw [wdK,if_neg h]
def zfM (at_:Int) (p:Nat×List UInt8):zau:=⟨at_+(p.1:Int),ba p.2⟩
theorem zsc {s:zBA} {k:Nat} {c:UInt8} (h:s.data.toList[k]?=some c):zlz s (k:Int)=some (c.toNat:Int):=by
 unfold zlz
 rw [if_pos (by omega),Int.toNat_natCast]
 have:s.data[k]?=some c:=by rw [← Array.getElem?_toList]; exact h
 rw [this]; rfl
theorem zvO {s:zBA} {k:Nat} {c:UInt8} (h:s.data.toList[k]?=some c):zco s (k:Int) ((k:Int)+1)=ba [c]:=by
 apply zie
 have hk:=(List.getElem?_eq_some_iff.1 h)
 have e:=ziu s k (k+1)
 push_cast at e
 rw [e,zn8,Nat.add_sub_cancel_left]
 obtain ⟨h1,h2⟩:=hk
 rw [List.drop_eq_getElem_cons h1,h2]; rfl
theorem zp8 (line:zBA) (at_:Int) (hs:line.size≤1000000000) (ha : -1000000000≤at_∧at_≤1000000000) (J:List zau→Option (List zau)) :
  ∀ (n k:Nat) (E:List (Nat×List UInt8)) (cur:Option (Nat×List UInt8)),k≤line.size→line.size - k<n→E.length≤k→(∀ a w,cur=some (a,w)→w.length≤k)→E.length+cur.toList.length≤k →
   zaT (fun _ _ _=>none) (zcQ line at_ J) n ((E++cur.toList).map (zfM at_)) cur.isSome (k:Int)=J ((E++wdK (line.data.toList.drop k) k cur).map (zfM at_)):=by
 intro n
 induction n with
 | zero=>intro k E cur _ h; omega
 | succ n ih =>
  intro k E cur hk hn hE hw hc
  rw [zfI]
  generalize hag:zaT (fun _ _ _=>none) (zcQ line at_ J) n=ag
  unfold zcQ
  by_cases hlt:k<line.size
  ·have hl:k<line.data.toList.length:=by rw [← zcE]; exact hlt
   obtain ⟨c,hcc⟩:∃ c,line.data.toList[k]?=some c:=⟨_,List.getElem?_eq_getElem hl⟩
   have hdrop:line.data.toList.drop k=c::line.data.toList.drop (k+1):=by
    rw [List.drop_eq_getElem_cons hl]
    have:=List.getElem?_eq_getElem hl
    rw [hcc] at this
    injection this with this
    rw [this]
   refine zaL (decide_eq_true (by omega)) (zcf (zaS (zsc hcc) ?_))
   have e32:(((c.toNat:Int):Int)==32)=decide (c=32):=by
    rw [Bool.eq_iff_iff,beq_iff_eq,decide_eq_true_iff]
    constructor
    ·intro h; exact UInt8.toNat_inj.1 (by show c.toNat=32; omega)
    ·intro h; subst h; rfl
   have nx:=fun (E':List (Nat×List UInt8)) (cur':Option (Nat×List UInt8)) h1 h2 h3=>ih (k+1) E' cur' (by omega) (by omega) h1 h2 h3
   push_cast at nx
   rw [hag] at nx
   rw [e32,hdrop]
   by_cases h:c=32
   ·rw [decide_eq_true h,h,zum]
    refine zaL rfl (zcm ⟨by omega,by omega⟩ ?_)
    have:=nx (E++cur.toList) none (by rw [List.length_append]; omega) (by intro a w h; cases h) (by rw [List.length_append]; show _+0≤_; omega)
    rw [show (none:Option (Nat×List UInt8)).toList=[] from rfl,List.append_nil] at this
    refine this.trans ?_
    rw [List.append_assoc]
   ·rw [decide_eq_false h]
    refine zaG rfl ?_
    have hcut:=zvO hcc
    cases cur with
    | none =>
     rw [zrf h]
     refine zaG rfl (zcm ⟨by omega,by omega⟩ (zcm ⟨by omega,by omega⟩ (zcm ⟨by omega,by omega,by omega⟩ (zcm (by rw [List.length_map,List.length_append]; show _+0+1≤_; omega) (zcm ⟨by omega,by omega⟩ ?_)))))
     rw [hcut]
     have:=nx E (some (k,[c])) (by omega) (by intro a w h; injection h with h; injection h with _ h; rw [← h]; show 1≤_; omega) (by show _+1≤_; omega)
     refine Eq.trans ?_ this
     congr 1
     rw [List.map_append,List.map_append]
     show List.map (zfM at_) E++[]++_=_
     rw [List.append_nil]; rfl
    | some aw =>
     obtain ⟨a,w⟩:=aw
     rw [zun h]
     have hwl:=hw a w rfl
     have hmap:(E++(some (a,w)).toList).map (zfM at_)=E.map (zfM at_)++[zfM at_ (a,w)]:=by rw [List.map_append]; rfl
     have hcl:E.length+1≤k:=hc
     rw [hmap]
     have hlen:((E.map (zfM at_)++[zfM at_ (a,w)]).length:Int) - 1=(E.length:Int):=by rw [List.length_append,List.length_map]; simp
     rw [hlen]
     refine zaL rfl (zcm ⟨by omega,by omega⟩ (zaS (zdJ (show (E.map (zfM at_)++[zfM at_ (a,w)])[E.length]?=some (zfM at_ (a,w)) by
      rw [List.getElem?_append_right (by rw [List.length_map]; exact Nat.le_refl _),List.length_map,Nat.sub_self]; rfl)) (zcm ⟨by omega,by omega⟩ (zcm ⟨by omega,by omega,by omega⟩ ?_))))
     rw [hcut]
     refine zcm (by show (ba w).size+(ba [c]).size≤_; rw [zlg,zlg]; show _+1≤_; omega) (zcm ⟨by omega,by omega⟩ ?_)
     have:=nx E (some (a,w++[c])) (by omega) (by intro a' w' h; injection h with h; injection h with _ h; rw [← h,List.length_append]; show _+1≤_; omega) (by show _+1≤_; omega)
     refine Eq.trans ?_ this
     congr 1
     rw [Int.toNat_natCast,List.set_append_right _ _ (by rw [List.length_map]; exact Nat.le_refl _),List.length_map,Nat.sub_self,List.map_append]
     have e2:(zfM at_ (a,w)).text++ba [c]=ba (w++[c]):=by
      apply zie
      rw [zjR,zn8,zn8]
      show (ba w).data.toList++_=_
      rw [zn8]
     show _++[(⟨(zfM at_ (a,w)).at_,(zfM at_ (a,w)).text++ba [c]⟩:zau)]=_++[zfM at_ (a,w++[c])]
     rw [e2]; rfl
  ·have:k=line.size:=by omega
   refine zaG (decide_eq_false (by omega)) ?_
   rw [List.drop_eq_nil_of_le (by rw [← zcE]; omega)]; rfl
theorem zuU (line:zBA) (at_:Int) (hs:line.size≤1000000000) (ha : -1000000000≤at_∧at_≤1000000000):zep line at_=some ((wdK line.data.toList 0 none).map (zfM at_)):=by
 unfold zep
 refine zcf ?_
 have:=zp8 line at_ hs ha some zcI 0 [] none (Nat.zero_le _) (by unfold zcI; omega) (Nat.zero_le _) (by intro a w h; cases h) (Nat.zero_le _)
 exact this
def zbX (o1:zac) (l1:List zau) (j1:zBA→zBA→(List zBA)→Option (zaM×zac)) (q2:zau) (ag1:zBA→(List zBA)→Int→Option (zaM×zac)) (said4:zBA) (forms4:List zBA) (x4:Int):Option (zaM×zac) := zat (decide ((x4:Int)<(l1.length:Int))) ( zbB (fun (j2:zBA→(List zBA)→Option (zaM×zac)) => zbB (fun (j3:Int→zBA→Bool→Bool→Option (zaM×zac)) => zak (zd6 l1 x4) fun (q3:zau) => zat ((x4:Int)==0) ( zbB (fun (j4:zBA→Option (zaM×zac)) => zat (decide ((0:Int)<x4)) ( grd (said4.size+(⟨#[32,97,102,116,101,114]⟩:zBA).size≤9223372036854775807) <| j4 (said4++(⟨#[32,97,102,116,101,114]⟩:zBA))
) ( j4 said4
)
) (fun (said6:zBA) => j2 said6 forms4
)
) ( zat (decide (q2.text=(⟨#[112,117,116]⟩:zBA))) ( zat ((x4:Int)==2) ( zbB (fun (j5:zBA→Option (zaM×zac)) => zat (decide ((0:Int)<x4)) ( grd (said4.size+(⟨#[32,97,102,116,101,114]⟩:zBA).size≤9223372036854775807) <| j5 (said4++(⟨#[32,97,102,116,101,114]⟩:zBA))
) ( j5 said4
)
) (fun (said7:zBA) => j2 said7 forms4
)
) ( j3 q3.at_ q3.text true ((x4:Int)==2)
)
) ( j3 q3.at_ q3.text false false
)
)
) (fun (wv1:Int) (wv2:zBA) (x5:Bool) (x6:Bool) => zak (zdM wv2) fun (r2:zBA) => zak (zd6 forms4 x4) fun (q4:zBA) => zak (zd6 (forms4.set (x4:Int).toNat r2) x4) fun (q5:zBA) => zat (decide (q5=(⟨#[]⟩:zBA))) ( some ((⟨221,wv1⟩:zaM),o1)
) ( zak (zd6 (forms4.set (x4:Int).toNat r2) x4) fun (q6:zBA) => zak (zc4 q6) fun (r3:zBA) => grd ((⟨#[32]⟩:zBA).size+r3.size≤9223372036854775807) <| grd (said4.size+((⟨#[32]⟩:zBA)++r3).size≤9223372036854775807) <| j2 (said4++((⟨#[32]⟩:zBA)++r3)) (forms4.set (x4:Int).toNat r2)
)
)
) (fun (said5:zBA) (forms5:List zBA) => grd (I64 (x4+1)) <| ag1 said5 forms5 (x4+1)
)
) ( j1 q2.text said4 forms4
)
def zbW (o1:zac) (l1:List zau) (forms1:List zBA) (j6:Option (zaM×zac)) (ag2:Int→Option (zaM×zac)) (x9:Int):Option (zaM×zac) := zat (decide ((x9:Int)<(forms1.length:Int))) ( zbB (fun (j7:Option (zaM×zac)) => zak (zd6 forms1 x9) fun (q11:zBA) => zat (decide ((1:Int)<x9)) ( zat (!decide (q11=(⟨#[]⟩:zBA))) ( zat (!((zby q11 o1.place).isSome)) ( zak (zd6 l1 x9) fun (q12:zau) => some ((⟨223,q12.at_⟩:zaM),o1)
) ( j7
)
) ( j7
)
) ( j7
)
) ( grd (I64 (x9+1)) <| ag2 (x9+1)
)
) ( j6
)
def zdc (o1:zac) (l1:List zau) (end1:Int):Option (zaM×zac) := zat (((o1.lines.length:Int):Int)==256) ( zak (zd6 l1 0) fun (q1:zau) => some ((⟨3,q1.at_⟩:zaM),o1)
) ( zak (zer l1 end1) fun (r1:Int) => zat (decide ((0:Int)≤r1)) ( some ((⟨220,r1⟩:zaM),o1)
) ( zbB (fun (j1:zBA→zBA→(List zBA)→Option (zaM×zac)) => zak (zd6 l1 0) fun (q2:zau) => grd (0≤(l1.length:Int)∧(l1.length:Int)≤2147483648) <| zaT (fun _ _ _=>none) (zbX o1 l1 j1 q2) zcI q2.text (List.replicate ((l1.length:Int):Int).toNat ByteArray.empty:List zBA) 0
) (fun (verb1:zBA) (said1:zBA) (forms1:List zBA) => zat (decide (verb1=(⟨#[115,107,105,112]⟩:zBA))) ( zak (zd6 forms1 1) fun (q7:zBA) => zak (zcF q7) fun (r4:zBA) => zat (((zby r4 o1.skips).getD false)) ( zak (zd6 l1 1) fun (q8:zau) => some ((⟨222,q8.at_⟩:zaM),o1)
) ( grd (o1.lines.length+1≤2147483648) <| some ((⟨0,0⟩:zaM),(⟨o1.units,o1.place,o1.fors,zgC r4 true o1.skips,o1.lines++[said1]⟩:zac))
)
) ( zak (zd6 forms1 1) fun (q9:zBA) => zak (zdw o1 q9) fun (r5:Bool) => zat (r5) ( zak (zd6 l1 1) fun (q10:zau) => some ((⟨222,q10.at_⟩:zaM),o1)
) ( zbB (fun (j6:Option (zaM×zac)) => zaT (fun _=>none) (zbW o1 l1 forms1 j6) zcI 0
) ( zbB (fun (j8:(List zBA)→(List (zBA×Int))→(List (zBA×List zBA))→(List (zBA×Bool))→(List zBA)→Option (zaM×zac)) => zat (decide (verb1=(⟨#[112,117,116]⟩:zBA))) ( zak (zd6 forms1 3) fun (q13:zBA) => grd (I64 (((zby q13 o1.place).getD 0)+1)) <| zak (zd6 forms1 1) fun (q14:zBA) => grd (0≤(((zby q13 o1.place).getD 0)+1:Int)∧(((zby q13 o1.place).getD 0)+1:Int)≤(o1.units.length:Int)∧o1.units.length≤2147483648) <| zak (zcv (⟨zh1 o1.units (((zby q13 o1.place).getD 0)+1) q14,o1.place,o1.fors,o1.skips,o1.lines⟩:zac)) fun (r6:zac) => j8 r6.units r6.place r6.fors r6.skips r6.lines
) ( zak (zd6 forms1 1) fun (q15:zBA) => grd (0≤(2:Int)∧(2:Int)≤(forms1.length:Int)∧((forms1.length:Int):Int)≤(forms1.length:Int)) <| j8 o1.units o1.place (zgC q15 (zhi forms1 2 (forms1.length:Int)) o1.fors) o1.skips o1.lines
)
) (fun (l2:List zBA) (m1:List (zBA×Int)) (m2:List (zBA×List zBA)) (m3:List (zBA×Bool)) (l3:List zBA) => grd (l3.length+1≤2147483648) <| some ((⟨0,0⟩:zaM),(⟨l2,m1,m2,m3,l3++[said1]⟩:zac))
)
)
)
)
)
)
)
theorem zhH {bo1:Nat} {o1:zac} {o1_h0 o1_h1 o1_h2 o1_h3 o1_h4:Hd} {vvl1 vl1:Value} {Ll1:List zau} {kl1:Nat} {l1:List zau} (hwl1:Vw vvl1 Ll1 2 kl1 vl1 l1) {end1:Int} {r:(zaM×zac)} (h:zdc o1 l1 end1=some r):FnR prog 38 [zP bo1,vl1,zI end1] [zeQ zcZ 2 vvl1 kl1 Ll1] [cells bo1 [o1_h0.v,.map (some (za5 o1_h1)),.map (some (za5 o1_h2)),.map (some (za5 o1_h3)),o1_h4.v] 79,zv0 o1_h0.v o1.units,zbJ (fun n:zBA=>Value.string n) (fun n:Int=>Value.int .i64 n) (za5 o1_h1) o1.place,zcy (za5 o1_h2) o1.fors,zbJ (fun n:zBA=>Value.string n) (fun n:Bool=>Value.bool n) (za5 o1_h3) o1.skips,zv0 o1_h4.v o1.lines] (fun b:Hd×Hd×Hd×Hd×Hd=>.agg (zr2 r.1).toArray) (fun b=>[cells bo1 [b.1.v,.map (some (za5 b.2.1)),.map (some (za5 b.2.2.1)),.map (some (za5 b.2.2.2.1)),b.2.2.2.2.v] 79,zv0 b.1.v r.2.units,zbJ (fun n:zBA=>Value.string n) (fun n:Int=>Value.int .i64 n) (za5 b.2.1) r.2.place,zcy (za5 b.2.2.1) r.2.fors,zbJ (fun n:zBA=>Value.string n) (fun n:Bool=>Value.bool n) (za5 b.2.2.2.1) r.2.skips,zv0 b.2.2.2.2.v r.2.lines]):=by
 unfold zdc at h
 refine FnR.intro func38 rfl ntmps38 (by simp) ?_
 intro w0 K hrd
 refine zyG ?_
 refine za6 zp6 rfl dc (fun b1 => ?_)
 refine zyN (zaP (zyG (zyR 1 rfl (za2 rfl dc rfl (zag zk7 rfl dc rfl (show _=4 from rfl) (zan (k:=0) zoz rfl dc rfl rfl rfl (zet (k:=5) rfl dc rfl rfl underlying38 (zaU rfl zbi (zyN ?_)))))))))
 refine zyB rfl h (fun h => ?_) (fun h => ?_)
 ·
  refine zyG (zyR 1 rfl ?_)
  obtain ⟨q1,hq1,h⟩:=zbz h
  refine zbd hwl1 hq1 underlying86 zgg rfl dc rfl rfl rfl (zag zgl rfl dc rfl (show _=(kl1+(0:Int).toNat)*2 from rfl) (zct (n:=kl1+(0:Int).toNat) (j:=0) (i:=0) (q:=q1) hrd rfl (by omega) zdV rfl dc rfl (Vw.get hwl1 hq1) rfl rfl ?_))
  refine zb8 (v:=.agg #[zI 3,zI q1.at_]) (ps:=[(0,.const (zI 3)),(1,.tmp 27)]) rfl dc rfl (fun _=>by kernel_rfl) ?_
  refine za4 (k:=6) (vs:=[zI 3,zI q1.at_]) (l':=[zI 3,zI q1.at_]) zij rfl rfl rfl rfl rfl (show _≤_ by simp) rfl rfl ?_
  refine zyN (zaD (zaj ?_))
  cases h
  exact zch (rs:=[.cell 6 35]) (o1_h0,o1_h1,o1_h2,o1_h3,o1_h4) (.inl rfl) results38 (.cons (.cells zjs (k:=6) rfl rfl rfl) .nil) rfl (zaa [0,1,2,3,4,5] kr rfl)
 refine zaq (zaF (zaP (zyG (zyR 2 rfl ?_))))
 obtain ⟨r1,hq2,h⟩:=zbz h
 refine zeu (v:=zI r1) (vs:=[vl1,zI end1]) hrd rfl dc rfl rfl rfl zyX (zkh hwl1 hq2) (.ro 0 rfl .nil) (zyR 1 rfl (zyH (zyR 1 rfl (zaU rfl zbF (zyN ?_)))))
 refine zyB rfl h (fun h => ?_) (fun h => ?_)
 ·
  refine zyG (zyR 1 rfl ?_)
  refine zb8 (v:=.agg #[zI 220,zI r1]) (ps:=[(0,.const (zI 220)),(1,.tmp 34)]) rfl dc rfl (fun _=>by kernel_rfl) ?_
  refine za4 (k:=6) (vs:=[zI 220,zI r1]) (l':=[zI 220,zI r1]) zij rfl rfl rfl rfl rfl (show _≤_ by simp) rfl rfl ?_
  refine zyN (zaD (zaj ?_))
  cases h
  exact zch (rs:=[.cell 6 35]) (o1_h0,o1_h1,o1_h2,o1_h3,o1_h4) (.inl rfl) results38 (.cons (.cells zjs (k:=6) rfl rfl rfl) .nil) rfl (zaa [0,1,2,3,4,5] kr rfl)
 refine zaq (zaF ?_)
 obtain ⟨j1,hj1,h⟩:=zbP h
 refine zaZ (β:=zBA×zBA×(List zBA)×Value) 3 rfl (fun b=>j1 b.1 b.2.1 b.2.2.1=some r) (fun b=>[]) (fun b=>[(0,zP bo1),(1,vl1),(6,zP b1),(8,.string b.1),(9,.string b.2.1),(10,b.2.2.2)]) (fun b=>[cells bo1 [o1_h0.v,.map (some (za5 o1_h1)),.map (some (za5 o1_h2)),.map (some (za5 o1_h3)),o1_h4.v] 79,zv0 o1_h0.v o1.units,zbJ (fun n:zBA=>Value.string n) (fun n:Int=>Value.int .i64 n) (za5 o1_h1) o1.place,zcy (za5 o1_h2) o1.fors,zbJ (fun n:zBA=>Value.string n) (fun n:Bool=>Value.bool n) (za5 o1_h3) o1.skips,zv0 o1_h4.v o1.lines,cells b1 [zI 0,zI 0] 35,zv0 b.2.2.2 b.2.2.1]) (fun cut => ?_) ?_
 ·
  refine zyG (zyR 1 rfl ?_)
  obtain ⟨q2,hq3,h⟩:=zbz h
  refine zbd hwl1 hq3 underlying86 zgg rfl dc rfl rfl rfl (zag zhS rfl dc rfl (show _=(kl1+(0:Int).toNat)*2+1 from rfl) (zct (n:=kl1+(0:Int).toNat) (j:=1) (i:=0) (q:=q2) hrd rfl (by omega) zfn rfl dc rfl (Vw.get hwl1 hq3) rfl rfl (zyR 1 rfl (zyH (zyR 2 rfl (zyH ?_))))))
  refine zyR 1 rfl (zck hwl1 rfl dc rfl underlying86 ?_)
  obtain ⟨hg1,h⟩:=zb7 h
  refine zq2 (z:=ByteArray.empty) underlying38 zxs zzu zcM rfl dc rfl hg1 (fun v2 => ?_)
  refine zyR 1 rfl (zyN (cut (zyG (zyR 1 rfl (zck hwl1 rfl dc rfl underlying86 (zyR 1 rfl (zyN (zaB ?_))))))))
  refine zbN (β:=Nat×zBA×(List zBA)×Int) (fun b=>zaT (fun _ _ _=>none) (zbX o1 l1 j1 q2) b.1 b.2.1 b.2.2.1 b.2.2.2=some r) (fun b=>[]) (fun b=>[(0,zP bo1),(1,vl1),(6,zP b1),(8,.string q2.text),(9,.string b.2.1),(10,v2),(44,vl1),(45,zI (l1.length:Int)),(46,zI b.2.2.2)]) (fun b=>[cells bo1 [o1_h0.v,.map (some (za5 o1_h1)),.map (some (za5 o1_h2)),.map (some (za5 o1_h3)),o1_h4.v] 79,zv0 o1_h0.v o1.units,zbJ (fun n:zBA=>Value.string n) (fun n:Int=>Value.int .i64 n) (za5 o1_h1) o1.place,zcy (za5 o1_h2) o1.fors,zbJ (fun n:zBA=>Value.string n) (fun n:Bool=>Value.bool n) (za5 o1_h3) o1.skips,zv0 o1_h4.v o1.lines,cells b1 [zI 0,zI 0] 35,zv0 v2 b.2.2.1]) (fun b=>b.1) (zcI,q2.text,(List.replicate ((l1.length:Int):Int).toNat ByteArray.empty:List zBA),0) h rfl (za7 rfl) (zaa [0,1,2,3,4,5,6,7] kr rfl) ?_
  rintro ⟨n1,said4,forms4,x4⟩ h
  cases n1 with
  | zero=>exact zez h
  | succ n1 =>
   obtain ⟨ag1,hag1⟩:∃ ag,ag=zaT (fun _ _ _=>none) (zbX o1 l1 j1 q2) n1:=⟨_,rfl⟩
   have h:zbX o1 l1 j1 q2 ag1 said4 forms4 x4=some r:=by rw [hag1]; exact h
   unfold zbX at h
   refine zyG (zaU rfl zbE (zyN (zaP ?_)))
   refine zyB rfl h (fun h => ?_) (fun h => ?_)
   ·
    refine zaq (zaF ?_)
    obtain ⟨j2,hj2,h⟩:=zbP h
    refine zaZ (β:=zBA×(List zBA)) 0 rfl (fun b=>j2 b.1 b.2=some r) (fun b=>[]) (fun b=>[(0,zP bo1),(1,vl1),(6,zP b1),(8,.string q2.text),(9,.string b.1),(10,v2),(44,vl1),(45,zI (l1.length:Int)),(46,zI x4)]) (fun b=>[cells bo1 [o1_h0.v,.map (some (za5 o1_h1)),.map (some (za5 o1_h2)),.map (some (za5 o1_h3)),o1_h4.v] 79,zv0 o1_h0.v o1.units,zbJ (fun n:zBA=>Value.string n) (fun n:Int=>Value.int .i64 n) (za5 o1_h1) o1.place,zcy (za5 o1_h2) o1.fors,zbJ (fun n:zBA=>Value.string n) (fun n:Bool=>Value.bool n) (za5 o1_h3) o1.skips,zv0 o1_h4.v o1.lines,cells b1 [zI 0,zI 0] 35,zv0 v2 b.2]) (fun cut => ?_) ?_
    ·
     refine cut (zaB ?_)
     obtain ⟨j3,hj3,h⟩:=zbP h
     refine zaZ (β:=Int×zBA×Bool×Bool×Nat) 1 rfl (fun b=>j3 b.1 b.2.1 b.2.2.1 b.2.2.2.1=some r) (fun b=>[]) (fun b=>[(0,zP bo1),(1,vl1),(6,zP b1),(8,.string q2.text),(9,.string said4),(10,v2),(11,zI x4),(12,zP b.2.2.2.2),(44,vl1),(45,zI (l1.length:Int)),(46,zI x4),(54,.string q2.text),(55,.bool (decide (q2.text=(⟨#[112,117,116]⟩:zBA)))),(56,.bool b.2.2.1),(59,.bool b.2.2.2.1)]) (fun b=>[cells bo1 [o1_h0.v,.map (some (za5 o1_h1)),.map (some (za5 o1_h2)),.map (some (za5 o1_h3)),o1_h4.v] 79,zv0 o1_h0.v o1.units,zbJ (fun n:zBA=>Value.string n) (fun n:Int=>Value.int .i64 n) (za5 o1_h1) o1.place,zcy (za5 o1_h2) o1.fors,zbJ (fun n:zBA=>Value.string n) (fun n:Bool=>Value.bool n) (za5 o1_h3) o1.skips,zv0 o1_h4.v o1.lines,cells b1 [zI 0,zI 0] 35,zv0 v2 forms4,cells b.2.2.2.2 [zI b.1,.string b.2.1] 116]) (fun cut => ?_) ?_
     ·
      refine zyG (zyR 1 rfl ?_)
      obtain ⟨q3,hq4,h⟩:=zbz h
      refine zbd hwl1 hq4 underlying86 zgg rfl dc rfl rfl rfl (zcD (m:=kl1+(x4:Int).toNat) (j:=0) (i:=0) (q:=q3) (cs:=[zI q3.at_,.string q3.text]) hrd rfl (by omega) zw1 rfl dc rfl (Vw.get hwl1 hq4) rfl rfl rfl ?_)
      refine za6 zwG rfl dc (fun b3 => ?_)
      refine zyR 1 rfl (za4 (k:=8) (vs:=[zI q3.at_,.string q3.text]) (l':=[zI q3.at_,.string q3.text]) zgg rfl rfl rfl rfl rfl (show _≤_ by simp) rfl rfl ?_)
      refine zyN (cut (zyG (zyR 1 rfl (zaU rfl zbi (zyR 1 rfl ?_)))))
      refine zyS (s:=53) rfl h (fun h => ?_) (fun h => ?_)
      ·
       refine zyR 7 rfl (zyN (zcd rfl ?_))
       obtain ⟨j4,hj4,h⟩:=zbP h
       refine zaZ (β:=zBA) 0 rfl (fun b=>j4 b=some r) (fun b=>[]) (fun b=>[(0,zP bo1),(1,vl1),(6,zP b1),(8,.string q2.text),(9,.string b),(10,v2),(44,vl1),(45,zI (l1.length:Int)),(46,zI x4),(54,undef),(55,undef),(56,undef),(57,undef),(58,undef),(59,undef)]) (fun b=>[cells bo1 [o1_h0.v,.map (some (za5 o1_h1)),.map (some (za5 o1_h2)),.map (some (za5 o1_h3)),o1_h4.v] 79,zv0 o1_h0.v o1.units,zbJ (fun n:zBA=>Value.string n) (fun n:Int=>Value.int .i64 n) (za5 o1_h1) o1.place,zcy (za5 o1_h2) o1.fors,zbJ (fun n:zBA=>Value.string n) (fun n:Bool=>Value.bool n) (za5 o1_h3) o1.skips,zv0 o1_h4.v o1.lines,cells b1 [zI 0,zI 0] 35,zv0 v2 forms4]) (fun cut => ?_) ?_
       ·
        refine cut (zyG (zyR 1 rfl (zaU rfl zeU (zyN ?_))))
        refine zyB rfl h (fun h => ?_) (fun h => ?_)
        ·
         refine zap (zyR 1 rfl ?_)
         obtain ⟨hg2,h⟩:=zb7 h
         refine zaU rfl (zeN hg2) (zyR 1 rfl (zaC ?_))
         exact zai (said4++(⟨#[32,97,102,116,101,114]⟩:zBA)) h rfl (za7 rfl) (zaa [0,1,2,3,4,5,6,7] kr rfl)
        refine zaq ?_
        exact zai said4 h rfl (za7 rfl) (zaa [0,1,2,3,4,5,6,7] kr rfl)
       rintro said6 h
       rw [hj4] at h
       refine zbA (zao (zaH ?_))
       exact zai (said6,forms4) h rfl (za7 rfl) (zaa [0,1,2,3,4,5,6,7] kr rfl)
      refine zyR 1 rfl (zaU rfl zed (zyR 1 rfl ?_))
      refine zyS (s:=56) rfl h (fun h => ?_) (fun h => ?_)
      ·
       refine zyR 1 rfl (zaU rfl zbi (zyR 2 rfl (zyN ?_)))
       refine zyB rfl h (fun h => ?_) (fun h => ?_)
       ·
        obtain ⟨j5,hj5,h⟩:=zbP h
        refine zaZ (β:=zBA) 0 rfl (fun b=>j5 b=some r) (fun b=>[]) (fun b=>[(0,zP bo1),(1,vl1),(6,zP b1),(8,.string q2.text),(9,.string b),(10,v2),(44,vl1),(45,zI (l1.length:Int)),(46,zI x4),(54,.string q2.text),(55,.bool (decide (q2.text=(⟨#[112,117,116]⟩:zBA)))),(56,.bool true),(57,zI x4),(58,.bool ((x4:Int)==2)),(59,.bool ((x4:Int)==2))]) (fun b=>[cells bo1 [o1_h0.v,.map (some (za5 o1_h1)),.map (some (za5 o1_h2)),.map (some (za5 o1_h3)),o1_h4.v] 79,zv0 o1_h0.v o1.units,zbJ (fun n:zBA=>Value.string n) (fun n:Int=>Value.int .i64 n) (za5 o1_h1) o1.place,zcy (za5 o1_h2) o1.fors,zbJ (fun n:zBA=>Value.string n) (fun n:Bool=>Value.bool n) (za5 o1_h3) o1.skips,zv0 o1_h4.v o1.lines,cells b1 [zI 0,zI 0] 35,zv0 v2 forms4]) (fun cut => ?_) ?_
        ·
         refine cut (zyG (zyR 1 rfl (zaU rfl zeU (zyN ?_))))
         refine zyB rfl h (fun h => ?_) (fun h => ?_)
         ·
          refine zap (zyR 1 rfl ?_)
          obtain ⟨hg3,h⟩:=zb7 h
          refine zaU rfl (zeN hg3) (zyR 1 rfl (zaC ?_))
          exact zai (said4++(⟨#[32,97,102,116,101,114]⟩:zBA)) h rfl (za7 rfl) (zaa [0,1,2,3,4,5,6,7] kr rfl)
         refine zaq ?_
         exact zai said4 h rfl (za7 rfl) (zaa [0,1,2,3,4,5,6,7] kr rfl)
        rintro said7 h
        rw [hj5] at h
        refine zbA (zao (zaH ?_))
        exact zai (said7,forms4) h rfl (za7 rfl) (zaa [0,1,2,3,4,5,6,7] kr rfl)
       refine zaq ?_
       exact zai (q3.at_,q3.text,true,(x4:Int)==2,b3) h rfl (za7 rfl) (zaa [0,1,2,3,4,5,6,7,8] kr rfl)
      refine zyR 4 rfl (zyN (zaY rfl (zaq ?_)))
      exact zai (q3.at_,q3.text,false,false,b3) h rfl (za7 rfl) (zaa [0,1,2,3,4,5,6,7,8] kr rfl)
     rintro ⟨wv1,wv2,x5,x6,b2⟩ h
     rw [hj3] at h
     refine zaP (zyG (zyR 2 rfl (zag zhS rfl dc rfl (show _=1 from rfl) (zan (k:=8) zfn rfl dc rfl rfl rfl ?_))))
     obtain ⟨r2,hq5,h⟩:=zbz h
     refine zaK (v:=.string r2) (vs:=[.string wv2]) rfl dc rfl rfl rfl zyW (zkf hq5) ?_
     obtain ⟨q4,hq6,h⟩:=zbz h
     refine zbI (k:=7) hq6 underlying38 zkq rfl dc rfl rfl rfl rfl ?_
     refine zf6 (i:=(x4:Int).toNat) (j:=0) (k:=7) (q:=q4) (q':=r2) zkq zcM rfl rfl rfl rfl (zcj hq6) rfl dc rfl (fun _ _=>rfl) ?_
     refine zyH (zyR 2 rfl ?_)
     obtain ⟨q5,hq7,h⟩:=zbz h
     refine zbI (k:=7) hq7 underlying38 zkq rfl dc rfl rfl rfl rfl (zcP (i:=(x4:Int).toNat) (j:=0) (k:=7) (q:=q5) zfn zcM rfl dc rfl rfl (zcj hq7) rfl dc rfl (zaU rfl zed (zyN ?_)))
     refine zyB rfl h (fun h => ?_) (fun h => ?_)
     ·
      refine zyG (zag zgl rfl dc rfl (show _=0 from rfl) (zan (k:=8) zdV rfl dc rfl rfl rfl ?_))
      refine zb8 (v:=.agg #[zI 221,zI wv1]) (ps:=[(0,.const (zI 221)),(1,.tmp 77)]) rfl dc rfl (fun _=>by kernel_rfl) ?_
      refine za4 (k:=6) (vs:=[zI 221,zI wv1]) (l':=[zI 221,zI wv1]) zij rfl rfl rfl rfl rfl (show _≤_ by simp) rfl rfl ?_
      refine zyN (zaD (zaj (zam (zaj (zaj (zam (zaj ?_)))))))
      cases h
      exact zch (rs:=[.cell 6 35]) (o1_h0,o1_h1,o1_h2,o1_h3,o1_h4) (.inl rfl) results38 (.cons (.cells zjs (k:=6) rfl rfl rfl) .nil) rfl (zaa [0,1,2,3,4,5] kr rfl)
     refine zaq (zaF (zap (zyR 3 rfl ?_)))
     obtain ⟨q6,hq8,h⟩:=zbz h
     refine zbI (k:=7) hq8 underlying38 zkq rfl dc rfl rfl rfl rfl (zcP (i:=(x4:Int).toNat) (j:=0) (k:=7) (q:=q6) zfn zcM rfl dc rfl rfl (zcj hq8) rfl dc rfl ?_)
     obtain ⟨r3,hq9,h⟩:=zbz h
     refine zaK (v:=.string r3) (vs:=[.string q6]) rfl dc rfl rfl rfl zvJ (zfJ hq9) ?_
     obtain ⟨hg4,h⟩:=zb7 h
     refine zaU rfl (zeN hg4) ?_
     obtain ⟨hg5,h⟩:=zb7 h
     refine zaU rfl (zeN hg5) (zyR 1 rfl (zaC (zad ?_)))
     exact zai (said4++((⟨#[32]⟩:zBA)++r3),forms4.set (x4:Int).toNat r2) h rfl (za7 rfl) (zaa [0,1,2,3,4,5,6,7] kr rfl)
    rintro ⟨said5,forms5⟩ h
    rw [hj2] at h
    refine zap ?_
    obtain ⟨hg6,h⟩:=zb7 h
    refine zaU rfl (zbh (r:=x4+1) (IntWalk.i64_in _ hg6)) (zyR 1 rfl (zaC ?_))
    subst hag1
    exact zbs (n1,said5,forms5,x4+1) h (Nat.lt_succ_self _) rfl (za7 rfl) (zaa [0,1,2,3,4,5,6,7] kr rfl)
   refine zbA (zao (zao (zaH ?_)))
   exact zai (q2.text,said4,forms4,v2) h rfl (za7 rfl) (zaa [0,1,2,3,4,5,6,7] kr rfl)
 rintro ⟨verb1,said1,forms1,v1⟩ h
 rw [hj1] at h
 refine zaP (zyG (zyR 1 rfl (zaU rfl zed (zyN ?_))))
 refine zyB rfl h (fun h => ?_) (fun h => ?_)
 ·
  refine zyG (zyR 1 rfl ?_)
  obtain ⟨q7,hq10,h⟩:=zbz h
  refine zbI (k:=7) hq10 underlying38 zkq rfl dc rfl rfl rfl rfl (zcP (i:=(1:Int).toNat) (j:=0) (k:=7) (q:=q7) zfn zcM rfl dc rfl rfl (zcj hq10) rfl dc rfl ?_)
  obtain ⟨r4,hq11,h⟩:=zbz h
  refine zaK (v:=.string r4) (vs:=[.string q7]) rfl dc rfl rfl rfl zlC (zdf hq11) (zyR 1 rfl (zyN (zaP (zyG (zyR 1 rfl (za2 rfl dc rfl (zag zgv rfl dc rfl (show _=3 from rfl) (zan (k:=0) zlr rfl dc rfl rfl rfl (zyR 1 rfl ?_)))))))))
  refine zmh (k:=4) (ek:=(fun n:zBA=>Value.string n)) (ev':=(fun n:Bool=>Value.bool n)) (kk:=r4) (z0:=false) (zcO underlying9) underlying77 kr rfl dc rfl rfl rfl ?_
  refine zyN ?_
  refine zyB rfl h (fun h => ?_) (fun h => ?_)
  ·
   refine zyG (zyR 1 rfl ?_)
   obtain ⟨q8,hq12,h⟩:=zbz h
   refine zbd hwl1 hq12 underlying86 zgg rfl dc rfl rfl rfl (zag zgl rfl dc rfl (show _=(kl1+(1:Int).toNat)*2 from rfl) (zct (n:=kl1+(1:Int).toNat) (j:=0) (i:=0) (q:=q8) hrd rfl (by omega) zdV rfl dc rfl (Vw.get hwl1 hq12) rfl rfl ?_))
   refine zb8 (v:=.agg #[zI 222,zI q8.at_]) (ps:=[(0,.const (zI 222)),(1,.tmp 103)]) rfl dc rfl (fun _=>by kernel_rfl) ?_
   refine za4 (k:=6) (vs:=[zI 222,zI q8.at_]) (l':=[zI 222,zI q8.at_]) zij rfl rfl rfl rfl rfl (show _≤_ by simp) rfl rfl (zyN (zaD (zaj (zaj ?_))))
   cases h
   exact zch (rs:=[.cell 6 35]) (o1_h0,o1_h1,o1_h2,o1_h3,o1_h4) (.inl rfl) results38 (.cons (.cells zjs (k:=6) rfl rfl rfl) .nil) rfl (zaa [0,1,2,3,4,5] kr rfl)
  refine zaq (zaF (zyG (zyR 1 rfl (za2 rfl dc rfl (zag zgv rfl dc rfl (show _=3 from rfl) (zan (k:=0) zlr rfl dc rfl rfl rfl (zyR 1 rfl ?_)))))))
  refine zfC (k:=4) (ek:=(fun n:zBA=>Value.string n)) (ev':=(fun n:Bool=>Value.bool n)) (kk:=r4) (vv:=true) (zcO underlying9) underlying77 rfl rfl rfl rfl rfl ?_
  refine zyH (zyR 2 rfl (za2 rfl dc rfl (zag zk7 rfl dc rfl (show _=4 from rfl) (zan (k:=0) zoz rfl dc rfl rfl rfl (zyR 1 rfl ?_)))))
  refine za0 (cs:=[.string said1]) (te:=9) (ps:=[(0,.tmp 115)]) rfl dc rfl (fun _=>by kernel_rfl) (fun b4 => ?_)
  obtain ⟨hg7,h⟩:=zb7 h
  refine zbY (k:=5) (k2:=8) (ys:=[said1]) underlying38 zxs zcM zkw rfl dc rfl rfl rfl rfl rfl rfl hg7 (fun v3 => ?_)
  refine zcp (k:=5) rfl (fun hd1 he1 => ?_)
  subst he1
  refine za2 rfl dc rfl (zag zk7 rfl dc rfl (show _=4 from rfl) ?_)
  refine zaQ (k:=0) (l':=[o1_h0.v,.map (some (za5 o1_h1)),.map (some (za5 o1_h2)),.map (some (za5 o1_h3)),hd1.v]) ztr rfl rfl rfl rfl rfl (fun _ _=>rfl) rfl ?_
  refine zyH ?_
  refine zb8 (v:=.agg #[zI 0,zI 0]) (ps:=[]) rfl dc rfl (fun _=>by kernel_rfl) ?_
  refine za4 (k:=6) (vs:=[zI 0,zI 0]) (l':=[zI 0,zI 0]) zij rfl rfl rfl rfl rfl (show _≤_ by simp) rfl rfl (zyN (zaD (zaj ?_)))
  cases h
  exact zch (rs:=[.cell 6 35]) (o1_h0,o1_h1,o1_h2,o1_h3,hd1) (.inl rfl) results38 (.cons (.cells zjs (k:=6) rfl rfl rfl) .nil) rfl (zaa [0,1,2,3,4,5] kr rfl)
 refine zaq (zaF (zaP (zyG (zyR 2 rfl ?_))))
 obtain ⟨q9,hq13,h⟩:=zbz h
 refine zbI (k:=7) hq13 underlying38 zkq rfl dc rfl rfl rfl rfl (zcP (i:=(1:Int).toNat) (j:=0) (k:=7) (q:=q9) zfn zcM rfl dc rfl rfl (zcj hq13) rfl dc rfl ?_)
 obtain ⟨r5,hq14,h⟩:=zbz h
 refine zeu (v:=.bool r5) (vs:=[zP bo1,.string q9]) hrd rfl dc rfl rfl rfl zyV (ziv (bo1:=bo1) (o1:=o1) (o1_h0:=o1_h0) (o1_h1:=o1_h1) (o1_h2:=o1_h2) (o1_h3:=o1_h3) (o1_h4:=o1_h4) hq14) (.own (zaa [0] kr rfl) (fun _ _ h=>sepL.one1.1 h) (.own (zaa [1] kr rfl) (fun _ _ h=>sepL.one1.1 h) (.own (zaa [2] kr rfl) (fun _ _ h=>sepL.one1.1 h) (.own (zaa [3] kr rfl) (fun _ _ h=>sepL.one1.1 h) (.own (zaa [4] kr rfl) (fun _ _ h=>sepL.one1.1 h) (.own (zaa [5] kr rfl) (fun _ _ h=>sepL.one1.1 h) .nil)))))) ?_
 refine zyN ?_
 refine zyB rfl h (fun h => ?_) (fun h => ?_)
 ·
  refine zyG (zyR 1 rfl ?_)
  obtain ⟨q10,hq15,h⟩:=zbz h
  refine zbd hwl1 hq15 underlying86 zgg rfl dc rfl rfl rfl (zag zgl rfl dc rfl (show _=(kl1+(1:Int).toNat)*2 from rfl) (zct (n:=kl1+(1:Int).toNat) (j:=0) (i:=0) (q:=q10) hrd rfl (by omega) zdV rfl dc rfl (Vw.get hwl1 hq15) rfl rfl ?_))
  refine zb8 (v:=.agg #[zI 222,zI q10.at_]) (ps:=[(0,.const (zI 222)),(1,.tmp 129)]) rfl dc rfl (fun _=>by kernel_rfl) ?_
  refine za4 (k:=6) (vs:=[zI 222,zI q10.at_]) (l':=[zI 222,zI q10.at_]) zij rfl rfl rfl rfl rfl (show _≤_ by simp) rfl rfl (zyN (zaD (zaj ?_)))
  cases h
  exact zch (rs:=[.cell 6 35]) (o1_h0,o1_h1,o1_h2,o1_h3,o1_h4) (.inl rfl) results38 (.cons (.cells zjs (k:=6) rfl rfl rfl) .nil) rfl (zaa [0,1,2,3,4,5] kr rfl)
 refine zaq (zaF ?_)
 obtain ⟨j6,hj6,h⟩:=zbP h
 refine zaZ (β:=Unit) 0 rfl (fun b=>j6=some r) (fun b=>[]) (fun b=>[(0,zP bo1),(6,zP b1),(8,.string verb1),(9,.string said1),(10,v1)]) (fun b=>[cells bo1 [o1_h0.v,.map (some (za5 o1_h1)),.map (some (za5 o1_h2)),.map (some (za5 o1_h3)),o1_h4.v] 79,zv0 o1_h0.v o1.units,zbJ (fun n:zBA=>Value.string n) (fun n:Int=>Value.int .i64 n) (za5 o1_h1) o1.place,zcy (za5 o1_h2) o1.fors,zbJ (fun n:zBA=>Value.string n) (fun n:Bool=>Value.bool n) (za5 o1_h3) o1.skips,zv0 o1_h4.v o1.lines,cells b1 [zI 0,zI 0] 35,zv0 v1 forms1]) (fun cut => ?_) ?_
 ·
  refine cut (zyG (zyR 1 rfl (zet (k:=7) rfl dc rfl rfl underlying38 (zyR 1 rfl (zyN (zaB ?_))))))
  refine zbN (β:=Nat×Int) (fun b=>zaT (fun _=>none) (zbW o1 l1 forms1 j6) b.1 b.2=some r) (fun b=>[]) (fun b=>[(0,zP bo1),(1,vl1),(6,zP b1),(8,.string verb1),(9,.string said1),(10,v1),(131,v1),(132,zI (forms1.length:Int)),(133,zI b.2)]) (fun b=>[cells bo1 [o1_h0.v,.map (some (za5 o1_h1)),.map (some (za5 o1_h2)),.map (some (za5 o1_h3)),o1_h4.v] 79,zv0 o1_h0.v o1.units,zbJ (fun n:zBA=>Value.string n) (fun n:Int=>Value.int .i64 n) (za5 o1_h1) o1.place,zcy (za5 o1_h2) o1.fors,zbJ (fun n:zBA=>Value.string n) (fun n:Bool=>Value.bool n) (za5 o1_h3) o1.skips,zv0 o1_h4.v o1.lines,cells b1 [zI 0,zI 0] 35,zv0 v1 forms1]) (fun b=>b.1) (zcI,0) h rfl (za7 rfl) (zaa [0,1,2,3,4,5,6,7] kr rfl) ?_
  rintro ⟨n2,x9⟩ h
  cases n2 with
  | zero=>exact zez h
  | succ n2 =>
   obtain ⟨ag2,hag2⟩:∃ ag,ag=zaT (fun _=>none) (zbW o1 l1 forms1 j6) n2:=⟨_,rfl⟩
   have h:zbW o1 l1 forms1 j6 ag2 x9=some r:=by rw [hag2]; exact h
   unfold zbW at h
   refine zyG (zaU rfl zbE (zyN (zaP ?_)))
   refine zyB rfl h (fun h => ?_) (fun h => ?_)
   ·
    refine zaq (zaF ?_)
    obtain ⟨j7,hj7,h⟩:=zbP h
    refine zaZ (β:=Unit) 0 rfl (fun b=>j7=some r) (fun b=>[]) (fun b=>[(0,zP bo1),(1,vl1),(6,zP b1),(8,.string verb1),(9,.string said1),(10,v1),(131,v1),(132,zI (forms1.length:Int)),(133,zI x9)]) (fun b=>[cells bo1 [o1_h0.v,.map (some (za5 o1_h1)),.map (some (za5 o1_h2)),.map (some (za5 o1_h3)),o1_h4.v] 79,zv0 o1_h0.v o1.units,zbJ (fun n:zBA=>Value.string n) (fun n:Int=>Value.int .i64 n) (za5 o1_h1) o1.place,zcy (za5 o1_h2) o1.fors,zbJ (fun n:zBA=>Value.string n) (fun n:Bool=>Value.bool n) (za5 o1_h3) o1.skips,zv0 o1_h4.v o1.lines,cells b1 [zI 0,zI 0] 35,zv0 v1 forms1]) (fun cut => ?_) ?_
    ·
     refine cut (zaB (zyG (zyR 1 rfl ?_)))
     obtain ⟨q11,hq16,h⟩:=zbz h
     refine zbI (k:=7) hq16 underlying38 zkq rfl dc rfl rfl rfl rfl (zcP (i:=(x9:Int).toNat) (j:=0) (k:=7) (q:=q11) zfn zcM rfl dc rfl rfl (zcj hq16) rfl dc rfl (zyR 2 rfl (zyH (zyR 1 rfl (za2 rfl dc rfl (zag zjE rfl dc rfl (show _=1 from rfl) (zan (k:=0) zqh rfl dc rfl rfl rfl (zyR 1 rfl ?_))))))))
     refine zg9 (k:=2) (ek:=(fun n:zBA=>Value.string n)) (ev':=(fun n:Int=>Value.int .i64 n)) (kk:=q11) (z0:=0) (zcO underlying9) underlying75 kr rfl dc rfl rfl rfl ?_
     refine zyR 1 rfl (zaE rfl dc rfl rfl (zaE rfl dc rfl rfl (zyR 2 rfl (zyH (zyR 1 rfl (zaU rfl zeU (zyR 1 rfl ?_)))))))
     refine zyS (s:=149) rfl h (fun h => ?_) (fun h => ?_)
     ·
      refine zyR 1 rfl (zaU rfl zm8 (zyR 2 rfl ?_))
      refine zyS (s:=153) rfl h (fun h => ?_) (fun h => ?_)
      ·
       refine zyR 1 rfl (zg6 rfl dc rfl ze4 (zyR 1 rfl (zyN ?_)))
       refine zyB rfl h (fun h => ?_) (fun h => ?_)
       ·
        refine zyG (zyR 2 rfl ?_)
        obtain ⟨q12,hq17,h⟩:=zbz h
        refine zbd hwl1 hq17 underlying86 zgg rfl dc rfl rfl rfl (zag zgl rfl dc rfl (show _=(kl1+(x9:Int).toNat)*2 from rfl) (zct (n:=kl1+(x9:Int).toNat) (j:=0) (i:=0) (q:=q12) hrd rfl (by omega) zdV rfl dc rfl (Vw.get hwl1 hq17) rfl rfl ?_))
        refine zb8 (v:=.agg #[zI 223,zI q12.at_]) (ps:=[(0,.const (zI 223)),(1,.tmp 161)]) rfl dc rfl (fun _=>by kernel_rfl) ?_
        refine za4 (k:=6) (vs:=[zI 223,zI q12.at_]) (l':=[zI 223,zI q12.at_]) zij rfl rfl rfl rfl rfl (show _≤_ by simp) rfl rfl (zyN (zaD (zam (zaj (zaj (zam (zaj ?_)))))))
        cases h
        exact zch (rs:=[.cell 6 35]) (o1_h0,o1_h1,o1_h2,o1_h3,o1_h4) (.inl rfl) results38 (.cons (.cells zjs (k:=6) rfl rfl rfl) .nil) rfl (zaa [0,1,2,3,4,5] kr rfl)
       refine zaq (zad ?_)
       exact zai () h rfl (za7 rfl) (zaa [0,1,2,3,4,5,6,7] kr rfl)
      refine zyR 3 rfl (zyN (zaY rfl (zaq (zad ?_))))
      exact zai () h rfl (za7 rfl) (zaa [0,1,2,3,4,5,6,7] kr rfl)
     refine zyR 7 rfl (zyN (zaY rfl (zaq (zad ?_))))
     exact zai () h rfl (za7 rfl) (zaa [0,1,2,3,4,5,6,7] kr rfl)
    rintro _ h
    rw [hj7] at h
    refine zap ?_
    obtain ⟨hg8,h⟩:=zb7 h
    refine zaU rfl (zbh (r:=x9+1) (IntWalk.i64_in _ hg8)) (zyR 1 rfl (zaC ?_))
    subst hag2
    exact zbs (n2,x9+1) h (Nat.lt_succ_self _) rfl (za7 rfl) (zaa [0,1,2,3,4,5,6,7] kr rfl)
   refine zbA (zao (zao (zaH ?_)))
   exact zai () h rfl (za7 rfl) (zaa [0,1,2,3,4,5,6,7] kr rfl)
 rintro _ h
 rw [hj6] at h
 obtain ⟨j8,hj8,h⟩:=zbP h
 refine zaZ (β:=(List zBA)×(List (zBA×Int))×(List (zBA×List zBA))×(List (zBA×Bool))×(List zBA)×Hd×Nat×Nat×Nat×Hd) 0 rfl (fun b=>j8 b.1 b.2.1 b.2.2.1 b.2.2.2.1 b.2.2.2.2.1=some r) (fun b=>[]) (fun b=>[(0,zP bo1),(6,zP b1),(9,.string said1)]) (fun b=>[cells bo1 [b.2.2.2.2.2.1.v,.map (some b.2.2.2.2.2.2.1),.map (some b.2.2.2.2.2.2.2.1),.map (some b.2.2.2.2.2.2.2.2.1),b.2.2.2.2.2.2.2.2.2.v] 79,zv0 b.2.2.2.2.2.1.v b.1,zbJ (fun n:zBA=>Value.string n) (fun n:Int=>Value.int .i64 n) b.2.2.2.2.2.2.1 b.2.1,zcy b.2.2.2.2.2.2.2.1 b.2.2.1,zbJ (fun n:zBA=>Value.string n) (fun n:Bool=>Value.bool n) b.2.2.2.2.2.2.2.2.1 b.2.2.2.1,zv0 b.2.2.2.2.2.2.2.2.2.v b.2.2.2.2.1,cells b1 [zI 0,zI 0] 35]) (fun cut => ?_) ?_
 ·
  refine cut (zyG (zyR 1 rfl (zaU rfl zed (zyN ?_))))
  refine zyB rfl h (fun h => ?_) (fun h => ?_)
  ·
   refine zaP ?_
   obtain ⟨q13,hq18,h⟩:=zbz h
   obtain ⟨hg9,h⟩:=zb7 h
   obtain ⟨q14,hq19,h⟩:=zbz h
   obtain ⟨hg10,h⟩:=zb7 h
   refine zuL 2 ?_
   refine let vals1:(Nat×Hd)→List (Nat×Nat×Value):=fun b=>[(0,166,zP bo1),(1,167,zP bo1),(2,168,zP bo1),(3,169,zP bo1),(4,170,o1_h0.v),(5,171,zP bo1),(6,172,zP bo1),(7,173,.pointer (some ⟨bo1,1,none⟩)),(8,174,.map (some (za5 o1_h1))),(9,175,v1),(10,176,.pointer (some ⟨ziD v1,(3:Int).toNat*1,none⟩)),(11,177,.string q13),(12,178,zI ((zby q13 o1.place).getD 0)),(13,179,zI (((zby q13 o1.place).getD 0)+1)),(14,180,v1),(15,181,.pointer (some ⟨ziD v1,(1:Int).toNat*1,none⟩)),(16,182,.string q14),(17,183,.slice (some ⟨b.1,0,none⟩) 1 1),(18,184,b.2.v)]; let LL1:(Nat→Prop)→(Nat×Hd)→List Asn:=fun D b=>[cells bo1 [o1_h0.v,.map (some (za5 o1_h1)),.map (some (za5 o1_h2)),.map (some (za5 o1_h3)),o1_h4.v] 79,eD D (zv0 o1_h0.v o1.units) [(18,emp)],zbJ (fun n:zBA=>Value.string n) (fun n:Int=>Value.int .i64 n) (za5 o1_h1) o1.place,zcy (za5 o1_h2) o1.fors,zbJ (fun n:zBA=>Value.string n) (fun n:Bool=>Value.bool n) (za5 o1_h3) o1.skips,zv0 o1_h4.v o1.lines,cells b1 [zI 0,zI 0] 35,zv0 v1 forms1,eD D emp [(18,emp),(17,cells b.1 [.string q14] 9)],eD D emp [(18,zv0 b.2.v (zh1 o1.units (((zby q13 o1.place).getD 0)+1) q14))]]; ?_
   have zhq:zyQ [17,18] LL1:=fun i h D b=>zaR rfl (zaR (zwx rfl h) (zaR rfl (zaR rfl (zaR rfl (zaR rfl (zaR rfl (zaR rfl (zaR (zwx rfl h) (zaR (zwx rfl h) rfl)))))))))
   refine zp2 (β:=Nat×Hd) 19 ((0:Nat),Hd.nil) vals1 LL1 mixed kr kr dc (fun _=>rfl) (zaR rfl (zaR zjL (zp5 (zaR zjL (zaR zjL rfl))))) (zwy zhq (fun _=>rfl) (fun _=>rfl) 2 0 (fun _=>rfl) rfl (zyq zhq rfl (fun _=>rfl) (fun _=>rfl) ?_ (zyq zhq rfl (fun _=>rfl) (fun _=>rfl) ?_ (zrb zhq rfl (fun _=>rfl) (fun _=>rfl) ?_ (zwy zhq (fun _=>rfl) (fun _=>rfl) 1 5 (fun _=>rfl) rfl (zyq zhq rfl (fun _=>rfl) (fun _=>rfl) ?_ (zyq zhq rfl (fun _=>rfl) (fun _=>rfl) ?_ (zrb zhq rfl (fun _=>rfl) (fun _=>rfl) ?_ (zwy zhq (fun _=>rfl) (fun _=>rfl) 1 9 (fun _=>rfl) rfl (zrb zhq rfl (fun _=>rfl) (fun _=>rfl) ?_ (zrb zhq rfl (fun _=>rfl) (fun _=>rfl) ?_ (zrb zhq rfl (fun _=>rfl) (fun _=>rfl) ?_ (zyq zhq rfl (fun _=>rfl) (fun _=>rfl) ?_ (zwy zhq (fun _=>rfl) (fun _=>rfl) 1 14 (fun _=>rfl) rfl (zrb zhq rfl (fun _=>rfl) (fun _=>rfl) ?_ (zrb zhq rfl (fun _=>rfl) (fun _=>rfl) ?_ (zgS ?_ (zgS ?_ DrawG.nil)))))))))))))))))) ?_
   · exact fun D ⟨b8,hd4⟩ n d c u i=>za2 rfl dc (zaX 1 u d) (zaJ 2 u i)
   · exact fun D ⟨b8,hd4⟩ n d c u i=>zag zjF rfl dc (zaX 2 u d) (show _=0 from rfl) (zaJ 3 u i)
   · exact fun D ⟨b8,hd4⟩ n d c u i=>⟨_,(zaR rfl (zaR (zb3 (fun hD=>n (c 18 _ rfl hD 4 dc)) zdv) (zp5 (zaR (zb3 (fun hD=>n (c 18 _ rfl hD 4 dc)) rfl) (zaR (zb3 (fun hD=>n (c 18 _ rfl hD 4 dc)) zdv) rfl))))),zan (k:=0) zoz rfl dc (zaX 3 u d) rfl rfl (zaJ 4 u i)⟩
   · exact fun D ⟨b8,hd4⟩ n d c u i=>za2 rfl dc (zaX 5 u d) (zaJ 6 u i)
   · exact fun D ⟨b8,hd4⟩ n d c u i=>zag zjE rfl dc (zaX 6 u d) (show _=1 from rfl) (zaJ 7 u i)
   · exact fun D ⟨b8,hd4⟩ n d c u i=>⟨_,(zaR rfl (zaR (zb3 (fun hD=>n (c 12 _ rfl (c 13 _ rfl (c 18 _ rfl hD 13 dc) 12 dc) 8 dc)) zdv) (zp5 (zaR (zb3 (fun hD=>n (c 12 _ rfl (c 13 _ rfl (c 18 _ rfl hD 13 dc) 12 dc) 8 dc)) rfl) (zaR (zb3 (fun hD=>n (c 12 _ rfl (c 13 _ rfl (c 18 _ rfl hD 13 dc) 12 dc) 8 dc)) zdv) rfl))))),zan (k:=0) zqh rfl dc (zaX 7 u d) rfl rfl (zaJ 8 u i)⟩
   · exact fun D ⟨b8,hd4⟩ n d c u i=>⟨_,(zaR rfl (zaR (zb3 (fun hD=>n (c 11 _ rfl (c 12 _ rfl (c 13 _ rfl (c 18 _ rfl hD 13 dc) 12 dc) 11 dc) 10 dc)) zdv) (zp5 (zaR (zb3 (fun hD=>n (c 11 _ rfl (c 12 _ rfl (c 13 _ rfl (c 18 _ rfl hD 13 dc) 12 dc) 11 dc) 10 dc)) rfl) (zaR (zb3 (fun hD=>n (c 11 _ rfl (c 12 _ rfl (c 13 _ rfl (c 18 _ rfl hD 13 dc) 12 dc) 11 dc) 10 dc)) zdv) rfl))))),zbI (k:=7) hq18 underlying38 zkq rfl dc (zaX 9 u d) rfl rfl rfl (zaJ 10 u i)⟩
   · exact fun D ⟨b8,hd4⟩ n d c u i=>⟨_,(zaR rfl (zaR (zb3 (fun hD=>n (c 12 _ rfl (c 13 _ rfl (c 18 _ rfl hD 13 dc) 12 dc) 11 dc)) zdv) (zp5 (zaR (zb3 (fun hD=>n (c 12 _ rfl (c 13 _ rfl (c 18 _ rfl hD 13 dc) 12 dc) 11 dc)) rfl) (zaR (zb3 (fun hD=>n (c 12 _ rfl (c 13 _ rfl (c 18 _ rfl hD 13 dc) 12 dc) 11 dc)) zdv) rfl))))),zcP (i:=(3:Int).toNat) (j:=0) (k:=7) (q:=q13) zfn zcM rfl dc (zaX 10 u d) rfl (zcj hq18) rfl dc rfl (zaJ 11 u i)⟩
   · exact fun D ⟨b8,hd4⟩ n d c u i=>⟨_,(zaR rfl (zaR (zb3 (fun hD=>n (c 13 _ rfl (c 18 _ rfl hD 13 dc) 12 dc)) zdv) (zp5 (zaR (zb3 (fun hD=>n (c 13 _ rfl (c 18 _ rfl hD 13 dc) 12 dc)) rfl) (zaR (zb3 (fun hD=>n (c 13 _ rfl (c 18 _ rfl hD 13 dc) 12 dc)) zdv) rfl))))),zmh (k:=2) (ek:=(fun n:zBA=>Value.string n)) (ev':=(fun n:Int=>Value.int .i64 n)) (kk:=q13) (z0:=0) (zcO underlying9) underlying75 kr rfl dc (zaX 8 u d) (zaX 11 u d) rfl (zaJ 12 u i)⟩
   · exact fun D ⟨b8,hd4⟩ n d c u i=>zhK rfl dc (zaX 12 u d) rfl (zbh (r:=((zby q13 o1.place).getD 0)+1) (IntWalk.i64_in _ hg9)) (zaJ 13 u i)
   · exact fun D ⟨b8,hd4⟩ n d c u i=>⟨_,(zaR rfl (zaR (zb3 (fun hD=>n (c 16 _ rfl (c 17 _ rfl (c 18 _ rfl hD 17 dc) 16 dc) 15 dc)) zdv) (zp5 (zaR (zb3 (fun hD=>n (c 16 _ rfl (c 17 _ rfl (c 18 _ rfl hD 17 dc) 16 dc) 15 dc)) (zb3 (fun hD=>n (c 16 _ rfl (c 17 _ rfl hD 16 dc) 15 dc)) zdv)) (zaR (zb3 (fun hD=>n (c 16 _ rfl (c 17 _ rfl (c 18 _ rfl hD 17 dc) 16 dc) 15 dc)) zdv) rfl))))),zbI (k:=7) hq19 underlying38 zkq rfl dc (zaX 14 u d) rfl rfl rfl (zaJ 15 u i)⟩
   · exact fun D ⟨b8,hd4⟩ n d c u i=>⟨_,(zaR rfl (zaR (zb3 (fun hD=>n (c 17 _ rfl (c 18 _ rfl hD 17 dc) 16 dc)) zdv) (zp5 (zaR (zb3 (fun hD=>n (c 17 _ rfl (c 18 _ rfl hD 17 dc) 16 dc)) (zb3 (fun hD=>n (c 17 _ rfl hD 16 dc)) zdv)) (zaR (zb3 (fun hD=>n (c 17 _ rfl (c 18 _ rfl hD 17 dc) 16 dc)) zdv) rfl))))),zcP (i:=(1:Int).toNat) (j:=0) (k:=7) (q:=q14) zfn zcM rfl dc (zaX 15 u d) rfl (zcj hq19) rfl dc rfl (zaJ 16 u i)⟩
   ·
    intro D b hn hd hcl
    obtain ⟨zb0,hd4⟩:=b
    refine zjU (zaR rfl (zaR (zb3 (fun hD=>hn (hcl 18 _ rfl hD 17 dc)) zdv) (zp5 (zaR (zb3 (fun hD=>hn (hcl 18 _ rfl hD 17 dc)) (zb3 hn zdv)) (zaR (zb3 (fun hD=>hn (hcl 18 _ rfl hD 17 dc)) zdv) rfl))))) ?_
    refine za0 (cs:=[.string q14]) (te:=9) (ps:=[(0,.tmp 182)]) rfl dc (evP.cons (zdL (m:=16) rfl rfl (hd 16 dc)) evP.nil) (fun _=>by kernel_rfl) (fun b8 => ?_)
    refine zkB 8 rfl rfl ?_
    exact znc (b:=(zb0,hd4)) (b8,hd4) 17 (by rfl) (by rfl) rfl (zzG (zwz (zax (fun hD=>absurd hD hn) (zax (fun _=>rfl) rfl)))) (zaR rfl (zaR ((zjK (by rfl)).trans (zb3 (fun hD=>hn (hcl 18 _ rfl hD 17 dc)) zdv)) (zp5 (zaR (zb3 (fun h=>h.elim (fun hD=>hn (hcl 18 _ rfl hD 17 dc)) (fun h=>absurd h dc)) (zhf (Or.inr rfl) rfl)) (zaR ((zjK (by rfl)).trans (zb3 (fun hD=>hn (hcl 18 _ rfl hD 17 dc)) zdv)) rfl)))))
   ·
    intro D b hn hd hcl
    obtain ⟨b8,zb1⟩:=b
    refine zjU (zaR rfl (zaR (zb3 hn zdv) (zp5 (zaR (zb3 hn (zhf (hd 17 dc) rfl)) (zaR (zb3 hn zdv) rfl))))) ?_
    refine zb6 (vs:=[o1_h0.v,zI (((zby q13 o1.place).getD 0)+1),.slice (some ⟨b8,0,none⟩) 1 1]) rfl dc rfl (evL.cons (zdL (m:=4) rfl rfl (hd 4 dc)) (evL.cons (zdL (m:=13) rfl rfl (hd 13 dc)) (evL.cons (zdL (m:=17) rfl rfl (hd 17 dc)) evL.nil))) rfl zyU (zr5 (x:=q14) hg10) (zaa [1,8] kr rfl) ?_
    rintro v4
    refine zcp (k:=10) rfl (fun hd4 he2 => ?_)
    subst he2
    refine zkB 9 rfl rfl ?_
    exact znc (b:=(b8,zb1)) (b8,hd4) 18 (by rfl) (by rfl) rfl (zzs (zwz (zax (fun hD=>absurd hD hn) rfl))) (zaR rfl (zaR (zhf (Or.inr rfl) rfl) (zp5 (zaR (zhf (Or.inr rfl) rfl) (zaR (zhf (Or.inr rfl) rfl) rfl)))))
   intro D b hall
   obtain ⟨b8,hd4⟩:=b
   refine zjU (zaR rfl (zaR (zhf (hall 18 dc) rfl) (zp5 (zaR (zhf (hall 18 dc) rfl) (zaR (zhf (hall 18 dc) rfl) rfl))))) ?_
   refine za2 rfl dc rfl (zag zjF rfl dc rfl (show _=0 from rfl) ?_)
   refine zaQ (k:=0) (l':=[hd4.v,.map (some (za5 o1_h1)),.map (some (za5 o1_h2)),.map (some (za5 o1_h3)),o1_h4.v]) ztr rfl rfl rfl rfl rfl (fun _ _=>rfl) rfl ?_
   refine zyN (zap (zyR 1 rfl ?_))
   obtain ⟨r6,hq20,h⟩:=zbz h
   refine zb6 (vs:=[zP bo1]) rfl dc rfl rfl rfl zxl (zfg (bo1:=bo1) (o1:=(⟨zh1 o1.units (((zby q13 o1.place).getD 0)+1) q14,o1.place,o1.fors,o1.skips,o1.lines⟩:zac)) (o1_h0:=hd4) (o1_h1:=o1_h1) (o1_h2:=o1_h2) (o1_h3:=o1_h3) (o1_h4:=o1_h4) hq20) (zaa [0,9,2,3,4,5] kr rfl) ?_
   rintro ⟨hd5,hd6,hd7,hd8,hd9⟩
   refine zcw (L':=[cells bo1 [hd5.v,.map (some (za5 hd6)),.map (some (za5 hd7)),.map (some (za5 hd8)),hd9.v] 79,emp,zbJ (fun n:zBA=>Value.string n) (fun n:Int=>Value.int .i64 n) (za5 hd6) r6.place,zcy (za5 hd7) r6.fors,zbJ (fun n:zBA=>Value.string n) (fun n:Bool=>Value.bool n) (za5 hd8) r6.skips,zv0 hd9.v r6.lines,cells b1 [zI 0,zI 0] 35,zv0 v1 forms1,emp,zv0 hd5.v r6.units]) (zaa [10,1,12,13,14,15,6,7,8,11] kr rfl) ?_
   refine zaC ?_
   exact zai (r6.units,r6.place,r6.fors,r6.skips,r6.lines,hd5,(za5 hd6),(za5 hd7),(za5 hd8),hd9) h rfl (za7 rfl) (zaa [0,9,2,3,4,5,6] kr rfl)
  obtain ⟨q15,hq21,h⟩:=zbz h
  obtain ⟨hg11,h⟩:=zb7 h
  refine zuf (k:=7) rfl (fun hw1 => ?_)
  obtain ⟨v5,hv1,hs1⟩:=ziL (lo:=some (zI 2)) (hi:=none) hw1 underlying38 zkq (.inr rfl) (.inl ⟨rfl,rfl⟩) hg11
  refine zdo 9 [(0,189,zP bo1),(1,190,zP bo1),(2,191,.pointer (some ⟨bo1,2,none⟩)),(3,192,.map (some (za5 o1_h2))),(4,193,v1),(5,194,.pointer (some ⟨ziD v1,(1:Int).toNat*1,none⟩)),(6,195,.string q15),(7,196,v1),(8,197,v5)] mixed kr kr dc (by rfl) kr kr (zyP 1 0 rfl (zae ?_ (zae ?_ (zae ?_ (zyP 1 4 rfl (zae ?_ (zae ?_ (zyP 1 7 rfl (zae ?_ DrawPre.nil))))))))) ?_
  · exact fun D n d c u i=>za2 rfl dc (zaX 0 u d) (zaJ 1 u i)
  · exact fun D n d c u i=>zag zoU rfl dc (zaX 1 u d) (show _=2 from rfl) (zaJ 2 u i)
  · exact fun D n d c u i=>zan (k:=0) zu5 rfl dc (zaX 2 u d) rfl rfl (zaJ 3 u i)
  · exact fun D n d c u i=>zbI (k:=7) hq21 underlying38 zkq rfl dc (zaX 4 u d) rfl rfl rfl (zaJ 5 u i)
  · exact fun D n d c u i=>zcP (i:=(1:Int).toNat) (j:=0) (k:=7) (q:=q15) zfn zcM rfl dc (zaX 5 u d) rfl (zcj hq21) rfl dc rfl (zaJ 6 u i)
  · exact fun D n d c u i=>zb4 rfl dc (zaX 7 u d) (evO.some rfl) zpN hs1 (zaJ 8 u i)
  obtain ⟨hdn1,hd11⟩:=Vw.head hv1
  have hkp:=h
  subst hd11
  have h:=hkp
  refine zne (As:=[zcy (za5 o1_h2) o1.fors]) (zaa [3] kr rfl) znj ?_
  rintro Lf1 hLf1
  refine zfC (k:=8) (ek:=(fun s:zBA=>Value.string s)) (ev':=fsV) (kk:=q15) (vv:=(zhi forms1 2 (forms1.length:Int),hdn1)) (zcO underlying9) underlying76 rfl rfl rfl rfl rfl ?_
  refine zmi (k:=7) rfl (zul zcM hv1) ?_
  refine zne (As:=[fsM (za5 o1_h2) (zgC q15 (zhi forms1 2 (forms1.length:Int),hdn1) Lf1),fsO Lf1,zmA zgT 1 hdn1 (zhi forms1 2 (forms1.length:Int))]) (zaa [8,9,7] kr rfl) (zok q15 (zhi forms1 2 (forms1.length:Int)) hdn1 hLf1) ?_
  rintro _ _
  refine zaC ?_
  exact zai (o1.units,o1.place,zgC q15 (zhi forms1 2 (forms1.length:Int)) o1.fors,o1.skips,o1.lines,o1_h0,(za5 o1_h1),(za5 o1_h2),(za5 o1_h3),o1_h4) h rfl (za7 rfl) (zaa [0,1,2,10,4,5,6] kr rfl)
 rintro ⟨l2,m1,m2,m3,l3,hd2,b5,b6,b7,hd3⟩ h
 rw [hj8] at h
 refine zyG (zyR 2 rfl (za2 rfl dc rfl (zag zk7 rfl dc rfl (show _=4 from rfl) (zan (k:=0) zoz rfl dc rfl rfl rfl (zyR 1 rfl ?_)))))
 refine za0 (cs:=[.string said1]) (te:=9) (ps:=[(0,.tmp 203)]) rfl dc rfl (fun _=>by kernel_rfl) (fun b9 => ?_)
 obtain ⟨hg12,h⟩:=zb7 h
 refine zbY (k:=5) (k2:=7) (ys:=[said1]) underlying38 zxs zcM zkw rfl dc rfl rfl rfl rfl rfl rfl hg12 (fun v6 => ?_)
 refine zcp (k:=5) rfl (fun hd12 he3 => ?_)
 subst he3
 refine za2 rfl dc rfl (zag zk7 rfl dc rfl (show _=4 from rfl) ?_)
 refine zaQ (k:=0) (l':=[hd2.v,.map (some b5),.map (some b6),.map (some b7),hd12.v]) ztr rfl rfl rfl rfl rfl (fun _ _=>rfl) rfl ?_
 refine zyH ?_
 refine zb8 (v:=.agg #[zI 0,zI 0]) (ps:=[]) rfl dc rfl (fun _=>by kernel_rfl) ?_
 refine za4 (k:=6) (vs:=[zI 0,zI 0]) (l':=[zI 0,zI 0]) zij rfl rfl rfl rfl rfl (show _≤_ by simp) rfl rfl ?_
 refine zyN (zaD ?_)
 cases h
 exact zch (rs:=[.cell 6 35]) (hd2,(⟨some ⟨b5,0,none⟩,0,0⟩:Hd),(⟨some ⟨b6,0,none⟩,0,0⟩:Hd),(⟨some ⟨b7,0,none⟩,0,0⟩:Hd),hd12) (.inl rfl) results38 (.cons (.cells zjs (k:=6) rfl rfl rfl) .nil) rfl (zaa [0,1,2,3,4,5] kr rfl)
def zdk (ek1:Int→Int→(List zBA)→(List (zBA×Int))→(List (zBA×List zBA))→(List (zBA×Bool))→(List zBA)→Int→Option ((Option zac)×zaM)) (x1:zBA) (ag1:(List zBA)→(List (zBA×Int))→(List (zBA×List zBA))→(List (zBA×Bool))→(List zBA)→Int→Option ((Option zac)×zaM)) (o16:List zBA) (o17:List (zBA×Int)) (o18:List (zBA×List zBA)) (o19:List (zBA×Bool)) (o20:List zBA) (at3:Int):Option ((Option zac)×zaM) := grd (I64 ((x1.size:Int)+1)) <| grd (I64 (at3+((x1.size:Int)+1))) <| zak (zep x1 at3) fun (r3:(List zau)) => zat (((r3.length:Int):Int)==0) ( ag1 o16 o17 o18 o19 o20 (at3+((x1.size:Int)+1))
) ( grd (I64 (at3+(x1.size:Int))) <| zak (zdc (⟨o16,o17,o18,o19,o20⟩:zac) r3 (at3+(x1.size:Int))) fun (r4:(zaM×zac)) => zat ((r4.1.Err:Int) != 0) ( ek1 r4.1.Err r4.1.At r4.2.units r4.2.place r4.2.fors r4.2.skips r4.2.lines (at3+((x1.size:Int)+1))
) ( ag1 r4.2.units r4.2.place r4.2.fors r4.2.skips r4.2.lines (at3+((x1.size:Int)+1))
)
)
def zdD (text1:zBA):Option ((Option zac)×zaM) := zat (decide ((65536:Int)<(text1.size:Int))) ( some (none,(⟨3,65536⟩:zaM))
) ( zbB (fun (j1:(List zBA)→(List (zBA×Int))→(List (zBA×List zBA))→(List (zBA×Bool))→(List zBA)→Option ((Option zac)×zaM)) => zak (zdO) fun (r1:zac) => zak (ze7 text1 (⟨#[10]⟩:zBA)) fun (r2:(zBA×zBA×Int)) => zak (zdH r2.1 r2.2.1 r2.2.2) fun (its1:(List zBA)) => zbB (fun (ek1:Int→Int→(List zBA)→(List (zBA×Int))→(List (zBA×List zBA))→(List (zBA×Bool))→(List zBA)→Int→Option ((Option zac)×zaM)) => zbB (fun (dn1:(List zBA)→(List (zBA×Int))→(List (zBA×List zBA))→(List (zBA×Bool))→(List zBA)→Int→Option ((Option zac)×zaM)) => zcH dn1 (zdk ek1) its1 r1.units r1.place r1.fors r1.skips r1.lines 0
) (fun (o16:List zBA) (o17:List (zBA×Int)) (o18:List (zBA×List zBA)) (o19:List (zBA×Bool)) (o20:List zBA) (at3:Int) => j1 o16 o17 o18 o19 o20
)
) (fun (x2:Int) (x3:Int) (o21:List zBA) (o22:List (zBA×Int)) (o23:List (zBA×List zBA)) (o24:List (zBA×Bool)) (o25:List zBA) (at4:Int) => some (none,(⟨x2,x3⟩:zaM))
)
) (fun (o1:List zBA) (o2:List (zBA×Int)) (o3:List (zBA×List zBA)) (o4:List (zBA×Bool)) (o5:List zBA) => some ((some (⟨o1,o2,o3,o4,o5⟩:zac)),(⟨0,0⟩:zaM))
)
)
theorem zf4 {text1:zBA} {r:((Option zac)×zaM)} (h:zdD text1=some r):Fn prog 14 [.string text1] [] (fun v0:Value=>.tuple #[v0,.agg (zr2 r.2).toArray]) (fun v0=>[zlZ za9 za8 79 v0 r.1]):=by
 unfold zdD at h
 refine Fn.intro func14 rfl ntmps14 (by simp) ?_
 intro w0 K
 refine zgr ?_
 show TC _ _ _ _ _ _ _ _ _ [zfG ((([]:List Nat):List Nat).map zfr)]
 refine zyG ?_
 refine za6 zwF rfl dc (fun b1 => ?_)
 refine za6 zp6 rfl dc (fun b2 => ?_)
 show TO _ _ _ _ _ _ _ _ _ _ [zfG ((([]:List Nat):List Nat).map zfr),cells b1 [.pointer none] 23,cells b2 [zI 0,zI 0] 35]
 refine zyN ?_
 refine zpZ (β:=Unit) (l:=0) (fun _=>False) (fun _=>[]) (fun _=>[]) rfl ?_ ?_
 ·
  refine zaP (zyG (zyR 1 rfl (zcN rfl dc rfl underlying9 (zaU rfl zeU (zyN ?_)))))
  refine zyB rfl h (fun h => ?_) (fun h => ?_)
  ·
   refine zyG ?_
   refine zb8 (v:=.agg #[zI 3,zI 65536]) (ps:=[(0,.const (zI 3)),(1,.const (zI 65536))]) rfl dc rfl (fun _=>by kernel_rfl) ?_
   refine zaQ (k:=1) (l':=[.pointer none]) zts rfl rfl rfl rfl rfl (fun _ _=>rfl) rfl ?_
   refine za4 (k:=2) (vs:=[zI 3,zI 65536]) (l':=[zI 3,zI 65536]) zij rfl rfl rfl rfl rfl (show _≤_ by simp) rfl rfl ?_
   show TO _ _ _ _ _ _ _ _ _ _ [zfG ((([]:List Nat):List Nat).map zfr),cells b1 [.pointer none] 23,cells b2 [zI 3,zI 65536] 35]
   refine zyN (zaD (zaj (zjj (by simp) (zof za9 za8 79 ?_))))
   show TX _ _ _ _ _ _ _ [zfG ((([]:List Nat):List Nat).map zfr),cells b1 [.pointer none] 23,cells b2 [zI 3,zI 65536] 35,zlZ za9 za8 79 (.pointer none) none]
   cases h
   exact zfL (rs:=[.cell 2 23,.cell 3 35]) ([]:List Nat) (.pointer none) (.inl rfl) (zcS (k:=0) rfl) results14 (.cons (.cell zjr (k:=1) rfl rfl) (.cons (.cells zjs (k:=2) rfl rfl rfl) .nil)) rfl (zaa [3] kr rfl)
  refine zaq (zaF ?_)
  obtain ⟨j1,hj1,h⟩:=zbP h
  refine zaZ (β:=(List zBA)×(List (zBA×Int))×(List (zBA×List zBA))×(List (zBA×Bool))×(List zBA)×Nat×Nat×Hd×Nat×Nat×Nat×Hd×(List Nat)) 3 rfl (fun b=>j1 b.1 b.2.1 b.2.2.1 b.2.2.2.1 b.2.2.2.2.1=some r) (fun b=>ze8 b.2.2.2.2.2.2.2.2.2.2.2.2) (fun b=>[(2,zP b1),(3,zP b2),(4,zP b.2.2.2.2.2.1)]) (fun b=>[cells b1 [.pointer none] 23,cells b2 [zI 0,zI 0] 35,cells b.2.2.2.2.2.1 [zP b.2.2.2.2.2.2.1] 23,cells b.2.2.2.2.2.2.1 [b.2.2.2.2.2.2.2.1.v,.map (some b.2.2.2.2.2.2.2.2.1),.map (some b.2.2.2.2.2.2.2.2.2.1),.map (some b.2.2.2.2.2.2.2.2.2.2.1),b.2.2.2.2.2.2.2.2.2.2.2.1.v] 79,zv0 b.2.2.2.2.2.2.2.1.v b.1,zbJ (fun n:zBA=>Value.string n) (fun n:Int=>Value.int .i64 n) b.2.2.2.2.2.2.2.2.1 b.2.1,zcy b.2.2.2.2.2.2.2.2.2.1 b.2.2.1,zbJ (fun n:zBA=>Value.string n) (fun n:Bool=>Value.bool n) b.2.2.2.2.2.2.2.2.2.2.1 b.2.2.2.1,zv0 b.2.2.2.2.2.2.2.2.2.2.2.1.v b.2.2.2.2.1,zfG ((b.2.2.2.2.2.2.2.2.2.2.2.2:List Nat).map zfr)]) (fun cut => ?_) ?_
  ·
   refine zyG ?_
   obtain ⟨r1,hq1,h⟩:=zbz h
   refine zb6 (vs:=[]) rfl dc rfl rfl rfl zzb (zkj hq1) Splits.nil ?_
   rintro ⟨b8,hd3,hd4,hd5,hd6,hd7⟩
   show TO _ _ _ _ _ _ _ _ _ _ [zfG ((([]:List Nat):List Nat).map zfr),cells b1 [.pointer none] 23,cells b2 [zI 0,zI 0] 35,cells b8 [hd3.v,.map (some (za5 hd4)),.map (some (za5 hd5)),.map (some (za5 hd6)),hd7.v] 79,zv0 hd3.v r1.units,zbJ (fun n:zBA=>Value.string n) (fun n:Int=>Value.int .i64 n) (za5 hd4) r1.place,zcy (za5 hd5) r1.fors,zbJ (fun n:zBA=>Value.string n) (fun n:Bool=>Value.bool n) (za5 hd6) r1.skips,zv0 hd7.v r1.lines]
   refine za6 zwF rfl dc (fun b9 => ?_)
   refine zaQ (k:=9) (l':=[zP b8]) zts rfl rfl rfl rfl rfl (fun _ _=>rfl) rfl ?_
   show TO _ _ _ _ _ _ _ _ _ _ [zfG ((([]:List Nat):List Nat).map zfr),cells b1 [.pointer none] 23,cells b2 [zI 0,zI 0] 35,cells b8 [hd3.v,.map (some (za5 hd4)),.map (some (za5 hd5)),.map (some (za5 hd6)),hd7.v] 79,zv0 hd3.v r1.units,zbJ (fun n:zBA=>Value.string n) (fun n:Int=>Value.int .i64 n) (za5 hd4) r1.place,zcy (za5 hd5) r1.fors,zbJ (fun n:zBA=>Value.string n) (fun n:Bool=>Value.bool n) (za5 hd6) r1.skips,zv0 hd7.v r1.lines,cells b9 [zP b8] 23]
   refine zyH ?_
   refine za6 zwE rfl dc (fun b10 => ?_)
   refine zaQ (k:=10) (l':=[zI 0]) zik rfl rfl rfl rfl rfl (fun _ _=>rfl) rfl ?_
   show TO _ _ _ _ _ _ _ _ _ _ [zfG ((([]:List Nat):List Nat).map zfr),cells b1 [.pointer none] 23,cells b2 [zI 0,zI 0] 35,cells b8 [hd3.v,.map (some (za5 hd4)),.map (some (za5 hd5)),.map (some (za5 hd6)),hd7.v] 79,zv0 hd3.v r1.units,zbJ (fun n:zBA=>Value.string n) (fun n:Int=>Value.int .i64 n) (za5 hd4) r1.place,zcy (za5 hd5) r1.fors,zbJ (fun n:zBA=>Value.string n) (fun n:Bool=>Value.bool n) (za5 hd6) r1.skips,zv0 hd7.v r1.lines,cells b9 [zP b8] 23,cells b10 [zI 0] 3]
   refine zyN (zaP (zp1 (zaF (cut (zyG (zyR 1 rfl ?_))))))
   obtain ⟨r2,hq2,h⟩:=zbz h
   refine zb6 (vs:=[.string text1,.string (⟨#[10]⟩:zBA)]) rfl dc rfl rfl rfl zza (zim hq2) Splits.nil ?_
   rintro ⟨b11,b12,b13⟩
   show TO _ _ _ _ _ _ _ _ _ _ [zfG ((([]:List Nat):List Nat).map zfr),cells b1 [.pointer none] 23,cells b2 [zI 0,zI 0] 35,cells b8 [hd3.v,.map (some (za5 hd4)),.map (some (za5 hd5)),.map (some (za5 hd6)),hd7.v] 79,zv0 hd3.v r1.units,zbJ (fun n:zBA=>Value.string n) (fun n:Int=>Value.int .i64 n) (za5 hd4) r1.place,zcy (za5 hd5) r1.fors,zbJ (fun n:zBA=>Value.string n) (fun n:Bool=>Value.bool n) (za5 hd6) r1.skips,zv0 hd7.v r1.lines,cells b9 [zP b8] 23,cells b10 [zI 0] 3,cells b11 [.string r2.1] 9,cells b12 [.string r2.2.1] 9,cells b13 [zI r2.2.2] 3]
   refine zyN (zaB ?_)
   obtain ⟨its1,hq3,h⟩:=zbz h
   obtain ⟨ek1,hek1,h⟩:=zbP h
   obtain ⟨dn1,hdn1,h⟩:=zbP h
   refine zs6 (α:=zBA) (β:=(List zBA)×(List (zBA×Int))×(List (zBA×List zBA))×(List (zBA×Bool))×(List zBA)×Int×Hd×Nat×Nat×Nat×Hd) (γ:=(Int×Int×(List zBA)×(List (zBA×Int))×(List (zBA×List zBA))×(List (zBA×Bool))×(List zBA)×Int×Hd×Nat×Nat×Nat×Hd)) (δ:=Unit) (ps:=[17]) Ro.nil rfl zyD (zhh hq3) (fun pre b=>∀ post,its1=pre++post→zcH dn1 (zdk ek1) post b.1 b.2.1 b.2.2.1 b.2.2.2.1 b.2.2.2.2.1 b.2.2.2.2.2.1=some r) (fun pre b=>[cells b1 [.pointer none] 23,cells b2 [zI 0,zI 0] 35,cells b9 [zP b8] 23,cells b8 [b.2.2.2.2.2.2.1.v,.map (some b.2.2.2.2.2.2.2.1),.map (some b.2.2.2.2.2.2.2.2.1),.map (some b.2.2.2.2.2.2.2.2.2.1),b.2.2.2.2.2.2.2.2.2.2.v] 79,zv0 b.2.2.2.2.2.2.1.v b.1,zbJ (fun n:zBA=>Value.string n) (fun n:Int=>Value.int .i64 n) b.2.2.2.2.2.2.2.1 b.2.1,zcy b.2.2.2.2.2.2.2.2.1 b.2.2.1,zbJ (fun n:zBA=>Value.string n) (fun n:Bool=>Value.bool n) b.2.2.2.2.2.2.2.2.2.1 b.2.2.2.1,zv0 b.2.2.2.2.2.2.2.2.2.2.v b.2.2.2.2.1,cells b10 [zI b.2.2.2.2.2.1] 3]) (fun c pre g=>(fun g=>c=.ret∧ek1 g.1 g.2.1 g.2.2.1 g.2.2.2.1 g.2.2.2.2.1 g.2.2.2.2.2.1 g.2.2.2.2.2.2.1 g.2.2.2.2.2.2.2.1=some r) g) (fun c pre g=>(fun g=>[cells b1 [.pointer none] 23,cells b2 [zI g.1,zI g.2.1] 35,cells b9 [zP b8] 23,cells b8 [g.2.2.2.2.2.2.2.2.1.v,.map (some g.2.2.2.2.2.2.2.2.2.1),.map (some g.2.2.2.2.2.2.2.2.2.2.1),.map (some g.2.2.2.2.2.2.2.2.2.2.2.1),g.2.2.2.2.2.2.2.2.2.2.2.2.v] 79,zv0 g.2.2.2.2.2.2.2.2.1.v g.2.2.1,zbJ (fun n:zBA=>Value.string n) (fun n:Int=>Value.int .i64 n) g.2.2.2.2.2.2.2.2.2.1 g.2.2.2.1,zcy g.2.2.2.2.2.2.2.2.2.2.1 g.2.2.2.2.1,zbJ (fun n:zBA=>Value.string n) (fun n:Bool=>Value.bool n) g.2.2.2.2.2.2.2.2.2.2.2.1 g.2.2.2.2.2.1,zv0 g.2.2.2.2.2.2.2.2.2.2.2.2.v g.2.2.2.2.2.2.1,cells b10 [zI g.2.2.2.2.2.2.2.1] 3]) g) (fun pre x b j=>[(2,zP b1),(3,zP b2),(4,zP b9),(5,zP b10),(16,.func (.func 81) #[] #[zP b11,zP b12,zP b13]),(6,.string x)]) (fun pre x b j=>[cells b1 [.pointer none] 23,cells b2 [zI 0,zI 0] 35,cells b9 [zP b8] 23,cells b8 [b.2.2.2.2.2.2.1.v,.map (some b.2.2.2.2.2.2.2.1),.map (some b.2.2.2.2.2.2.2.2.1),.map (some b.2.2.2.2.2.2.2.2.2.1),b.2.2.2.2.2.2.2.2.2.2.v] 79,zv0 b.2.2.2.2.2.2.1.v b.1,zbJ (fun n:zBA=>Value.string n) (fun n:Int=>Value.int .i64 n) b.2.2.2.2.2.2.2.1 b.2.1,zcy b.2.2.2.2.2.2.2.2.1 b.2.2.1,zbJ (fun n:zBA=>Value.string n) (fun n:Bool=>Value.bool n) b.2.2.2.2.2.2.2.2.2.1 b.2.2.2.1,zv0 b.2.2.2.2.2.2.2.2.2.2.v b.2.2.2.2.1,cells b10 [zI b.2.2.2.2.2.1] 3]) (r1.units,r1.place,r1.fors,r1.skips,r1.lines,0,hd3,(za5 hd4),(za5 hd5),(za5 hd6),hd7) (fun post e=>by rw [List.nil_append] at e; subst e; exact h) (zaa [1,2,9,3,4,5,6,7,8,10] kr rfl) (zaa [11,12,13] kr rfl) (fun _=>rfl) dc ?_ ?_ ?_ ?_
   ·
    rintro lp rc pre x1 post ⟨o16,o17,o18,o19,o20,at3,hd12,b20,b21,b22,hd13⟩ w1 K1 hxs1 hext hro hinv
    refine zap (zyR 1 rfl (zaC ?_))
    exact fun a w ha hw=>⟨(),(za7 rfl) _ _ _ ha,hw.weaken (zaa [0,1,2,3,4,5,6,7,8,9] kr rfl)⟩
   ·
    rintro lp rc pre x1 post1 ⟨o16,o17,o18,o19,o20,at3,hd12,b20,b21,b22,hd13⟩ _ w1 K1 hxs1 hext hro hinv
    have h:=hinv (x1::post1) hxs1
    obtain ⟨ag1,hag1⟩:∃ ag,ag=zcH dn1 (zdk ek1) post1:=⟨_,rfl⟩
    have h:zdk ek1 x1 ag1 o16 o17 o18 o19 o20 at3=some r:=by have h2:=h; rw [zcr,← hag1] at h2; exact h2
    unfold zdk at h
    show TC _ _ _ _ _ _ _ _ [(2,zP b1),(3,zP b2),(4,zP b9),(5,zP b10),(16,.func (.func 81) #[] #[zP b11,zP b12,zP b13]),(6,.string x1)] [cells b1 [.pointer none] 23,cells b2 [zI 0,zI 0] 35,cells b9 [zP b8] 23,cells b8 [hd12.v,.map (some b20),.map (some b21),.map (some b22),hd13.v] 79,zv0 hd12.v o16,zbJ (fun n:zBA=>Value.string n) (fun n:Int=>Value.int .i64 n) b20 o17,zcy b21 o18,zbJ (fun n:zBA=>Value.string n) (fun n:Bool=>Value.bool n) b22 o19,zv0 hd13.v o20,cells b10 [zI at3] 3]
    refine zaB (zyG (zan (k:=9) zdV rfl dc rfl rfl rfl (zyR 1 rfl (zyH (zan (k:=9) zdV rfl dc rfl rfl rfl (zyR 1 rfl (zcN rfl dc rfl underlying9 ?_)))))))
    obtain ⟨hg1,h⟩:=zb7 h
    refine zaU rfl (zbh (r:=(x1.size:Int)+1) (IntWalk.i64_in _ hg1)) ?_
    obtain ⟨hg2,h⟩:=zb7 h
    refine zaU rfl (zbh (r:=at3+((x1.size:Int)+1)) (IntWalk.i64_in _ hg2)) ?_
    refine zaQ (k:=9) (l':=[zI (at3+((x1.size:Int)+1))]) zik rfl rfl rfl rfl rfl (fun _ _=>rfl) rfl ?_
    refine zyH (zyR 2 rfl ?_)
    obtain ⟨r3,hq4,h⟩:=zbz h
    refine zb6 (vs:=[.string x1,zI at3]) rfl dc rfl rfl rfl zy9 (zke hq4) Splits.nil ?_
    rintro v1
    show TO _ _ _ _ _ _ _ _ _ _ [cells b1 [.pointer none] 23,cells b2 [zI 0,zI 0] 35,cells b9 [zP b8] 23,cells b8 [hd12.v,.map (some b20),.map (some b21),.map (some b22),hd13.v] 79,zv0 hd12.v o16,zbJ (fun n:zBA=>Value.string n) (fun n:Int=>Value.int .i64 n) b20 o17,zcy b21 o18,zbJ (fun n:zBA=>Value.string n) (fun n:Bool=>Value.bool n) b22 o19,zv0 hd13.v o20,cells b10 [zI (at3+((x1.size:Int)+1))] 3,zv4 v1 r3]
    refine zcp (k:=10) rfl (fun hd16 he1 => ?_)
    subst he1
    refine zyR 1 rfl (zyN (zaP (zyG (zyR 1 rfl (zet (k:=10) rfl dc rfl rfl underlying86 (zaU rfl zbi (zyN ?_)))))))
    refine zyB rfl h (fun h => ?_) (fun h => ?_)
    ·
     refine zbA (zao (zaH ?_))
     exact zcK (o16,o17,o18,o19,o20,at3+((x1.size:Int)+1),hd12,b20,b21,b22,hd13) (fun post2 e2=>by have e9:=zca hxs1 e2; subst e9; subst hag1; exact h) (zaa [0,1,2,3,4,5,6,7,8,9] kr rfl)
    refine zaq (zaF (zyG (zan (k:=2) zjr rfl dc rfl rfl rfl (zyR 3 rfl (zcN rfl dc rfl underlying9 ?_)))))
    obtain ⟨hg3,h⟩:=zb7 h
    refine zaU rfl (zbh (r:=at3+(x1.size:Int)) (IntWalk.i64_in _ hg3)) ?_
    refine zee (k:=10) rfl (fun hw1 => ?_)
    obtain ⟨r4,hq5,h⟩:=zbz h
    refine zkC (vs:=[zP b8,hd16.v,zI (at3+(x1.size:Int))]) (Rd.nil:Rd _ _ []) rfl dc rfl rfl rfl zy8 (zhH (bo1:=b8) (o1:=(⟨o16,o17,o18,o19,o20⟩:zac)) (o1_h0:=hd12) (o1_h1:=(⟨some ⟨b20,0,none⟩,0,0⟩:Hd)) (o1_h2:=(⟨some ⟨b21,0,none⟩,0,0⟩:Hd)) (o1_h3:=(⟨some ⟨b22,0,none⟩,0,0⟩:Hd)) (o1_h4:=hd13) hw1 hq5) (zaa [3,4,5,6,7,8] kr rfl) (.own (As:=[zv4 hd16.v r3]) (zaa [10] kr rfl) (fun _ _ h=>zd5 zdu (sepL.one1.1 h)) .nil) ?_
    rintro ⟨hd17,hd18,hd19,hd20,hd21⟩
    refine zcw (L':=[cells b1 [.pointer none] 23,cells b2 [zI 0,zI 0] 35,cells b9 [zP b8] 23,cells b8 [hd17.v,.map (some (za5 hd18)),.map (some (za5 hd19)),.map (some (za5 hd20)),hd21.v] 79,zv0 hd17.v r4.2.units,zbJ (fun n:zBA=>Value.string n) (fun n:Int=>Value.int .i64 n) (za5 hd18) r4.2.place,zcy (za5 hd19) r4.2.fors,zbJ (fun n:zBA=>Value.string n) (fun n:Bool=>Value.bool n) (za5 hd20) r4.2.skips,zv0 hd21.v r4.2.lines,cells b10 [zI (at3+((x1.size:Int)+1))] 3,zv4 hd16.v r3]) (zaa [0,1,2,11,12,13,14,15,16,9,10] kr rfl) ?_
    refine za6 zp6 rfl dc (fun b26 => ?_)
    refine za4 (k:=11) (vs:=(zr2 r4.1)) (l':=(zr2 r4.1)) zij rfl rfl rfl rfl rfl (show _≤_ by simp) rfl rfl ?_
    show TO _ _ _ _ _ _ _ _ _ _ [cells b1 [.pointer none] 23,cells b2 [zI 0,zI 0] 35,cells b9 [zP b8] 23,cells b8 [hd17.v,.map (some (za5 hd18)),.map (some (za5 hd19)),.map (some (za5 hd20)),hd21.v] 79,zv0 hd17.v r4.2.units,zbJ (fun n:zBA=>Value.string n) (fun n:Int=>Value.int .i64 n) (za5 hd18) r4.2.place,zcy (za5 hd19) r4.2.fors,zbJ (fun n:zBA=>Value.string n) (fun n:Bool=>Value.bool n) (za5 hd20) r4.2.skips,zv0 hd21.v r4.2.lines,cells b10 [zI (at3+((x1.size:Int)+1))] 3,zv4 hd16.v r3,cells b26 (zr2 r4.1) 35]
    refine zyH (zag zsl rfl dc rfl (show _=0 from rfl) (zan (k:=11) zwZ rfl dc rfl rfl rfl (zaU rfl zeH (zyN ?_))))
    refine zyB rfl h (fun h => ?_) (fun h => ?_)
    ·
     refine zaP ?_
     refine zdo 2 [(0,40,.agg (zr2 r4.1).toArray)] mixed kr kr dc (by rfl) kr kr (zae ?_ (zae ?_ DrawPre.nil)) ?_
     · exact fun D n d c u i=>zbT (k:=11) (cs:=(zr2 r4.1)) zjs rfl dc (zba (by rfl) rfl) rfl rfl rfl (zaJ 0 u i)
     · exact fun D n d c u i=>zaQ (k:=0) (l':=[.pointer none]) zts rfl (zba (by rfl) rfl) rfl rfl rfl (fun _ _=>rfl) rfl (zsW (by rfl))
     refine za4 (k:=1) (vs:=(zr2 r4.1)) (l':=(zr2 r4.1)) zij rfl rfl rfl rfl rfl (show _≤_ by simp) rfl rfl (zyN (zaD (zam ?_)))
     exact zbR (r4.1.Err,r4.1.At,r4.2.units,r4.2.place,r4.2.fors,r4.2.skips,r4.2.lines,at3+((x1.size:Int)+1),hd17,(za5 hd18),(za5 hd19),(za5 hd20),hd21) (show _∧_ from ⟨rfl,h⟩) (zaa [0,1,2,3,4,5,6,7,8,9] kr rfl)
    refine zaq (zad ?_)
    exact zcK (r4.2.units,r4.2.place,r4.2.fors,r4.2.skips,r4.2.lines,at3+((x1.size:Int)+1),hd17,(za5 hd18),(za5 hd19),(za5 hd20),hd21) (fun post2 e2=>by have e9:=zca hxs1 e2; subst e9; subst hag1; exact h) (zaa [0,1,2,3,4,5,6,7,8,9] kr rfl)
   ·
    rintro dm1 ⟨o16,o17,o18,o19,o20,at3,hd12,b20,b21,b22,hd13⟩ hinv
    have h:dn1 o16 o17 o18 o19 o20 at3=some r:=hinv [] (List.append_nil _).symm
    rw [hdn1] at h
    show TX _ _ _ _ _ _ _ [zfG ((([]:List Nat):List Nat).map zfr),emp,emp,emp,emp,emp,emp,emp,emp,emp,emp,emp,emp,emp,cells b1 [.pointer none] 23,cells b2 [zI 0,zI 0] 35,cells b9 [zP b8] 23,cells b8 [hd12.v,.map (some b20),.map (some b21),.map (some b22),hd13.v] 79,zv0 hd12.v o16,zbJ (fun n:zBA=>Value.string n) (fun n:Int=>Value.int .i64 n) b20 o17,zcy b21 o18,zbJ (fun n:zBA=>Value.string n) (fun n:Bool=>Value.bool n) b22 o19,zv0 hd13.v o20,cells b10 [zI at3] 3,zfr dm1]
    refine zes (k:=24) (j:=0) rfl rfl dc ?_
    show TX _ _ _ _ _ _ _ [zfG ((dm1::([]:List Nat):List Nat).map zfr),emp,emp,emp,emp,emp,emp,emp,emp,emp,emp,emp,emp,emp,cells b1 [.pointer none] 23,cells b2 [zI 0,zI 0] 35,cells b9 [zP b8] 23,cells b8 [hd12.v,.map (some b20),.map (some b21),.map (some b22),hd13.v] 79,zv0 hd12.v o16,zbJ (fun n:zBA=>Value.string n) (fun n:Int=>Value.int .i64 n) b20 o17,zcy b21 o18,zbJ (fun n:zBA=>Value.string n) (fun n:Bool=>Value.bool n) b22 o19,zv0 hd13.v o20,cells b10 [zI at3] 3,emp]
    refine zad ?_
    exact zai (o16,o17,o18,o19,o20,b9,b8,hd12,b20,b21,b22,hd13,dm1::([]:List Nat)) h rfl (za7 rfl) (zaa [14,15,16,17,18,19,20,21,22,0] kr rfl)
   rintro dm1 c pre x1 post g hxs hX
   obtain ⟨rfl,h⟩:=(show _∧_ from hX)
   obtain ⟨x2,x3,o21,o22,o23,o24,o25,at4,hd14,b23,b24,b25,hd15⟩:=g
   rw [hek1] at h
   show TC _ _ _ _ _ _ _ _ _ [zfG ((([]:List Nat):List Nat).map zfr),emp,emp,emp,emp,emp,emp,emp,emp,emp,emp,emp,emp,emp,cells b1 [.pointer none] 23,cells b2 [zI x2,zI x3] 35,cells b9 [zP b8] 23,cells b8 [hd14.v,.map (some b23),.map (some b24),.map (some b25),hd15.v] 79,zv0 hd14.v o21,zbJ (fun n:zBA=>Value.string n) (fun n:Int=>Value.int .i64 n) b23 o22,zcy b24 o23,zbJ (fun n:zBA=>Value.string n) (fun n:Bool=>Value.bool n) b25 o24,zv0 hd15.v o25,cells b10 [zI at4] 3,zfr dm1]
   refine ziA (k:=24) (j:=0) rfl rfl dc ?_
   show TC _ _ _ _ _ _ _ _ _ [zfG ((dm1::([]:List Nat):List Nat).map zfr),emp,emp,emp,emp,emp,emp,emp,emp,emp,emp,emp,emp,emp,cells b1 [.pointer none] 23,cells b2 [zI x2,zI x3] 35,cells b9 [zP b8] 23,cells b8 [hd14.v,.map (some b23),.map (some b24),.map (some b25),hd15.v] 79,zv0 hd14.v o21,zbJ (fun n:zBA=>Value.string n) (fun n:Int=>Value.int .i64 n) b23 o22,zcy b24 o23,zbJ (fun n:zBA=>Value.string n) (fun n:Bool=>Value.bool n) b25 o24,zv0 hd15.v o25,cells b10 [zI at4] 3,emp]
   refine zaD (zam (zaj (zjj (by simp) (zof za9 za8 79 ?_))))
   show TX _ _ _ _ _ _ _ [zfG ((dm1::([]:List Nat):List Nat).map zfr),emp,emp,emp,emp,emp,emp,emp,emp,emp,emp,emp,emp,emp,cells b1 [.pointer none] 23,cells b2 [zI x2,zI x3] 35,cells b9 [zP b8] 23,cells b8 [hd14.v,.map (some b23),.map (some b24),.map (some b25),hd15.v] 79,zv0 hd14.v o21,zbJ (fun n:zBA=>Value.string n) (fun n:Int=>Value.int .i64 n) b23 o22,zcy b24 o23,zbJ (fun n:zBA=>Value.string n) (fun n:Bool=>Value.bool n) b25 o24,zv0 hd15.v o25,cells b10 [zI at4] 3,emp,zlZ za9 za8 79 (.pointer none) none]
   cases h
   exact zfL (rs:=[.cell 2 23,.cell 3 35]) (dm1::([]:List Nat)) (.pointer none) (.inl rfl) (zcS (k:=0) rfl) results14 (.cons (.cell zjr (k:=14) rfl rfl) (.cons (.cells zjs (k:=15) rfl rfl rfl) .nil)) rfl (zaa [25] kr rfl)
  rintro ⟨o1,o2,o3,o4,o5,b3,b4,hd1,b5,b6,b7,hd2,ds1⟩ h
  rw [hj1] at h
  show TC _ _ _ _ _ (ze8 ds1) _ _ [(2,zP b1),(3,zP b2),(4,zP b3)] [cells b1 [.pointer none] 23,cells b2 [zI 0,zI 0] 35,cells b3 [zP b4] 23,cells b4 [hd1.v,.map (some b5),.map (some b6),.map (some b7),hd2.v] 79,zv0 hd1.v o1,zbJ (fun n:zBA=>Value.string n) (fun n:Int=>Value.int .i64 n) b5 o2,zcy b6 o3,zbJ (fun n:zBA=>Value.string n) (fun n:Bool=>Value.bool n) b7 o4,zv0 hd2.v o5,zfG ((ds1:List Nat).map zfr)]
  refine zyG (zan (k:=2) zjr rfl dc rfl rfl rfl ?_)
  refine zb8 (v:=.agg #[zI 0,zI 0]) (ps:=[]) rfl dc rfl (fun _=>by kernel_rfl) ?_
  refine zaQ (k:=0) (l':=[zP b4]) zts rfl rfl rfl rfl rfl (fun _ _=>rfl) rfl ?_
  refine za4 (k:=1) (vs:=[zI 0,zI 0]) (l':=[zI 0,zI 0]) zij rfl rfl rfl rfl rfl (show _≤_ by simp) rfl rfl ?_
  show TO _ _ _ _ _ _ _ _ _ _ [cells b1 [zP b4] 23,cells b2 [zI 0,zI 0] 35,cells b3 [zP b4] 23,cells b4 [hd1.v,.map (some b5),.map (some b6),.map (some b7),hd2.v] 79,zv0 hd1.v o1,zbJ (fun n:zBA=>Value.string n) (fun n:Int=>Value.int .i64 n) b5 o2,zcy b6 o3,zbJ (fun n:zBA=>Value.string n) (fun n:Bool=>Value.bool n) b7 o4,zv0 hd2.v o5,zfG ((ds1:List Nat).map zfr)]
  refine zyN (zaD (zjj (by simp) ?_))
  refine zwb (As:=[cells b4 [hd1.v,.map (some b5),.map (some b6),.map (some b7),hd2.v] 79,zv0 hd1.v o1,zbJ (fun n:zBA=>Value.string n) (fun n:Int=>Value.int .i64 n) b5 o2,zcy b6 o3,zbJ (fun n:zBA=>Value.string n) (fun n:Bool=>Value.bool n) b7 o4,zv0 hd2.v o5]) (zaa [3,4,5,6,7,8] kr rfl) (zq5 (enc:=za9) (nest:=za8) (t:=79) (x:=(⟨o1,o2,o3,o4,o5⟩:zac)) (b:=b4) (hd:=(hd1,(⟨some ⟨b5,0,none⟩,0,0⟩:Hd),(⟨some ⟨b6,0,none⟩,0,0⟩:Hd),(⟨some ⟨b7,0,none⟩,0,0⟩:Hd),hd2))) (fun _ _ => ?_)
  show TX _ _ _ _ _ _ _ [cells b1 [zP b4] 23,cells b2 [zI 0,zI 0] 35,cells b3 [zP b4] 23,emp,emp,emp,emp,emp,emp,zfG ((ds1:List Nat).map zfr),zlZ za9 za8 79 (zP b4) (some (⟨o1,o2,o3,o4,o5⟩:zac))]
  cases h
  exact zfL (rs:=[.cell 2 23,.cell 3 35]) ds1 (zP b4) (.inl rfl) (zcS (k:=9) rfl) results14 (.cons (.cell zjr (k:=0) rfl rfl) (.cons (.cells zjs (k:=1) rfl rfl rfl) .nil)) rfl (zaa [10] kr rfl)
 exact fun b hb=>hb.elim
abbrev Wd:=zau
abbrev zlF:zBA:=⟨#[112,117,116]⟩
abbrev zpW:zBA:=⟨#[97,102,116,101,114]⟩
abbrev cAs:zBA:=⟨#[97,115]⟩
abbrev zm7:zBA:=⟨#[115,107,105,112]⟩
abbrev zga:zBA:=⟨#[]⟩
def w0:Wd:=⟨0,zga⟩
def wAt (l:List Wd) (k:Nat):Int:=(l.getD k w0).at_
def zkK (l:List Wd) (e:Int) (least most:Nat):Int:=if l.length<least then e else if most<l.length then wAt l most else -1
def zj2 (l:List Wd) (e:Int):Int :=
 if (l.getD 0 w0).text=zlF then (if 2<l.length∧(l.getD 2 w0).text≠zpW then wAt l 2 else zkK l e 4 4)
 else if (l.getD 0 w0).text=cAs then zkK l e 3 6
 else if (l.getD 0 w0).text=zm7 then zkK l e 2 2
 else wAt l 0
theorem zjC {α:Type} {l:List α} {k:Nat} {d:α} (h:k<l.length):l[k]?=some (l.getD k d):=by
 rw [List.getD_eq_getElem?_getD,List.getElem?_eq_getElem h]; rfl
theorem zhx {α:Type} {l:List α} {k:Nat} (d:α) (h:k<l.length):zd6 l (k:Int)=some (l.getD k d):=zdJ (zjC h)
theorem zvn (l:List Wd) (e:Int) (h0:0<l.length):zer l e=some (zj2 l e):=by
 have hsh:∀ (least most:Nat),(zat (decide (((l.length:Int):Int)<(least:Int))) (some e) (zat (decide (((most:Int):Int)<(l.length:Int))) (zak (zd6 l (most:Int)) fun (q5:Wd)=>some q5.at_) (some (-1))))=some (zkK l e least most):=by
  intro least most
  unfold zkK
  by_cases h1:l.length<least
  ·rw [if_pos h1]; exact zaL (decide_eq_true (by omega)) rfl
  ·rw [if_neg h1]
   refine zaG (decide_eq_false (by omega)) ?_
   by_cases h2:most<l.length
   ·rw [if_pos h2]; exact zaL (decide_eq_true (by omega)) (zaS (zhx w0 h2) rfl)
   ·rw [if_neg h2]; exact zaG (decide_eq_false (by omega)) rfl
 unfold zer zj2
 refine zcf (zaS (zhx (k:=0) w0 h0) ?_)
 by_cases h1:(l.getD 0 w0).text=zlF
 ·rw [if_pos h1]
  refine zaL (decide_eq_true h1) (zcf ?_)
  by_cases h2:2<l.length
  ·refine zaL (decide_eq_true (by omega)) (zaS (zhx (k:=2) w0 h2) ?_)
   by_cases h3:(l.getD 2 w0).text=zpW
   ·rw [if_neg (fun h=>h.2 h3)]
    exact zaG (by rw [decide_eq_true h3]; rfl) (hsh 4 4)
   ·rw [if_pos ⟨h2,h3⟩]
    exact zaL (by rw [decide_eq_false h3]; rfl) (zaS (zhx (k:=2) w0 h2) rfl)
  ·rw [if_neg (fun h=>h2 h.1)]
   exact zaG (decide_eq_false (by omega)) (hsh 4 4)
 ·rw [if_neg h1]
  refine zaG (decide_eq_false h1) ?_
  by_cases h2:(l.getD 0 w0).text=cAs
  ·rw [if_pos h2]; exact zaL (decide_eq_true h2) (hsh 3 6)
  ·rw [if_neg h2]
   refine zaG (decide_eq_false h2) ?_
   by_cases h3:(l.getD 0 w0).text=zm7
   ·rw [if_pos h3]; exact zaL (decide_eq_true h3) (hsh 2 2)
   ·rw [if_neg h3]; exact zaG (decide_eq_false h3) (zaS (zhx (k:=0) w0 h0) rfl)
abbrev zrA:zBA:=⟨#[32,97,102,116,101,114]⟩
abbrev zuq:zBA:=⟨#[32]⟩
def fmS (put:Bool):Nat→List Wd→Int ⊕ (List zBA×zBA)
 | _,[]=>.inr ([],zga)
 | i,w::ws =>
  if i=0∨(put=true∧i=2) then (match fmS put (i+1) ws with | .inl a=>.inl a | .inr (f,s)=>.inr (zga::f,(if i=0 then zga else zrA)++s))
  else if zeE w.text=zga then .inl w.at_
  else match fmS put (i+1) ws with | .inl a=>.inl a | .inr (f,s)=>.inr (zeE w.text::f,(zuq++ztm (zeE w.text))++s)
theorem zrO:∀ (l:List Tk) (k:Nat),k≤8→okR k l=true→k+l.length≤8
 | [],k,hk,_=>hk
 | x::l,k,hk,h=>by
  rw [okR,Bool.and_eq_true,Bool.and_eq_true] at h
  have h8:=of_decide_eq_true h.1.1
  have:=zrO l (k+1) h8 h.2
  rw [List.length_cons]; omega
theorem ztn (s:zBA):∀ y∈zh5 s,y.2.size≤4:=by
 intro y hy
 obtain ⟨x,hx,rfl⟩:=List.mem_map.1 hy
 have:=ziG (zef _ x hx)
 show (⟨x.bs.toArray⟩:zBA).size≤4
 rw [zcE]
 simpa using this
theorem zlU (s:zBA):(zeE s).size≤32:=by
 unfold zeE
 by_cases h:okR 0 (zh5 s)=true
 ·rw [if_pos h]
  have h1:=zrO _ 0 (by omega) h
  have h2:(zdF s).size≤4*((zh5 s).map zbu).length:=zhI fun y hy=>by
   obtain ⟨x,hx,rfl⟩:=List.mem_map.1 hy
   exact zju (ztn s x hx)
  rw [List.length_map] at h2
  omega
 ·rw [if_neg h]; show 0≤32; omega
theorem zu3 {α:Type} (D:List α) (x y:α) (R:List α):(D++x::R).set ((D.length:Int)).toNat y=D++y::R:=by
 rw [Int.toNat_natCast,List.set_append_right _ _ (Nat.le_refl _),Nat.sub_self]; rfl
theorem zqL (o:zac) (l:List Wd) (q2:Wd) (J:zBA→zBA→List zBA→Option (zaM×zac)) (hl:l.length≤2147483648) (hw:∀ w∈l,w.text.size≤65536) :
  ∀ (n:Nat) (B A:List Wd) (D:List zBA) (said:zBA),l=A++B→D.length=A.length→B.length<n→said.size≤65536+1000*A.length →
   zaT (fun _ _ _=>none) (zbX o l J q2) n said (D++List.replicate B.length zga) (A.length:Int) =
    match fmS (decide (q2.text=zlF)) A.length B with
    | .inl a=>some ((⟨221,a⟩:zaM),o)
    | .inr (f,s)=>J q2.text (said++s) (D++f):=by
 intro n
 induction n with
 | zero=>intro B A D said _ _ h; omega
 | succ n ih =>
  intro B A D said hA hD hn hs
  rw [zfI]
  generalize hag:zaT (fun _ _ _=>none) (zbX o l J q2) n=ag
  unfold zbX
  cases B with
  | nil =>
   refine zaG (decide_eq_false (by rw [hA]; simp)) ?_
   show J q2.text said (D++[])=J q2.text (said++zga) (D++[])
   rw [show zga=ByteArray.empty from rfl,ByteArray.append_empty]
  | cons w B =>
   have hAl:A.length≤2147483648:=by rw [hA,List.length_append] at hl; omega
   have hget:l[A.length]?=some w:=by rw [hA]; simp
   have hA':l=(A++[w])++B:=by rw [hA,List.append_assoc]; rfl
   have hlen':(A++[w]).length=A.length+1:=by simp
   have nx:=fun (x said':zBA) (hs':said'.size≤65536+1000*(A.length+1))=>ih B (A++[w]) (D++[x]) said' hA' (by rw [List.length_append,hlen',hD]; rfl) (by rw [List.length_cons] at hn; omega) (by rw [hlen']; exact hs')
   rw [hag,hlen'] at nx
   have h64:I64 ((A.length:Int)+1):=⟨by omega,by omega⟩
   have hrep:List.replicate (w::B).length zga=zga::List.replicate B.length zga:=rfl
   have hDx:∀ (x:zBA) (R:List zBA),(D++[x])++R=D++x::R:=fun x R=>by rw [List.append_assoc]; rfl
   have skipW:∀ (z:zBA),z.size≤6→(A.length=0∨(decide (q2.text=zlF)=true∧A.length=2))→z=(if A.length=0 then zga else zrA) →
     (grd (I64 ((A.length:Int)+1))<|ag (said++z) (D++zga::List.replicate B.length zga) ((A.length:Int)+1))=match fmS (decide (q2.text=zlF)) A.length (w::B) with | .inl a=>some ((⟨221,a⟩:zaM),o) | .inr (f,s)=>J q2.text (said++s) (D++f):=by
    intro z hz hc hze
    refine zcm h64 ?_
    have:=nx zga (said++z) (by rw [ByteArray.size_append]; omega)
    rw [hDx] at this
    push_cast at this
    rw [this,fmS,if_pos hc]
    cases fmS (decide (q2.text=zlF)) (A.length+1) B with
    | inl a=>rfl
    | inr fs =>
     obtain ⟨f,s⟩:=fs
     show J q2.text ((said++z)++s) ((D++[zga])++f)=J q2.text (said++(_++s)) (D++zga::f)
     rw [hDx,ByteArray.append_assoc,hze]
   have spellW:¬ (A.length=0∨(decide (q2.text=zlF)=true∧A.length=2)) →
     (zak (zdM w.text) fun (r2:zBA)=>zak (zd6 (D++zga::List.replicate B.length zga) (A.length:Int)) fun (q4:zBA)=>zak (zd6 ((D++zga::List.replicate B.length zga).set ((A.length:Int):Int).toNat r2) (A.length:Int)) fun (q5:zBA) =>
      zat (decide (q5=(⟨#[]⟩:zBA))) (some ((⟨221,w.at_⟩:zaM),o)) (
       zak (zd6 ((D++zga::List.replicate B.length zga).set ((A.length:Int):Int).toNat r2) (A.length:Int)) fun (q6:zBA)=>zak (zc4 q6) fun (r3:zBA) =>
        grd ((⟨#[32]⟩:zBA).size+r3.size≤9223372036854775807)<|grd (said.size+((⟨#[32]⟩:zBA)++r3).size≤9223372036854775807) <|
         grd (I64 ((A.length:Int)+1))<|ag (said++((⟨#[32]⟩:zBA)++r3)) ((D++zga::List.replicate B.length zga).set ((A.length:Int):Int).toNat r2) ((A.length:Int)+1)))=match fmS (decide (q2.text=zlF)) A.length (w::B) with | .inl a=>some ((⟨221,a⟩:zaM),o) | .inr (f,s)=>J q2.text (said++s) (D++f):=by
    intro hc
    have hws:w.text.size≤65536:=hw w (by rw [hA]; simp)
    have h32:=zlU w.text
    have hset:=zu3 D zga (zeE w.text) (List.replicate B.length zga)
    rw [hD] at hset
    have hg:∀ (x:zBA) (R:List zBA),zd6 (D++x::R) (A.length:Int)=some x:=fun x R=>zdJ (by rw [← hD]; simp)
    refine zaS (zuZ w.text hws) (zaS (hg _ _) ?_)
    rw [hset,fmS,if_neg hc]
    refine zaS (hg _ _) ?_
    by_cases he:zeE w.text=zga
    ·rw [if_pos he]; exact zaL (decide_eq_true he) rfl
    ·rw [if_neg he]
     have ht:=(zfY (zeE w.text) (by omega)).2.2.2
     have hb1:(⟨#[32]⟩:zBA).size=1:=rfl
     refine zaG (decide_eq_false he) (zaS (hg _ _) (zaS (zwK _ (by omega)) (zcm (by omega) (zcm (by rw [ByteArray.size_append]; omega) (zcm h64 ?_)))))
     have:=nx (zeE w.text) (said++(zuq++ztm (zeE w.text))) (by rw [ByteArray.size_append,ByteArray.size_append]; show _+(1+_)≤_; omega)
     rw [hDx] at this
     push_cast at this
     rw [this]
     cases fmS (decide (q2.text=zlF)) (A.length+1) B with
     | inl a=>rfl
     | inr fs =>
      obtain ⟨f,s⟩:=fs
      show J q2.text ((said++_)++s) ((D++[_])++f)=J q2.text (said++(_++s)) (D++_::f)
      rw [hDx,ByteArray.append_assoc]
   rw [hrep]
   refine zaL (decide_eq_true (by rw [hA]; simp; omega)) (zcf (zcf (zaS (zdJ hget) ?_)))
   by_cases h0:A.length=0
   ·refine zaL (by rw [h0]; rfl) (zcf (zaG (by rw [h0]; rfl) ?_))
    have:=skipW zga (by show 0≤6; omega) (.inl h0) (by rw [if_pos h0])
    rw [show zga=ByteArray.empty from rfl,ByteArray.append_empty] at this
    exact this
   ·refine zaG (beq_eq_false_iff_ne.2 (by omega)) ?_
    by_cases hp:q2.text=zlF
    ·refine zaL (decide_eq_true hp) ?_
     by_cases h2:A.length=2
     ·refine zaL (by rw [h2]; rfl) (zcf (zaL (decide_eq_true (by omega)) (zcm (by show said.size+6≤_; omega) ?_)))
      exact skipW zrA (by show 6≤6; omega) (.inr ⟨decide_eq_true hp,h2⟩) (by rw [if_neg h0])
     ·exact zaG (beq_eq_false_iff_ne.2 (by omega)) (spellW (fun h=>by rcases h with h | h; exact h0 h; exact h2 h.2))
    ·exact zaG (decide_eq_false hp) (spellW (fun h=>by rcases h with h | h; exact h0 h; exact hp (of_decide_eq_true h.1)))
section
variable {κ ν:Type} [DecidableEq κ]
theorem zi4 (k:κ) (v:ν) (q:κ):∀ L:List (κ×ν),zby q (zgC k v L)=if q=k then some v else zby q L
 | []=>rfl
 | p::L=>by
  have ih:=zi4 k v q L
  unfold zgC
  by_cases h:k=p.1
  ·rw [if_pos h]
   unfold zby
   by_cases hq:q=k
   ·rw [if_pos hq,if_pos hq]
   ·rw [if_neg hq,if_neg hq,if_neg (by rw [← h]; exact hq)]
  ·rw [if_neg h]
   unfold zby
   by_cases hq:q=p.1
   ·rw [if_pos hq,if_pos hq,if_neg (by rw [hq]; exact fun e=>h e.symm)]
   ·rw [if_neg hq,if_neg hq,ih]
end
def znk:List zBA→zBA→Option Int
 | [],_=>none
 | x::l,u=>if u=x then some 0 else (znk l u).map (· + 1)
theorem zmM:∀ {l:List zBA} {u:zBA} {i:Int},znk l u=some i→0≤i∧i<(l.length:Int)∧l[i.toNat]?=some u
 | [],u,i,h=>by cases h
 | x::l,u,i,h=>by
  rw [znk] at h
  split at h
  ·rename_i e
   injection h with h
   subst h
   exact ⟨Int.le_refl _,by rw [List.length_cons]; push_cast; omega,by rw [e]; rfl⟩
  ·cases h1:znk l u with
   | none=>rw [h1] at h; cases h
   | some j =>
    rw [h1] at h
    injection h with h
    subst h
    obtain ⟨a,b,c⟩:=zmM h1
    show 0≤j+1∧_
    refine ⟨by omega,by rw [List.length_cons]; push_cast; omega,?_⟩
    rw [show (j+1).toNat=j.toNat+1 by omega,List.getElem?_cons_succ]
    exact c
theorem idxU_mem:∀ {l:List zBA} {u:zBA},(znk l u).isSome=true↔u∈l
 | [],u=>by simp [znk]
 | x::l,u=>by
  rw [znk]
  by_cases h:u=x
  ·rw [if_pos h]; simp [h]
  ·rw [if_neg h,Option.isSome_map,idxU_mem]; simp [h]
def zra:List zBA→Int→List (zBA×Int)→List (zBA×Int)
 | [],_,m=>m
 | u::us,i,m=>zra us (i+1) (zgC u i m)
theorem zmD:∀ (us:List zBA) (i:Int) (m:List (zBA×Int)) (u:zBA),us.Nodup→zby u (zra us i m)=match znk us u with | some k=>some (i+k) | none=>zby u m
 | [],i,m,u,_=>rfl
 | x::us,i,m,u,h=>by
  rw [List.nodup_cons] at h
  rw [zra,zmD us (i+1) _ u h.2,znk,zi4]
  by_cases hu:u=x
  ·subst hu
   have:znk us u=none:=by
    cases hi:znk us u with
    | none=>rfl
    | some j =>
     exact absurd (idxU_mem.1 (by rw [hi]; rfl)) h.1
   rw [this,if_pos rfl]
   simp
  ·rw [if_neg hu,if_neg hu]
   cases znk us u with
   | none=>rfl
   | some j =>
    show some (i+1+j)=some (i+(j+1))
    congr 1; omega
theorem ztH (o:zac) (h:o.units.length≤1000000000):zcv o=some ⟨o.units,zra o.units 0 o.place,o.fors,o.skips,o.lines⟩:=by
 unfold zcv
 have key:∀ (n k:Nat) (m:List (zBA×Int)),k≤o.units.length→o.units.length - k<n→zaT (fun _ _=>none) (zbH o) n m (k:Int)=some ⟨o.units,zra (o.units.drop k) (k:Int) m,o.fors,o.skips,o.lines⟩:=by
  intro n
  induction n with
  | zero=>intro k m _ h; omega
  | succ n ih =>
   intro k m hk hn
   rw [zfI]
   generalize hag:zaT (fun _ _=>none) (zbH o) n=ag
   unfold zbH
   by_cases hlt:k<o.units.length
   ·refine zaL (decide_eq_true (by omega)) (zaS (zhx zga hlt) (zcm ⟨by omega,by omega⟩ ?_))
    have:=ih (k+1) (zgC (o.units.getD k zga) (k:Int) m) (by omega) (by omega)
    rw [hag] at this
    push_cast at this
    rw [this,List.drop_eq_getElem_cons hlt,zra]
    congr 3
    rw [List.getD_eq_getElem?_getD,List.getElem?_eq_getElem hlt]; rfl
   ·refine zaG (decide_eq_false (by omega)) ?_
    rw [List.drop_eq_nil_of_le (by omega)]; rfl
 have:=key zcI 0 o.place (Nat.zero_le _) (by unfold zcI; omega)
 rw [List.drop_zero] at this
 exact this
def zvo (o:zac) (u:zBA):Bool:=(zby u o.place).isSome||(zby u o.fors).isSome
theorem zzN (o:zac) (u:zBA):zdw o u=some (zvo o u):=by
 unfold zdw zvo
 cases (zby u o.place).isSome with
 | true=>exact zaL rfl rfl
 | false=>exact zaG rfl (by rw [Bool.false_or])
def zlx (o:zac):Nat→List zBA→List Wd→Option Int
 | i,f::fs,w::ws=>if 1<i∧f≠zga∧(zby f o.place).isSome=false then some w.at_ else zlx o (i+1) fs ws
 | _,_,_=>none
def zu7 (l:List Wd) (s:zBA):zBA:=(l.getD 0 w0).text++s
def fD (fs:List zBA) (k:Nat):zBA:=fs.getD k zga
def zya (o:zac) (fs:List zBA) (sd:zBA):zac :=
 let us:=zh1 o.units ((zby (fD fs 3) o.place).getD 0+1) (fD fs 1)
 ⟨us,zra us 0 o.place,o.fors,o.skips,o.lines++[sd]⟩
def zmH (o:zac) (l:List Wd) (e:Int):zaM×zac :=
 if o.lines.length=256 then (⟨3,wAt l 0⟩,o)
 else if 0≤zj2 l e then (⟨220,zj2 l e⟩,o)
 else match fmS (decide ((l.getD 0 w0).text=zlF)) 0 l with
  | .inl a=>(⟨221,a⟩,o)
  | .inr (fs,s) =>
   if (l.getD 0 w0).text=zm7 then
    (if (zby (zfu (fD fs 1)) o.skips).getD false=true then (⟨222,wAt l 1⟩,o) else (⟨0,0⟩,⟨o.units,o.place,o.fors,zgC (zfu (fD fs 1)) true o.skips,o.lines++[zu7 l s]⟩))
   else if zvo o (fD fs 1)=true then (⟨222,wAt l 1⟩,o)
   else match zlx o 0 fs l with
    | some a=>(⟨223,a⟩,o)
    | none=>(⟨0,0⟩,if (l.getD 0 w0).text=zlF then zya o fs (zu7 l s) else ⟨o.units,o.place,zgC (fD fs 1) (fs.drop 2) o.fors,o.skips,o.lines++[zu7 l s]⟩)
theorem zrX (o:zac) (l:List Wd) (fs:List zBA) (J:Option (zaM×zac)) (hl:fs.length=l.length) (hb:l.length≤2147483648):∀ (n:Nat) (A B:List zBA) (C D:List Wd),fs=A++B→l=C++D→A.length=C.length→B.length<n →
  zaT (fun _=>none) (zbW o l fs J) n (A.length:Int)=match zlx o A.length B D with | some a=>some ((⟨223,a⟩:zaM),o) | none=>J:=by
 intro n
 induction n with
 | zero=>intro A B C D _ _ _ h; omega
 | succ n ih =>
  intro A B C D hA hC hAC hn
  rw [zfI]
  generalize hag:zaT (fun _=>none) (zbW o l fs J) n=ag
  unfold zbW
  have hBD:B.length=D.length:=by
   rw [hA,hC,List.length_append,List.length_append] at hl; omega
  cases B with
  | nil=>exact zaG (decide_eq_false (by rw [hA]; simp)) rfl
  | cons f B =>
   cases D with
   | nil=>cases hBD
   | cons w D =>
    have hAl:A.length≤2147483648:=by rw [hC,List.length_append] at hb; omega
    have hgf:fs[A.length]?=some f:=by rw [hA]; simp
    have hgw:l[A.length]?=some w:=by rw [hC,hAC]; simp
    have nx:=ih (A++[f]) B (C++[w]) D (by rw [hA,List.append_assoc]; rfl) (by rw [hC,List.append_assoc]; rfl) (by simp [hAC]) (by rw [List.length_cons] at hn; omega)
    rw [hag,show (A++[f]).length=A.length+1 by simp] at nx
    push_cast at nx
    have go:(grd (I64 ((A.length:Int)+1))<|ag ((A.length:Int)+1))=match zlx o (A.length+1) B D with | some a=>some ((⟨223,a⟩:zaM),o) | none=>J:=zcm ⟨by omega,by omega⟩ nx
    refine zaL (decide_eq_true (by rw [hA]; simp; omega)) (zcf (zaS (zdJ hgf) ?_))
    rw [zlx]
    by_cases h1:1<A.length
    ·refine zaL (decide_eq_true (by omega)) ?_
     by_cases h2:f=zga
     ·rw [if_neg (fun h=>h.2.1 h2)]
      exact zaG (by rw [decide_eq_true h2]; rfl) go
     ·refine zaL (by rw [decide_eq_false h2]; rfl) ?_
      cases h3:(zby f o.place).isSome with
      | true=>rw [if_neg (fun h=>by cases h.2.2)]; exact zaG rfl go
      | false=>rw [if_pos ⟨h1,h2,rfl⟩]; exact zaL rfl (zaS (zdJ hgw) rfl)
    ·rw [if_neg (fun h=>h1 h.1)]
     exact zaG (decide_eq_false (by omega)) go
theorem zmQ (put:Bool):∀ (l:List Wd) (i:Nat) (f:List zBA) (s:zBA),fmS put i l=.inr (f,s)→f.length=l.length
 | [],i,f,s,h=>by
  rw [fmS] at h
  injection h with h
  injection h with h1 h2
  rw [← h1]; rfl
 | w::l,i,f,s,h=>by
  rw [fmS] at h
  cases hr:fmS put (i+1) l with
  | inl a =>
   rw [hr] at h
   split at h
   ·cases h
   ·split at h <;> cases h
  | inr fs =>
   obtain ⟨f',s'⟩:=fs
   have ih:=zmQ put l (i+1) f' s' hr
   rw [hr] at h
   split at h
   ·injection h with h
    injection h with h1 h2
    rw [← h1,List.length_cons,List.length_cons,ih]
   ·split at h
    ·cases h
    ·injection h with h
     injection h with h1 h2
     rw [← h1,List.length_cons,List.length_cons,ih]
theorem zkW {l:List Wd} {e:Int} (he:0≤e) (ha:∀ w∈l,0≤w.at_) (h0:0<l.length) (h:¬ 0≤zj2 l e) :
  ((l.getD 0 w0).text=zlF∧l.length=4∧(l.getD 2 w0).text=zpW)∨((l.getD 0 w0).text=cAs∧3≤l.length∧l.length≤6)∨((l.getD 0 w0).text=zm7∧l.length=2):=by
 have hat:∀ k,k<l.length→0≤wAt l k:=fun k hk=>ha _ (List.mem_of_getElem? (zjC hk))
 have hsh:∀ a b,¬ 0≤zkK l e a b→a≤l.length∧l.length≤b:=by
  intro a b hh
  unfold zkK at hh
  by_cases h1:l.length<a
  ·rw [if_pos h1] at hh; exact absurd he hh
  ·rw [if_neg h1] at hh
   by_cases h2:b<l.length
   ·rw [if_pos h2] at hh; exact absurd (hat b h2) hh
   ·omega
 unfold zj2 at h
 by_cases h1:(l.getD 0 w0).text=zlF
 ·rw [if_pos h1] at h
  by_cases h2:2<l.length∧(l.getD 2 w0).text≠zpW
  ·rw [if_pos h2] at h; exact absurd (hat 2 h2.1) h
  ·rw [if_neg h2] at h
   have:=hsh 4 4 h
   refine .inl ⟨h1,by omega,?_⟩
   exact Decidable.byContradiction fun hh=>h2 ⟨by omega,hh⟩
 ·rw [if_neg h1] at h
  by_cases h2:(l.getD 0 w0).text=cAs
  ·rw [if_pos h2] at h; exact .inr (.inl ⟨h2,hsh 3 6 h⟩)
  ·rw [if_neg h2] at h
   by_cases h3:(l.getD 0 w0).text=zm7
   ·rw [if_pos h3] at h
    have:=hsh 2 2 h
    exact .inr (.inr ⟨h3,by omega⟩)
   ·rw [if_neg h3] at h; exact absurd (hat 0 h0) h
theorem zvl (x:Tk):zbu (zbu x)=zbu x:=by
 cases h:zeb x with
 | true =>
  have e:zbu x=(zaV x.1,Utf8.encode (zaV x.1)):=by unfold zbu; rw [h]; rfl
  have h1:zeb (zbu x)=true:=by rw [zhR]; exact h
  rw [e] at h1 ⊢
  unfold zbu
  rw [h1,if_pos rfl]
  show (zaV (zaV x.1),Utf8.encode (zaV (zaV x.1)))=_
  rw [(zfB (show zaN x.1=true from h)).2.1]
 | false =>
  have e:zbu x=x:=by unfold zbu; rw [h]; rfl
  rw [e,e]
def SpU (u:zBA):Prop:=u≠zga∧zeE u=u
theorem zou (s:zBA) (hs:s.size≤65536):zdF (zdF s)=zdF s:=by
 show zhl ((zh5 (zdF s)).map zbu)=zhl ((zh5 s).map zbu)
 rw [zjq s hs,List.map_map]
 exact congrArg zhl (List.map_congr_left fun x _=>zvl x)
theorem ztu (s:zBA) (hs:s.size≤65536) (h:zeE s≠zga):SpU (zeE s):=by
 refine ⟨h,?_⟩
 unfold zeE at h ⊢
 by_cases hk:okR 0 (zh5 s)=true
 ·rw [if_pos hk,zjq s hs,zoH,if_pos hk,zou s hs]
 ·rw [if_neg hk] at h; exact absurd rfl h
theorem zsj (put:Bool):∀ (l:List Wd) (i:Nat) (f:List zBA) (s:zBA),fmS put i l=.inr (f,s)→∀ k w,l[k]?=some w →
  f[k]?=some (if i+k=0∨(put=true∧i+k=2) then zga else zeE w.text)∧(¬ (i+k=0∨(put=true∧i+k=2))→zeE w.text≠zga)
 | [],i,f,s,_,k,w,hk=>by simp at hk
 | w'::l,i,f,s,h,k,w,hk=>by
  rw [fmS] at h
  cases hr:fmS put (i+1) l with
  | inl a =>
   rw [hr] at h
   split at h
   ·cases h
   ·split at h <;> cases h
  | inr fs =>
   obtain ⟨f',s'⟩:=fs
   have ih:=zsj put l (i+1) f' s' hr
   rw [hr] at h
   by_cases hc:i=0∨(put=true∧i=2)
   ·rw [if_pos hc] at h
    injection h with h
    injection h with h1 h2
    subst h1
    cases k with
    | zero =>
     injection hk with hk
     subst hk
     rw [Nat.add_zero,if_pos hc]
     exact ⟨rfl,fun h=>absurd hc h⟩
    | succ k =>
     have:=ih k w hk
     rw [show i+1+k=i+(k+1) by omega] at this
     exact this
   ·rw [if_neg hc] at h
    by_cases he:zeE w'.text=zga
    ·rw [if_pos he] at h; cases h
    ·rw [if_neg he] at h
     injection h with h
     injection h with h1 h2
     subst h1
     cases k with
     | zero =>
      injection hk with hk
      subst hk
      rw [Nat.add_zero,if_neg hc]
      exact ⟨rfl,fun _=>he⟩
     | succ k =>
      have:=ih k w hk
      rw [show i+1+k=i+(k+1) by omega] at this
      exact this
theorem zjw (o:zac):∀ (fs:List zBA) (ws:List Wd) (i:Nat),fs.length=ws.length→zlx o i fs ws=none→∀ k f,fs[k]?=some f→1<i+k→f≠zga→(zby f o.place).isSome=true
 | [],ws,i,_,_,k,f,hk,_,_=>by simp at hk
 | f'::fs,[],i,hl,_,_,_,_,_,_=>by cases hl
 | f'::fs,w::ws,i,hl,h,k,f,hk,h1,hf=>by
  rw [zlx] at h
  split at h
  ·cases h
  ·rename_i hn
   cases k with
   | zero =>
    injection hk with hk
    subst hk
    cases hp:(zby f' o.place).isSome with
    | true=>rfl
    | false=>exact absurd ⟨by omega,hf,hp⟩ hn
   | succ k=>exact zjw o fs ws (i+1) (by simpa using hl) h k f hk (by omega) hf
structure InvO (o:zac):Prop where
 pl:∀ u,zby u o.place=znk o.units u
 nd:o.units.Nodup
 ul:o.units.length≤90+o.lines.length
 ll:o.lines.length≤256
 fo:∀ u xs,zby u o.fors=some xs→xs≠[]∧xs.length≤4∧∀ x∈xs,x∈o.units
 dj:∀ u,(zby u o.fors).isSome=true→u ∉ o.units
 us:∀ u∈o.units,SpU u
 fk:∀ u,(zby u o.fors).isSome=true→SpU u
 lw:26≤o.units.length
theorem InvO.ok {o:zac} (h:InvO o):zwl o where
 fo:=fun u xs hx=>⟨(h.fo u xs hx).1,(h.fo u xs hx).2.1⟩
 pl:=fun u i hi=>by
  have hi:zby u o.place=some i:=hi
  rw [h.pl] at hi
  have:=zmM hi
  have h1:=h.ul; have h2:=h.ll
  omega
theorem zsm {fs:List zBA} {k:Nat} (h:k<fs.length):fs[k]?=some (fD fs k):=zjC h
theorem zkv {l:List Wd} {put:Bool} {f:List zBA} {s:zBA} (h:fmS put 0 l=.inr (f,s)) (k:Nat) (hk:k<l.length) (hn:¬ (k=0∨(put=true∧k=2))):fD f k=zeE (l.getD k w0).text∧fD f k≠zga:=by
 have hl:=zmQ put l 0 f s h
 obtain ⟨h1,h2⟩:=zsj put l 0 f s h k _ (zjC hk)
 rw [Nat.zero_add,if_neg hn,zsm (by omega)] at h1
 injection h1 with h1
 rw [Nat.zero_add] at h2
 exact ⟨h1,by rw [h1]; exact h2 hn⟩
theorem zoI {o:zac} (h:InvO o) {u:zBA} (hu:(zby u o.place).isSome=false):u ∉ o.units:=by
 intro hm
 have:=idxU_mem.2 hm
 rw [← h.pl,hu] at this
 cases this
theorem zpF {o:zac} (h:InvO o) {u:zBA} (hu:(zby u o.place).isSome=true):u∈o.units:=by
 rw [h.pl] at hu
 exact idxU_mem.1 hu
theorem zxa {o:zac} (h:InvO o) (l:List Wd) (e:Int) (he:0≤e) (h0:0<l.length) (hl:l.length≤1000000000) (ha:∀ w∈l,0≤w.at_) (hw:∀ w∈l,w.text.size≤65536):zdc o l e=some (zmH o l e):=by
 have hul:=h.ul; have hll:=h.ll
 unfold zdc zmH
 by_cases h1:o.lines.length=256
 ·rw [if_pos h1]
  exact zaL (by rw [h1]; rfl) (zaS (zhx (k:=0) w0 h0) rfl)
 rw [if_neg h1]
 refine zaG (beq_eq_false_iff_ne.2 (by omega)) (zaS (zvn l e h0) ?_)
 by_cases h2:0≤zj2 l e
 ·rw [if_pos h2]; exact zaL (decide_eq_true h2) rfl
 rw [if_neg h2]
 have hsh:=zkW he ha h0 h2
 refine zaG (decide_eq_false h2) (zcf (zaS (zhx (k:=0) w0 h0) (zcm ⟨by omega,by omega⟩ ?_)))
 have hq:(l.getD 0 w0).text.size≤65536:=hw _ (List.mem_of_getElem? (zjC h0))
 have hloop:=fun J=>zqL o l (l.getD 0 w0) J (by omega) hw zcI l [] [] (l.getD 0 w0).text rfl rfl (by unfold zcI; omega) (by show _≤_+1000*0; omega)
 rw [Int.toNat_natCast]
 refine (hloop _).trans ?_
 cases hf:fmS (decide ((l.getD 0 w0).text=zlF)) ([]:List Wd).length l with
 | inl a=>rfl
 | inr fs =>
  obtain ⟨fs,s⟩:=fs
  have hf:fmS (decide ((l.getD 0 w0).text=zlF)) 0 l=.inr (fs,s):=hf
  have hlen:=zmQ _ _ _ _ _ hf
  have h2l:2≤l.length:=by rcases hsh with h | h | h <;> omega
  have hg:=fun (k:Nat) (hk:k<l.length)=>zhx (l:=fs) (k:=k) zga (by omega)
  show zat (decide ((l.getD 0 w0).text=zm7)) _ _=some (ite ((l.getD 0 w0).text=zm7) _ _)
  by_cases hsk:(l.getD 0 w0).text=zm7
  ·rw [if_pos hsk]
   have h32:(fD fs 1).size≤65536:=by
    have:=(zkv hf 1 (by omega) (by omega)).1
    rw [this]; have:=zlU (l.getD 1 w0).text; omega
   refine zaL (decide_eq_true hsk) (zaS (hg 1 (by omega)) (zaS (zpH _ h32) ?_))
   show zat ((zby (zfu (fD fs 1)) o.skips).getD false) _ _=_
   cases hb:(zby (zfu (fD fs 1)) o.skips).getD false with
   | true=>rw [if_pos rfl]; exact zaL rfl (zaS (zhx (k:=1) w0 (by omega)) rfl)
   | false=>rw [if_neg (by simp)]; exact zaG rfl (zcm (by omega) rfl)
  ·rw [if_neg hsk]
   refine zaG (decide_eq_false hsk) (zaS (hg 1 (by omega)) (zaS (zzN o _) ?_))
   show zat (zvo o (fD fs 1)) _ _=_
   cases hb:zvo o (fD fs 1) with
   | true=>rw [if_pos rfl]; exact zaL rfl (zaS (zhx (k:=1) w0 (by omega)) rfl)
   | false =>
    rw [if_neg (by simp)]
    refine zaG rfl (zcf ?_)
    have hlk:=fun J=>zrX o l fs J hlen (by omega) zcI [] fs [] l rfl rfl rfl (by unfold zcI; omega)
    refine (hlk _).trans ?_
    cases hla:zlx o ([]:List zBA).length fs l with
    | some a=>rfl
    | none =>
     have hla:zlx o 0 fs l=none:=hla
     show zbB _ _=some ((⟨0,0⟩:zaM),ite ((l.getD 0 w0).text=zlF) _ _)
     refine zcf ?_
     by_cases hp:(l.getD 0 w0).text=zlF
     ·rw [if_pos hp]
      have h4:l.length=4:=by
       rcases hsh with h | h | h
       ·exact h.2.1
       ·rw [h.1] at hp; exact absurd hp (by decide)
       ·exact absurd h.1 hsk
      have hn3:=(zkv hf 3 (by omega) (by omega)).2
      have h3:=zjw o fs l 0 hlen hla 3 _ (zsm (by omega)) (by omega) hn3
      obtain ⟨p,hp3⟩:=Option.isSome_iff_exists.1 h3
      have hr:=hp3
      rw [h.pl] at hr
      have hrng:=zmM hr
      have hD3:fs.getD 3 zga=fD fs 3:=rfl
      have hins:(zh1 o.units (p+1) (fD fs 1)).length=o.units.length+1:=by
       unfold zh1
       rw [List.length_append,List.length_cons,List.length_take,List.length_drop]; omega
      refine zaL (decide_eq_true hp) (zaS (hg 3 (by omega)) ?_)
      rw [hD3,hp3,Option.getD_some]
      refine zcm ⟨by omega,by omega⟩ (zaS (hg 1 (by omega)) (zcm ⟨by omega,by omega,by omega⟩ (zaS (ztH _ (by show (zh1 o.units (p+1) (fD fs 1)).length≤_; omega)) ?_)))
      show (grd (o.lines.length+1≤2147483648) _)=_
      refine zcm (by omega) ?_
      unfold zya
      rw [hp3,Option.getD_some]; rfl
     ·rw [if_neg hp]
      have hcut:zhi ([]++fs) 2 ((([]++fs:List zBA).length:Nat):Int)=fs.drop 2:=zsy fs 2
      refine zaG (decide_eq_false hp) (zaS (hg 1 (by omega)) (zcm ⟨by omega,by show (2:Int)≤(fs.length:Int); omega,Int.le_refl _⟩ ?_))
      rw [hcut]
      exact zcm (by omega) rfl
theorem insL_mem {xs:List zBA} {i:Int} {x u:zBA}:u∈zh1 xs i x↔u=x∨u∈xs:=by
 unfold zh1
 rw [List.mem_append,List.mem_cons]
 have:u∈xs↔u∈xs.take i.toNat∨u∈xs.drop i.toNat:=by rw [← List.mem_append,List.take_append_drop]
 rw [this]
 constructor
 ·rintro (h | h | h)
  ·exact .inr (.inl h)
  ·exact .inl h
  ·exact .inr (.inr h)
 ·rintro (h | h | h)
  ·exact .inr (.inl h)
  ·exact .inl h
  ·exact .inr (.inr h)
theorem zqF {xs:List zBA} {i:Int} {x:zBA} (h:xs.Nodup) (hx:x ∉ xs):(zh1 xs i x).Nodup:=by
 have hp:(zh1 xs i x).Perm (x::xs):=by
  unfold zh1
  have:(xs.take i.toNat++x::xs.drop i.toNat).Perm (x::(xs.take i.toNat++xs.drop i.toNat)):=List.perm_middle
  rw [List.take_append_drop] at this
  exact this
 exact hp.nodup_iff.2 (List.nodup_cons.2 ⟨hx,h⟩)
theorem zpB {o:zac} (h:InvO o) (l:List Wd) (e:Int) (he:0≤e) (h0:0<l.length) (ha:∀ w∈l,0≤w.at_) (hw:∀ w∈l,w.text.size≤65536):InvO (zmH o l e).2:=by
 have hul:=h.ul; have hll:=h.ll
 unfold zmH
 by_cases h1:o.lines.length=256
 ·rw [if_pos h1]; exact h
 rw [if_neg h1]
 by_cases h2:0≤zj2 l e
 ·rw [if_pos h2]; exact h
 rw [if_neg h2]
 have hsh:=zkW he ha h0 h2
 cases hf:fmS (decide ((l.getD 0 w0).text=zlF)) 0 l with
 | inl a=>exact h
 | inr fs =>
  obtain ⟨fs,s⟩:=fs
  have hlen:=zmQ _ _ _ _ _ hf
  have h2l:2≤l.length:=by rcases hsh with h | h | h <;> omega
  show InvO (Prod.snd (ite _ _ _))
  by_cases hsk:(l.getD 0 w0).text=zm7
  ·rw [if_pos hsk]
   cases hb:(zby (zfu (fD fs 1)) o.skips).getD false with
   | true=>rw [if_pos rfl]; exact h
   | false =>
    rw [if_neg (by simp)]
    exact ⟨h.pl,h.nd,by show o.units.length≤90+(o.lines++_).length; rw [List.length_append]; omega,by show (o.lines++_).length≤_; rw [List.length_append]; show _+1≤_; omega,h.fo,h.dj,h.us,h.fk,h.lw⟩
  ·rw [if_neg hsk]
   cases hb:zvo o (fD fs 1) with
   | true=>rw [if_pos rfl]; exact h
   | false =>
    rw [if_neg (by simp)]
    have hb1:(zby (fD fs 1) o.place).isSome=false∧(zby (fD fs 1) o.fors).isSome=false:=by
     unfold zvo at hb
     exact Bool.or_eq_false_iff.1 hb
    have hnu:=zoI h hb1.1
    cases hla:zlx o 0 fs l with
    | some a=>exact h
    | none =>
     obtain ⟨hs1,hs2⟩:=zkv hf 1 (by omega) (by omega)
     have hsp:SpU (fD fs 1):=by
      rw [hs1] at hs2 ⊢
      exact ztu _ (hw _ (List.mem_of_getElem? (zjC (by omega)))) hs2
     show InvO (ite _ _ _)
     by_cases hp:(l.getD 0 w0).text=zlF
     ·rw [if_pos hp]
      have h4:l.length=4:=by
       rcases hsh with h | h | h
       ·exact h.2.1
       ·rw [h.1] at hp; exact absurd hp (by decide)
       ·exact absurd h.1 hsk
      unfold zya
      generalize (zby (fD fs 3) o.place).getD 0+1=i
      have hnd:=zqF (i:=i) h.nd hnu
      refine ⟨fun u => ?_,hnd,?_,?_,fun u xs hx => ?_,fun u hu => ?_,fun u hu => ?_,h.fk,?_⟩
      ·show zby u (zra (zh1 o.units i (fD fs 1)) 0 o.place)=znk (zh1 o.units i (fD fs 1)) u
       rw [zmD _ _ _ _ hnd]
       cases hi:znk (zh1 o.units i (fD fs 1)) u with
       | some k=>show some (0+k)=_; rw [Int.zero_add]
       | none =>
        show zby u o.place=none
        rw [h.pl]
        cases hj:znk o.units u with
        | none=>rfl
        | some j =>
         have hm:u∈zh1 o.units i (fD fs 1):=insL_mem.2 (.inr (idxU_mem.1 (by rw [hj]; rfl)))
         have:=idxU_mem.2 hm
         rw [hi] at this; cases this
      ·show (zh1 o.units i (fD fs 1)).length≤90+(o.lines++_).length
       unfold zh1
       simp only [List.length_append,List.length_cons,List.length_nil,List.length_take,List.length_drop]
       omega
      ·show (o.lines++_).length≤256
       rw [List.length_append]; show _+1≤_; omega
      ·have:=h.fo u xs hx
       exact ⟨this.1,this.2.1,fun x hx=>insL_mem.2 (.inr (this.2.2 x hx))⟩
      ·intro hm
       rcases insL_mem.1 hm with rfl | hm
       ·have hu:(zby (fD fs 1) o.fors).isSome=true:=hu
        rw [hb1.2] at hu; cases hu
       ·exact h.dj u hu hm
      ·rcases insL_mem.1 hu with rfl | hm
       ·exact hsp
       ·exact h.us u hm
      ·have:=h.lw
       show 26≤(zh1 o.units i (fD fs 1)).length
       unfold zh1
       rw [List.length_append,List.length_cons,List.length_take,List.length_drop]; omega
     ·rw [if_neg hp]
      have h36:3≤l.length∧l.length≤6:=by
       rcases hsh with h | h | h
       ·exact absurd h.1 hp
       ·exact h.2
       ·exact absurd h.1 hsk
      have hput:decide ((l.getD 0 w0).text=zlF)=false:=decide_eq_false hp
      refine ⟨h.pl,h.nd,by show o.units.length≤90+(o.lines++_).length; rw [List.length_append]; omega,by show (o.lines++_).length≤_; rw [List.length_append]; show _+1≤_; omega,fun u xs hx => ?_,fun u hu => ?_,h.us,fun u hu => ?_,h.lw⟩
      ·have hx:zby u (zgC (fD fs 1) (fs.drop 2) o.fors)=some xs:=hx
       rw [zi4] at hx
       by_cases hu:u=fD fs 1
       ·rw [if_pos hu] at hx
        injection hx with hx
        subst hx
        refine ⟨fun e => ?_,by rw [List.length_drop]; omega,fun x hx => ?_⟩
        ·have:=congrArg List.length e
         rw [List.length_drop,List.length_nil] at this; omega
        ·obtain ⟨k,hk⟩:=List.mem_iff_getElem?.1 hx
         rw [List.getElem?_drop] at hk
         have hkl:=(List.getElem?_eq_some_iff.1 hk).1
         have hfd:fD fs (2+k)=x:=by
          have:=zsm (fs:=fs) (k:=2+k) hkl
          rw [hk] at this
          injection this with this
          exact this.symm
         have hne:=(zkv hf (2+k) (by omega) (by rw [hput]; rintro (h | h); omega; cases h.1)).2
         rw [hfd] at hne
         exact zpF h (zjw o fs l 0 hlen hla (2+k) x hk (by omega) hne)
       ·rw [if_neg hu] at hx
        exact h.fo u xs hx
      ·have hu:(zby u (zgC (fD fs 1) (fs.drop 2) o.fors)).isSome=true:=hu
       rw [zi4] at hu
       by_cases hq:u=fD fs 1
       ·rw [hq]; exact hnu
       ·rw [if_neg hq] at hu
        exact h.dj u hu
      ·have hu:(zby u (zgC (fD fs 1) (fs.drop 2) o.fors)).isSome=true:=hu
       rw [zi4] at hu
       by_cases hq:u=fD fs 1
       ·rw [hq]; exact hsp
       ·rw [if_neg hq] at hu
        exact h.fk u hu
def units0:List Int:=[97,98,99,100,101,102,103,104,105,106,107,108,109,110,111,112,113,114,115,116,117,118,119,120,121,122,945,946,947,948,949,950,951,952,953,954,955,956,957,958,959,960,961,963,964,965,966,967,968,969,1072,1073,1074,1075,1076,1077,1078,1079,1080,1082,1083,1084,1085,1086,1087,1088,1089,1090,1091,1092,1093,1094,1095,1096,1097,1098,1099,1100,1101,1102,1103,1106,1108,1109,1110,1112,1113,1114,1115,1119]
def us0:List zBA:=units0.map Utf8.encode
def zw2:zac:=⟨us0,zra us0 0 [],[],[],[]⟩
theorem zv6:(match zdO with | some o=>decide (o.units=us0)&&(decide (o.place.map Prod.fst=(zra us0 0 []).map Prod.fst)&&decide (o.place.map Prod.snd=(zra us0 0 []).map Prod.snd))&&o.fors.isEmpty&&o.skips.isEmpty&&o.lines.isEmpty | none=>false)=true:=by decide +kernel
theorem znB {α β:Type}:∀ {a b:List (α×β)},a.map Prod.fst=b.map Prod.fst→a.map Prod.snd=b.map Prod.snd→a=b
 | [],[],_,_=>rfl
 | [],_::_,h,_=>by cases h
 | _::_,[],h,_=>by cases h
 | x::a,y::b,h1,h2=>by
  rw [List.map_cons,List.map_cons] at h1 h2
  injection h1 with p1 q1
  injection h2 with p2 q2
  rw [Prod.ext p1 p2,znB q1 q2]
theorem zvZ:zdO=some zw2:=by
 have h:=zv6
 cases hb:zdO with
 | none=>rw [hb] at h; cases h
 | some o =>
  rw [hb] at h
  simp only [Bool.and_eq_true,decide_eq_true_eq,List.isEmpty_iff] at h
  obtain ⟨⟨⟨⟨h1,h2,h3⟩,h4⟩,h5⟩,h6⟩:=h
  obtain ⟨u,p,f,s,l⟩:=o
  simp only at h1 h2 h3 h4 h5 h6
  subst h1; subst h4; subst h5; subst h6
  rw [znB h2 h3]; rfl
theorem znn:us0.Nodup:=by decide +kernel
theorem zwH:(us0.all fun u=>!decide (u=zga)&&decide (zeE u=u))=true:=by decide +kernel
theorem zyr:InvO zw2 where
 pl:=fun u=>by
  show zby u (zra us0 0 [])=znk us0 u
  rw [zmD _ _ _ _ znn]
  cases znk us0 u with
  | none=>rfl
  | some k=>show some (0+k)=_; rw [Int.zero_add]
 nd:=znn
 ul:=by show us0.length≤90+0; decide
 ll:=by show 0≤256; omega
 fo:=fun u xs h=>by cases h
 dj:=fun u h=>by cases h
 fk:=fun u h=>by cases h
 lw:=by show 26≤us0.length; decide
 us:=fun u hu=>by
  have:=List.all_eq_true.1 zwH u hu
  rw [Bool.and_eq_true,Bool.not_eq_true',decide_eq_false_iff_not,decide_eq_true_iff] at this
  exact this
def lns:List UInt8→List UInt8→List (List UInt8)
 | [],cur=>[cur]
 | c::l,cur=>if c=10 then cur::lns l [] else lns l (cur++[c])
theorem zpz:∀ (l cur:List UInt8),Lib.indexByte l 10<0→lns l cur=[cur++l]
 | [],cur,_=>by rw [lns,List.append_nil]
 | c::l,cur,h=>by
  unfold Lib.indexByte at h
  by_cases hc:c=10
  ·rw [hc] at h; exact absurd (show (0:Int)<0 from h) (by decide)
  ·have hb:(c==(10:UInt8))=false:=beq_eq_false_iff_ne.2 hc
   rw [hb] at h
   simp only [Bool.false_eq_true,if_false] at h
   have:Lib.indexByte l 10<0:=by
    by_cases h1:Lib.indexByte l 10=-1
    ·omega
    ·rw [beq_eq_false_iff_ne.2 h1] at h
     simp only [Bool.false_eq_true,if_false] at h
     have:=indexByte_ge l 10
     omega
   rw [lns,if_neg hc,zpz l _ this,List.append_assoc]; rfl
theorem zpy:∀ (l cur:List UInt8) (m:Nat),Lib.indexByte l 10=(m:Int)→lns l cur=(cur++l.take m)::lns (l.drop (m+1)) []∧m<l.length
 | [],cur,m,h=>by
  have:(-1:Int)=(m:Int):=h
  omega
 | c::l,cur,m,h=>by
  unfold Lib.indexByte at h
  by_cases hc:c=10
  ·rw [hc] at h
   have hm:(0:Int)=(m:Int):=h
   obtain rfl:m=0:=by omega
   rw [lns,if_pos hc,List.take_zero,List.append_nil]
   exact ⟨rfl,by rw [List.length_cons]; omega⟩
  ·have hb:(c==(10:UInt8))=false:=beq_eq_false_iff_ne.2 hc
   rw [hb] at h
   simp only [Bool.false_eq_true,if_false] at h
   by_cases h1:Lib.indexByte l 10=-1
   ·rw [h1] at h
    have:(-1:Int)=(m:Int):=h
    omega
   ·rw [beq_eq_false_iff_ne.2 h1] at h
    simp only [Bool.false_eq_true,if_false] at h
    have:=indexByte_ge l 10
    obtain ⟨k,hk⟩:∃ k:Nat,Lib.indexByte l 10=(k:Int):=⟨(Lib.indexByte l 10).toNat,by omega⟩
    obtain rfl:m=k+1:=by omega
    obtain ⟨e1,e2⟩:=zpy l (cur++[c]) k hk
    rw [lns,if_neg hc,e1,List.append_assoc]
    exact ⟨rfl,by rw [List.length_cons]; omega⟩
theorem zqg (J:zBA→Option (List zBA)) (hJ:∀ x,J x=some [x]):∀ (n:Nat) (x:zBA),x.size<n→x.size≤1000000000→zaT (fun _=>none) (zbU (⟨#[10]⟩:zBA) 0 J) n x=some ((lns x.data.toList []).map ba):=by
 intro n
 induction n with
 | zero=>intro x h; omega
 | succ n ih =>
  intro x hn hb
  rw [zfI]
  generalize hag:zaT (fun _=>none) (zbU (⟨#[10]⟩:zBA) 0 J) n=ag
  unfold zbU
  have hge:=indexByte_ge x.data.toList 10
  refine zcm rfl ?_
  by_cases h:Lib.indexByte x.data.toList 10<0
  ·refine zaL (decide_eq_true h) ?_
   rw [hJ,zpz _ _ h]
   show some [x]=some [ba ([]++x.data.toList)]
   rw [List.nil_append,show ba x.data.toList=x from zie (zn8 _)]
  ·obtain ⟨m,hm⟩:∃ m:Nat,Lib.indexByte x.data.toList 10=(m:Int):=⟨(Lib.indexByte x.data.toList 10).toNat,by omega⟩
   obtain ⟨e1,e2⟩:=zpy x.data.toList [] m hm
   rw [← zcE] at e2
   rw [hm,e1]
   have hs1:((⟨#[10]⟩:zBA).size:Int)=1:=rfl
   rw [hs1,Int.add_zero]
   refine zaG (decide_eq_false (by omega)) (zcm ⟨by omega,by omega⟩ (zcm ⟨by omega,by omega,by omega⟩ ?_))
   have c1:zco x 0 (m:Int)=ba ([]++x.data.toList.take m):=by
    apply zie
    have:=ziu x 0 m
    rw [show ((0:Nat):Int)=0 from rfl] at this
    rw [this,zn8]; rfl
   have c2:(zco x ((m:Int)+1) (x.size:Int)).data.toList=x.data.toList.drop (m+1):=by
    have:=ziu x (m+1) x.size
    push_cast at this
    rw [this,List.take_of_length_le (by rw [List.length_drop,← zcE]; omega)]
   have c3:(zco x ((m:Int)+1) (x.size:Int)).size=x.size - (m+1):=by rw [zcE,c2,List.length_drop,← zcE]
   have:=ih (zco x ((m:Int)+1) (x.size:Int)) (by omega) (by omega)
   rw [hag,c2] at this
   rw [c1]
   have hin:(grd (I64 ((m:Int)+1))<|grd (0≤((m:Int)+1:Int)∧((m:Int)+1:Int)≤(x.size:Int)∧((x.size:Int):Int)≤(x.size:Int))<|ag (zco x ((m:Int)+1) (x.size:Int)))=some ((lns (x.data.toList.drop (m+1)) []).map ba):=zcm ⟨by omega,by omega⟩ (zcm ⟨by omega,by omega,by omega⟩ this)
   rw [hin]; rfl
def rdL:zac→Int→List (List UInt8)→(Option zac)×zaM
 | o,_,[]=>(some o,⟨0,0⟩)
 | o,at_,x::xs =>
  if wdK x 0 none=[] then rdL o (at_+((x.length:Int)+1)) xs
  else if (zmH o ((wdK x 0 none).map (zfM at_)) (at_+(x.length:Int))).1.Err=0 then rdL (zmH o ((wdK x 0 none).map (zfM at_)) (at_+(x.length:Int))).2 (at_+((x.length:Int)+1)) xs
  else (none,(zmH o ((wdK x 0 none).map (zfM at_)) (at_+(x.length:Int))).1)
def zwp (xs:List (List UInt8)):Nat:=(xs.map fun x=>x.length+1).sum
theorem ziH (x:List UInt8) (xs:List (List UInt8)):zwp (x::xs)=x.length+1+zwp xs:=by unfold zwp; simp
theorem zmG:∀ (l cur:List UInt8),zwp (lns l cur)=l.length+cur.length+1
 | [],cur=>by rw [lns,ziH]; show cur.length+1+0=0+cur.length+1; omega
 | c::l,cur=>by
  rw [lns]
  split
  ·rw [ziH,zmG l []]; simp; omega
  ·rw [zmG l]; simp; omega
theorem znm:∀ (l:List UInt8) (i:Nat) (cur:Option (Nat×List UInt8)),(∀ p∈wdK l i cur,p.2.length≤l.length+(cur.toList.map fun p=>p.2.length).sum)∧(wdK l i cur).length≤l.length+cur.toList.length
 | [],i,none=>⟨(fun p h=>by cases h),by show 0≤0; omega⟩
 | [],i,some q=>⟨fun p h=>by
   have:p=q:=List.mem_singleton.1 h
   subst this; simp,by show 1≤0+1; omega⟩
 | c::l,i,cur=>by
  by_cases hc:c=32
  ·subst hc
   obtain ⟨h1,h2⟩:=znm l (i+1) none
   rw [zum]
   have h2:(wdK l (i+1) none).length≤l.length+0:=h2
   refine ⟨fun p hp => ?_,by rw [List.length_append,List.length_cons]; omega⟩
   rcases List.mem_append.1 hp with hp | hp
   ·cases cur with
    | none=>cases hp
    | some q=>rw [List.mem_singleton.1 hp]; simp
   ·have:=h1 p hp
    simp at this ⊢
    omega
  ·cases cur with
   | none =>
    obtain ⟨h1,h2⟩:=znm l (i+1) (some (i,[c]))
    rw [zrf hc]
    have h2:(wdK l (i+1) (some (i,[c]))).length≤l.length+1:=h2
    refine ⟨fun p hp => ?_,by rw [List.length_cons]; show _≤l.length+1+0; omega⟩
    have:=h1 p hp
    simp at this ⊢
    omega
   | some q =>
    obtain ⟨a,w⟩:=q
    obtain ⟨h1,h2⟩:=znm l (i+1) (some (a,w++[c]))
    rw [zun hc]
    have h2:(wdK l (i+1) (some (a,w++[c]))).length≤l.length+1:=h2
    refine ⟨fun p hp => ?_,by rw [List.length_cons]; show _≤l.length+1+1; omega⟩
    have:=h1 p hp
    simp at this ⊢
    omega
theorem znv:∀ (xs:List (List UInt8)) (o:zac) (at_:Int),InvO o→0≤at_→at_+(zwp xs:Int)≤200000→(∀ x∈xs,x.length≤65536) →
  zcH (fun (o16:List zBA) (o17:List (zBA×Int)) (o18:List (zBA×List zBA)) (o19:List (zBA×Bool)) (o20:List zBA) (at3:Int)=>(some ((some (⟨o16,o17,o18,o19,o20⟩:zac)),(⟨0,0⟩:zaM)):Option ((Option zac)×zaM)))
   (zdk (fun (x2:Int) (x3:Int) (o21:List zBA) (o22:List (zBA×Int)) (o23:List (zBA×List zBA)) (o24:List (zBA×Bool)) (o25:List zBA) (at4:Int)=>some (none,(⟨x2,x3⟩:zaM)))) (xs.map ba) o.units o.place o.fors o.skips o.lines at_=some (rdL o at_ xs)
 | [],o,at_,_,_,_,_=>rfl
 | x::xs,o,at_,hi,ha,hb,hx=>by
  have hxl:=hx x (List.mem_cons_self ..)
  rw [ziH] at hb
  push_cast at hb
  have next:=fun (o':zac) (h':InvO o')=>znv xs o' (at_+((x.length:Int)+1)) h' (by omega) (by omega) (fun y hy=>hx y (List.mem_cons_of_mem _ hy))
  rw [List.map_cons,zcr]
  generalize hag:zcH (fun (o16:List zBA) (o17:List (zBA×Int)) (o18:List (zBA×List zBA)) (o19:List (zBA×Bool)) (o20:List zBA) (at3:Int)=>(some ((some (⟨o16,o17,o18,o19,o20⟩:zac)),(⟨0,0⟩:zaM)):Option ((Option zac)×zaM))) _ (xs.map ba)=ag at next ⊢
  unfold zdk
  have hs:(ba x).size=x.length:=zlg x
  obtain ⟨w1,w2⟩:=znm x 0 none
  have w2:(wdK x 0 none).length≤x.length+0:=w2
  refine zcm ⟨by omega,by omega⟩ (zcm ⟨by omega,by omega⟩ (zaS (zuU (ba x) at_ (by omega) ⟨by omega,by omega⟩) ?_))
  rw [zn8,hs,List.length_map,rdL]
  by_cases h0:wdK x 0 none=[]
  ·rw [if_pos h0,h0]
   exact zaL rfl (next o hi)
  ·rw [if_neg h0]
   have hlen:0<(wdK x 0 none).length:=List.length_pos_iff.2 h0
   have hat:∀ w∈(wdK x 0 none).map (zfM at_),0≤w.at_:=fun w hw=>by
    obtain ⟨p,hp,rfl⟩:=List.mem_map.1 hw
    show 0≤at_+(p.1:Int)
    omega
   have htx:∀ w∈(wdK x 0 none).map (zfM at_),w.text.size≤65536:=fun w hw=>by
    obtain ⟨p,hp,rfl⟩:=List.mem_map.1 hw
    show (ba p.2).size≤65536
    rw [zlg]
    have:=w1 p hp
    have:p.2.length≤x.length+0:=this
    omega
   have e:(⟨o.units,o.place,o.fors,o.skips,o.lines⟩:zac)=o:=rfl
   refine zaG (beq_eq_false_iff_ne.2 (by omega)) (zcm ⟨by omega,by omega⟩ ?_)
   rw [e]
   refine zaS (zxa hi _ _ (by omega) (by rw [List.length_map]; exact hlen) (by rw [List.length_map]; omega) hat htx) ?_
   have hinv:=zpB hi ((wdK x 0 none).map (zfM at_)) (at_+(x.length:Int)) (by omega) (by rw [List.length_map]; exact hlen) hat htx
   generalize zmH o ((wdK x 0 none).map (zfM at_)) (at_+(x.length:Int))=r at hinv ⊢
   by_cases h1:r.1.Err=0
   ·rw [if_pos h1]
    exact zaG (by rw [h1]; rfl) (next r.2 hinv)
   ·rw [if_neg h1]
    exact zaL (bne_iff_ne.2 h1) rfl
theorem zrD:∀ (xs:List (List UInt8)) (o:zac) (at_:Int),InvO o→0≤at_→(∀ x∈xs,x.length≤65536)→(∃ o',rdL o at_ xs=(some o',⟨0,0⟩)∧InvO o')∨(∃ e,rdL o at_ xs=(none,e)∧e.Err≠0)
 | [],o,at_,hi,_,_=>.inl ⟨o,rfl,hi⟩
 | x::xs,o,at_,hi,ha,hx=>by
  have hxl:=hx x (List.mem_cons_self ..)
  have next:=fun (o':zac) (h':InvO o')=>zrD xs o' (at_+((x.length:Int)+1)) h' (by omega) (fun y hy=>hx y (List.mem_cons_of_mem _ hy))
  obtain ⟨w1,w2⟩:=znm x 0 none
  rw [rdL]
  by_cases h0:wdK x 0 none=[]
  ·rw [if_pos h0]; exact next o hi
  ·rw [if_neg h0]
   by_cases h1:(zmH o ((wdK x 0 none).map (zfM at_)) (at_+(x.length:Int))).1.Err=0
   ·rw [if_pos h1]
    refine next _ (zpB hi _ _ (by omega) (by rw [List.length_map]; exact List.length_pos_iff.2 h0) (fun w hw => ?_) (fun w hw => ?_))
    ·obtain ⟨p,hp,rfl⟩:=List.mem_map.1 hw
     show 0≤at_+(p.1:Int)
     omega
    ·obtain ⟨p,hp,rfl⟩:=List.mem_map.1 hw
     show (ba p.2).size≤65536
     rw [zlg]
     have:p.2.length≤x.length+0:=w1 p hp
     omega
   ·rw [if_neg h1]; exact .inr ⟨_,rfl,h1⟩
def zqm (text:zBA):(Option zac)×zaM:=if 65536<text.size then (none,⟨3,65536⟩) else rdL zw2 0 (lns text.data.toList [])
theorem zpA (l cur:List UInt8):∀ x∈lns l cur,x.length≤l.length+cur.length:=by
 intro x hx
 have h1:=zmG l cur
 have:∀ (xs:List (List UInt8)),x∈xs→x.length+1≤zwp xs:=by
  intro xs
  induction xs with
  | nil=>intro h; cases h
  | cons y ys ih =>
   intro h
   rw [ziH]
   rcases List.mem_cons.1 h with rfl | h
   ·omega
   ·have:=ih h; omega
 have:=this _ hx
 omega
theorem zur (text:zBA):zdD text=some (zqm text):=by
 unfold zdD zqm
 by_cases h:65536<text.size
 ·rw [if_pos h]; exact zaL (decide_eq_true (by omega)) rfl
 ·rw [if_neg h]
  refine zaG (decide_eq_false (by omega)) (zcf (zaS zvZ (zaS (a:=((⟨#[10]⟩:zBA),text,0)) rfl (zaS (a:=(lns text.data.toList []).map ba) ?_ (zcf (zcf ?_))))))
  ·unfold zdH
   exact zcf (zaG rfl (zcf (zqg _ (fun x=>rfl) zcI text (by unfold zcI; omega) (by omega))))
  ·have hs:=zmG text.data.toList []
   rw [← zcE,List.length_nil] at hs
   exact znv (lns text.data.toList []) zw2 0 zyr (Int.le_refl _) (by omega) (fun x hx=>by have:=zpA text.data.toList [] x hx; rw [← zcE,List.length_nil] at this; omega)
theorem znw (text:zBA):(∃ o',zqm text=(some o',⟨0,0⟩)∧InvO o')∨(∃ e,zqm text=(none,e)∧e.Err≠0):=by
 unfold zqm
 by_cases h:65536<text.size
 ·rw [if_pos h]; exact .inr ⟨_,rfl,by show (3:Int)≠0; omega⟩
 ·rw [if_neg h]
  exact zrD _ _ _ zyr (Int.le_refl _) (fun x hx=>by have:=zpA text.data.toList [] x hx; rw [← zcE,List.length_nil] at this; omega)
def znC (text:zBA):zac:=(zqm text).1.getD zw2
theorem zqs (text:zBA):InvO (znC text):=by
 unfold znC
 rcases znw text with ⟨o,h,hi⟩ | ⟨e,h,he⟩
 ·rw [h]; exact hi
 ·rw [h]; exact zyr
def ze9  : Option Bool := zak (zdD (⟨#[112,117,116,32,99,104,32,97,102,116,101,114,32,99]⟩:zBA)) fun (r1:((Option zac)×zaM)) => zak (r1.1) fun (p1:zac) => zak (zbn p1 (⟨#[99,122]⟩:zBA) (⟨#[99,104,97]⟩:zBA)) fun (r2:(Int×Int)) => zat (ze0 r1.2 (⟨0,0⟩:zaM)) ( zat ((r2.1:Int)==(-1)) ( zat ((r2.2:Int)==1) ( zak (zd4 p1 (⟨#[99,104,111,112]⟩:zBA)) fun (r3:zBA) => some (decide (r3=(⟨#[67,72]⟩:zBA)))
) ( some false
)
) ( some false
)
) ( some false
)
theorem zia  {r:Bool} (h:ze9=some r):FnP prog 6 [] (.bool r):=by
 unfold ze9 at h
 refine FnP.intro func6 rfl ntmps6 (by simp) ?_
 intro w0 K
 refine zyG (zyR 1 rfl (zyH ?_))
 obtain ⟨r1,hq1,h⟩:=zbz h
 refine zb6 (vs:=[.string (⟨#[112,117,116,32,99,104,32,97,102,116,101,114,32,99]⟩:zBA)]) rfl dc rfl rfl rfl zvH (zf4 hq1) Splits.nil ?_
 rintro v1
 refine zcw (L':=[zlZ za9 za8 79 v1 r1.1]) (zaa [0] kr rfl) (zyR 1 rfl (zaE rfl dc rfl rfl (zaE rfl dc rfl rfl ?_)))
 refine za6 zp6 rfl dc (fun b1 => ?_)
 refine zyR 1 rfl (za4 (k:=1) (vs:=(zr2 r1.2)) (l':=(zr2 r1.2)) zij rfl rfl rfl rfl rfl (show _≤_ by simp) rfl rfl ?_)
 refine zyH (zyR 1 rfl ?_)
 obtain ⟨p1,hq2,h⟩:=zbz h
 refine zne (As:=[zlZ za9 za8 79 v1 r1.1]) (zaa [0] kr rfl) (zka hq2) ?_
 rintro ⟨b2,hd1,hd2,hd3,hd4,hd5⟩ hv1
 have hkp:=h
 subst hv1
 have h:=hkp
 obtain ⟨r2,hq3,h⟩:=zbz h
 refine zeu (v:=.tuple #[zI r2.1,zI r2.2]) (vs:=[zP b2,.string (⟨#[99,122]⟩:zBA),.string (⟨#[99,104,97]⟩:zBA)]) (Rd.nil:Rd _ _ []) rfl dc rfl rfl rfl zvI (zdP (bo1:=b2) (o1:=p1) (o1_h0:=hd1) (o1_h1:=hd2) (o1_h2:=hd3) (o1_h3:=hd4) (o1_h4:=hd5) hq3) (.own (zaa [2] kr rfl) (fun _ _ h=>sepL.one1.1 h) (.own (zaa [3] kr rfl) (fun _ _ h=>sepL.one1.1 h) (.own (zaa [4] kr rfl) (fun _ _ h=>sepL.one1.1 h) (.own (zaa [5] kr rfl) (fun _ _ h=>sepL.one1.1 h) (.own (zaa [6] kr rfl) (fun _ _ h=>sepL.one1.1 h) (.own (zaa [7] kr rfl) (fun _ _ h=>sepL.one1.1 h) .nil)))))) ?_
 refine zyR 1 rfl (zaE rfl dc rfl rfl (zaE rfl dc rfl rfl (zyR 2 rfl (zyH (zbT (k:=1) (cs:=(zr2 r1.2)) zjs rfl dc rfl rfl rfl rfl ?_)))))
 refine zb8 (v:=.agg #[zI 0,zI 0]) (ps:=[]) rfl dc rfl (fun _=>by kernel_rfl) ?_
 refine zaU rfl (zq1 r1.2 (⟨0,0⟩:zaM)) (zyR 1 rfl ?_)
 refine zyS (s:=17) rfl h (fun h => ?_) (fun h => ?_)
 ·
  refine zyR 1 rfl (zaU rfl zbi (zyR 2 rfl ?_))
  refine zyS (s:=21) rfl h (fun h => ?_) (fun h => ?_)
  ·
   refine zyR 1 rfl (zaU rfl zbi (zyR 2 rfl ?_))
   refine zyS (s:=25) rfl h (fun h => ?_) (fun h => ?_)
   ·
    refine zyR 1 rfl ?_
    obtain ⟨r3,hq4,h⟩:=zbz h
    refine zeu (v:=.string r3) (vs:=[zP b2,.string (⟨#[99,104,111,112]⟩:zBA)]) (Rd.nil:Rd _ _ []) rfl dc rfl rfl rfl zzj (zgL (bo1:=b2) (o1:=p1) (o1_h0:=hd1) (o1_h1:=hd2) (o1_h2:=hd3) (o1_h3:=hd4) (o1_h4:=hd5) hq4) (.own (zaa [2] kr rfl) (fun _ _ h=>sepL.one1.1 h) (.own (zaa [3] kr rfl) (fun _ _ h=>sepL.one1.1 h) (.own (zaa [4] kr rfl) (fun _ _ h=>sepL.one1.1 h) (.own (zaa [5] kr rfl) (fun _ _ h=>sepL.one1.1 h) (.own (zaa [6] kr rfl) (fun _ _ h=>sepL.one1.1 h) (.own (zaa [7] kr rfl) (fun _ _ h=>sepL.one1.1 h) .nil)))))) ?_
    refine zaU rfl zed (zyR 2 rfl (zyN (zaD ?_)))
    cases h
    exact za1 0 results6
   refine zyR 5 rfl (zyN (zaD ?_))
   cases h
   exact za1 0 results6
  refine zyR 9 rfl (zyN (zaD ?_))
  cases h
  exact za1 0 results6
 refine zyR 13 rfl (zaC ?_)
 refine zaF (zaD ?_)
 cases h
 exact za1 0 results6
def zfa (s1:zBA):Option zBA := zat (decide ((512:Int)<(s1.size:Int))) ( grd (0≤(0:Int)∧(0:Int)≤512∧(512:Int)≤(s1.size:Int)) <| some (zco s1 0 512)
) ( some s1
)
theorem zlv {s1:zBA} {r:zBA} (h:zfa s1=some r):FnP prog 8 [.string s1] (.string r):=by
 unfold zfa at h
 refine FnP.intro func8 rfl ntmps8 (by simp) ?_
 intro w0 K
 refine zyG (zyR 1 rfl (zyN (zaP (zyG (zyR 1 rfl (zcN rfl dc rfl underlying9 (zaU rfl zeU (zyN ?_))))))))
 refine zyB rfl h (fun h => ?_) (fun h => ?_)
 ·
  refine zyG (zyR 1 rfl ?_)
  obtain ⟨hg1,h⟩:=zb7 h
  refine zb4 rfl dc rfl rfl rfl (za3 (i:=0) (j:=512) underlying9 (.inl ⟨rfl,rfl⟩) (.inr rfl) hg1) (zyR 1 rfl (zyN (zaD (zaj ?_))))
  cases h
  exact za1 2 results8
 refine zaq (zaF (zyG (zyR 2 rfl (zyN (zaD ?_)))))
 cases h
 exact za1 2 results8
def zfb (text1:zBA):Option (Option zac) := zak (zdD text1) fun (r1:((Option zac)×zaM)) => zat ((r1.2.Err:Int)==0) ( some r1.1
) ( zak (zdD (⟨#[]⟩:zBA)) fun (r2:((Option zac)×zaM)) => some r2.1
)
theorem zlw {text1:zBA} {r:(Option zac)} (h:zfb text1=some r):Fn prog 7 [.string text1] [] (fun v0:Value=>v0) (fun v0=>[zlZ za9 za8 79 v0 r]):=by
 unfold zfb at h
 refine Fn.intro func7 rfl ntmps7 (by simp) ?_
 intro w0 K
 refine zyG (zyR 1 rfl (zyN (zaP (zyG (zyR 1 rfl ?_)))))
 obtain ⟨r1,hq1,h⟩:=zbz h
 refine zb6 (vs:=[.string text1]) rfl dc rfl rfl rfl zvH (zf4 hq1) Splits.nil ?_
 rintro v1
 refine zcw (L':=[zlZ za9 za8 79 v1 r1.1]) (zaa [0] kr rfl) (zyR 1 rfl (zaE rfl dc rfl rfl (zaE rfl dc rfl rfl ?_)))
 refine za6 zp6 rfl dc (fun b1 => ?_)
 refine zyR 1 rfl (za4 (k:=1) (vs:=(zr2 r1.2)) (l':=(zr2 r1.2)) zij rfl rfl rfl rfl rfl (show _≤_ by simp) rfl rfl ?_)
 refine zyH (zag zsl rfl dc rfl (show _=0 from rfl) (zan (k:=1) zwZ rfl dc rfl rfl rfl (zaU rfl zbi (zyN ?_))))
 refine zyB rfl h (fun h => ?_) (fun h => ?_)
 ·
  refine zyG (zyR 2 rfl (zyN (zaD (zaj ?_))))
  cases h
  exact zch (rs:=[.tmp 2]) v1 (.inl rfl) results7 (.cons (.tmp rfl) .nil) rfl (zaa [0] kr rfl)
 refine zaq (zaF (zyG ?_))
 obtain ⟨r2,hq2,h⟩:=zbz h
 refine zb6 (vs:=[.string (⟨#[]⟩:zBA)]) rfl dc rfl rfl rfl zvH (zf4 hq2) Splits.nil ?_
 rintro v2
 refine zcw (L':=[zlZ za9 za8 79 v1 r1.1,cells b1 (zr2 r1.2) 35,zlZ za9 za8 79 v2 r2.1]) (zaa [0,1,2] kr rfl) (zyR 1 rfl (zaE rfl dc rfl rfl (zaE rfl dc rfl rfl ?_)))
 refine za6 zp6 rfl dc (fun b2 => ?_)
 refine zyR 1 rfl (za4 (k:=3) (vs:=(zr2 r2.2)) (l':=(zr2 r2.2)) zij rfl rfl rfl rfl rfl (show _≤_ by simp) rfl rfl ?_)
 refine zyH (zyR 2 rfl (zyN (zaD ?_)))
 cases h
 exact zch (rs:=[.tmp 2]) v2 (.inl rfl) results7 (.cons (.tmp rfl) .nil) rfl (zaa [2] kr rfl)
theorem zhm:ze9=some true:=by decide +kernel
def zxz (s:zBA):zBA:=if 512<s.size then zco s 0 512 else s
theorem zu2 (s:zBA):zfa s=some (zxz s):=by
 unfold zfa zxz
 by_cases h:512<s.size
 ·rw [if_pos h]; exact zaL (decide_eq_true (by omega)) (zcm ⟨by omega,by omega,by omega⟩ rfl)
 ·rw [if_neg h]; exact zaG (decide_eq_false (by omega)) rfl
theorem zvP (s:zBA):(zxz s).size≤512:=by
 unfold zxz
 by_cases h:512<s.size
 ·rw [if_pos h]
  have:=ziu s 0 512
  rw [zcE]
  rw [show zco s 0 512=zco s ((0:Nat):Int) ((512:Nat):Int) from rfl,this,List.length_take]
  omega
 ·rw [if_neg h]; omega
theorem zve (text:zBA):zfb text=some (some (znC text)):=by
 unfold zfb znC
 refine zaS (zur text) ?_
 rcases znw text with ⟨o,h,hi⟩ | ⟨e,h,he⟩
 ·rw [h]; exact zaL rfl rfl
 ·rw [h]
  exact zaG (beq_eq_false_iff_ne.2 he) (zaS (zur _) rfl)
section
theorem zt2 {o:zac} {a b:zBA} (h:elA o a=elA o b):zlo 1 (zit o a) (zit o b)=if a=b then (0,0) else (cb a.data.toList b.data.toList,4):=by
 unfold zit
 rw [h,zlo,if_pos (zgy _),zlo,if_pos (zgy _),zlo,if_pos (zgy _),zlo]
 by_cases hab:a=b
 ·rw [if_pos hab,hab,if_pos (zgy _)]; rfl
 ·rw [if_neg hab,if_neg (fun hh=>hab (zie (zm5 hh)))]; rfl
theorem zsD {o:zac} {a b:zBA} (h1:k1 (elA o a)=k1 (elA o b)) (h2:k2 (elA o a)=k2 (elA o b)) :
  (zlo 1 (zit o a) (zit o b)).2=0∨(zlo 1 (zit o a) (zit o b)).2=3∨(zlo 1 (zit o a) (zit o b)).2=4:=by
 unfold zit
 rw [h1,h2,zlo,if_pos (zgy _),zlo,if_pos (zgy _),zlo]
 split
 ·rw [zlo]
  split
  ·exact .inl rfl
  ·exact .inr (.inr rfl)
 ·exact .inr (.inl rfl)
section snoc
variable {α:Type}
theorem zmr {p:α→Bool} {y:α} (h:p y=false):∀ l:List α,(l++[y]).takeWhile p=l.takeWhile p
 | []=>by rw [List.nil_append,List.takeWhile_cons,h]; rfl
 | x::l=>by rw [List.cons_append,List.takeWhile_cons,List.takeWhile_cons,zmr h l]
theorem zsu {p:α→Bool} {y:α} (h:p y=false):∀ l:List α,(l++[y]).dropWhile p=l.dropWhile p++[y]
 | []=>by rw [List.nil_append,List.dropWhile_cons,h]; rfl
 | x::l=>by
  rw [List.cons_append,List.dropWhile_cons,List.dropWhile_cons,zsu h l]
  cases p x <;> rfl
theorem znW {p:α→Bool} {y:α} (h:p y=true):∀ l:List α,(l++[y]).dropWhile p=match l.dropWhile p with | []=>[] | z::zs=>z::zs++[y]
 | []=>by rw [List.nil_append,List.dropWhile_cons,h]; rfl
 | x::l=>by
  rw [List.cons_append,List.dropWhile_cons,List.dropWhile_cons]
  cases p x with
  | true=>rw [if_pos rfl,if_pos rfl,znW h l]
  | false=>rfl
theorem zno {p:α→Bool} {y:α}:∀ l:List α,l.dropWhile p≠[]→(l++[y]).takeWhile p=l.takeWhile p
 | [],h=>absurd rfl h
 | x::l,h=>by
  rw [List.cons_append,List.takeWhile_cons,List.takeWhile_cons]
  rw [List.dropWhile_cons] at h
  cases hp:p x with
  | true=>rw [hp,if_pos rfl] at h; rw [if_pos rfl,if_pos rfl,zno l h]
  | false=>rfl
theorem zlL {p:α→Bool} {y:α}:∀ l:List α,(l++[y]).takeWhile p=l.takeWhile p∨(l++[y]).takeWhile p=l.takeWhile p++[y]
 | []=>by
  rw [List.nil_append,List.takeWhile_cons]
  cases p y
  ·exact .inl rfl
  ·exact .inr rfl
 | x::l=>by
  rw [List.cons_append,List.takeWhile_cons,List.takeWhile_cons]
  cases p x with
  | true =>
   rw [if_pos rfl,if_pos rfl]
   rcases zlL (p:=p) (y:=y) l with h | h
   ·exact .inl (by rw [h])
   ·exact .inr (by rw [h]; rfl)
  | false=>exact .inl rfl
end snoc
structure zuM (o:zhN) (y:Tk):Prop where
 lt:zeb y=false
 mm:zhv y=false
 dg:zhc y=false
 k1:kT y≠1
 k3:kT y≠3
 kb:¬ (kT y=5∨kT y=4∨kT y=6)
 k11:kT y≠11
 no:∀ f,o.p (f++Utf8.encode (zaV y.1))=none∧o.f (f++Utf8.encode (zaV y.1))=none
theorem zrJ {o:zhN} {y:Tk} (h:zuM o y) (l:List Tk):zhs o (l++[y])=zhs o l:=by
 have hlm:zjy y=false:=by unfold zjy; rw [h.lt,h.mm]; rfl
 have hq:(fun x=>!zeb x) y=true:=by show (!zeb y)=true; rw [h.lt]; rfl
 unfold zhs zkG zgH
 have e:=znW (p:=fun x=>!zeb x) (y:=y) hq l
 have e2:=zno (p:=fun x=>!zeb x) (y:=y) l
 generalize (l++[y]).dropWhile (fun x=>!zeb x)=D' at *
 generalize hD:l.dropWhile (fun x=>!zeb x)=D at *
 cases D with
 | nil=>rw [e]; rfl
 | cons z zs =>
  rw [e2 (by simp),e]
  simp only
  rw [zsu hlm,zmr hlm,List.any_append]
  have:[y].any (fun x=>zeb x||zhc x)=false:=by rw [List.any_cons,h.lt,h.dg]; rfl
  rw [this,Bool.or_false]
theorem zsI (l:List Tk) (y:Tk):zkk (l++[y])=zkk l∨zkk (l++[y])=zkk l++[y]:=by
 unfold zkk
 by_cases h8:8≤l.length
 ·rw [List.take_append_of_le_length h8]; exact .inl rfl
 ·have e:(l++[y]).take 8=l.take 8++[y]:=by
   rw [List.take_of_length_le (show (l++[y]).length≤8 by rw [List.length_append]; show l.length+1≤8; omega),List.take_of_length_le (by omega)]
  rw [e]
  exact zlL _
theorem zsK {o:zhN} {y:Tk} (h:zuM o y) (l:List Tk):zkl o (l++[y])=zkl o l:=by
 unfold zkl
 rcases zsI l y with e | e
 ·rw [e]
 ·rw [e,List.foldl_append,List.foldl_cons,List.foldl_nil]
  generalize (zkk l).foldl (zpn o) (ByteArray.empty,0,none)=a
  unfold zpn
  dsimp only
  rw [(h.no a.1).1,(h.no a.1).2]
  rfl
theorem zqv {o:zhN} {y:Tk} (h:zuM o y) (x:Tk) (l:List Tk):zdj o x (l++[y])=zdj o x l:=by
 unfold zdj
 rw [← List.cons_append,zsK h]
theorem zqW {o:zhN} (hf:zhg o) {y:Tk} (h:zuM o y) (x:Tk) (l:List Tk):zfp o x (l++[y])=zfp o x l:=by
 unfold zfp
 by_cases hk:kT x=1
 ·rw [if_pos hk,if_pos hk,zqv h]
  have hm:=(zks o hf x l ((zgX x).1.1 hk)).2.1
  dsimp only
  rw [← List.cons_append,List.drop_append_of_le_length hm,List.take_append_of_le_length hm,zmr h.mm]
 ·rw [if_neg hk,if_neg hk,zmr h.dg]
theorem zsG {o:zhN} (hf:zhg o) (x:Tk) (l:List Tk):1≤(zfp o x l).1∧(zfp o x l).1≤(x::l).length:=by
 unfold zfp
 rw [List.length_cons]
 by_cases hk:kT x=1
 ·rw [if_pos hk]
  have hm:=zks o hf x l ((zgX x).1.1 hk)
  have:=(List.takeWhile_sublist zhv (l:=(x::l).drop (zdj o x l).1)).length_le
  rw [List.length_drop,List.length_cons] at this
  rw [List.length_cons] at hm
  show 1≤(zdj o x l).1+_∧(zdj o x l).1+_≤_
  omega
 ·rw [if_neg hk]
  have:=(List.takeWhile_sublist zhc (l:=l)).length_le
  split
  ·show 1≤1+_∧1+_≤_; omega
  ·split
   ·exact ⟨Nat.le_refl 1,by show 1≤_; omega⟩
   ·split <;> exact ⟨Nat.le_refl 1,by show 1≤_; omega⟩
theorem zme (o:zhN) (n:Nat):zeF o n []=[]:=by cases n <;> rfl
theorem zqX {o:zhN} {y:Tk} (h:zuM o y):zfp o y []=(1,some []):=by
 unfold zfp
 rw [if_neg h.k1,if_neg h.k3,if_neg h.kb,if_neg h.k11]
theorem zle {o:zhN} (hf:zhg o) {y:Tk} (h:zuM o y):∀ (n:Nat) (l:List Tk),l.length≤n→zeF o (n+1) (l++[y])=zeF o n l++[some []]
 | n,[],_=>by
  rw [List.nil_append,zme,zeF,zqX h]
  show some []::zeF o n []=_
  rw [zme]; rfl
 | 0,x::l,h1=>by rw [List.length_cons] at h1; omega
 | n+1,x::l,h1=>by
  have hc:=zsG hf x l
  rw [List.cons_append,zeF,zqW hf h,zeF,← List.cons_append,List.drop_append_of_le_length hc.2,zle hf h n _ (by rw [List.length_drop]; omega)]
  rfl
theorem zky:∀ (cs:List (Option (List El))) (out:List El) (sp:Bool),asm (cs++[some []]) out sp=asm cs out sp
 | [],out,sp=>rfl
 | none::cs,out,sp=>zky cs out true
 | some []::cs,out,sp=>zky cs out sp
 | some (e::es)::cs,out,sp=>zky cs _ false
theorem zqS {o:zhN} (hf:zhg o) {y:Tk} (h:zuM o y) (l:List Tk):zic o (l++[y])=zic o l:=by
 unfold zic
 rw [zrJ h,List.drop_append_of_le_length (zpu o l),List.length_append]
 show asm (zeF o (l.length+1) _) [] false=_
 rw [zle hf h _ _ (by rw [List.length_drop]; omega),zky]
theorem ztO:((List.range 1120).all fun n=>!(zaN (n:Int)||mrk (n:Int))||((Utf8.encode (n:Int)).data.toList.all fun c=>decide (65≤c.toNat)))=true:=by decide +kernel
theorem zrW {r:Int} (h:zaN r=true∨mrk r=true):∀ c∈(Utf8.encode r).data.toList,65≤c.toNat:=by
 have h1:0≤r∧r<1120:=by
  rcases h with h | h
  ·have:=zce r h; omega
  ·unfold mrk at h; have:=of_decide_eq_true h; omega
 have:=List.all_eq_true.1 ztO r.toNat (List.mem_range.2 (by omega))
 rw [show ((r.toNat:Nat):Int)=r by omega,(show (zaN r||mrk r)=true by rw [Bool.or_eq_true]; exact h),Bool.not_true,Bool.false_or] at this
 intro c hc
 exact of_decide_eq_true (List.all_eq_true.1 this c hc)
theorem zuo {t:Tok} (ht:zey t) (h:0≤(tkT t).1):(tkT t).2=Utf8.encode (tkT t).1:=by
 rcases ht with ht | ht
 ·have hb:=zda ht
  have e:=zhO ht
  unfold zdG mkI at e
  have e2:=congrArg (fun x:Itm=>x.Text) e
  dsimp only at e2
  have e3:(tkT t).1=(t.r:Int):=by unfold tkT; rw [hb]; rfl
  rw [e3,← e2]; rfl
 ·exfalso
  have:(tkT t).1=-1:=by unfold tkT; rw [ht]; rfl
  omega
theorem zrP:∀ (l:List Tk) (k:Nat),okR k l=true→∀ x∈l,zeb x=true∨zhv x=true
 | [],k,_,x,hx=>by cases hx
 | y::l,k,h,x,hx=>by
  rw [okR,Bool.and_eq_true,Bool.and_eq_true,Bool.or_eq_true,Bool.and_eq_true] at h
  rcases List.mem_cons.1 hx with rfl | hx
  ·rcases h.1.2 with h | h
   ·exact .inl h
   ·exact .inr h.2
  ·exact zrP l (k+1) h.2 x hx
theorem zpV {c:UInt8}:∀ {l:List Tk},c∈(zhl l).data.toList→∃ x∈l,c∈x.2.data.toList
 | [],h=>nomatch (show c∈([]:List UInt8) from h)
 | x::l,h=>by
  unfold zhl at h
  rw [zdm,zjR] at h
  rcases List.mem_append.1 h with h | h
  ·exact ⟨x,List.mem_cons_self ..,h⟩
  ·obtain ⟨y,hy,hc⟩:=zpV (l:=l) h
   exact ⟨y,List.mem_cons_of_mem _ hy,hc⟩
theorem ztv {u:zBA} (h:SpU u):∀ c∈u.data.toList,65≤c.toNat:=by
 obtain ⟨h1,h2⟩:=h
 unfold zeE at h2
 by_cases hk:okR 0 (zh5 u)=true
 ·rw [if_pos hk] at h2
  intro c hc
  rw [← h2] at hc
  obtain ⟨x,hx,hc⟩:=zpV hc
  obtain ⟨y,hy,rfl⟩:=List.mem_map.1 hx
  have hlm:=zrP _ _ hk y hy
  obtain ⟨t,ht,rfl⟩:=List.mem_map.1 hy
  have htok:=zef _ t ht
  cases hL:zeb (tkT t) with
  | true =>
   have e:(zbu (tkT t)).2=Utf8.encode (zaV (tkT t).1):=by unfold zbu; rw [hL]; rfl
   rw [e] at hc
   exact zrW (.inl (zfB hL).1) c hc
  | false =>
   have hM:zhv (tkT t)=true:=by rcases hlm with h | h; rw [hL] at h; cases h; exact h
   have e:(zbu (tkT t)).2=(tkT t).2:=by unfold zbu; rw [hL]; rfl
   have hr:0≤(tkT t).1:=by have hM:mrk (tkT t).1=true:=hM; unfold mrk at hM; have:=of_decide_eq_true hM; omega
   rw [e,zuo htok hr] at hc
   exact zrW (.inr hM) c hc
 ·rw [if_neg hk] at h2
  exact absurd h2.symm h1
def bang:Tk:=(33,⟨#[33]⟩)
theorem zrv {o:zac} (h:InvO o):zuM (zem o) bang where
 lt:=by decide
 mm:=by decide
 dg:=by decide
 k1:=by decide
 k3:=by decide
 kb:=by decide
 k11:=by decide
 no:=fun f=>by
  have e:∀ u:zBA,SpU u→u≠f++Utf8.encode (zaV bang.1):=fun u hu hh=>by
   have:=ztv hu 33 (by rw [hh,zjR]; exact List.mem_append_right _ (by decide))
   exact absurd this (by decide)
  generalize f++Utf8.encode (zaV bang.1)=g at e
  constructor
  ·show zby g o.place=none
   cases hg:zby g o.place with
   | none=>rfl
   | some i=>exact absurd rfl (e g (h.us g (zpF h (by rw [hg]; rfl))))
  ·show zby g o.fors=none
   cases hg:zby g o.fors with
   | none=>rfl
   | some i=>exact absurd rfl (e g (h.fk g (by rw [hg]; rfl)))
theorem zuW:zdU [33]=[⟨33,[33]⟩]:=by
 have:=zlO (t:=zgA 33) (zeW (by unfold vr; omega)) []
 rw [List.append_nil,zgf] at this
 exact this
theorem zrl (a:zBA) (ha:a.size≤60000):zh5 (a++⟨#[33]⟩)=zh5 a++[bang]:=by
 have hd:(a++(⟨#[33]⟩:zBA)).data.toList=a.data.toList++[33]:=zjR _ _
 have hL:isL (zdG ⟨33,[33]⟩)=false:=by decide
 unfold zh5
 rw [ziF _ (by rw [ByteArray.size_append]; show a.size+1≤_; omega),ziF a (by omega),hd,zfs _ [33] (show zte [33] from (show zt1 33=false by decide)),zuW,zmc _ _ (by intro t ht; injection ht with ht; subst ht; decide),
  List.flatMap_append,List.map_append,zje hL]
 rfl
theorem zvL {o:zac} (h:InvO o) (a:zBA) (ha:a.size≤60000):elA o (a++⟨#[33]⟩)=elA o a:=by
 unfold elA
 rw [zrl a ha,zqS h.ok.fo (zrv h)]
end
def ztL (r:Int):Int:=if zaN r then zaV r else r
def ziU (x:Itm):Itm:=if isL x then ⟨zaV x.Rune,Utf8.encode (zaV x.Rune),x.At⟩ else x
theorem zl0 {r:Int} (h:zby r tabS=none):zcx r=[r]:=by unfold zcx; rw [h]
theorem zmK (x:Itm):isL (ziU x)=isL x:=by
 unfold ziU
 cases h:isL x with
 | true=>rw [if_pos rfl]; exact (zfB (show zaN x.Rune=true from h)).1
 | false=>rw [if_neg (by simp)]; exact h
theorem ztR (x:Itm):isM (ziU x)=isM x:=by
 unfold ziU
 cases h:isL x with
 | true =>
  rw [if_pos rfl]
  have h1:=zgE (zfB (show zaN x.Rune=true from h)).1
  have h2:=zgE (show zaN x.Rune=true from h)
  show mrk _=mrk _
  rw [h1,h2]
 | false=>rw [if_neg (by simp)]
def ztJ (g:Itm→Itm) (c:Itm×List Itm):Itm×List Itm:=(g c.1,c.2.map g)
theorem zm2 {g:Itm→Itm} (hL:∀ x,isL (g x)=isL x) (hM:∀ x,isM (g x)=isM x):∀ (xs:List Itm) (cur:Option (Itm×List Itm)),clF (cur.map (ztJ g)) (xs.map g)=(clF cur xs).map (ztJ g)
 | [],none=>rfl
 | [],some c=>rfl
 | x::xs,none=>zm2 hL hM xs (some (x,[]))
 | x::xs,some c=>by
  show (if isL (g c.1)&&isM (g x) then clF (some (g c.1,c.2.map g++[g x])) (xs.map g) else ztJ g c::clF (some (g x,[])) (xs.map g))=(if isL c.1&&isM x then clF (some (c.1,c.2++[x])) xs else c::clF (some (x,[])) xs).map (ztJ g)
  rw [hL,hM]
  have h1:=zm2 hL hM xs (some (c.1,c.2++[x]))
  have h2:=zm2 hL hM xs (some (x,[]))
  simp only [Option.map_some,ztJ,List.map_append,List.map_cons,List.map_nil] at h1 h2
  split
  ·exact h1
  ·rw [List.map_cons,← h2]
theorem zvm (r:Int) (a:Int):ziU ⟨r,Utf8.encode r,a⟩=⟨ztL r,Utf8.encode (ztL r),a⟩:=by
 unfold ziU ztL
 show (if zaN r then _ else _)=_
 cases zaN r <;> rfl
theorem zv9 (x:Itm) (hx:isL x=true→zby x.Rune tabS=none):apI (ziU x)=(apI x).map ziU:=by
 cases h:isL x with
 | true =>
  have hl:zaN x.Rune=true:=h
  have e:ziU x=⟨zaV x.Rune,Utf8.encode (zaV x.Rune),x.At⟩:=by unfold ziU; rw [h]; rfl
  have h2:=zmK x
  rw [h] at h2
  have e1:apI (ziU x)=(zcx (ziU x).Rune).map fun r=>⟨r,Utf8.encode r,(ziU x).At⟩:=by unfold apI; rw [h2]; rfl
  have e2:apI x=(zcx x.Rune).map fun r=>⟨r,Utf8.encode r,x.At⟩:=by unfold apI; rw [h]; rfl
  rw [e1,e2,e]
  show (zcx (zaV x.Rune)).map (fun r=>(⟨r,Utf8.encode r,x.At⟩:Itm))=_
  rw [zl0 (hx h),zl0 ((zfB hl).2.2.2 (hx h)),List.map_cons,List.map_cons,List.map_cons,zvm]
  unfold ztL
  rw [hl]; rfl
 | false =>
  have e:ziU x=x:=by unfold ziU; rw [h]; rfl
  have e2:apI x=[x]:=by unfold apI; rw [h]; rfl
  rw [e,e2,List.map_cons,e]; rfl
theorem zsP:∀ xs:List Itm,(∀ x∈xs,isL x=true→zby x.Rune tabS=none)→apL (xs.map ziU)=(apL xs).map ziU
 | [],_=>rfl
 | x::xs,h=>by rw [List.map_cons,znb,znb,zv9 x (h x (List.mem_cons_self ..)),zsP xs (fun y hy=>h y (List.mem_cons_of_mem _ hy)),List.map_append]
def NoT (t:Tok):Prop:=zey t∧(zeb (tkT t)=true→zby (tkT t).1 tabS=none)
theorem zqa (s:zBA) (hs:s.size≤65536):∀ t∈zig s,NoT t:=by
 intro t ht
 refine ⟨zef _ t ht,fun hl => ?_⟩
 rw [ziF s hs] at ht
 obtain ⟨c,hc,ht⟩:=List.mem_flatMap.1 ht
 rcases zm0 (zef _) c hc with ⟨g1,g2,g3⟩ | ⟨g1,g2,u,g3,g4⟩
 ·obtain ⟨h1,h2⟩:=zhQ g2
  have e1:mkO gA c=(c.1.Rune::(kLo c++kHi c)).map zgA:=by unfold mkO; rw [g1,zk2]; rfl
  rw [e1] at ht
  obtain ⟨m,hm,rfl⟩:=List.mem_map.1 ht
  rcases List.mem_cons.1 hm with rfl | hm
  ·rw [zrm (zeJ g1)]; exact g3
  ·exfalso
   have hmk:mrk m=true:=by
    rcases List.mem_append.1 hm with hm | hm
    ·exact h1 m hm
    ·exact h2 m hm
   rw [zrm (znD hmk)] at hl
   have hl:zaN m=true:=hl
   rw [zci hmk] at hl
   cases hl
 ·exfalso
  have e1:mkO gA c=[u]:=by unfold mkO; rw [g1,g4,zjx g3]; rfl
  rw [e1,List.mem_singleton] at ht
  subst ht
  have:isL (zdG t)=false:=by rw [← g4]; exact g1
  have hl:isL (zdG t)=true:=hl
  rw [this] at hl; cases hl
theorem zsi (c:Itm×List Itm):zg0 (ztJ ziU c)=zg0 c:=by
 cases h:isL c.1 with
 | true =>
  have h2:=zmK c.1
  rw [h] at h2
  have e:(ziU c.1).Rune=zaV c.1.Rune:=by unfold ziU; rw [h]; rfl
  rw [zk5 h,zk5 (c:=ztJ ziU c) h2]
  show zej (zaV (ziU c.1).Rune)=_
  rw [e,(zfB (show zaN c.1.Rune=true from h)).2.1]
 | false =>
  have e:ziU c.1=c.1:=by unfold ziU; rw [h]; rfl
  unfold zg0 ztJ
  rw [e]
theorem ztl {t:Tok} (h:zey t):zdG (zeY t)=ziU (zdG t):=by
 have hL:isL (zdG t)=zeb (tkT t):=rfl
 unfold zeY ziU
 rw [hL]
 cases hl:zeb (tkT t) with
 | true =>
  rw [if_pos rfl,if_pos rfl]
  have hlo:=(zfB (show zaN (tkT t).1=true from hl)).1
  have hv:=zeW (zeJ hlo)
  have hr:=zce _ hlo
  rw [zhO hv]
  have:(((zgA (zaV (tkT t).1)).r:Nat):Int)=zaV (tkT t).1:=by show (((zaV (tkT t).1).toNat:Nat):Int)=_; omega
  rw [this]; rfl
 | false=>rw [if_neg (by simp),if_neg (by simp)]
theorem zxK {ts:List Tok} (h:∀ t∈ts,NoT t):FT (ts.map zeY)=FT ts:=by
 unfold FT clT
 have e:(ts.map zeY).map zdG=(ts.map zdG).map ziU:=by
  rw [List.map_map,List.map_map]
  exact List.map_congr_left fun t ht=>ztl (h t ht).1
 rw [e,zsP _ (fun x hx hl=>by obtain ⟨t,ht,rfl⟩:=List.mem_map.1 hx; exact (h t ht).2 hl)]
 have:=zm2 zmK ztR (apL (ts.map zdG)) none
 show J zg0 (clF none ((apL (ts.map zdG)).map ziU))=J zg0 (clF none (apL (ts.map zdG)))
 rw [show (none:Option (Itm×List Itm))=(none:Option (Itm×List Itm)).map (ztJ ziU) from rfl,this,zlH]
 exact zgz fun c _=>zsi c
theorem ztN {t:Tok} (ht:zey t) (h:zjy (tkT t)=true):t.valid:=by
 rcases ht with ht | ht
 ·exact ht
 ·exfalso
  have e:(tkT t).1=-1:=by unfold tkT; rw [ht]; rfl
  unfold zjy zeb zhv at h
  rw [e] at h
  exact absurd h (by decide)
theorem zpI {ts:List Tok} (h:∀ t∈ts,t.valid):zfu (zhl (ts.map tkT))=FT ts:=by
 rw [zl4,zjh]
 have:=zif h []
 rw [List.append_nil,zgf,List.append_nil] at this
 rw [this]
theorem znK {t:Tok} (h:t.valid):(zeY t).valid:=by
 unfold zeY
 cases hl:zeb (tkT t) with
 | true=>rw [if_pos rfl]; exact zeW (zeJ (zfB (show zaN (tkT t).1=true from hl)).1)
 | false=>rw [if_neg (by simp)]; exact h
theorem ztW {ts:List Tok} (h:∀ t∈ts,t.valid) (hn:∀ t∈ts,NoT t):zfu (zhl ((ts.map tkT).map zbu))=zfu (zhl (ts.map tkT)):=by
 have e:(ts.map tkT).map zbu=(ts.map zeY).map tkT:=by
  rw [List.map_map,List.map_map]
  exact List.map_congr_left fun t _=>(zmt t).symm
 rw [e,zpI h,zpI (fun t ht=>by obtain ⟨u,hu,rfl⟩:=List.mem_map.1 ht; exact znK (h u hu)),zxK hn]
theorem zpC (x:Tk):zjy (zbu x)=zjy x:=by unfold zjy; rw [zhR,zmJ]
theorem zfW {x:Tk} (h:zeb x=false):zbu x=x:=by unfold zbu; rw [h]; rfl
theorem zux (x:Tk):kT (zbu x)=kT x:=by
 cases h:zeb x with
 | true=>rw [zrY h,zrY (by rw [zhR]; exact h)]
 | false=>rw [zfW h]
theorem zpE (x:Tk):zhc (zbu x)=zhc x:=by rw [← zgj,← zgj,zux]
section
variable {p:Tk→Bool} (hp:∀ x,p (zbu x)=p x)
include hp
theorem zlN:∀ l:List Tk,(l.map zbu).takeWhile p=(l.takeWhile p).map zbu
 | []=>rfl
 | x::l=>by
  rw [List.map_cons,List.takeWhile_cons,List.takeWhile_cons,hp,zlN l]
  cases p x <;> rfl
theorem zpQ:∀ l:List Tk,(l.map zbu).dropWhile p=(l.dropWhile p).map zbu
 | []=>rfl
 | x::l=>by
  rw [List.map_cons,List.dropWhile_cons,List.dropWhile_cons,hp,zpQ l]
  cases p x <;> rfl
theorem zsT:∀ l:List Tk,(l.map zbu).any p=l.any p
 | []=>rfl
 | x::l=>by rw [List.map_cons,List.any_cons,List.any_cons,hp,zsT l]
end
theorem zwI (p:Tk→Bool):∀ ts:List Tok,(ts.map tkT).takeWhile p=(ts.takeWhile fun t=>p (tkT t)).map tkT
 | []=>rfl
 | t::ts=>by
  rw [List.map_cons,List.takeWhile_cons,List.takeWhile_cons,zwI p ts]
  cases p (tkT t) <;> rfl
theorem zxx (p:Tk→Bool):∀ ts:List Tok,(ts.map tkT).dropWhile p=(ts.dropWhile fun t=>p (tkT t)).map tkT
 | []=>rfl
 | t::ts=>by
  rw [List.map_cons,List.dropWhile_cons,List.dropWhile_cons,zxx p ts]
  cases p (tkT t) <;> rfl
theorem ztB (o:zhN) (ts:List Tok) (hok:∀ t∈ts,NoT t):zhs o ((ts.map tkT).map zbu)=zhs o (ts.map tkT):=by
 have hn:∀ x,(fun x=>!zeb x) (zbu x)=(fun x=>!zeb x) x:=fun x=>by show (!zeb (zbu x))=_; rw [zhR]
 have e1:zkG ((ts.map tkT).map zbu)=(zkG (ts.map tkT)).map zbu:=by unfold zkG; rw [zpQ hn,zpQ zpC]
 have e2:zgH ((ts.map tkT).map zbu)=(zgH (ts.map tkT)).map zbu:=by unfold zgH; rw [zpQ hn,zlN zpC]
 have e3:zgH (ts.map tkT)=((ts.dropWhile fun t=>!zeb (tkT t)).takeWhile fun t=>zjy (tkT t)).map tkT:=by unfold zgH; rw [zxx,zwI]
 have e4:zfu (zhl ((zgH (ts.map tkT)).map zbu))=zfu (zhl (zgH (ts.map tkT))):=by
  rw [e3]
  have hin:=fun t ht=>hok t ((List.dropWhile_sublist _).subset (zlM (p:=fun t=>zjy (tkT t)) (l:=ts.dropWhile fun t=>!zeb (tkT t)) (x:=t) ht).2)
  exact ztW (fun t ht=>ztN (hin t ht).1 (zlM (p:=fun t=>zjy (tkT t)) ht).1) hin
 unfold zhs
 rw [e1,e2,e4,zsT (p:=fun x=>zeb x||zhc x) (fun x=>by show (zeb (zbu x)||zhc (zbu x))=_; rw [zhR,zpE]),zlN hn,List.length_map,List.length_map]
def gz (e:El):El:=⟨e.sort,e.place,e.digits,e.marks,0⟩
def gzc (c:Option (List El)):Option (List El):=c.map (List.map gz)
theorem zow (m:zBA):∀ l:List El,(zox m l).map gz=zox m (l.map gz)
 | []=>rfl
 | [e]=>rfl
 | e::e'::es=>by
  rw [zox,List.map_cons,List.map_cons,List.map_cons,zox,zow m (e'::es)]
  rfl
theorem zxw (o:zhN) (g g':Int) (us:List zBA):(us.map (elU o g)).map gz=(us.map (elU o g')).map gz:=by
 rw [List.map_map,List.map_map]; rfl
theorem znJ (x:Tk):zaV (zbu x).1=zaV x.1:=by
 cases h:zeb x with
 | true =>
  have e:(zbu x).1=zaV x.1:=by unfold zbu; rw [h]; rfl
  rw [e,(zfB (show zaN x.1=true from h)).2.1]
 | false=>rw [zfW h]
theorem zvh (x:Tk):(!decide ((zbu x).1<0))=!decide (x.1<0):=by
 cases h:zeb x with
 | true =>
  have e:(zbu x).1=zaV x.1:=by unfold zbu; rw [h]; rfl
  have h1:=zce _ (show zaN x.1=true from h)
  have h2:=zce _ (zfB (show zaN x.1=true from h)).1
  rw [e,decide_eq_false (by omega),decide_eq_false (by omega)]
 | false=>rw [zfW h]
theorem zt7 (o:zhN) (l:List Tk):zkl o (l.map zbu)=zkl o l:=by
 unfold zkl zkk
 rw [← List.map_take,zlN (p:=fun x=>!decide (x.1<0)) zvh,List.foldl_map]
 congr 3
 funext a x
 unfold zpn
 rw [znJ]
theorem zrU (o:zhN) (x:Tk) (l:List Tk):zdj o (zbu x) (l.map zbu)=zdj o x l:=by
 unfold zdj zhr
 rw [← List.map_cons,zt7,znJ]
theorem znF:∀ {l:List Tk},(∀ x∈l,zhv x=true)→l.map zbu=l
 | [],_=>rfl
 | x::l,h=>by
  have h1:=h x (List.mem_cons_self ..)
  rw [List.map_cons,znF fun y hy=>h y (List.mem_cons_of_mem _ hy),zfW (zci h1)]
theorem zma:∀ {l:List Tk},(∀ x∈l,zeb x=false)→l.map zbu=l
 | [],_=>rfl
 | x::l,h=>by
  have h1:=h x (List.mem_cons_self ..)
  rw [List.map_cons,zma fun y hy=>h y (List.mem_cons_of_mem _ hy),zfW h1]
theorem zzl {x:Tk} (h:zhc x=true):zeb x=false:=by
 cases hl:zeb x with
 | false=>rfl
 | true =>
  have:=zrY hl
  have h3:=(zgX x).2.2 h
  rw [this] at h3
  exact absurd h3 (by decide)
theorem zsF (o:zhN) (x:Tk) (l:List Tk):(zfp o (zbu x) (l.map zbu)).1=(zfp o x l).1∧gzc (zfp o (zbu x) (l.map zbu)).2=gzc (zfp o x l).2:=by
 have hms:((zbu x::l.map zbu).drop (zdj o x l).1).takeWhile zhv=((x::l).drop (zdj o x l).1).takeWhile zhv:=by
  rw [← List.map_cons,← List.map_drop,zlN zmJ,znF (fun y hy=>(zlM hy).1)]
 have hdg:(l.map zbu).takeWhile zhc=l.takeWhile zhc:=by
  rw [zlN zpE,zma (fun y hy=>zzl (zlM hy).1)]
 unfold zfp
 rw [zux]
 by_cases hk:kT x=1
 ·rw [if_pos hk,if_pos hk,zrU]
  dsimp only
  rw [hms]
  refine ⟨rfl,?_⟩
  show some _=some _
  rw [zow,zow,zxw o _ (zi1 ((x::l).take (zdj o x l).1))]
 ·rw [if_neg hk,if_neg hk,hdg]
  have hx:zbu x=x:=zfW (by
   cases h:zeb x with
   | false=>rfl
   | true=>exact absurd (zrY h) hk)
  rw [hx]
  exact ⟨rfl,rfl⟩
theorem zmf (o:zhN):∀ (n:Nat) (l:List Tk),(zeF o n (l.map zbu)).map gzc=(zeF o n l).map gzc
 | 0,l=>rfl
 | n+1,[]=>rfl
 | n+1,x::l=>by
  obtain ⟨h1,h2⟩:=zsF o x l
  have e:zbu x::l.map zbu=(x::l).map zbu:=rfl
  rw [List.map_cons,zeF,zeF,List.map_cons,List.map_cons,h2,h1,e,← List.map_drop,zmf o n]
theorem zn9:∀ (cs:List (Option (List El))) (out:List El) (sp:Bool),(asm cs out sp).map gz=asm (cs.map gzc) (out.map gz) sp
 | [],out,sp=>rfl
 | none::cs,out,sp=>zn9 cs out true
 | some []::cs,out,sp=>zn9 cs out sp
 | some (e::es)::cs,out,sp=>by
  show (asm cs (out++(if sp&&!out.isEmpty then [zwt] else [])++e::es) false).map gz=asm (cs.map gzc) (out.map gz++(if sp&&!(out.map gz).isEmpty then [zwt] else [])++gz e::es.map gz) false
  rw [zn9 cs,List.map_append,List.map_append,List.map_cons,List.isEmpty_map]
  congr 3
  split <;> rfl
theorem zxr (o:zac) (a:zBA) (ha:a.size≤65536):(elA o (zdF a)).map gz=(elA o a).map gz:=by
 have hp:=ztB (zem o) (zig a) (zqa a ha)
 unfold elA zic
 rw [zjq a ha]
 show (asm (zeF _ _ (((zh5 a).map zbu).drop (zhs (zem o) ((zh5 a).map zbu)))) [] false).map gz=_
 have hp:zhs (zem o) ((zh5 a).map zbu)=zhs (zem o) (zh5 a):=hp
 rw [hp,zn9,zn9,← List.map_drop,zmf,List.length_map]
theorem zxe (x:List El):k1 (x.map gz)=k1 x:=by
 unfold k1
 rw [List.flatMap_map]; rfl
theorem zxd (x:List El):k2 (x.map gz)=k2 x:=by
 unfold k2
 rw [List.flatMap_map]; rfl
theorem ztP (o:zac) (a:zBA) (ha:a.size≤65536):k1 (elA o a)=k1 (elA o (zdF a))∧k2 (elA o a)=k2 (elA o (zdF a)):=by
 have:=zxr o a ha
 exact ⟨by rw [← zxe (elA o a),← this,zxe],by rw [← zxd (elA o a),← this,zxd]⟩
def zbV (j1:zBA→(List zBA)→(List (zBA×Int))→(List (zBA×List zBA))→(List (zBA×Bool))→(List zBA)→Option Bool) (r3:zBA) (r4:zBA) (r5:zBA) (p1:zac) (ag1:Int→Option Bool) (x3:Int):Option Bool := zat (decide ((x3:Int)<3)) ( zbB (fun (j2:Int→Bool→Bool→Bool→Option Bool) => zak (zd6 ([r4,r5,r3++(⟨#[33]⟩:zBA)]:List zBA) x3) fun (q1:zBA) => zak (zbn p1 r3 q1) fun (r6:(Int×Int)) => zat (((r6.1:Int)==0) != (decide (r3=q1))) ( some false
) ( zat ((r6.1:Int) != 0) ( zat ((r6.2:Int) != 4) ( some false
) ( j2 r6.1 ((r6.1:Int) != 0) true ((r6.2:Int) != 4)
)
) ( j2 r6.1 ((r6.1:Int) != 0) false false
)
)
) (fun (x4:Int) (x5:Bool) (x6:Bool) (x7:Bool) => grd (I64 (x3+1)) <| ag1 (x3+1)
)
) ( j1 r3 p1.units p1.place p1.fors p1.skips p1.lines
)
def zbG (j3:zBA→Option Bool) (r7:zBA) (ag2:zBA→Nat→Option Bool) (small4:zBA) (m3:Nat):Option Bool := zat (decide (m3<(pcs r7.data.toList).length)) ( zak ((pcs r7.data.toList)[m3]?) fun (p2:Pc) => grd (I32 (p2.r:Int)) <| grd (small4.size+(Utf8.encode (zaV (p2.r:Int))).size≤9223372036854775807) <| ag2 (small4++(Utf8.encode (zaV (p2.r:Int)))) (m3+1)
) ( j3 small4
)
def zdI (text1:zBA) (a1:zBA):Option Bool := zak (ze9) fun (r1:Bool) => zat (!r1) ( some false
) ( zak (zfb text1) fun (r2:(Option zac)) => zat (r2.isNone) ( some false
) ( zbB (fun (j1:zBA→(List zBA)→(List (zBA×Int))→(List (zBA×List zBA))→(List (zBA×Bool))→(List zBA)→Option Bool) => zak (zfa a1) fun (r3:zBA) => zak (zdg r3) fun (r4:zBA) => zak (zc4 r3) fun (r5:zBA) => grd (r3.size+(⟨#[33]⟩:zBA).size≤9223372036854775807) <| zak (r2) fun (p1:zac) => zaT (fun _=>none) (zbV j1 r3 r4 r5 p1) zcI 0
) (fun (a2:zBA) (o1:List zBA) (o2:List (zBA×Int)) (o3:List (zBA×List zBA)) (o4:List (zBA×Bool)) (o5:List zBA) => zbB (fun (j3:zBA→Option Bool) => zak (zdg a2) fun (r7:zBA) => zaT (fun _ _=>none) (zbG j3 r7) zcI (⟨#[]⟩:zBA) 0
) (fun (small1:zBA) => zbB (fun (j4:Option Bool) => zak (zdg a2) fun (r8:zBA) => grd (r8.size≤1073741824) <| zak (zdg a2) fun (r9:zBA) => zat (decide (zeg (zcq r8)=r9)) ( zak (zbn (⟨o1,o2,o3,o4,o5⟩:zac) a2 small1) fun (r10:(Int×Int)) => zat ((r10.2:Int) != 0) ( zat ((r10.2:Int) != 3) ( zat ((r10.2:Int) != 4) ( some false
) ( j4
)
) ( j4
)
) ( j4
)
) ( j4
)
) ( zak (ze9) fun (r11:Bool) => some r11
)
)
)
)
)
theorem zhu {text1:zBA} {a1:zBA} {r:Bool} (h:zdI text1 a1=some r):FnP prog 3 [.string text1,.string a1] (.bool r):=by
 unfold zdI at h
 refine FnP.intro func3 rfl ntmps3 (by simp) ?_
 intro w0 K
 refine zyG (zyR 1 rfl (zyN (zaP (zyG ?_))))
 obtain ⟨r1,hq1,h⟩:=zbz h
 refine zaK (v:=.bool r1) (vs:=[]) rfl dc rfl rfl rfl zzz (zia hq1) (zg6 rfl dc rfl ze4 (zyN ?_))
 refine zyB rfl h (fun h => ?_) (fun h => ?_)
 ·
  refine zyG (zyR 1 rfl (zyN (zaD (zaj ?_))))
  cases h
  exact za1 4 results3
 refine zaq (zaF (zyG (zyR 1 rfl ?_)))
 obtain ⟨r2,hq2,h⟩:=zbz h
 refine zb6 (vs:=[.string text1]) rfl dc rfl rfl rfl zzS (zlw hq2) Splits.nil ?_
 rintro v1
 refine zcw (L':=[zlZ za9 za8 79 v1 r2]) (zaa [0] kr rfl) (zyR 1 rfl (zyN (zaP (zyG (zyR 1 rfl ?_)))))
 refine zsZ (k:=0) rfl (fun hv1 => ?_)
 refine zaU rfl (zq0 underlying23 hv1) (zyN ?_)
 refine zyB rfl h (fun h => ?_) (fun h => ?_)
 ·
  refine zyG (zyR 1 rfl (zyN (zaD (zaj ?_))))
  cases h
  exact za1 4 results3
 refine zaq (zaF ?_)
 obtain ⟨j1,hj1,h⟩:=zbP h
 refine zaZ (β:=zBA×(List zBA)×(List (zBA×Int))×(List (zBA×List zBA))×(List (zBA×Bool))×(List zBA)×Nat×Hd×Nat×Nat×Nat×Hd) 1 rfl (fun b=>j1 b.1 b.2.1 b.2.2.1 b.2.2.2.1 b.2.2.2.2.1 b.2.2.2.2.2.1=some r) (fun b=>[]) (fun b=>[(1,.string b.1),(5,zP b.2.2.2.2.2.2.1)]) (fun b=>[cells b.2.2.2.2.2.2.1 [b.2.2.2.2.2.2.2.1.v,.map (some b.2.2.2.2.2.2.2.2.1),.map (some b.2.2.2.2.2.2.2.2.2.1),.map (some b.2.2.2.2.2.2.2.2.2.2.1),b.2.2.2.2.2.2.2.2.2.2.2.v] 79,zv0 b.2.2.2.2.2.2.2.1.v b.2.1,zbJ (fun n:zBA=>Value.string n) (fun n:Int=>Value.int .i64 n) b.2.2.2.2.2.2.2.2.1 b.2.2.1,zcy b.2.2.2.2.2.2.2.2.2.1 b.2.2.2.1,zbJ (fun n:zBA=>Value.string n) (fun n:Bool=>Value.bool n) b.2.2.2.2.2.2.2.2.2.2.1 b.2.2.2.2.1,zv0 b.2.2.2.2.2.2.2.2.2.2.2.v b.2.2.2.2.2.1]) (fun cut => ?_) ?_
 ·
  refine zyG (zyR 1 rfl ?_)
  obtain ⟨r3,hq3,h⟩:=zbz h
  refine zaK (v:=.string r3) (vs:=[.string a1]) rfl dc rfl rfl rfl zzR (zlv hq3) (zyR 1 rfl (zyN (cut (zyG (zyR 1 rfl ?_)))))
  obtain ⟨r4,hq4,h⟩:=zbz h
  refine zaK (v:=.string r4) (vs:=[.string r3]) rfl dc rfl rfl rfl zwv (zeB hq4) (zyR 1 rfl ?_)
  obtain ⟨r5,hq5,h⟩:=zbz h
  refine zaK (v:=.string r5) (vs:=[.string r3]) rfl dc rfl rfl rfl zvJ (zfJ hq5) (zyR 1 rfl ?_)
  obtain ⟨hg1,h⟩:=zb7 h
  refine zaU rfl (zeN hg1) ?_
  refine zb8 (v:=.agg #[.string r4,.string r5,.string (r3++(⟨#[33]⟩:zBA))]) (ps:=[(0,.tmp 25),(1,.tmp 27),(2,.tmp 29)]) rfl dc rfl (fun _=>by kernel_rfl) ?_
  refine zyR 1 rfl (zyN (zaB ?_))
  obtain ⟨p1,hq6,h⟩:=zbz h
  refine zwi (As:=[zlZ za9 za8 79 v1 r2]) (zaa [0] kr rfl) (zka hq6) ?_
  rintro ⟨b5,hd3,hd4,hd5,hd6,hd7⟩ hv2
  have hkp:=h
  subst hv2
  have h:=hkp
  refine zbN (β:=Nat×Int) (fun b=>zaT (fun _=>none) (zbV j1 r3 r4 r5 p1) b.1 b.2=some r) (fun b=>[]) (fun b=>[(1,.string r3),(5,zP b5),(30,.agg #[.string r4,.string r5,.string (r3++(⟨#[33]⟩:zBA))]),(31,zI b.2)]) (fun b=>[cells b5 [hd3.v,.map (some (za5 hd4)),.map (some (za5 hd5)),.map (some (za5 hd6)),hd7.v] 79,zv0 hd3.v p1.units,zbJ (fun n:zBA=>Value.string n) (fun n:Int=>Value.int .i64 n) (za5 hd4) p1.place,zcy (za5 hd5) p1.fors,zbJ (fun n:zBA=>Value.string n) (fun n:Bool=>Value.bool n) (za5 hd6) p1.skips,zv0 hd7.v p1.lines]) (fun b=>b.1) (zcI,0) h rfl (za7 rfl) (zaa [1,2,3,4,5,6] kr rfl) ?_
  rintro ⟨n1,x3⟩ h
  cases n1 with
  | zero=>exact zez h
  | succ n1 =>
   obtain ⟨ag1,hag1⟩:∃ ag,ag=zaT (fun _=>none) (zbV j1 r3 r4 r5 p1) n1:=⟨_,rfl⟩
   have h:zbV j1 r3 r4 r5 p1 ag1 x3=some r:=by rw [hag1]; exact h
   unfold zbV at h
   refine zyG (zaU rfl zbE (zyN (zaP ?_)))
   refine zyB rfl h (fun h => ?_) (fun h => ?_)
   ·
    refine zaq (zaF ?_)
    obtain ⟨j2,hj2,h⟩:=zbP h
    refine zaZ (β:=Int×Bool×Bool×Bool) 0 rfl (fun b=>j2 b.1 b.2.1 b.2.2.1 b.2.2.2=some r) (fun b=>[]) (fun b=>[(1,.string r3),(5,zP b5),(30,.agg #[.string r4,.string r5,.string (r3++(⟨#[33]⟩:zBA))]),(31,zI x3),(48,zI b.1),(49,.bool b.2.1),(50,.bool b.2.2.1),(53,.bool b.2.2.2)]) (fun b=>[cells b5 [hd3.v,.map (some (za5 hd4)),.map (some (za5 hd5)),.map (some (za5 hd6)),hd7.v] 79,zv0 hd3.v p1.units,zbJ (fun n:zBA=>Value.string n) (fun n:Int=>Value.int .i64 n) (za5 hd4) p1.place,zcy (za5 hd5) p1.fors,zbJ (fun n:zBA=>Value.string n) (fun n:Bool=>Value.bool n) (za5 hd6) p1.skips,zv0 hd7.v p1.lines]) (fun cut => ?_) ?_
    ·
     refine cut (zaB (zyG ?_))
     obtain ⟨q1,hq7,h⟩:=zbz h
     refine zfm (v:=.string q1) rfl dc rfl rfl (zr6 (enc:=zgT) (xs:=([r4,r5,r3++(⟨#[33]⟩:zBA)]:List zBA)) (q:=q1) underlying26 zkq rfl zcM hq7 (fun _=>ztE (enc:=zgT) zfn zcM rfl (zcj hq7))) ?_
     refine zyR 1 rfl (zyH (zyR 3 rfl ?_))
     obtain ⟨r6,hq8,h⟩:=zbz h
     refine zeu (v:=.tuple #[zI r6.1,zI r6.2]) (vs:=[zP b5,.string r3,.string q1]) (Rd.nil:Rd _ _ []) rfl dc rfl rfl rfl zvI (zdP (bo1:=b5) (o1:=p1) (o1_h0:=hd3) (o1_h1:=hd4) (o1_h2:=hd5) (o1_h3:=hd6) (o1_h4:=hd7) hq8) (.own (zaa [0] kr rfl) (fun _ _ h=>sepL.one1.1 h) (.own (zaa [1] kr rfl) (fun _ _ h=>sepL.one1.1 h) (.own (zaa [2] kr rfl) (fun _ _ h=>sepL.one1.1 h) (.own (zaa [3] kr rfl) (fun _ _ h=>sepL.one1.1 h) (.own (zaa [4] kr rfl) (fun _ _ h=>sepL.one1.1 h) (.own (zaa [5] kr rfl) (fun _ _ h=>sepL.one1.1 h) .nil)))))) ?_
     refine zyR 1 rfl (zaE rfl dc rfl rfl (zaE rfl dc rfl rfl (zyR 2 rfl (zyH (zyR 1 rfl (zaU rfl zbi (zyR 2 rfl (zaU rfl zed ?_))))))))
     refine zaU rfl (zo8 underlying4) (zyR 1 rfl ?_)
     refine zyS (s:=47) rfl h (fun h => ?_) (fun h => ?_)
     ·
      refine zyR 7 rfl (zyN (zcd rfl (zyG (zyR 1 rfl (zaC ?_)))))
      refine zaF (zaD (zam (zaj (zaj (zam (zaj ?_))))))
      cases h
      exact za1 4 results3
     refine zyR 1 rfl (zaU rfl zeH (zyR 1 rfl ?_))
     refine zyS (s:=50) rfl h (fun h => ?_) (fun h => ?_)
     ·
      refine zyR 1 rfl (zaU rfl zeH (zyR 2 rfl (zyN ?_)))
      refine zyB rfl h (fun h => ?_) (fun h => ?_)
      ·
       refine zyG (zyR 1 rfl (zyN (zaD (zam (zaj (zaj (zam (zaj ?_))))))))
       cases h
       exact za1 4 results3
      refine zaq (zad ?_)
      exact zai (r6.1,(r6.1:Int) != 0,true,(r6.2:Int) != 4) h rfl (za7 rfl) (zaa [0,1,2,3,4,5] kr rfl)
     refine zyR 4 rfl (zyN (zaY rfl (zaq (zad ?_))))
     exact zai (r6.1,(r6.1:Int) != 0,false,false) h rfl (za7 rfl) (zaa [0,1,2,3,4,5] kr rfl)
    rintro ⟨x4,x5,x6,x7⟩ h
    rw [hj2] at h
    refine zap ?_
    obtain ⟨hg2,h⟩:=zb7 h
    refine zaU rfl (zbh (r:=x3+1) (IntWalk.i64_in _ hg2)) (zyR 1 rfl (zaC ?_))
    subst hag1
    exact zbs (n1,x3+1) h (Nat.lt_succ_self _) rfl (za7 rfl) (zaa [0,1,2,3,4,5] kr rfl)
   refine zbA (zao (zao (zaH ?_)))
   exact zai (r3,p1.units,p1.place,p1.fors,p1.skips,p1.lines,b5,hd3,(za5 hd4),(za5 hd5),(za5 hd6),hd7) h rfl (za7 rfl) (zaa [0,1,2,3,4,5] kr rfl)
 rintro ⟨a2,o1,o2,o3,o4,o5,b1,hd1,b2,b3,b4,hd2⟩ h
 rw [hj1] at h
 obtain ⟨j3,hj3,h⟩:=zbP h
 refine zaZ (β:=zBA) 1 rfl (fun b=>j3 b=some r) (fun b=>[]) (fun b=>[(1,.string a2),(5,zP b1),(10,.string b)]) (fun b=>[cells b1 [hd1.v,.map (some b2),.map (some b3),.map (some b4),hd2.v] 79,zv0 hd1.v o1,zbJ (fun n:zBA=>Value.string n) (fun n:Int=>Value.int .i64 n) b2 o2,zcy b3 o3,zbJ (fun n:zBA=>Value.string n) (fun n:Bool=>Value.bool n) b4 o4,zv0 hd2.v o5]) (fun cut => ?_) ?_
 ·
  refine zyG (zyR 1 rfl (zyN (cut (zyG (zyR 1 rfl ?_)))))
  obtain ⟨r7,hq9,h⟩:=zbz h
  refine zaK (v:=.string r7) (vs:=[.string a2]) rfl dc rfl rfl rfl zwv (zeB hq9) ?_
  refine zeV underlying9 rfl dc rfl (fun b6 => ?_)
  refine zyN (zaB ?_)
  refine zbN (β:=Nat×zBA×Nat) (fun b=>zaT (fun _ _=>none) (zbG j3 r7) b.1 b.2.1 b.2.2=some r) (fun b=>[]) (fun b=>[(1,.string a2),(5,zP b1),(10,.string b.2.1),(58,zP b6)]) (fun b=>[cells b1 [hd1.v,.map (some b2),.map (some b3),.map (some b4),hd2.v] 79,zv0 hd1.v o1,zbJ (fun n:zBA=>Value.string n) (fun n:Int=>Value.int .i64 n) b2 o2,zcy b3 o3,zbJ (fun n:zBA=>Value.string n) (fun n:Bool=>Value.bool n) b4 o4,zv0 hd2.v o5,obj b6 (.stringIter r7 (zf9 r7 b.2.2))]) (fun b=>b.1) (zcI,(⟨#[]⟩:zBA),0) (by exact h) rfl (za7 rfl) (zaa [0,1,2,3,4,5,6] kr rfl) ?_
  rintro ⟨n2,small4,m3⟩ h
  cases n2 with
  | zero=>exact zez h
  | succ n2 =>
   obtain ⟨ag2,hag2⟩:∃ ag,ag=zaT (fun _ _=>none) (zbG j3 r7) n2:=⟨_,rfl⟩
   have h:zbG j3 r7 ag2 small4 m3=some r:=by rw [hag2]; exact h
   unfold zbG at h
   refine zyG ?_
   refine ze3 (b:=decide (m3<(pcs r7.data.toList).length)) (fun hb7 => ?_) (fun hb7 => ?_)
   ·
    have h:=zla hb7 h
    obtain ⟨p2,hq10,h⟩:=zbz h
    refine zfw (k:=6) (m:=m3) (p:=p2) rfl dc rfl rfl hq10 (zaE rfl dc rfl rfl (zyN (zaP (zcd rfl (zaq (zaF (zaB (zyG (zaE rfl dc rfl rfl (zyR 1 rfl (zaC ?_)))))))))))
    refine zaF (zap (zyR 2 rfl ?_))
    obtain ⟨hg3,h⟩:=zb7 h
    refine zaK (v:=.int .i32 (zaV (p2.r:Int))) (vs:=[.int .i32 (p2.r:Int)]) rfl dc rfl rfl rfl zst (zdn fun w=>zgF (p2.r:Int) w hg3.1 hg3.2) ?_
    refine zdd rfl dc rfl (zcW underlying21 underlying9) ?_
    obtain ⟨hg4,h⟩:=zb7 h
    refine zaU rfl (zeN hg4) (zyR 1 rfl (zaC (zad ?_)))
    subst hag2
    exact zbs (n2,small4++(Utf8.encode (zaV (p2.r:Int))),m3+1) h (Nat.lt_succ_self _) rfl (za7 rfl) (zaa [0,1,2,3,4,5,6] kr rfl)
   have h:=zlb hb7 h
   refine zfx (k:=6) (m:=m3) rfl dc rfl rfl (Nat.le_of_not_lt (of_decide_eq_false hb7)) (zaE rfl dc rfl rfl (zyN (zaP (zaY rfl (zbA (zao (zao (zaH ?_))))))))
   exact zai small4 h rfl (za7 rfl) (zaa [0,1,2,3,4,5] kr rfl)
 rintro small1 h
 rw [hj3] at h
 obtain ⟨j4,hj4,h⟩:=zbP h
 refine zaZ (β:=Unit) 0 rfl (fun b=>j4=some r) (fun b=>[]) (fun b=>[]) (fun b=>[]) (fun cut => ?_) ?_
 ·
  refine cut (zyG (zyR 1 rfl ?_))
  obtain ⟨r8,hq11,h⟩:=zbz h
  refine zaK (v:=.string r8) (vs:=[.string a2]) rfl dc rfl rfl rfl zwv (zeB hq11) ?_
  obtain ⟨hg5,h⟩:=zb7 h
  refine zpc hg5 rfl dc rfl underlying9 underlying30 underlying21 (fun v2 => ?_)
  refine zg8 (k:=6) rfl dc rfl rfl underlying30 underlying21 underlying9 (zyR 1 rfl (zyH (zyR 2 rfl ?_)))
  obtain ⟨r9,hq12,h⟩:=zbz h
  refine zaK (v:=.string r9) (vs:=[.string a2]) rfl dc rfl rfl rfl zwv (zeB hq12) (zaU rfl zed (zyN ?_))
  refine zyB rfl h (fun h => ?_) (fun h => ?_)
  ·
   refine zyG (zyR 3 rfl ?_)
   obtain ⟨r10,hq13,h⟩:=zbz h
   refine zeu (v:=.tuple #[zI r10.1,zI r10.2]) (vs:=[zP b1,.string a2,.string small1]) (Rd.nil:Rd _ _ []) rfl dc rfl rfl rfl zvI (zdP (bo1:=b1) (o1:=(⟨o1,o2,o3,o4,o5⟩:zac)) (o1_h0:=hd1) (o1_h1:=(⟨some ⟨b2,0,none⟩,0,0⟩:Hd)) (o1_h2:=(⟨some ⟨b3,0,none⟩,0,0⟩:Hd)) (o1_h3:=(⟨some ⟨b4,0,none⟩,0,0⟩:Hd)) (o1_h4:=hd2) hq13) (.own (zaa [0] kr rfl) (fun _ _ h=>sepL.one1.1 h) (.own (zaa [1] kr rfl) (fun _ _ h=>sepL.one1.1 h) (.own (zaa [2] kr rfl) (fun _ _ h=>sepL.one1.1 h) (.own (zaa [3] kr rfl) (fun _ _ h=>sepL.one1.1 h) (.own (zaa [4] kr rfl) (fun _ _ h=>sepL.one1.1 h) (.own (zaa [5] kr rfl) (fun _ _ h=>sepL.one1.1 h) .nil)))))) ?_
   refine zyR 1 rfl (zaE rfl dc rfl rfl (zaE rfl dc rfl rfl (zyR 2 rfl (zyH (zyR 1 rfl (zaU rfl zeH (zyR 1 rfl ?_)))))))
   refine zyS (s:=84) rfl h (fun h => ?_) (fun h => ?_)
   ·
    refine zyR 1 rfl (zaU rfl zeH (zyR 2 rfl ?_))
    refine zyS (s:=88) rfl h (fun h => ?_) (fun h => ?_)
    ·
     refine zyR 1 rfl (zaU rfl zeH (zyR 1 rfl (zyN ?_)))
     refine zyB rfl h (fun h => ?_) (fun h => ?_)
     ·
      refine zyG (zyR 1 rfl (zyN (zaD (zaj ?_))))
      cases h
      exact za1 4 results3
     refine zaq ?_
     exact zai () h rfl (zhM) Splits.nil
    refine zyR 3 rfl (zyN (zaY rfl (zaq ?_)))
    exact zai () h rfl (zhM) Splits.nil
   refine zyR 7 rfl (zyN (zaY rfl (zaq ?_)))
   exact zai () h rfl (zhM) Splits.nil
  refine zaq ?_
  exact zai () h rfl (zhM) Splits.nil
 rintro _ h
 rw [hj4] at h
 refine zyG ?_
 obtain ⟨r11,hq14,h⟩:=zbz h
 refine zaK (v:=.bool r11) (vs:=[]) rfl dc rfl rfl rfl zzz (zia hq14) (zyR 1 rfl (zyN (zaD ?_)))
 cases h
 exact za1 4 results3
theorem zjM {j1:zBA→(List zBA)→(List (zBA×Int))→(List (zBA×List zBA))→(List (zBA×Bool))→(List zBA)→Option Bool}
  {r3 r4 r5 q:zBA} {p1:zac} (ag:Int→Option Bool) (x:Int) (h0:0≤x) (h3:x<3) (hq:zd6 ([r4,r5,r3++(⟨#[33]⟩:zBA)]:List zBA) x=some q)
  (hc:zbn p1 r3 q=some (if r3=q then (0,0) else (cb r3.data.toList q.data.toList,4))):zbV j1 r3 r4 r5 p1 ag x=ag (x+1):=by
 unfold zbV
 refine zaL (decide_eq_true h3) (zcf (zaS hq (zaS hc ?_)))
 by_cases hr:r3=q
 ·rw [if_pos hr]
  exact zaG (by rw [decide_eq_true hr]; rfl) (zaG rfl (zcm ⟨by omega,by omega⟩ rfl))
 ·rw [if_neg hr]
  have hne:cb r3.data.toList q.data.toList≠0:=fun hh=>hr (zie (zm5 hh))
  refine zaG ?_ (zaL (bne_iff_ne.2 hne) (zaG rfl (zcm ⟨by omega,by omega⟩ rfl)))
  show (((cb r3.data.toList q.data.toList:Int)==0) != decide (r3=q))=false
  rw [decide_eq_false hr,beq_eq_false_iff_ne.2 hne]; rfl
theorem zkR (l:List UInt8):(pcs l).map (fun p=>(p.r:Int))=(zdU l).map fun t=>(t.r:Int):=by
 have h:=zkT l
 have key:∀ (ts:List Tok) (i:Nat),(pL i ts).map (fun p=>p.Rune)=ts.map fun t=>(t.r:Int):=fun ts=>by
  induction ts with
  | nil=>intro i; rfl
  | cons t ts ih=>intro i; rw [pL,List.map_cons,List.map_cons,ih]; rfl
 have:=key (zdU l) 0
 rw [← h,List.map_map] at this
 exact this
theorem zl5:∀ (ts:List Tok),(∀ t∈ts,zey t)→(zbZ ts).length≤(zbZ (ts.map fun t=>zgA (t.r:Int))).length∧((zbZ ts).length=(zbZ (ts.map fun t=>zgA (t.r:Int))).length→∀ t∈ts,t.broken=false)
 | [],_=>⟨Nat.le_refl _,fun _ t h=>by cases h⟩
 | t::ts,h=>by
  obtain ⟨h1,h2⟩:=zl5 ts fun u hu=>h u (List.mem_cons_of_mem _ hu)
  rw [List.map_cons,zcn,zcn,List.length_append,List.length_append]
  rcases h t (List.mem_cons_self ..) with ht | ht
  ·have e:(zgA (t.r:Int)).bs=t.bs:=by
    have:=ht.2
    show encodeRune ((t.r:Int)).toNat=t.bs
    rw [Int.toNat_natCast]; exact this.symm
   rw [e]
   refine ⟨by omega,fun he u hu => ?_⟩
   rcases List.mem_cons.1 hu with rfl | hu
   ·exact zda ht
   ·exact h2 (by omega) u hu
  ·have hb:=ht
   unfold Tok.broken at hb
   simp at hb
   have e:(zgA (t.r:Int)).bs.length=3:=by rw [hb.1]; decide
   rw [e,hb.2]
   exact ⟨by omega,fun he=>by omega⟩
theorem zql {X:zBA} (h:zeg (zcq X)=X):∀ t∈zdU X.data.toList,t.broken=false:=by
 have h1:=congrArg (fun b:zBA=>b.data.toList) h
 rw [zlT] at h1
 unfold zcq at h1
 rw [zkR,List.map_map] at h1
 have h2:=congrArg List.length h1
 refine (zl5 (zdU X.data.toList) (zef _)).2 ?_
 rw [zfZ]
 exact h2.symm
theorem zov (X:zBA) (hX:X.size≤1000000) (J:zBA→Option Bool) :
  zaT (fun _ _=>none) (zbG J X) zcI (⟨#[]⟩:zBA) 0=J ((zdU X.data.toList).foldl (fun b t=>b++Utf8.encode (zaV (t.r:Int))) ⟨#[]⟩):=by
 have hl:=zdW X
 have:=zw7 (xs:=pcs X.data.toList) (F:=zbG J X) (bot:=fun _ _=>none) (f:=fun a (p:Pc)=>a++Utf8.encode (zaV (p.r:Int))) (J:=J) (fun k a=>a.size≤4*k) (fun ag k x a hx hi=>by
   have hk:=(List.getElem?_eq_some_iff.1 hx).1
   have h4:=zc5 (zaV (x.r:Int))
   have hr:I32 (x.r:Int):=by
    have hm:(x.r:Int)∈(pcs X.data.toList).map (fun p=>(p.r:Int)):=List.mem_map.2 ⟨x,List.mem_of_getElem? hx,rfl⟩
    rw [zkR] at hm
    obtain ⟨t,ht,e⟩:=List.mem_map.1 hm
    rw [← e]
    exact zeO (zef _ t ht)
   unfold zbG
   exact zaL (decide_eq_true hk) (zaS hx (zcm hr (zcm (by omega) rfl)))) (fun k x a _ hi=>by
    have h4:=zc5 (zaV (x.r:Int))
    rw [ByteArray.size_append]; omega) (fun ag a _=>by unfold zbG; exact zaG (decide_eq_false (by omega)) rfl) (n:=zcI) (zfk (by omega)) (a:=(⟨#[]⟩:zBA)) (by decide)
 refine this.trans ?_
 have e:∀ (l:List Pc) (b:zBA),l.foldl (fun a (p:Pc)=>a++Utf8.encode (zaV (p.r:Int))) b=(l.map fun p=>(p.r:Int)).foldl (fun a r=>a++Utf8.encode (zaV r)) b:=fun l b=>by rw [List.foldl_map]
 rw [e,zkR,List.foldl_map]
theorem zkI:∀ (ts:List Tok) (b:zBA),(∀ t∈ts,zey t)→(∀ t∈ts,t.broken=false)→ts.foldl (fun b t=>b++Utf8.encode (zaV (t.r:Int))) b=b++zhl ((ts.map tkT).map zbu)
 | [],b,_,_=>by show b=b++ByteArray.empty; rw [ByteArray.append_empty]
 | t::ts,b,h1,h2=>by
  rw [List.foldl_cons,zkI ts _ (fun u hu=>h1 u (List.mem_cons_of_mem _ hu)) (fun u hu=>h2 u (List.mem_cons_of_mem _ hu)),List.map_cons,List.map_cons]
  have hb:=h2 t (List.mem_cons_self ..)
  have hr:(tkT t).1=(t.r:Int):=by unfold tkT; rw [hb]; rfl
  have hJ:zhl (zbu (tkT t)::(ts.map tkT).map zbu)=(zbu (tkT t)).2++zhl ((ts.map tkT).map zbu):=by unfold zhl; rw [zdm]
  have e:(zbu (tkT t)).2=Utf8.encode (zaV (t.r:Int)):=by
   cases hl:zeb (tkT t) with
   | true=>rw [← hr]; unfold zbu; rw [hl]; rfl
   | false =>
    rw [zfW hl,zuo (h1 t (List.mem_cons_self ..)) (by omega),hr]
    have hl:zaN (tkT t).1=false:=hl
    rw [hr] at hl
    rw [zqz hl]
  rw [hJ,e,ByteArray.append_assoc]
theorem znV {a x:zBA} (ha:a.size≤512) (hx:x.size≤65536) (h:zcc x=zcc a):Few x:=by
 have:=(zfY a (by omega)).2.1
 exact ⟨hx,by rw [h]; omega⟩
theorem zpO {o:zac} {a x:zBA} (h:zcc x=zcc a):elA o a=elA o x:=by
 unfold elA zh5 zig
 rw [h]
theorem zlD (text a0:zBA):zdI text a0=some true:=by
 unfold zdI
 refine zaS zhm (zaG rfl (zaS (zve text) (zaG rfl (zcf (zaS (zu2 _) ?_)))))
 have hinv:=zqs text
 have hi:=hinv.ok
 generalize znC text=o at hinv hi
 have la:=zvP a0
 generalize zxz a0=a at la ⊢
 have h5:a.size≤65536:=by omega
 have hf:=zfY a h5
 have hap:=zo9 a h5
 have htg:=zsN a h5
 have fa:Few a:=zzx (by omega)
 have f1:Few (zcc a):=znV la (by omega) hap
 have f2:Few (ztm a):=znV la (by omega) htg
 have f3:Few (a++(⟨#[33]⟩:zBA)):=zzx (by rw [ByteArray.size_append]; show a.size+1≤_; omega)
 refine zaS (zhW a h5) (zaS (zwK a h5) (zcm (by show a.size+1≤_; omega) (zaS (a:=o) rfl ?_)))
 have cmp:∀ q,Few q→elA o a=elA o q→zbn o a q=some (if a=q then (0,0) else (cb a.data.toList q.data.toList,4)):=fun q fq hq=>by
  rw [zn3 hi a q fa fq,zt2 hq]
 obtain ⟨n,hn⟩:∃ n,zcI=n+4:=⟨zcI - 4,by unfold zcI; omega⟩
 rw [hn,zfI,zjM _ 0 (by omega) (by omega) (q:=zcc a) rfl (cmp _ f1 (zpO hap)),zfI,zjM _ (0+1) (by omega) (by omega) (q:=ztm a) rfl (cmp _ f2 (zpO htg)),
  zfI,zjM _ (0+1+1) (by omega) (by omega) (q:=a++(⟨#[33]⟩:zBA)) rfl (cmp _ f3 (zvL hinv a (by omega)).symm),zfI]
 unfold zbV
 refine zaG (by decide) (zcf (zaS (zhW a h5) ?_))
 rw [← hn,zov (zcc a) (by omega)]
 refine zcf (zaS (zhW a h5) (zcm (by omega) (zaS (zhW a h5) ?_)))
 by_cases hr:zeg (zcq (zcc a))=zcc a
 ·refine zaL (decide_eq_true hr) ?_
  have hs:(zdU (zcc a).data.toList).foldl (fun b t=>b++Utf8.encode (zaV (t.r:Int))) (⟨#[]⟩:zBA)=zdF a:=by
   have:=zkI (zdU (zcc a).data.toList) ByteArray.empty (zef _) (zql hr)
   rw [ByteArray.empty_append] at this
   exact this
  rw [hs]
  have hsz:(zdF a).size≤65536:=by
   have h2:=ziE (zcc a)
   have:(zdF a).size≤4*((zh5 a).map zbu).length:=zhI fun y hy=>by
    obtain ⟨x,hx,rfl⟩:=List.mem_map.1 hy
    obtain ⟨t,ht,rfl⟩:=List.mem_map.1 hx
    refine zju ?_
    rw [zcE]
    have:=ziG (zef _ t ht)
    show t.bs.toArray.toList.length≤4
    simpa using this
   unfold zh5 zig at this
   rw [List.length_map,List.length_map] at this
   omega
  have f4:Few (zdF a):=⟨hsz,by rw [zlh a h5]; exact hsz⟩
  obtain ⟨e1,e2⟩:=ztP o a h5
  refine zaS (a:=zlo 1 (zit o a) (zit o (zdF a))) (zn3 hi a (zdF a) fa f4) ?_
  rcases zsD e1 e2 with h | h | h
  ·rw [h]; exact zaG rfl (zaS zhm rfl)
  ·rw [h]; exact zaL rfl (zaG rfl (zaS zhm rfl))
  ·rw [h]; exact zaL rfl (zaL rfl (zaG rfl (zaS zhm rfl)))
 ·exact zaG (decide_eq_false hr) (zaS zhm rfl)
theorem collateDress_any (text a:zBA) (w:World) (h0:text.size≤140737488351232) (h1:a.size≤140737488351232):Calls prog 3 #[.string text,.string a] w fun e w'=>e=.returned (.bool true)∧Below w.heap.size w w' :=
 zhu (zlD text a) w
end Go.Proofs.YtifpjbgnikjglaaDoor
